/- Lemmas on the way to the statement: part 30 of 34 (functions as plain Lean functions, and that each call comes to what they say). -/
import Derived.Test.YtmokgpepeddopaaGreatDoorL12
import Derived.Test.YtmokgpepeddopaaGreatDoorL29
import Derived.Test.YtmokgpepeddopaaGreatDoorL14
import Derived.Test.YtmokgpepeddopaaGreatDoorL17
import Derived.Test.YtmokgpepeddopaaGreatDoorL19
import Derived.Test.YtmokgpepeddopaaGreatDoorL1
import Derived.Test.YtmokgpepeddopaaGreatDoorL18
import Derived.Test.YtmokgpepeddopaaGreatDoorL21
section
namespace Go.Proofs.YtmokgpepeddopaaGreatDoor.P
open Go.RowKit Go.Proofs.YtmokgpepeddopaaGreatDoorW.PrintWords Go.Proofs.YtmokgpepeddopaaGreatDoorW.PrintLast Go.Proofs.YtmokgpepeddopaaGreatDoorW.PrintMore
attribute [local go_sem] max2_int min2_int max_two min_two max_three min_three max_four min_four
attribute [local go_sem high] binOp_string_leq2 binOp_string_gtr2
set_option linter.unusedVariables false
set_option linter.unusedSimpArgs false
mutual
def address_Match.j0 : Nat → Bool → Int → ByteArray → List (S97) → Bool → ByteArray → List ByteArray → List (S66) → Option (Bool)
 | 0, _, _, _, _, _, _, _, _ => none
 | k + 1, x57, x109000, x109001, x109002, x109003, x118000, x118001, x118002 => if x57 = true then (some false) else (address_Match.l0 k x109002 (x109002.length : Int) 0 x118000 x118001 x118002)
def address_Match.l0 : Nat → List (S97) → Int → Int → ByteArray → List ByteArray → List (S66) → Option (Bool)
 | 0, _, _, _, _, _, _ => none
 | k + 1, x59, x60, x61, x118000, x118001, x118002 => if x61 < x60 then (if 0 ≤ x61 then (if x61 < (x59.length : Int) then (if x61 < (x118001.length : Int) then ((address_part_has.f ((rd_T97 x59 x61).f0) ((rd_T97 x59 x61).f1) (rdOf ByteArray.empty x118001 x61)).bind fun t122 => (if t122 = true then (address_Match.l0 k x59 x60 (wrap64 (x61 + 1)) x118000 x118001 x118002) else (some false))) else (none)) else (none)) else (none)) else (some true)
end
def address_Match.f (k : Nat) (a0 : ByteArray) (a1 : ByteArray) : Option (Bool) := (address_compile.f a0).bind fun bt101 => ((address_read.f a1).bind fun bt109 => (if bt101.2.2.2.2 = true then (if bt109.2.2.2 = true then ((address_part_has.f bt101.1 bt101.2.1 bt109.1).bind fun t118 => (if t118 = true then (if (bt109.2.1.length : Int) < (bt101.2.2.1.length : Int) then (address_Match.j0 k true bt101.1 bt101.2.1 bt101.2.2.1 bt101.2.2.2.1 bt109.1 bt109.2.1 bt109.2.2.1) else (if (bt109.2.1.length : Int) > (bt101.2.2.1.length : Int) then (address_Match.j0 k (!bt101.2.2.2.1) bt101.1 bt101.2.1 bt101.2.2.1 bt101.2.2.2.1 bt109.1 bt109.2.1 bt109.2.2.1) else (address_Match.j0 k false bt101.1 bt101.2.1 bt101.2.2.1 bt101.2.2.2.1 bt109.1 bt109.2.1 bt109.2.2.1))) else (address_Match.j0 k true bt101.1 bt101.2.1 bt101.2.2.1 bt101.2.2.2.1 bt109.1 bt109.2.1 bt109.2.2.1))) else (address_Match.j0 k true bt101.1 bt101.2.1 bt101.2.2.1 bt101.2.2.2.1 bt109.1 bt109.2.1 bt109.2.2.1)) else (address_Match.j0 k true bt101.1 bt101.2.1 bt101.2.2.1 bt101.2.2.2.1 bt109.1 bt109.2.1 bt109.2.2.1)))
def address_Match.T8 : Bool × List (List Nat × List Nat) := (true, [([], []), ([], []), ([1], [1]), ([], []), ([2, 3], [2, 3]), ([4], [4]), ([0, 5], [0, 5]), ([6], [6])])
def address_Match.B8 : List Nat := [0, 0, 2, 0, 14, 30, 63, 127]
theorem address_Match.tab8 : rtab .any (opsOf Tryz.f29 8) = address_Match.T8 := by kernel_rfl
theorem address_Match.bits8 : waitsOk address_Match.T8.2 address_Match.B8 = true := by kernel_rfl
set_option maxHeartbeats 8000000 in
set_option maxRecDepth 100000 in
theorem address_Match.calls (k : Nat) (a0 : ByteArray) (a1 : ByteArray) (r : Bool) (w : World) (h : address_Match.f k a0 a1 = some r) :
  Calls Tryz.prog 29 #[.string a0, .string a1] w fun e w' => e = .returned (.bool r) ∧ Below w.heap.size w w' := by
 have hu100 := Tryz.underlying100
 have hu25 := Tryz.underlying25
 have hu97 := Tryz.underlying97
 have HB := Aside0.mk (Below.refl w.heap.size w)
 have H : ((address_compile.f a0).bind fun bt101 => ((address_read.f a1).bind fun bt109 => (if bt101.2.2.2.2 = true then (if bt109.2.2.2 = true then ((address_part_has.f bt101.1 bt101.2.1 bt109.1).bind fun t118 => (if t118 = true then (if (bt109.2.1.length : Int) < (bt101.2.2.1.length : Int) then (address_Match.j0 k true bt101.1 bt101.2.1 bt101.2.2.1 bt101.2.2.2.1 bt109.1 bt109.2.1 bt109.2.2.1) else (if (bt109.2.1.length : Int) > (bt101.2.2.1.length : Int) then (address_Match.j0 k (!bt101.2.2.2.1) bt101.1 bt101.2.1 bt101.2.2.1 bt101.2.2.2.1 bt109.1 bt109.2.1 bt109.2.2.1) else (address_Match.j0 k false bt101.1 bt101.2.1 bt101.2.2.1 bt101.2.2.2.1 bt109.1 bt109.2.1 bt109.2.2.1))) else (address_Match.j0 k true bt101.1 bt101.2.1 bt101.2.2.1 bt101.2.2.2.1 bt109.1 bt109.2.1 bt109.2.2.1))) else (address_Match.j0 k true bt101.1 bt101.2.1 bt101.2.2.1 bt101.2.2.2.1 bt109.1 bt109.2.1 bt109.2.2.1)) else (address_Match.j0 k true bt101.1 bt101.2.1 bt101.2.2.1 bt101.2.2.2.1 bt109.1 bt109.2.1 bt109.2.2.1)))) = some r := h
 clear h
 obtain ⟨⟨t101, t102, t103, t106, t107⟩, A3, H⟩ := bd H
 dsimp only at H
 obtain ⟨⟨t109, t110, t113, t116⟩, A4, H⟩ := bd H
 dsimp only at H
 have HC5 := Aside0.mk H
 clear H
 go_enter Tryz.func29, Tryz.ntmps29
 go_upto_region 3 with (first | ((with_reducible refine gate_callee (f := 69) rfl ?_); refine goesL_ (some 13) rfl rfl Tryz.func69 (by kernel_rfl) rfl #[.string a0] rfl zl ?_; (with_reducible refine (address_compile.calls a0 t101 t102 t103 t106 t107 _ A3.out).mono ?_); rintro e w6 ⟨v104, rfl, ho0, hb⟩; refine ⟨_, rfl, ?_⟩; have HO105 := Aside0.mk (Kd.R_lower ho0 (below_size zB)); replace HB := sb w hb; clear hb ho0) | ((with_reducible refine gate_dst (N := 5) rfl ?_); (try (refine gate_guard (by rfl) ?_; dsimp only)); refine bx 5 #[.int .i64 0, .string (⟨#[]⟩ : ByteArray), .slice none 0 0, .bool false] 100 fun gb108 hg w7 hbox hb => ?_; replace HO105 := rb HO105 hb; have BK108 := Aside0.mk (hbox); have GW108 := gw w hg; have GE108 := gw w hg; replace HB := sb w hb; clear hb hbox hg; obtain ⟨hcz8_0, hcz8_1, hcz8_2, hcz8_3, hfz8_0, hfz8_1, hfz8_2, hfz8_3⟩ := cf4 BK108; obtain ⟨Ao9, co9, eo9⟩ := Kd.R_slice HO105.out; subst eo9) | ((with_reducible refine gate_callee (f := 67) rfl ?_); refine goesL_ (some 18) rfl rfl Tryz.func67 (by kernel_rfl) rfl #[.string a1] rfl zl ?_; (with_reducible refine (address_read.calls a1 t109 t110 t113 t116 _ A4.out).mono ?_); rintro e w10 ⟨v111, v114, rfl, ho0, ho1, hb⟩; refine ⟨_, rfl, ?_⟩; replace HO105 := rt HO105 BK108 hb; have HO112 := Aside0.mk (Kd.R_lower ho0 (below_size zB)); have HO115 := Aside0.mk (Kd.R_lower ho1 (below_size zB)); replace BK108 := bw #[.int .i64 t101, .string t102, .slice Ao9 t103.length co9, .bool t106] BK108 hb; replace HB := sb w hb; clear hb ho0 ho1) | ((with_reducible refine gate_dst (N := 7) rfl ?_); (try (refine gate_guard (by rfl) ?_; dsimp only)); refine bx 7 #[.string (⟨#[]⟩ : ByteArray), .slice none 0 0, .slice none 0 0] 25 fun gb117 hg w11 hbox hb => ?_; replace HO105 := rb HO105 hb; replace HO112 := rb HO112 hb; replace HO115 := rb HO115 hb; have BK117 := Aside0.mk (hbox); have GW117 := gw w hg; have GE117 := gw w hg; replace HB := sb w hb; have NB108_117 := nl hg BK108; have NB117_108 := ng hg BK108; replace BK108 := bb BK108 hb; clear hb hbox hg; have hnb12 := NB117_108.out; have hnc12 := NB108_117.out; obtain ⟨hcz13_0, hcz13_1, hcz13_2, hfz13_0, hfz13_1, hfz13_2⟩ := cf3 BK117; obtain ⟨Ao14, co14, eo14⟩ := Kd.R_slice HO112.out; subst eo14; obtain ⟨Ao15, co15, eo15⟩ := Kd.R_slice HO115.out; subst eo15))
 (try simp only [Act.put, List.setIfInBounds_toArray, List.set_cons_zero, List.set_cons_succ])
 go_cut [57] (fun v57 wc => ∃ (kq : Nat) (x57_4 : Bool), v57 = .bool x57_4 ∧ Aside0 (address_Match.j0 kq x57_4 t101 t102 t103 t106 t109 t110 t113 = some r) ∧ Aside0 (kq ≤ k) ∧ Aside0 (Kd.R k97 97 wc w.heap.size (fun _ => True) (.slice Ao9 t103.length co9) t103) ∧ Aside0 (Kd.R Kd.string 9 wc w.heap.size (fun _ => True) (.slice Ao14 t110.length co14) t110) ∧ Aside0 (Kd.R k66 66 wc w.heap.size (fun _ => True) (.slice Ao15 t113.length co15) t113) ∧ Aside0 (wc.heap[gb108]? = some (.cells #[.int .i64 t101, .string t102, (.slice Ao9 t103.length co9), .bool t106] 100 (0, 0))) ∧ Aside0 (wc.heap[gb117]? = some (.cells #[.string t109, (.slice Ao14 t110.length co14), (.slice Ao15 t113.length co15)] 25 (0, 0))) ∧ Aside0 (Below w.heap.size w wc))
 case first =>
  have H := HC5.out
  clear HC5
  by_cases c16 : t107 = true
  ·subst c16
   rw [if_pos rfl] at H
   by_cases c17 : t116 = true
   ·subst c17
    rw [if_pos rfl] at H
    obtain ⟨t118, A18, H⟩ := bd H
    by_cases c19 : t118 = true
    ·subst c19
     rw [if_pos rfl] at H
     by_cases c20 : (t110.length : Int) < (t103.length : Int)
     ·rw [if_pos c20] at H
      have c20b0 : decide ((t110.length : Int) < (t103.length : Int)) = true := decide_eq_true c20
      have c20b1 : decide (t110.length < t103.length) = true := decide_eq_true (Int.ofNat_lt.mp c20)
      have c20q1 : t110.length < t103.length := of_decide_eq_true c20b1
      clear c20
      (first | rw [c20b0] | (simp only [i64_w, i32_w]; rw [c20b0]) | skip)
      have H' := Aside0.mk H
      clear H
      have hnb21 := NB108_117.out
      have hnc21 := NB117_108.out
      obtain ⟨hcz22_0, hcz22_1, hcz22_2, hcz22_3, hfz22_0, hfz22_1, hfz22_2, hfz22_3⟩ := cf4 BK108
      obtain ⟨hcz23_0, hcz23_1, hcz23_2, hfz23_0, hfz23_1, hfz23_2⟩ := cf3 BK117
      go_wp2_with (first | (go_at_call 75; (with_reducible refine (address_part_has.calls t101 t102 t109 true _ A18.out).mono ?_); rintro e w24 ⟨rfl, hb⟩; replace HO105 := rt HO105 BK117 hb; replace HO112 := rt HO112 BK117 hb; replace HO115 := rt HO115 BK117 hb; replace BK108 := bf BK108 hb; replace BK117 := bw #[.string t109, .slice Ao14 t110.length co14, .slice Ao15 t113.length co15] BK117 hb; replace HB := sb w hb; clear hb; obtain ⟨hcz25_0, hcz25_1, hcz25_2, hfz25_0, hfz25_1, hfz25_2⟩ := cf3 BK117; obtain ⟨hcz26_0, hcz26_1, hcz26_2, hcz26_3, hfz26_0, hfz26_1, hfz26_2, hfz26_3⟩ := cf4 BK108))
      go_meet
      case rel => exact ⟨_, (true), zS, H', ⟨zo⟩, ⟨kr HO105⟩, ⟨kr HO112⟩, ⟨kr HO115⟩, ⟨kb BK108⟩, ⟨kb BK117⟩, ⟨zB⟩⟩
     ·rw [if_neg c20] at H
      have c20b0 : decide ((t110.length : Int) < (t103.length : Int)) = false := decide_eq_false c20
      have c20b1 : decide (t110.length < t103.length) = false := decide_eq_false (fun h => c20 (Int.ofNat_lt.mpr h))
      have c20q1 : ¬ (t110.length < t103.length) := of_decide_eq_false c20b1
      clear c20
      (first | rw [c20b0] | (simp only [i64_w, i32_w]; rw [c20b0]) | skip)
      by_cases c21 : (t110.length : Int) > (t103.length : Int)
      ·rw [if_pos c21] at H
       have c21b0 : decide ((t103.length : Int) < (t110.length : Int)) = true := decide_eq_true c21
       have c21b1 : decide (t103.length < t110.length) = true := decide_eq_true (Int.ofNat_lt.mp c21)
       have c21q1 : t103.length < t110.length := of_decide_eq_true c21b1
       clear c21
       have H' := Aside0.mk H
       clear H
       have hnb22 := NB108_117.out
       have hnc22 := NB117_108.out
       obtain ⟨hcz23_0, hcz23_1, hcz23_2, hcz23_3, hfz23_0, hfz23_1, hfz23_2, hfz23_3⟩ := cf4 BK108
       obtain ⟨hcz24_0, hcz24_1, hcz24_2, hfz24_0, hfz24_1, hfz24_2⟩ := cf3 BK117
       go_wp2_with (first | (go_at_call 75; (with_reducible refine (address_part_has.calls t101 t102 t109 true _ A18.out).mono ?_); rintro e w25 ⟨rfl, hb⟩; replace HO105 := rt HO105 BK117 hb; replace HO112 := rt HO112 BK117 hb; replace HO115 := rt HO115 BK117 hb; replace BK108 := bf BK108 hb; replace BK117 := bw #[.string t109, .slice Ao14 t110.length co14, .slice Ao15 t113.length co15] BK117 hb; replace HB := sb w hb; clear hb; obtain ⟨hcz26_0, hcz26_1, hcz26_2, hfz26_0, hfz26_1, hfz26_2⟩ := cf3 BK117; obtain ⟨hcz27_0, hcz27_1, hcz27_2, hcz27_3, hfz27_0, hfz27_1, hfz27_2, hfz27_3⟩ := cf4 BK108))
       go_meet
       case rel => exact ⟨_, (!t106), zS, H', ⟨zo⟩, ⟨kr HO105⟩, ⟨kr HO112⟩, ⟨kr HO115⟩, ⟨kb BK108⟩, ⟨kb BK117⟩, ⟨zB⟩⟩
      ·rw [if_neg c21] at H
       have c21b0 : decide ((t103.length : Int) < (t110.length : Int)) = false := decide_eq_false c21
       have c21b1 : decide (t103.length < t110.length) = false := decide_eq_false (fun h => c21 (Int.ofNat_lt.mpr h))
       have c21q1 : ¬ (t103.length < t110.length) := of_decide_eq_false c21b1
       clear c21
       have H' := Aside0.mk H
       clear H
       have hnb22 := NB108_117.out
       have hnc22 := NB117_108.out
       obtain ⟨hcz23_0, hcz23_1, hcz23_2, hcz23_3, hfz23_0, hfz23_1, hfz23_2, hfz23_3⟩ := cf4 BK108
       obtain ⟨hcz24_0, hcz24_1, hcz24_2, hfz24_0, hfz24_1, hfz24_2⟩ := cf3 BK117
       go_wp2_with (first | (go_at_call 75; (with_reducible refine (address_part_has.calls t101 t102 t109 true _ A18.out).mono ?_); rintro e w25 ⟨rfl, hb⟩; replace HO105 := rt HO105 BK117 hb; replace HO112 := rt HO112 BK117 hb; replace HO115 := rt HO115 BK117 hb; replace BK108 := bf BK108 hb; replace BK117 := bw #[.string t109, .slice Ao14 t110.length co14, .slice Ao15 t113.length co15] BK117 hb; replace HB := sb w hb; clear hb; obtain ⟨hcz26_0, hcz26_1, hcz26_2, hfz26_0, hfz26_1, hfz26_2⟩ := cf3 BK117; obtain ⟨hcz27_0, hcz27_1, hcz27_2, hcz27_3, hfz27_0, hfz27_1, hfz27_2, hfz27_3⟩ := cf4 BK108))
       go_meet
       case rel => exact ⟨_, (false), zS, H', ⟨zo⟩, ⟨kr HO105⟩, ⟨kr HO112⟩, ⟨kr HO115⟩, ⟨kb BK108⟩, ⟨kb BK117⟩, ⟨zB⟩⟩
    ·replace c19 := Bool.eq_false_iff.mpr c19
     subst c19
     rw [if_neg Bool.false_ne_true] at H
     have H' := Aside0.mk H
     clear H
     have hnb20 := NB108_117.out
     have hnc20 := NB117_108.out
     obtain ⟨hcz21_0, hcz21_1, hcz21_2, hcz21_3, hfz21_0, hfz21_1, hfz21_2, hfz21_3⟩ := cf4 BK108
     obtain ⟨hcz22_0, hcz22_1, hcz22_2, hfz22_0, hfz22_1, hfz22_2⟩ := cf3 BK117
     go_wp2_with (first | (go_at_call 75; (with_reducible refine (address_part_has.calls t101 t102 t109 false _ A18.out).mono ?_); rintro e w23 ⟨rfl, hb⟩; replace HO105 := rt HO105 BK117 hb; replace HO112 := rt HO112 BK117 hb; replace HO115 := rt HO115 BK117 hb; replace BK108 := bf BK108 hb; replace BK117 := bw #[.string t109, .slice Ao14 t110.length co14, .slice Ao15 t113.length co15] BK117 hb; replace HB := sb w hb; clear hb))
     go_meet
     case rel => exact ⟨_, (true), zS, H', ⟨zo⟩, ⟨kr HO105⟩, ⟨kr HO112⟩, ⟨kr HO115⟩, ⟨kb BK108⟩, ⟨kb BK117⟩, ⟨zB⟩⟩
   ·replace c17 := Bool.eq_false_iff.mpr c17
    subst c17
    rw [if_neg Bool.false_ne_true] at H
    have H' := Aside0.mk H
    clear H
    go_wp2
    go_meet
    case rel => exact ⟨_, (true), zS, H', ⟨zo⟩, ⟨by (with_reducible repeat (first | apply Kd.R_alloc | apply Kd.R_drewN | apply Kd.R_drew)); exact Kd.R_mono (Kd.R_far (p := ⟨gb117, 2, none⟩) (Kd.R_far (p := ⟨gb117, 1, none⟩) (Kd.R_far (p := ⟨gb117, 0, none⟩) (Kd.R_types HO105.out BK117.out (by decide)) (fun _ hk => hk.2) (.string t109)) (fun _ hk => hk.2) (.slice Ao14 t110.length co14)) (fun _ hk => hk.2) (.slice Ao15 t113.length co15)) (fun _ hk => trivial)⟩, ⟨by (with_reducible repeat (first | apply Kd.R_alloc | apply Kd.R_drewN | apply Kd.R_drew)); exact Kd.R_mono (Kd.R_far (p := ⟨gb117, 2, none⟩) (Kd.R_far (p := ⟨gb117, 1, none⟩) (Kd.R_far (p := ⟨gb117, 0, none⟩) (Kd.R_types HO112.out BK117.out (by decide)) (fun _ hk => hk.2) (.string t109)) (fun _ hk => hk.2) (.slice Ao14 t110.length co14)) (fun _ hk => hk.2) (.slice Ao15 t113.length co15)) (fun _ hk => trivial)⟩, ⟨by (with_reducible repeat (first | apply Kd.R_alloc | apply Kd.R_drewN | apply Kd.R_drew)); exact Kd.R_mono (Kd.R_far (p := ⟨gb117, 2, none⟩) (Kd.R_far (p := ⟨gb117, 1, none⟩) (Kd.R_far (p := ⟨gb117, 0, none⟩) (Kd.R_types HO115.out BK117.out (by decide)) (fun _ hk => hk.2) (.string t109)) (fun _ hk => hk.2) (.slice Ao14 t110.length co14)) (fun _ hk => hk.2) (.slice Ao15 t113.length co15)) (fun _ hk => trivial)⟩, ⟨kf BK108⟩, ⟨kp _ BK117⟩, ⟨zB⟩⟩
  ·replace c16 := Bool.eq_false_iff.mpr c16
   subst c16
   rw [if_neg Bool.false_ne_true] at H
   have H' := Aside0.mk H
   clear H
   go_wp2
   go_meet
   case rel => exact ⟨_, (true), zS, H', ⟨zo⟩, ⟨by (with_reducible repeat (first | apply Kd.R_alloc | apply Kd.R_drewN | apply Kd.R_drew)); exact Kd.R_mono (Kd.R_far (p := ⟨gb117, 2, none⟩) (Kd.R_far (p := ⟨gb117, 1, none⟩) (Kd.R_far (p := ⟨gb117, 0, none⟩) (Kd.R_types HO105.out BK117.out (by decide)) (fun _ hk => hk.2) (.string t109)) (fun _ hk => hk.2) (.slice Ao14 t110.length co14)) (fun _ hk => hk.2) (.slice Ao15 t113.length co15)) (fun _ hk => trivial)⟩, ⟨by (with_reducible repeat (first | apply Kd.R_alloc | apply Kd.R_drewN | apply Kd.R_drew)); exact Kd.R_mono (Kd.R_far (p := ⟨gb117, 2, none⟩) (Kd.R_far (p := ⟨gb117, 1, none⟩) (Kd.R_far (p := ⟨gb117, 0, none⟩) (Kd.R_types HO112.out BK117.out (by decide)) (fun _ hk => hk.2) (.string t109)) (fun _ hk => hk.2) (.slice Ao14 t110.length co14)) (fun _ hk => hk.2) (.slice Ao15 t113.length co15)) (fun _ hk => trivial)⟩, ⟨by (with_reducible repeat (first | apply Kd.R_alloc | apply Kd.R_drewN | apply Kd.R_drew)); exact Kd.R_mono (Kd.R_far (p := ⟨gb117, 2, none⟩) (Kd.R_far (p := ⟨gb117, 1, none⟩) (Kd.R_far (p := ⟨gb117, 0, none⟩) (Kd.R_types HO115.out BK117.out (by decide)) (fun _ hk => hk.2) (.string t109)) (fun _ hk => hk.2) (.slice Ao14 t110.length co14)) (fun _ hk => hk.2) (.slice Ao15 t113.length co15)) (fun _ hk => trivial)⟩, ⟨kf BK108⟩, ⟨kp _ BK117⟩, ⟨zB⟩⟩
 case rest =>
  clear HC5
  obtain ⟨kq, x57_4, rfl, HA, HJ4, HO_109002, HO_118001, HO_118002, BK108, BK117, HB⟩ := hcut
  cases kq with
  | zero => exact absurd HA.out (by simp [address_Match.j0])
  | succ kj4 =>
   have H := HA.out
   clear HA
   simp only [address_Match.j0] at H
   by_cases c17 : x57_4 = true
   ·subst c17
    rw [if_pos rfl] at H
    obtain rfl := Option.some.inj H
    go_wp2
    go_ret
    exact ⟨zE, zB⟩
   ·replace c17 := Bool.eq_false_iff.mpr c17
    subst c17
    rw [if_neg Bool.false_ne_true] at H
    have H' := Aside0.mk H
    clear H
    have hnb18 := NB108_117.out
    have hnc18 := NB117_108.out
    obtain ⟨hcz19_0, hcz19_1, hcz19_2, hcz19_3, hfz19_0, hfz19_1, hfz19_2, hfz19_3⟩ := cf4 BK108
    go_wp2
    go_loopg [61] kj4 (fun kq v61 w' => ∃ (x61_2 : Int), v61 = .int .i64 x61_2 ∧ Aside0 (address_Match.l0 kq t103 (t103.length : Int) x61_2 t109 t110 t113 = some r) ∧ Aside0 (kq ≤ kj4) ∧ Aside0 (Kd.R k97 97 w' w.heap.size (fun _ => True) (.slice Ao9 t103.length co9) t103) ∧ Aside0 (Kd.R k97 97 w' w.heap.size (fun _ => True) (.slice Ao9 t103.length co9) t103) ∧ Aside0 (Kd.R Kd.string 9 w' w.heap.size (fun _ => True) (.slice Ao14 t110.length co14) t110) ∧ Aside0 (Kd.R k66 66 w' w.heap.size (fun _ => True) (.slice Ao15 t113.length co15) t113) ∧ Aside0 (w'.heap[gb108]? = some (.cells #[.int .i64 t101, .string t102, (.slice Ao9 t103.length co9), .bool t106] 100 (0, 0))) ∧ Aside0 (w'.heap[gb117]? = some (.cells #[.string t109, (.slice Ao14 t110.length co14), (.slice Ao15 t113.length co15)] 25 (0, 0))) ∧ Aside0 (Below w.heap.size w w'))
    case atStart => exact ⟨(0), zS, H', ⟨Nat.le_refl _⟩, ⟨kr HO_109002⟩, ⟨kr HO_109002⟩, ⟨kr HO_118001⟩, ⟨kr HO_118002⟩, ⟨kb BK108⟩, ⟨kb BK117⟩, ⟨zB⟩⟩
    case round =>
     clear H'
     obtain ⟨x61_2, rfl, HA, HK2, HO_59, HO_109002, HO_118001, HO_118002, BK108, BK117, HB⟩ := hrel
     cases gk with
     | zero => exact absurd HA.out (by simp [address_Match.l0])
     | succ k2 =>
      have H := HA.out
      clear HA
      simp only [address_Match.l0] at H
      by_cases c20 : x61_2 < (t103.length : Int)
      ·rw [if_pos c20] at H
       have c20b0 : decide (x61_2 < (t103.length : Int)) = true := decide_eq_true c20
       clear c20
       by_cases c21 : 0 ≤ x61_2
       ·rw [if_pos c21] at H
        have c21b0 : decide (0 ≤ x61_2) = true := decide_eq_true c21
        clear c21
        by_cases c22 : x61_2 < (t103.length : Int)
        ·rw [if_pos c22] at H
         have c22b0 : decide (x61_2 < (t103.length : Int)) = true := decide_eq_true c22
         clear c22
         by_cases c23 : x61_2 < (t110.length : Int)
         ·rw [if_pos c23] at H
          have c23b0 : decide (x61_2 < (t110.length : Int)) = true := decide_eq_true c23
          clear c23
          obtain ⟨t122, A24, H⟩ := bd H
          by_cases c25 : t122 = true
          ·subst c25
           rw [if_pos rfl] at H
           have H' := Aside0.mk H
           clear H
           have p119 : 0 ≤ (x61_2 : Int) := of_decide_eq_true za
           have q119 : x61_2 < (t103.length : Int) := of_decide_eq_true za
           obtain ⟨ad119, e119, hx119_0, hx119_1⟩ := at_T97 (Kd.R_reads' HO_59.out).2.2 x61_2 p119 q119
           cases e119
           replace p119 := eq_true p119
           replace q119 := eq_true q119
           try go_wp2_with (first | ((with_reducible refine gate_dst (N := 10) rfl ?_); (try (refine gate_guard (by rfl) ?_; dsimp only)); refine bx 10 #[.int .i64 0, .string (⟨#[]⟩ : ByteArray)] 97 fun gb120 hg w26 hbox hb => ?_; replace HO_59 := Aside0.mk (Kd.R_below (Kd.R_elderB (kr HO_59) gb120 (Nat.le_of_eq hg.symm)) hb); replace HO_109002 := Aside0.mk (Kd.R_below (Kd.R_elderB (kr HO_109002) gb120 (Nat.le_of_eq hg.symm)) hb); replace HO_118001 := rb HO_118001 hb; replace HO_118002 := rb HO_118002 hb; have BK120 := Aside0.mk (hbox); have GW120 := gw w hg; have GE120 := gw w hg; replace HB := sb w hb; have NB108_120 := nl hg BK108; have NB120_108 := ng hg BK108; replace BK108 := bb BK108 hb; have NB117_120 := nl hg BK117; have NB120_117 := ng hg BK117; replace BK117 := bb BK117 hb; clear hb hbox hg; have hnb27 := NB120_108.out; have hnc27 := NB108_120.out; have hnb28 := NB120_117.out; have hnc28 := NB117_120.out; obtain ⟨hcz29_0, hcz29_1, hfz29_0, hfz29_1⟩ := cf2 BK120))
           have n0_ : Aside0 (Kd.R k97 97 ((w26.setCell ⟨gb120, 0, none⟩ (.int .i64 ((rd_T97 t103 x61_2).f0))).setCell ⟨gb120, 1, none⟩ (.string ((rd_T97 t103 x61_2).f1))) w.heap.size (fun k_ => k_ ≠ gb120) (.slice (some ad119) t103.length co9) t103) := ⟨by (with_reducible repeat (first | apply Kd.R_alloc | apply Kd.R_drewN | apply Kd.R_drew)); exact Kd.R_mono (Kd.R_far (p := ⟨gb120, 1, none⟩) (Kd.R_far (p := ⟨gb120, 0, none⟩) (Kd.R_mono HO_59.out (fun k_ hk => (⟨hk, hk.2⟩ : _ ∧ k_ ≠ gb120))) (fun _ hk => hk.2) (.int .i64 ((rd_T97 t103 x61_2).f0))) (fun _ hk => hk.2) (.string ((rd_T97 t103 x61_2).f1))) (fun _ hk => hk.1.2)⟩
           have n1_ : Aside0 (Kd.R k97 97 ((w26.setCell ⟨gb120, 0, none⟩ (.int .i64 ((rd_T97 t103 x61_2).f0))).setCell ⟨gb120, 1, none⟩ (.string ((rd_T97 t103 x61_2).f1))) w.heap.size (fun k_ => k_ ≠ gb120) (.slice (some ad119) t103.length co9) t103) := ⟨by (with_reducible repeat (first | apply Kd.R_alloc | apply Kd.R_drewN | apply Kd.R_drew)); exact Kd.R_mono (Kd.R_far (p := ⟨gb120, 1, none⟩) (Kd.R_far (p := ⟨gb120, 0, none⟩) (Kd.R_mono HO_109002.out (fun k_ hk => (⟨hk, hk.2⟩ : _ ∧ k_ ≠ gb120))) (fun _ hk => hk.2) (.int .i64 ((rd_T97 t103 x61_2).f0))) (fun _ hk => hk.2) (.string ((rd_T97 t103 x61_2).f1))) (fun _ hk => hk.1.2)⟩
           have n2_ : Aside0 (Kd.R Kd.string 9 ((w26.setCell ⟨gb120, 0, none⟩ (.int .i64 ((rd_T97 t103 x61_2).f0))).setCell ⟨gb120, 1, none⟩ (.string ((rd_T97 t103 x61_2).f1))) w.heap.size (fun _ => True) (.slice Ao14 t110.length co14) t110) := ⟨by (with_reducible repeat (first | apply Kd.R_alloc | apply Kd.R_drewN | apply Kd.R_drew)); exact Kd.R_mono (Kd.R_far (p := ⟨gb120, 1, none⟩) (Kd.R_far (p := ⟨gb120, 0, none⟩) (Kd.R_types HO_118001.out BK120.out (by decide)) (fun _ hk => hk.2) (.int .i64 ((rd_T97 t103 x61_2).f0))) (fun _ hk => hk.2) (.string ((rd_T97 t103 x61_2).f1))) (fun _ hk => trivial)⟩
           have n3_ : Aside0 (Kd.R k66 66 ((w26.setCell ⟨gb120, 0, none⟩ (.int .i64 ((rd_T97 t103 x61_2).f0))).setCell ⟨gb120, 1, none⟩ (.string ((rd_T97 t103 x61_2).f1))) w.heap.size (fun _ => True) (.slice Ao15 t113.length co15) t113) := ⟨by (with_reducible repeat (first | apply Kd.R_alloc | apply Kd.R_drewN | apply Kd.R_drew)); exact Kd.R_mono (Kd.R_far (p := ⟨gb120, 1, none⟩) (Kd.R_far (p := ⟨gb120, 0, none⟩) (Kd.R_types HO_118002.out BK120.out (by decide)) (fun _ hk => hk.2) (.int .i64 ((rd_T97 t103 x61_2).f0))) (fun _ hk => hk.2) (.string ((rd_T97 t103 x61_2).f1))) (fun _ hk => trivial)⟩
           have n4_ : Aside0 (((w26.setCell ⟨gb120, 0, none⟩ (.int .i64 ((rd_T97 t103 x61_2).f0))).setCell ⟨gb120, 1, none⟩ (.string ((rd_T97 t103 x61_2).f1))).heap[gb108]? = some (.cells #[.int .i64 t101, .string t102, .slice (some ad119) t103.length co9, .bool t106] 100 (0, 0))) := ⟨kf BK108⟩
           have n5_ : Aside0 (((w26.setCell ⟨gb120, 0, none⟩ (.int .i64 ((rd_T97 t103 x61_2).f0))).setCell ⟨gb120, 1, none⟩ (.string ((rd_T97 t103 x61_2).f1))).heap[gb117]? = some (.cells #[.string t109, .slice Ao14 t110.length co14, .slice Ao15 t113.length co15] 25 (0, 0))) := ⟨kf BK117⟩
           have n6_ : Aside0 (((w26.setCell ⟨gb120, 0, none⟩ (.int .i64 ((rd_T97 t103 x61_2).f0))).setCell ⟨gb120, 1, none⟩ (.string ((rd_T97 t103 x61_2).f1))).heap[gb120]? = some (.cells #[.int .i64 ((rd_T97 t103 x61_2).f0), .string ((rd_T97 t103 x61_2).f1)] 97 (0, 0))) := ⟨kp _ BK120⟩
           have n7_ : Aside0 (Below w.heap.size w ((w26.setCell ⟨gb120, 0, none⟩ (.int .i64 ((rd_T97 t103 x61_2).f0))).setCell ⟨gb120, 1, none⟩ (.string ((rd_T97 t103 x61_2).f1)))) := ⟨zB⟩
           (try clear HO_59)
           (try clear HO_109002)
           (try clear HO_118001)
           (try clear HO_118002)
           (try clear BK108)
           (try clear BK117)
           (try clear BK120)
           (try clear HB)
           generalize ((w26.setCell ⟨gb120, 0, none⟩ (.int .i64 ((rd_T97 t103 x61_2).f0))).setCell ⟨gb120, 1, none⟩ (.string ((rd_T97 t103 x61_2).f1))) = w30 at n0_ n1_ n2_ n3_ n4_ n5_ n6_ n7_ ⊢
           have HO_59 := n0_
           have HO_109002 := n1_
           have HO_118001 := n2_
           have HO_118002 := n3_
           have BK108 := n4_
           have BK117 := n5_
           have BK120 := n6_
           have HB := n7_
           clear n0_ n1_ n2_ n3_ n4_ n5_ n6_ n7_
           replace HO_59 := Aside0.mk (Kd.R_drew HO_59.out)
           replace HO_109002 := Aside0.mk (Kd.R_drew HO_109002.out)
           replace HO_118001 := Aside0.mk (Kd.R_drew HO_118001.out)
           replace HO_118002 := Aside0.mk (Kd.R_drew HO_118002.out)
           replace BK108 := Aside0.mk (blk_drew BK108.out)
           replace BK117 := Aside0.mk (blk_drew BK117.out)
           replace BK120 := Aside0.mk (blk_drew BK120.out)
           replace HB := Aside0.mk (below_drew1 HB.out)
           have p121 : 0 ≤ (x61_2 : Int) := of_decide_eq_true za
           have q121 : x61_2 < (t110.length : Int) := of_decide_eq_true za
           obtain ⟨ad121, e121, hx121_0⟩ := Kd.at_string (Kd.R_reads' HO_118001.out).2.2 x61_2 p121 q121
           cases e121
           replace p121 := eq_true p121
           replace q121 := eq_true q121
           refine start_ (n := 8) (S := fun w' => w'.cell? ⟨gb120, 0, none⟩ = some (.int .i64 ((rd_T97 t103 x61_2).f0)) ∧ w'.cell? ⟨gb120, 1, none⟩ = some (.string ((rd_T97 t103 x61_2).f1)) ∧ w'.cell? ⟨gb117, 0, none⟩ = some (.string t109) ∧ w'.cell? ⟨gb117, 1, none⟩ = some (.slice (some ad121) t110.length co14) ∧ w'.cell? ⟨gb117, 2, none⟩ = some (.slice Ao15 t113.length co15) ∧ w'.cell? (ad121.add (x61_2).toNat) = some (.string (rdOf ByteArray.empty t110 x61_2))) (ds := []) #[false, false, false, false, false, false, false, false] (by kernel_rfl) rfl rfl zh (fun hHeld => ?_); refine with_tabW address_Match.tab8 address_Match.bits8 (fun HT_ HW_ => ?_)
           generalize w30.drew = w31 at HO_59 HO_109002 HO_118001 HO_118002 BK108 BK117 BK120 HB hx121_0 hHeld ⊢
           refine pu 1 67 ?_
           refine pu 3 69 ?_
           refine tk 0 66 ?_
           refine tk 2 68 ?_
           refine pu 4 70 ?_
           refine tk 5 71 ?_
           refine on 6 (some 72) fun K hK => ?_
           refine goes_ Tryz.func75 (by kernel_rfl) rfl #[.agg #[.int .i64 ((rd_T97 t103 x61_2).f0), .string ((rd_T97 t103 x61_2).f1)], .string (rdOf ByteArray.empty t110 x61_2)] (by rfl) rfl rfl zl ?_
           with_reducible refine (address_part_has.calls ((rd_T97 t103 x61_2).f0) ((rd_T97 t103 x61_2).f1) (rdOf ByteArray.empty t110 x61_2) true _ A24.out).mono ?_
           rintro e w32 ⟨rfl, hb⟩
           have HS5_ := (hb.cell (World.block_lt_of_cell? _ _ (hHeld.2.2.2.2.2))).trans (hHeld.2.2.2.2.2)
           refine ⟨_, rfl, ?_⟩
           replace HO_59 := rb HO_59 hb
           replace HO_109002 := rb HO_109002 hb
           replace HO_118001 := rb HO_118001 hb
           replace HO_118002 := rb HO_118002 hb
           replace BK108 := bb BK108 hb
           replace BK117 := bb BK117 hb
           replace BK120 := bb BK120 hb
           replace HB := sb w hb
           clear hb
           refine hK.out _ _ ⟨(blk_cell BK120.out 0).trans rfl, (blk_cell BK120.out 1).trans rfl, (blk_cell BK117.out 0).trans rfl, (blk_cell BK117.out 1).trans rfl, (blk_cell BK117.out 2).trans rfl, HS5_⟩ (fun hHeld => ?_)
           clear hK K
           refine nm 72 ?_
           refine pu 7 73 ?_
           refine dn ?_
           try go_wp2
           go_roundg k2
           case measure => have := HJ4.out; have := HK2.out; omega
           case rel => exact ⟨(wrap64 (x61_2 + 1)), zS, H', ⟨by have := HJ4.out; have := HK2.out; omega⟩, ⟨by (with_reducible repeat (first | apply Kd.R_alloc | apply Kd.R_drewN | apply Kd.R_drew)); exact Kd.R_mono HO_59.out (fun _ hk => trivial)⟩, ⟨by (with_reducible repeat (first | apply Kd.R_alloc | apply Kd.R_drewN | apply Kd.R_drew)); exact Kd.R_mono HO_109002.out (fun _ hk => trivial)⟩, ⟨kr HO_118001⟩, ⟨kr HO_118002⟩, ⟨kb BK108⟩, ⟨kb BK117⟩, ⟨zB⟩⟩
          ·replace c25 := Bool.eq_false_iff.mpr c25
           subst c25
           rw [if_neg Bool.false_ne_true] at H
           obtain rfl := Option.some.inj H
           have p119 : 0 ≤ (x61_2 : Int) := of_decide_eq_true za
           have q119 : x61_2 < (t103.length : Int) := of_decide_eq_true za
           obtain ⟨ad119, e119, hx119_0, hx119_1⟩ := at_T97 (Kd.R_reads' HO_59.out).2.2 x61_2 p119 q119
           cases e119
           replace p119 := eq_true p119
           replace q119 := eq_true q119
           try go_wp2_with (first | ((with_reducible refine gate_dst (N := 10) rfl ?_); (try (refine gate_guard (by rfl) ?_; dsimp only)); refine bx 10 #[.int .i64 0, .string (⟨#[]⟩ : ByteArray)] 97 fun gb120 hg w26 hbox hb => ?_; replace HO_59 := Aside0.mk (Kd.R_below (Kd.R_elderB (kr HO_59) gb120 (Nat.le_of_eq hg.symm)) hb); replace HO_109002 := Aside0.mk (Kd.R_below (Kd.R_elderB (kr HO_109002) gb120 (Nat.le_of_eq hg.symm)) hb); replace HO_118001 := rb HO_118001 hb; replace HO_118002 := rb HO_118002 hb; have BK120 := Aside0.mk (hbox); have GW120 := gw w hg; have GE120 := gw w hg; replace HB := sb w hb; have NB108_120 := nl hg BK108; have NB120_108 := ng hg BK108; replace BK108 := bb BK108 hb; have NB117_120 := nl hg BK117; have NB120_117 := ng hg BK117; replace BK117 := bb BK117 hb; clear hb hbox hg; have hnb27 := NB120_108.out; have hnc27 := NB108_120.out; have hnb28 := NB120_117.out; have hnc28 := NB117_120.out; obtain ⟨hcz29_0, hcz29_1, hfz29_0, hfz29_1⟩ := cf2 BK120))
           have n0_ : Aside0 (Kd.R k97 97 ((w26.setCell ⟨gb120, 0, none⟩ (.int .i64 ((rd_T97 t103 x61_2).f0))).setCell ⟨gb120, 1, none⟩ (.string ((rd_T97 t103 x61_2).f1))) w.heap.size (fun k_ => k_ ≠ gb120) (.slice (some ad119) t103.length co9) t103) := ⟨by (with_reducible repeat (first | apply Kd.R_alloc | apply Kd.R_drewN | apply Kd.R_drew)); exact Kd.R_mono (Kd.R_far (p := ⟨gb120, 1, none⟩) (Kd.R_far (p := ⟨gb120, 0, none⟩) (Kd.R_mono HO_59.out (fun k_ hk => (⟨hk, hk.2⟩ : _ ∧ k_ ≠ gb120))) (fun _ hk => hk.2) (.int .i64 ((rd_T97 t103 x61_2).f0))) (fun _ hk => hk.2) (.string ((rd_T97 t103 x61_2).f1))) (fun _ hk => hk.1.2)⟩
           have n1_ : Aside0 (Kd.R k97 97 ((w26.setCell ⟨gb120, 0, none⟩ (.int .i64 ((rd_T97 t103 x61_2).f0))).setCell ⟨gb120, 1, none⟩ (.string ((rd_T97 t103 x61_2).f1))) w.heap.size (fun k_ => k_ ≠ gb120) (.slice (some ad119) t103.length co9) t103) := ⟨by (with_reducible repeat (first | apply Kd.R_alloc | apply Kd.R_drewN | apply Kd.R_drew)); exact Kd.R_mono (Kd.R_far (p := ⟨gb120, 1, none⟩) (Kd.R_far (p := ⟨gb120, 0, none⟩) (Kd.R_mono HO_109002.out (fun k_ hk => (⟨hk, hk.2⟩ : _ ∧ k_ ≠ gb120))) (fun _ hk => hk.2) (.int .i64 ((rd_T97 t103 x61_2).f0))) (fun _ hk => hk.2) (.string ((rd_T97 t103 x61_2).f1))) (fun _ hk => hk.1.2)⟩
           have n2_ : Aside0 (Kd.R Kd.string 9 ((w26.setCell ⟨gb120, 0, none⟩ (.int .i64 ((rd_T97 t103 x61_2).f0))).setCell ⟨gb120, 1, none⟩ (.string ((rd_T97 t103 x61_2).f1))) w.heap.size (fun _ => True) (.slice Ao14 t110.length co14) t110) := ⟨by (with_reducible repeat (first | apply Kd.R_alloc | apply Kd.R_drewN | apply Kd.R_drew)); exact Kd.R_mono (Kd.R_far (p := ⟨gb120, 1, none⟩) (Kd.R_far (p := ⟨gb120, 0, none⟩) (Kd.R_types HO_118001.out BK120.out (by decide)) (fun _ hk => hk.2) (.int .i64 ((rd_T97 t103 x61_2).f0))) (fun _ hk => hk.2) (.string ((rd_T97 t103 x61_2).f1))) (fun _ hk => trivial)⟩
           have n3_ : Aside0 (Kd.R k66 66 ((w26.setCell ⟨gb120, 0, none⟩ (.int .i64 ((rd_T97 t103 x61_2).f0))).setCell ⟨gb120, 1, none⟩ (.string ((rd_T97 t103 x61_2).f1))) w.heap.size (fun _ => True) (.slice Ao15 t113.length co15) t113) := ⟨by (with_reducible repeat (first | apply Kd.R_alloc | apply Kd.R_drewN | apply Kd.R_drew)); exact Kd.R_mono (Kd.R_far (p := ⟨gb120, 1, none⟩) (Kd.R_far (p := ⟨gb120, 0, none⟩) (Kd.R_types HO_118002.out BK120.out (by decide)) (fun _ hk => hk.2) (.int .i64 ((rd_T97 t103 x61_2).f0))) (fun _ hk => hk.2) (.string ((rd_T97 t103 x61_2).f1))) (fun _ hk => trivial)⟩
           have n4_ : Aside0 (((w26.setCell ⟨gb120, 0, none⟩ (.int .i64 ((rd_T97 t103 x61_2).f0))).setCell ⟨gb120, 1, none⟩ (.string ((rd_T97 t103 x61_2).f1))).heap[gb108]? = some (.cells #[.int .i64 t101, .string t102, .slice (some ad119) t103.length co9, .bool t106] 100 (0, 0))) := ⟨kf BK108⟩
           have n5_ : Aside0 (((w26.setCell ⟨gb120, 0, none⟩ (.int .i64 ((rd_T97 t103 x61_2).f0))).setCell ⟨gb120, 1, none⟩ (.string ((rd_T97 t103 x61_2).f1))).heap[gb117]? = some (.cells #[.string t109, .slice Ao14 t110.length co14, .slice Ao15 t113.length co15] 25 (0, 0))) := ⟨kf BK117⟩
           have n6_ : Aside0 (((w26.setCell ⟨gb120, 0, none⟩ (.int .i64 ((rd_T97 t103 x61_2).f0))).setCell ⟨gb120, 1, none⟩ (.string ((rd_T97 t103 x61_2).f1))).heap[gb120]? = some (.cells #[.int .i64 ((rd_T97 t103 x61_2).f0), .string ((rd_T97 t103 x61_2).f1)] 97 (0, 0))) := ⟨kp _ BK120⟩
           have n7_ : Aside0 (Below w.heap.size w ((w26.setCell ⟨gb120, 0, none⟩ (.int .i64 ((rd_T97 t103 x61_2).f0))).setCell ⟨gb120, 1, none⟩ (.string ((rd_T97 t103 x61_2).f1)))) := ⟨zB⟩
           (try clear HO_59)
           (try clear HO_109002)
           (try clear HO_118001)
           (try clear HO_118002)
           (try clear BK108)
           (try clear BK117)
           (try clear BK120)
           (try clear HB)
           generalize ((w26.setCell ⟨gb120, 0, none⟩ (.int .i64 ((rd_T97 t103 x61_2).f0))).setCell ⟨gb120, 1, none⟩ (.string ((rd_T97 t103 x61_2).f1))) = w30 at n0_ n1_ n2_ n3_ n4_ n5_ n6_ n7_ ⊢
           have HO_59 := n0_
           have HO_109002 := n1_
           have HO_118001 := n2_
           have HO_118002 := n3_
           have BK108 := n4_
           have BK117 := n5_
           have BK120 := n6_
           have HB := n7_
           clear n0_ n1_ n2_ n3_ n4_ n5_ n6_ n7_
           replace HO_59 := Aside0.mk (Kd.R_drew HO_59.out)
           replace HO_109002 := Aside0.mk (Kd.R_drew HO_109002.out)
           replace HO_118001 := Aside0.mk (Kd.R_drew HO_118001.out)
           replace HO_118002 := Aside0.mk (Kd.R_drew HO_118002.out)
           replace BK108 := Aside0.mk (blk_drew BK108.out)
           replace BK117 := Aside0.mk (blk_drew BK117.out)
           replace BK120 := Aside0.mk (blk_drew BK120.out)
           replace HB := Aside0.mk (below_drew1 HB.out)
           have p121 : 0 ≤ (x61_2 : Int) := of_decide_eq_true za
           have q121 : x61_2 < (t110.length : Int) := of_decide_eq_true za
           obtain ⟨ad121, e121, hx121_0⟩ := Kd.at_string (Kd.R_reads' HO_118001.out).2.2 x61_2 p121 q121
           cases e121
           replace p121 := eq_true p121
           replace q121 := eq_true q121
           refine start_ (n := 8) (S := fun w' => w'.cell? ⟨gb120, 0, none⟩ = some (.int .i64 ((rd_T97 t103 x61_2).f0)) ∧ w'.cell? ⟨gb120, 1, none⟩ = some (.string ((rd_T97 t103 x61_2).f1)) ∧ w'.cell? ⟨gb117, 0, none⟩ = some (.string t109) ∧ w'.cell? ⟨gb117, 1, none⟩ = some (.slice (some ad121) t110.length co14) ∧ w'.cell? ⟨gb117, 2, none⟩ = some (.slice Ao15 t113.length co15) ∧ w'.cell? (ad121.add (x61_2).toNat) = some (.string (rdOf ByteArray.empty t110 x61_2))) (ds := []) #[false, false, false, false, false, false, false, false] (by kernel_rfl) rfl rfl zh (fun hHeld => ?_); refine with_tabW address_Match.tab8 address_Match.bits8 (fun HT_ HW_ => ?_)
           generalize w30.drew = w31 at HO_59 HO_109002 HO_118001 HO_118002 BK108 BK117 BK120 HB hx121_0 hHeld ⊢
           refine pu 1 67 ?_
           refine pu 3 69 ?_
           refine tk 0 66 ?_
           refine tk 2 68 ?_
           refine pu 4 70 ?_
           refine tk 5 71 ?_
           refine on 6 (some 72) fun K hK => ?_
           refine goes_ Tryz.func75 (by kernel_rfl) rfl #[.agg #[.int .i64 ((rd_T97 t103 x61_2).f0), .string ((rd_T97 t103 x61_2).f1)], .string (rdOf ByteArray.empty t110 x61_2)] (by rfl) rfl rfl zl ?_
           with_reducible refine (address_part_has.calls ((rd_T97 t103 x61_2).f0) ((rd_T97 t103 x61_2).f1) (rdOf ByteArray.empty t110 x61_2) false _ A24.out).mono ?_
           rintro e w32 ⟨rfl, hb⟩
           have HS5_ := (hb.cell (World.block_lt_of_cell? _ _ (hHeld.2.2.2.2.2))).trans (hHeld.2.2.2.2.2)
           refine ⟨_, rfl, ?_⟩
           replace HO_59 := rb HO_59 hb
           replace HO_109002 := rb HO_109002 hb
           replace HO_118001 := rb HO_118001 hb
           replace HO_118002 := rb HO_118002 hb
           replace BK108 := bb BK108 hb
           replace BK117 := bb BK117 hb
           replace BK120 := bb BK120 hb
           replace HB := sb w hb
           clear hb
           refine hK.out _ _ ⟨(blk_cell BK120.out 0).trans rfl, (blk_cell BK120.out 1).trans rfl, (blk_cell BK117.out 0).trans rfl, (blk_cell BK117.out 1).trans rfl, (blk_cell BK117.out 2).trans rfl, HS5_⟩ (fun hHeld => ?_)
           clear hK K
           refine nm 72 ?_
           refine pu 7 73 ?_
           refine dn ?_
           try go_wp2
           go_ret
           exact ⟨zE, zB⟩
         ·rw [if_neg c23] at H
          exact absurd H (by simp)
        ·rw [if_neg c22] at H
         exact absurd H (by simp)
       ·rw [if_neg c21] at H
        exact absurd H (by simp)
      ·rw [if_neg c20] at H
       have c20b0 : decide (x61_2 < (t103.length : Int)) = false := decide_eq_false c20
       clear c20
       obtain rfl := Option.some.inj H
       go_wp2
       go_ret
       exact ⟨zE, zB⟩
end Go.Proofs.YtmokgpepeddopaaGreatDoor.P
end
section
namespace Go.Proofs.YtmokgpepeddopaaGreatDoor.P
open Go.RowKit Go.Proofs.YtmokgpepeddopaaGreatDoorW.PrintWords Go.Proofs.YtmokgpepeddopaaGreatDoorW.PrintLast Go.Proofs.YtmokgpepeddopaaGreatDoorW.PrintMore
open Go.Proofs.YtmokgpepeddopaaGreatDoor.Addr
set_option linter.unusedSimpArgs false
set_option linter.unusedVariables false
def ofPart (p : Part) : S97 := ⟨p.kind, B p.text⟩
theorem partOfI_mkP (x : ByteArray) : mkPart (partOfI x) = ofPart (mkP (L x)) := by
  cases h : L x with
  | nil =>
    have hx : x = ⟨#[]⟩ := by rw [← B_L x, h]; rfl
    subst hx; rfl
  | cons c r =>
    by_cases hc : c = 42
    · subst hc
      have e1 : partOfI x = if r = [] then (2, ⟨#[]⟩) else (1, B r) := by unfold partOfI; rw [h]; rfl
      rw [e1]
      cases r with
      | nil => rfl
      | cons y t => rfl
    · have e1 : partOfI x = (0, x) := by
        unfold partOfI
        rw [h]
        split
        · rename_i e; injection e with e _; exact absurd e hc
        · rfl
      have e2 : mkP (c :: r) = ⟨0, c :: r⟩ := by
        unfold mkP
        split
        · rename_i e; injection e with e _; exact absurd e hc
        · rename_i e; injection e with e _; exact absurd e hc
        · rfl
      rw [e1, e2, ← h]
      simp [mkPart, ofPart, B_L]
theorem validPart_eq (w : Str) : validPart w = validP w := rfl
theorem compL_pat (ls : List Str) : ∀ out : List S97, (∀ t, partsP ls = some t → compL out (ls.map B) = (out ++ t.1.map ofPart, t.2, true)) ∧ (partsP ls = none → (compL out (ls.map B)).2.2 = false) := by
  induction ls with
  | nil => intro out; simp [partsP, compL]
  | cons w r ih =>
    intro out
    rw [List.map_cons, compL, partsP, L_B]
    have hr : (r.map B = []) ↔ (r = []) := by simp
    by_cases h : w = [42, 42] ∧ r = []
    · rw [if_pos h, if_pos ⟨h.1, hr.2 h.2⟩]
      simp
    · rw [if_neg h, if_neg (show ¬ (w = [42, 42] ∧ r.map B = []) from fun e => h ⟨e.1, hr.1 e.2⟩), validPart_eq]
      by_cases hv : validP w = true
      · rw [if_pos hv, if_pos hv]
        obtain ⟨h1, h2⟩ := ih (out ++ [mkPart (partOfI (B w))])
        refine ⟨fun t ht => ?_, fun hn => ?_⟩
        · obtain ⟨t2, ht2, rfl⟩ := Option.map_eq_some_iff.1 ht
          rw [h1 t2 ht2, partOfI_mkP, L_B]
          simp
        · exact h2 (by simpa using hn)
      · rw [if_neg hv, if_neg hv]
        simp
theorem compile_some {s : ByteArray} {P : Pat} (hs : s.size < 4294967281) (h : pat (L s) = some P) : address_compile.f s = some (P.cust.kind, B P.cust.text, P.parts.map ofPart, P.tail, true) := by
  unfold address_compile.f compileF
  rw [if_pos hs]
  unfold pat at h
  split at h
  · rename_i c r hsp
    split at h
    · cases h
    · rename_i hc
      obtain ⟨t, ht, rfl⟩ := Option.map_eq_some_iff.1 h
      have e0 : ((splitB 47 (L s)).map B).getD 0 ⟨#[]⟩ = B c := by rw [hsp]; rfl
      have e1 : ((splitB 47 (L s)).map B).drop 1 = r.map B := by rw [hsp]; rfl
      have e2 : ((splitB 47 (L s)).map B).length = r.length + 1 := by rw [hsp]; simp
      rw [e0, e1, e2, L_B, if_neg (by intro hh; apply hc; rcases hh with hh | hh; exact .inl (by omega); exact .inr hh), (compL_pat r []).1 t ht]
      have := partOfI_mkP (B c)
      rw [L_B] at this
      injection this with a b
      rw [a, b]
      simp [ofPart]
  · cases h
theorem compile_none {s : ByteArray} (hs : s.size < 4294967281) (h : pat (L s) = none) : ∃ r1 r2 r3 r4, address_compile.f s = some (r1, r2, r3, r4, false) := by
  unfold address_compile.f compileF
  rw [if_pos hs]
  unfold pat at h
  split at h
  · rename_i c r hsp
    have e0 : ((splitB 47 (L s)).map B).getD 0 ⟨#[]⟩ = B c := by rw [hsp]; rfl
    have e1 : ((splitB 47 (L s)).map B).drop 1 = r.map B := by rw [hsp]; rfl
    have e2 : ((splitB 47 (L s)).map B).length = r.length + 1 := by rw [hsp]; simp
    rw [e0, e1, e2, L_B]
    split at h
    · rename_i hc
      rw [if_pos (by rcases hc with hc | hc; exact .inl (by omega); exact .inr hc)]
      exact ⟨_, _, _, _, rfl⟩
    · rename_i hc
      rw [if_neg (by intro hh; apply hc; rcases hh with hh | hh; exact .inl (by omega); exact .inr hh)]
      have hp : partsP r = none := by simpa using h
      have := (compL_pat r []).2 hp
      exact ⟨(partOfI (B c)).1, (partOfI (B c)).2, (compL [] (r.map B)).1, (compL [] (r.map B)).2.1, by rw [← this]⟩
  · rename_i hsp
    exact absurd hsp (splitB_ne _ _)
theorem has_part (k : Int) (s w : ByteArray) (hw : w.size ≤ 9223372036854775807) : address_part_has.f k s w = some (Part.has ⟨k, L s⟩ (L w)) := by
  unfold address_part_has.f Part.has
  by_cases h0 : k = 0
  · rw [if_pos h0, if_pos h0, toList_L, toList_L]
    congr 1
    rw [Bool.eq_iff_iff, beq_iff_eq, decide_eq_true_iff]
  · rw [if_neg h0, if_neg h0]
    by_cases h1 : k = 1
    · rw [if_pos h1, if_pos h1]
      unfold strings_HasSuffix.f
      rw [hasSuffix_f _ _ hw]
      simp only [L_length, Option.bind_some]
      by_cases h2 : (w.size : Int) > (s.size : Int)
      · rw [if_pos h2, decide_eq_true (show s.size < w.size by omega), Bool.true_and]
      · rw [if_neg h2, decide_eq_false (show ¬ s.size < w.size by omega), Bool.false_and]
    · rw [if_neg h1, if_neg h1]
theorem covers_part (k : Int) (s : ByteArray) (k2 : Int) (s2 : ByteArray) (hs : s2.size ≤ 9223372036854775807) : address_part_covers.f k s k2 s2 = some (Part.covers ⟨k, L s⟩ ⟨k2, L s2⟩) := by
  unfold address_part_covers.f Part.covers
  by_cases h0 : k2 = 0
  · rw [if_pos h0, if_pos h0, has_part _ _ _ hs]; rfl
  · rw [if_neg h0, if_neg h0]
    by_cases h1 : k2 = 1
    · rw [if_pos h1, if_pos h1]
      by_cases h2 : k = 2
      · simp [h2]
      · rw [if_neg h2]
        by_cases h3 : k = 1
        · rw [if_pos h3]
          unfold strings_HasSuffix.f
          rw [hasSuffix_f _ _ hs]
          simp [h3]
        · rw [if_neg h3]
          simp [h2, h3]
    · rw [if_neg h1, if_neg h1]
      congr 1
theorem with_part (k : Int) (s b : ByteArray) (hs : b.size + s.size ≤ 9223372036854775807) : address_part_with.f k s b = some (B (Part.wth ⟨k, L s⟩ (L b))) := by
  unfold address_part_with.f Part.wth
  by_cases h0 : k = 0
  · rw [if_pos h0, if_pos h0, B_L]
  · rw [if_neg h0, if_neg h0]
    by_cases h1 : k = 1
    · rw [if_pos h1, if_pos h1, if_pos hs, ← L_app, B_L]
    · rw [if_neg h1, if_neg h1, B_L]
theorem without_part (k : Int) (s : ByteArray) (k2 : Int) (s2 : ByteArray) (hs : s.size ≤ 9223372036854775000) : address_part_without.f k s k2 s2 = some (B (Part.wthout ⟨k, L s⟩ ⟨k2, L s2⟩)) := by
  unfold address_part_without.f Part.wthout
  have h97 : (⟨#[97]⟩ : ByteArray).size = 1 := rfl
  have h98 : (⟨#[98]⟩ : ByteArray).size = 1 := rfl
  have l97 : L (⟨#[97]⟩ : ByteArray) = [97] := rfl
  have l98 : L (⟨#[98]⟩ : ByteArray) = [98] := rfl
  rw [with_part _ _ _ (by rw [h97]; omega), with_part _ _ _ (by rw [h98]; omega), l97, l98]
  simp only [Option.bind_some]
  rw [has_part _ _ _ (by
    unfold Part.wth
    rw [B_size]
    split
    · rw [L_length]; omega
    · split
      · simp [L_length]; omega
      · simp), L_B]
  simp only [Option.bind_some]
  split <;> rfl
theorem rd97_at {xs : List S97} {n : Nat} {x : S97} (h : xs[n]? = some x) : rd_T97 xs (n : Int) = x := by simp [rd_T97, h]
theorem part_text {p : Part} (h : p.ok) : (B p.text).size ≤ 64 := by
  rw [B_size]
  rcases h with ⟨_, h⟩ | ⟨_, r, h, hw, hl⟩ | ⟨_, h⟩
  · exact word_le h
  · rw [h]; simp; omega
  · rw [h]; simp
theorem words_l0 (ps : List Part) (hok : ∀ p ∈ ps, p.ok) (hl : ps.length < 1099511627776) : ∀ n, n ≤ ps.length → ∀ out : List ByteArray, out.length ≤ n →
    Evt (fun k => address_pattern_words.l0 k out (ps.map ofPart) ((ps.map ofPart).length : Int) (n : Int)) (out ++ (wthL (ps.drop n)).map B) := by
  have hlen : (ps.map ofPart).length = ps.length := by simp
  rw [hlen]
  refine drop_ind ?_ fun n p hp hd hlt ih => ?_
  · intro out ho
    exact Evt.fin fun k => by simp only [address_pattern_words.l0]; rw [if_neg (by omega), List.drop_length]; simp [wthL]
  · intro out ho
    have hpp : (ps.map ofPart)[n]? = some (ofPart p) := by simp [hp]
    have hsz := part_text (hok p (List.mem_of_getElem? hp))
    rw [hd]
    have key := ih (out ++ [B (p.wth [97])]) (by simp; omega)
    refine Evt.step (fun k => ?_) (Evt.same (fun _ => rfl) (by simpa [wthL] using key))
    have h97 : (⟨#[97]⟩ : ByteArray).size = 1 := rfl
    have l97 : L (⟨#[97]⟩ : ByteArray) = [97] := rfl
    simp only [address_pattern_words.l0]
    rw [if_pos (by omega), if_pos (by omega), if_pos (by omega), rd97_at hpp, with_part _ _ _ (by rw [h97]; simp only [ofPart]; omega)]
    simp only [Option.bind_some, ofPart, L_B, l97]
    rw [if_pos (by omega), wrap_nat _ (by omega)]
    rfl
theorem words_f (k0 : Int) (s0 : ByteArray) (t0 : Bool) (ps : List Part) (hok : ∀ p ∈ ps, p.ok) (hl : ps.length < 1099511627776) : Evt (fun k => address_pattern_words.f k k0 s0 (ps.map ofPart) t0) ((wthL ps).map B) := by
  unfold address_pattern_words.f
  simpa using words_l0 ps hok hl 0 (Nat.zero_le _) [] (Nat.le_refl _)
theorem example_f (c : Str) (ws : List Str) (hl : ws.length < 1099511627776) (hb : (exT c ws).length ≤ 140737488355328) : address_example.f (B c) (ws.map B) = some (B (exT c ws)) := by
  unfold address_example.f
  simp only [Option.bind_some]
  have e1 : [B c].length + (ws.map B).length = ws.length + 1 := by simp; omega
  rw [if_pos (by rw [e1]; omega)]
  have e2 : ([B c] ++ ws.map B).map L = c :: ws := by simp [L_B, LB_map, Function.comp_def]
  have : strings_Join.f ([B c] ++ ws.map B) (⟨#[47]⟩ : ByteArray) = some (B (exT c ws)) := by
    show (if (joinB 47 (([B c] ++ ws.map B).map L)).length ≤ 140737488355328 ∧ ([B c] ++ ws.map B).length ≤ 140737488355328 then some (B (joinB 47 (([B c] ++ ws.map B).map L))) else none) = _
    rw [e2, if_pos ⟨hb, by simp; omega⟩]
    rfl
  rw [this]; rfl
theorem exT_len {c : Str} {ws : List Str} (hc : c.length ≤ 64) (hw : ∀ w ∈ ws, w.length ≤ 64) (hl : ws.length ≤ 64) : (exT c ws).length ≤ 4224 := by
  have h1 := joinB_len 47 (c :: ws) (by simp)
  have h2 : plen (c :: ws) ≤ (c :: ws).length * 65 := by
    have := sum_le ((c :: ws).map (fun x => x.length + 1)) 65 (fun x hx => by
      obtain ⟨y, hy, rfl⟩ := List.mem_map.1 hx
      rcases List.mem_cons.1 hy with rfl | hy
      · omega
      · have := hw y hy; omega)
    simpa [plen] using this
  have : (c :: ws).length * 65 ≤ 65 * 65 := Nat.mul_le_mul_right _ (by simp; omega)
  unfold exT; omega
theorem ofPart_get {ps : List Part} {n : Nat} {p : Part} (h : ps[n]? = some p) : (ps.map ofPart)[n]? = some (ofPart p) := by simp [h]
def coversA (x y : Pat) : Bool × ByteArray × Int := match coversR x y with
  | none => (true, ⟨#[]⟩, 0)
  | some w => (false, B w, 0)
theorem uncovL_set : ∀ (xs ys : List Part) (n : Nat) (a b : Part), xs[n]? = some a → ys[n]? = some b → a.covers b = false → (∀ (i : Nat) (a b : Part), i < n → xs[i]? = some a → ys[i]? = some b → a.covers b = true) → uncovL xs ys = some ((wthL ys).set n (b.wthout a))
  | [], _, n, a, b, h, _, _, _ => by simp at h
  | _ :: _, [], n, a, b, _, h, _, _ => by simp at h
  | x :: xs, y :: ys, 0, a, b, hx, hy, hc, _ => by
    injection (by simpa using hx : some x = some a) with hx
    injection (by simpa using hy : some y = some b) with hy
    subst hx hy
    rw [uncovL, hc, if_neg (by decide)]
    rfl
  | x :: xs, y :: ys, n + 1, a, b, hx, hy, hc, hall => by
    have h0 := hall 0 x y (by omega) rfl rfl
    rw [uncovL, h0, if_pos rfl, uncovL_set xs ys n a b (by simpa using hx) (by simpa using hy) hc (fun i a b hi h1 h2 => hall (i + 1) a b (by omega) (by simpa using h1) (by simpa using h2))]
    rfl
theorem uncovL_all : ∀ (xs ys : List Part), xs.length ≤ ys.length → (∀ (i : Nat) (a b : Part), xs[i]? = some a → ys[i]? = some b → a.covers b = true) → uncovL xs ys = none
  | [], _, _, _ => by cases ‹List Part› <;> rfl
  | _ :: _, [], h, _ => by simp at h
  | x :: xs, y :: ys, h, hall => by
    have h0 := hall 0 x y rfl rfl
    rw [uncovL, h0, if_pos rfl, uncovL_all xs ys (by simpa using h) (fun i a b h1 h2 => hall (i + 1) a b (by simpa using h1) (by simpa using h2))]
    rfl
theorem Covers_l0 (c0 : Str) (xs ys : List Part) (k0 : Int) (s0 : ByteArray) (t0 : Bool) (hc : c0.length ≤ 64) (hx : ∀ p ∈ xs, p.ok) (hy : ∀ p ∈ ys, p.ok) (hl : xs.length ≤ ys.length) (hl2 : ys.length ≤ 32) :
    ∀ n, n ≤ xs.length → (∀ (i : Nat) (a b : Part), i < n → xs[i]? = some a → ys[i]? = some b → a.covers b = true) →
    Evt (fun k => address_Covers.l0 k (B c0) ((wthL ys).map B) (xs.map ofPart) ((xs.map ofPart).length : Int) (n : Int) k0 s0 (ys.map ofPart) t0) (match uncovL xs ys with | none => (true, ⟨#[]⟩, 0) | some ws => (false, B (exT c0 ws), 0)) := by
  have hlen : (xs.map ofPart).length = xs.length := by simp
  have hlen2 : (ys.map ofPart).length = ys.length := by simp
  have hlen3 : ((wthL ys).map B).length = ys.length := by simp [wthL]
  rw [hlen]
  refine drop_ind ?_ fun n a ha hd hlt ih => ?_
  · intro hall
    rw [uncovL_all xs ys hl (fun i a b h1 h2 => hall i a b (List.getElem?_eq_some_iff.1 h1).1 h1 h2)]
    exact Evt.fin fun k => by simp only [address_Covers.l0]; rw [if_neg (by omega)]
  · intro hall
    have hny : n < ys.length := by omega
    obtain ⟨b, hb⟩ : ∃ b, ys[n]? = some b := ⟨_, List.getElem?_eq_getElem hny⟩
    have hsa := part_text (hx a (List.mem_of_getElem? ha))
    have hsb := part_text (hy b (List.mem_of_getElem? hb))
    have ecov : address_part_covers.f (ofPart a).f0 (ofPart a).f1 (ofPart b).f0 (ofPart b).f1 = some (a.covers b) := by
      simp only [ofPart]
      rw [covers_part _ _ _ _ (by omega), L_B, L_B]
    have ewo : address_part_without.f (ofPart b).f0 (ofPart b).f1 (ofPart a).f0 (ofPart a).f1 = some (B (b.wthout a)) := by
      simp only [ofPart]
      rw [without_part _ _ _ _ (by omega), L_B, L_B]
    by_cases hcv : a.covers b = true
    · refine Evt.step (fun k => ?_) (ih fun i a' b' hi h1 h2 => ?_)
      · simp only [address_Covers.l0]
        rw [if_pos (by omega), if_pos (by omega), if_pos (by omega), if_pos (by omega), rd97_at (ofPart_get ha), rd97_at (ofPart_get hb), ecov]
        simp only [Option.bind_some]
        rw [if_pos hcv, wrap_nat _ (by omega)]
      · rcases Nat.lt_or_ge i n with h | h
        · exact hall i a' b' h h1 h2
        · have : i = n := by omega
          subst this
          rw [ha] at h1; rw [hb] at h2
          injection h1 with h1; injection h2 with h2
          rw [← h1, ← h2]; exact hcv
    · have hcv' : a.covers b = false := by simpa using hcv
      have hu := uncovL_set xs ys n a b ha hb hcv' hall
      rw [hu]
      obtain ⟨k1, k2, -, -⟩ := uncovL_some hx hy hu
      refine Evt.fin fun k => ?_
      simp only [address_Covers.l0]
      rw [if_pos (by omega), if_pos (by omega), if_pos (by omega), if_pos (by omega), rd97_at (ofPart_get ha), rd97_at (ofPart_get hb), ecov]
      simp only [Option.bind_some]
      rw [if_neg (by rw [hcv']; decide), ewo]
      simp only [Option.bind_some]
      rw [if_pos (by omega), Int.toNat_natCast, ← List.map_set, example_f _ _ (by rw [k1]; omega) (by have := exT_len hc (fun w hw => word_le (k2 w hw)) (by rw [k1]; omega); omega)]
      rfl
theorem Covers_pats (p q : ByteArray) (hp : p.size < 4294967281) (hq : q.size < 4294967281) {x y : Pat} (hx : pat (L p) = some x) (hy : pat (L q) = some y) : Evt (fun k => address_Covers.f k p q) (coversA x y) := by
  have ox := pat_ok hx
  have oy := pat_ok hy
  have h97 : (⟨#[97]⟩ : ByteArray).size = 1 := rfl
  have l97 : L (⟨#[97]⟩ : ByteArray) = [97] := rfl
  have hcx := part_text ox.cust
  have hcy := part_text oy.cust
  have hlx : x.parts.length ≤ 32 := by have := ox.len; split at this <;> omega
  have hly : y.parts.length ≤ 32 := by have := oy.len; split at this <;> omega
  have hlx2 : (x.parts.map ofPart).length = x.parts.length := by simp
  have hly2 : (y.parts.map ofPart).length = y.parts.length := by simp
  obtain ⟨hww, -⟩ := wthL_words oy.parts
  have hwl : (wthL y.parts).length = y.parts.length := wthL_length _
  have hw64 : ∀ w ∈ wthL y.parts, w.length ≤ 64 := fun w h => word_le (hww w h)
  have hca := word_le (name_word (name_wth oy 97 (by decide)))
  have hcb := word_le (name_word (name_wthout oy x.cust))
  have ewith : address_part_with.f y.cust.kind (B y.cust.text) (⟨#[97]⟩ : ByteArray) = some (B (y.cust.wth [97])) := by rw [with_part _ _ _ (by rw [h97]; omega), L_B, l97]
  have ecov : address_part_covers.f x.cust.kind (B x.cust.text) y.cust.kind (B y.cust.text) = some (x.cust.covers y.cust) := by rw [covers_part _ _ _ _ (by omega), L_B, L_B]
  have ewo : address_part_without.f y.cust.kind (B y.cust.text) x.cust.kind (B x.cust.text) = some (B (y.cust.wthout x.cust)) := by rw [without_part _ _ _ _ (by omega), L_B, L_B]
  have hwords := words_f y.cust.kind (B y.cust.text) y.tail y.parts oy.parts (by omega)
  have ex1 : ∀ c : Str, c.length ≤ 64 → address_example.f (B c) ((wthL y.parts).map B) = some (B (exT c (wthL y.parts))) := fun c hc => example_f _ _ (by omega) (by have := exT_len hc hw64 (by omega); omega)
  have hj2 : x.parts.length ≤ y.parts.length → Evt (fun k => address_Covers.j2 k (B (y.cust.wth [97])) ((wthL y.parts).map B) x.cust.kind (B x.cust.text) (x.parts.map ofPart) x.tail y.cust.kind (B y.cust.text) (y.parts.map ofPart) y.tail) (match uncovL x.parts y.parts with | none => (true, ⟨#[]⟩, 0) | some ws => (false, B (exT (y.cust.wth [97]) ws), 0)) := fun hle =>
    Evt.step (fun k => by simp only [address_Covers.j2]; rfl) (Covers_l0 (y.cust.wth [97]) x.parts y.parts y.cust.kind (B y.cust.text) y.tail hca ox.parts oy.parts hle hly 0 (Nat.zero_le _) (fun i a b hi => absurd hi (by omega)))
  unfold address_Covers.f
  refine Evt.bind' (compile_some hp hx) ?_
  refine Evt.bind' (compile_some hq hy) ?_
  refine Evt.same (fun k => if_pos rfl) ?_
  refine Evt.step (g := fun k => (address_pattern_words.f k y.cust.kind (B y.cust.text) (y.parts.map ofPart) y.tail).bind fun t118 => if x.cust.covers y.cust = true then (if ((x.parts.map ofPart).length : Int) > ((y.parts.map ofPart).length : Int) then (address_Covers.j1 k (B (y.cust.wth [97])) t118 (decide (((x.parts.map ofPart).length : Int) > ((y.parts.map ofPart).length : Int))) x.cust.kind (B x.cust.text) (x.parts.map ofPart) x.tail y.cust.kind (B y.cust.text) (y.parts.map ofPart) y.tail) else (if ((x.parts.map ofPart).length : Int) < ((y.parts.map ofPart).length : Int) then (address_Covers.j1 k (B (y.cust.wth [97])) t118 (!x.tail) x.cust.kind (B x.cust.text) (x.parts.map ofPart) x.tail y.cust.kind (B y.cust.text) (y.parts.map ofPart) y.tail) else (address_Covers.j1 k (B (y.cust.wth [97])) t118 false x.cust.kind (B x.cust.text) (x.parts.map ofPart) x.tail y.cust.kind (B y.cust.text) (y.parts.map ofPart) y.tail))) else ((address_example.f (B (y.cust.wthout x.cust)) t118).bind fun t123 => (some (false, t123, 0)))) (fun k => ?_) ?_
  · simp only [address_Covers.j0]
    rw [if_neg (by decide), ewith]
    simp only [Option.bind_some]
    congr 1
    funext t
    rw [ecov]
    simp only [Option.bind_some]
    rw [ewo]
    simp only [Option.bind_some]
  · refine Evt.bind hwords ?_
    unfold coversA coversR
    cases hcc : x.cust.covers y.cust with
    | false => exact Evt.of fun k => by rw [if_neg (by decide), ex1 _ hcb]; rfl
    | true =>
      simp only [Bool.true_eq_false, if_false, if_true]
      by_cases h1 : y.parts.length < x.parts.length
      · rw [if_pos (.inl h1)]
        refine Evt.same (fun k => if_pos (by omega)) (Evt.fin fun k => ?_)
        simp only [address_Covers.j1]
        rw [if_pos (decide_eq_true (by omega)), ex1 _ hca]; rfl
      · have hrest : ∀ b : Bool, b = false → (x.parts.length < y.parts.length → x.tail = true) → Evt (fun k => address_Covers.j1 k (B (y.cust.wth [97])) ((wthL y.parts).map B) b x.cust.kind (B x.cust.text) (x.parts.map ofPart) x.tail y.cust.kind (B y.cust.text) (y.parts.map ofPart) y.tail) (match (if y.tail = true ∧ x.tail = false then some (exT (y.cust.wth [97]) (wthL y.parts ++ [[97]])) else (uncovL x.parts y.parts).map (exT (y.cust.wth [97]))) with | none => (true, ⟨#[]⟩, 0) | some w => (false, B w, 0)) := fun b hb ht => by
          subst hb
          have hm : Evt (fun k => address_Covers.j2 k (B (y.cust.wth [97])) ((wthL y.parts).map B) x.cust.kind (B x.cust.text) (x.parts.map ofPart) x.tail y.cust.kind (B y.cust.text) (y.parts.map ofPart) y.tail) (match (uncovL x.parts y.parts).map (exT (y.cust.wth [97])) with | none => (true, ⟨#[]⟩, 0) | some w => (false, B w, 0)) := by
            have := hj2 (by omega)
            cases hu : uncovL x.parts y.parts with
            | none => rw [hu] at this; exact this
            | some ws => rw [hu] at this; exact this
          cases hyt : y.tail with
          | false =>
            rw [hyt] at hm
            rw [if_neg (by simp)]
            refine Evt.step (fun k => ?_) hm
            simp only [address_Covers.j1]
            rw [if_neg (by decide), if_neg (by decide)]
          | true =>
            rw [hyt] at hm
            cases hxt : x.tail with
            | true =>
              rw [hxt] at hm
              rw [if_neg (by simp)]
              refine Evt.step (fun k => ?_) hm
              simp only [address_Covers.j1]
              rw [if_neg (by decide), if_pos trivial, if_pos trivial]
            | false =>
              rw [if_pos ⟨rfl, rfl⟩]
              refine Evt.fin fun k => ?_
              simp only [address_Covers.j1]
              have hl3 : ((wthL y.parts).map B).length = y.parts.length := by simp [hwl]
              have e : (wthL y.parts).map B ++ [(⟨#[97]⟩ : ByteArray)] = (wthL y.parts ++ [[97]]).map B := by simp; rfl
              rw [if_neg (by decide), if_pos trivial, if_neg (by decide), if_pos (by omega), e, example_f _ _ (by simp [hwl]; omega) (by
                have := exT_len (c := y.cust.wth [97]) (ws := wthL y.parts ++ [[97]]) hca (fun w hw => by
                  rcases List.mem_append.1 hw with hw | hw
                  · exact hw64 w hw
                  · rw [List.mem_singleton.1 hw]; decide) (by simp [hwl]; omega)
                omega)]
              rfl
        refine Evt.same (fun k => if_neg (by omega)) ?_
        by_cases h2 : x.parts.length < y.parts.length
        · refine Evt.same (fun k => if_pos (by omega)) ?_
          by_cases h3 : x.tail = false
          · rw [if_pos (.inr ⟨h2, h3⟩)]
            refine Evt.fin fun k => ?_
            simp only [address_Covers.j1]
            rw [if_pos (by rw [h3]; rfl), ex1 _ hca]; rfl
          · have h3' : x.tail = true := by simpa using h3
            rw [if_neg (by rintro (h | h); exact h1 h; exact h3 h.2)]
            exact hrest _ (by rw [h3']; rfl) (fun _ => h3')
        · refine Evt.same (fun k => if_neg (by omega)) ?_
          rw [if_neg (by rintro (h | h); exact h1 h; exact h2 h.1)]
          exact hrest _ rfl (fun h => absurd h h2)
theorem Covers_err (p q : ByteArray) (hp : p.size < 4294967281) (hq : q.size < 4294967281) (h : pat (L p) = none ∨ pat (L q) = none) : Evt (fun k => address_Covers.f k p q) (false, ⟨#[]⟩, 1) := by
  have hj : ∀ b, b = true → ∀ a1 a2 a3 a4 a5 a6 a7 a8, Evt (fun k => address_Covers.j0 k b a1 a2 a3 a4 a5 a6 a7 a8) (false, ⟨#[]⟩, 1) := fun b hb a1 a2 a3 a4 a5 a6 a7 a8 => Evt.fin fun k => by simp only [address_Covers.j0]; rw [if_pos hb]
  unfold address_Covers.f
  cases hx : pat (L p) with
  | none =>
    obtain ⟨r1, r2, r3, r4, hr⟩ := compile_none hp hx
    refine Evt.bind' hr ?_
    cases hy : pat (L q) with
    | none =>
      obtain ⟨s1, s2, s3, s4, hs⟩ := compile_none hq hy
      exact Evt.bind' hs (Evt.same (fun k => if_neg (by simp)) (hj true rfl _ _ _ _ _ _ _ _))
    | some y => exact Evt.bind' (compile_some hq hy) (Evt.same (fun k => if_neg (by simp)) (hj true rfl _ _ _ _ _ _ _ _))
  | some x =>
    refine Evt.bind' (compile_some hp hx) ?_
    cases hy : pat (L q) with
    | none =>
      obtain ⟨s1, s2, s3, s4, hs⟩ := compile_none hq hy
      exact Evt.bind' hs (Evt.same (fun k => if_pos rfl) (hj _ rfl _ _ _ _ _ _ _ _))
    | some y => rcases h with h | h
                · rw [h] at hx; cases hx
                · rw [h] at hy; cases hy
end Go.Proofs.YtmokgpepeddopaaGreatDoor.P
end
section
namespace Go.Proofs.YtmokgpepeddopaaGreatDoor.P
open Go.RowKit Go.Proofs.YtmokgpepeddopaaGreatDoorW.PrintWords Go.Proofs.YtmokgpepeddopaaGreatDoorW.PrintLast Go.Proofs.YtmokgpepeddopaaGreatDoorW.PrintMore
attribute [local go_sem] max2_int min2_int max_two min_two max_three min_three max_four min_four
attribute [local go_sem high] binOp_string_leq2 binOp_string_gtr2
set_option linter.unusedVariables false
set_option linter.unusedSimpArgs false
def address_Under.f (a0 : ByteArray) (a1 : ByteArray) : Option (Bool) := (address_read.f a0).bind fun bt101 => ((address_read.f a1).bind fun bt110 => (if bt101.2.2.2 = true then (if bt110.2.2.2 = true then (if (bt101.2.2.1.length : Int) > 0 then (some false) else ((strings_CutPrefix.f a1 a0).bind fun bt119 => (if bt119.2 = true then (if bt119.1.toList = ([] : List UInt8) then (some true) else (if 0 < (bt119.1.size : Int) then (if (bt bt119.1 0) = 47 then (some true) else (some ((bt bt119.1 0) == 63))) else (none))) else (some false)))) else (some false)) else (some false)))
set_option maxRecDepth 100000 in
theorem address_Under.lf {p : Prop} (h : p := by
 go_wp2_with (first
 | ((with_reducible refine gate_callee (f := 67) rfl ?_); refine goesL_ (some 13) rfl rfl Tryz.func67 (by kernel_rfl) rfl #[.string a0] rfl zl ?_; (with_reducible refine (address_read.calls _ _ _ _ _ _ A3.out).mono ?_); rintro e wz0 ⟨v103, v106, rfl, ho0, ho1, hb⟩; refine ⟨_, rfl, ?_⟩; have HO104 := Aside0.mk (Kd.R_lower ho0 (below_size zB)); have HO107 := Aside0.mk (Kd.R_lower ho1 (below_size zB)); replace HB := sb w hb; clear hb ho0 ho1)
 | ((with_reducible refine gate_dst (N := 5) rfl ?_); (try (refine gate_guard (by rfl) ?_; dsimp only)); refine bx 5 #[.string (⟨#[]⟩ : ByteArray), .slice none 0 0, .slice none 0 0] 25 fun gb109 hg wz1 hbox hb => ?_; replace HO104 := rb HO104 hb; replace HO107 := rb HO107 hb; have BK109 := Aside0.mk (hbox); have GW109 := gw w hg; have GE109 := gw w hg; replace HB := sb w hb; clear hb hbox hg; obtain ⟨hczz2_0, hczz2_1, hczz2_2, hfzz2_0, hfzz2_1, hfzz2_2⟩ := cf3 BK109; obtain ⟨Aoz3, coz3, eoz3⟩ := Kd.R_slice HO104.out; subst eoz3; obtain ⟨Aoz4, coz4, eoz4⟩ := Kd.R_slice HO107.out; subst eoz4)
 | ((with_reducible refine gate_callee (f := 67) rfl ?_); refine goesL_ (some 18) rfl rfl Tryz.func67 (by kernel_rfl) rfl #[.string a1] rfl zl ?_; (with_reducible refine (address_read.calls _ _ _ _ _ _ A4.out).mono ?_); rintro e wz5 ⟨v112, v115, rfl, ho0, ho1, hb⟩; refine ⟨_, rfl, ?_⟩; have HO113 := Aside0.mk (Kd.R_lower (Kd.R_new' ho0 (Kd.R_lt (kt HO104 BK109))) (below_size zB)); replace HO104 := Aside0.mk (Kd.R_elder' (kt HO104 BK109) (Kd.R_base ho0) hb); have HO116 := Aside0.mk (Kd.R_lower (Kd.R_new' ho1 (Kd.R_lt (kt HO107 BK109))) (below_size zB)); replace HO107 := Aside0.mk (Kd.R_elder' (kt HO107 BK109) (Kd.R_base ho1) hb); replace BK109 := bw #[.string t101, .slice Aoz3 t102.length coz3, .slice Aoz4 t105.length coz4] BK109 hb; replace HB := sb w hb; clear hb ho0 ho1)
 | ((with_reducible refine gate_dst (N := 7) rfl ?_); (try (refine gate_guard (by rfl) ?_; dsimp only)); refine bx 7 #[.string (⟨#[]⟩ : ByteArray), .slice none 0 0, .slice none 0 0] 25 fun gb118 hg wz6 hbox hb => ?_; replace HO104 := rb HO104 hb; replace HO107 := rb HO107 hb; replace HO113 := rb HO113 hb; replace HO116 := rb HO116 hb; have BK118 := Aside0.mk (hbox); have GW118 := gw w hg; have GE118 := gw w hg; replace HB := sb w hb; have NB109_118 := nl hg BK109; have NB118_109 := ng hg BK109; replace BK109 := bb BK109 hb; clear hb hbox hg; have hnbz7 := NB118_109.out; have hncz7 := NB109_118.out; obtain ⟨hczz8_0, hczz8_1, hczz8_2, hfzz8_0, hfzz8_1, hfzz8_2⟩ := cf3 BK118; obtain ⟨Aoz9, coz9, eoz9⟩ := Kd.R_slice HO113.out; subst eoz9; obtain ⟨Aoz10, coz10, eoz10⟩ := Kd.R_slice HO116.out; subst eoz10; obtain ⟨hczz11_0, hczz11_1, hczz11_2, hfzz11_0, hfzz11_1, hfzz11_2⟩ := cf3 BK109)
 | ((with_reducible refine gate_callee (f := 68) rfl ?_); refine goesL_ (some 36) rfl rfl Tryz.func68 (by kernel_rfl) rfl #[.string a1, .string a0] rfl zl ?_; (with_reducible refine (strings_CutPrefix.calls _ _ _ _ _ A8.out).mono ?_); rintro e w' ⟨rfl, ⟨nd, rfl⟩⟩; refine ⟨_, rfl, ?_⟩; have p12 : 0 ≤ (0 : Int) := (by omega); have qz12 : 0 < t119.size := (by have : (0 : Int) < (t119.size : Int) := of_decide_eq_true za; omega); have hx12 : ∀ h : 0 < t119.size, ((t119[0]'h).toNat : Int) = bt t119 0 := bt_at t119 0; clear p12; have qi12 : (0 < (t119.size : Int)) = True := eq_true (of_decide_eq_true za); replace qz12 := eq_true qz12; have p14 : 0 ≤ (0 : Int) := (by omega); have qz13 : 0 < t119.size := (by have : (0 : Int) < (t119.size : Int) := of_decide_eq_true za; omega); have hx14 : ∀ h : 0 < t119.size, ((t119[0]'h).toNat : Int) = bt t119 0 := bt_at t119 0; clear p14; have qi14 : (0 < (t119.size : Int)) = True := eq_true (of_decide_eq_true za); replace qz13 := eq_true qz13)
 | ((with_reducible refine gate_callee (f := 68) rfl ?_); refine goesL_ (some 36) rfl rfl Tryz.func68 (by kernel_rfl) rfl #[.string a1, .string a0] rfl zl ?_; (with_reducible refine (strings_CutPrefix.calls _ _ _ _ _ A8.out).mono ?_); rintro e w' ⟨rfl, ⟨nd, rfl⟩⟩; refine ⟨_, rfl, ?_⟩; have p12 : 0 ≤ (0 : Int) := (by omega); have qz12 : 0 < t119.size := (by have : (0 : Int) < (t119.size : Int) := of_decide_eq_true za; omega); have hx12 : ∀ h : 0 < t119.size, ((t119[0]'h).toNat : Int) = bt t119 0 := bt_at t119 0; clear p12; have qi12 : (0 < (t119.size : Int)) = True := eq_true (of_decide_eq_true za); replace qz12 := eq_true qz12)
 | ((with_reducible refine gate_callee (f := 68) rfl ?_); refine goesL_ (some 36) rfl rfl Tryz.func68 (by kernel_rfl) rfl #[.string a1, .string a0] rfl zl ?_; (with_reducible refine (strings_CutPrefix.calls _ _ _ _ _ A8.out).mono ?_); rintro e w' ⟨rfl, ⟨nd, rfl⟩⟩; refine ⟨_, rfl, ?_⟩))
 go_ret; exact ⟨zE, zB⟩) : p := h
set_option maxHeartbeats 8000000 in
set_option maxRecDepth 100000 in
theorem address_Under.calls (a0 : ByteArray) (a1 : ByteArray) (r : Bool) (w : World) (h : address_Under.f a0 a1 = some r) :
  Calls Tryz.prog 26 #[.string a0, .string a1] w fun e w' => e = .returned (.bool r) ∧ Below w.heap.size w w' := by
 have hu25 := Tryz.underlying25
 have HB := Aside0.mk (Below.refl w.heap.size w)
 have H : ((address_read.f a0).bind fun bt101 => ((address_read.f a1).bind fun bt110 => (if bt101.2.2.2 = true then (if bt110.2.2.2 = true then (if (bt101.2.2.1.length : Int) > 0 then (some false) else ((strings_CutPrefix.f a1 a0).bind fun bt119 => (if bt119.2 = true then (if bt119.1.toList = ([] : List UInt8) then (some true) else (if 0 < (bt119.1.size : Int) then (if (bt bt119.1 0) = 47 then (some true) else (some ((bt bt119.1 0) == 63))) else (none))) else (some false)))) else (some false)) else (some false)))) = some r := h
 clear h
 obtain ⟨⟨t101, t102, t105, t108⟩, A3, H⟩ := bd H
 dsimp only at H
 obtain ⟨⟨t110, t111, t114, t117⟩, A4, H⟩ := bd H
 dsimp only at H
 by_cases c5 : t108 = true
 ·subst c5
  rw [if_pos rfl] at H
  by_cases c6 : t117 = true
  ·subst c6
   rw [if_pos rfl] at H
   by_cases c7 : (t105.length : Int) > 0
   ·rw [if_pos c7] at H
    have c7b0 : decide (0 < (t105.length : Int)) = true := decide_eq_true c7
    have c7b1 : decide (0 < t105.length) = true := decide_eq_true (by omega)
    clear c7
    obtain rfl := Option.some.inj H
    go_enter Tryz.func26, Tryz.ntmps26
    exact address_Under.lf
   ·rw [if_neg c7] at H
    have c7b0 : decide (0 < (t105.length : Int)) = false := decide_eq_false c7
    have c7b1 : decide (0 < t105.length) = false := decide_eq_false (by omega)
    clear c7
    obtain ⟨⟨t119, t120⟩, A8, H⟩ := bd H
    dsimp only at H
    by_cases c9 : t120 = true
    ·subst c9
     rw [if_pos rfl] at H
     by_cases c10 : t119.toList = ([] : List UInt8)
     ·rw [if_pos c10] at H
      have c10b0 : (t119.toList == ([] : List UInt8)) = true := beq_iff_eq.mpr c10
      have c10b1 : (t119.toList != ([] : List UInt8)) = false := bne_eq_false_iff_eq.mpr c10
      clear c10
      obtain rfl := Option.some.inj H
      go_enter Tryz.func26, Tryz.ntmps26
      exact address_Under.lf
     ·rw [if_neg c10] at H
      have c10b0 : (t119.toList == ([] : List UInt8)) = false := beq_eq_false_iff_ne.mpr c10
      have c10b1 : (t119.toList != ([] : List UInt8)) = true := bne_iff_ne.mpr c10
      by_cases c11 : 0 < (t119.size : Int)
      ·rw [if_pos c11] at H
       have c11b0 : decide (0 < (t119.size : Int)) = true := decide_eq_true c11
       have c11b1 : decide (0 < t119.size) = true := decide_eq_true (by omega)
       clear c11
       by_cases c13 : (bt t119 0) = 47
       ·rw [if_pos c13] at H
        have c13b0 : ((bt t119 0) == 47) = true := beq_iff_eq.mpr c13
        have c13b1 : ((bt t119 0) != 47) = false := bne_eq_false_iff_eq.mpr c13
        clear c13
        obtain rfl := Option.some.inj H
        go_enter Tryz.func26, Tryz.ntmps26
        exact address_Under.lf
       ·rw [if_neg c13] at H
        have c13b0 : ((bt t119 0) == 47) = false := beq_eq_false_iff_ne.mpr c13
        have c13b1 : ((bt t119 0) != 47) = true := bne_iff_ne.mpr c13
        obtain rfl := Option.some.inj H
        go_enter Tryz.func26, Tryz.ntmps26
        exact address_Under.lf
      ·rw [if_neg c11] at H
       exact absurd H (by simp)
    ·replace c9 := Bool.eq_false_iff.mpr c9
     subst c9
     rw [if_neg Bool.false_ne_true] at H
     obtain rfl := Option.some.inj H
     go_enter Tryz.func26, Tryz.ntmps26
     exact address_Under.lf
  ·replace c6 := Bool.eq_false_iff.mpr c6
   subst c6
   rw [if_neg Bool.false_ne_true] at H
   obtain rfl := Option.some.inj H
   go_enter Tryz.func26, Tryz.ntmps26
   exact address_Under.lf
 ·replace c5 := Bool.eq_false_iff.mpr c5
  subst c5
  rw [if_neg Bool.false_ne_true] at H
  obtain rfl := Option.some.inj H
  go_enter Tryz.func26, Tryz.ntmps26
  exact address_Under.lf
end Go.Proofs.YtmokgpepeddopaaGreatDoor.P
end
