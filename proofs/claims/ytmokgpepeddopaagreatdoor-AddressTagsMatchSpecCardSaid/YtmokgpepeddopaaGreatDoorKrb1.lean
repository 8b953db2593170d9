/- Lemmas on the way to the statement: part 1 of 3 (functions as plain Lean functions, and that each call comes to what they say). -/
import Derived.Test.YtmokgpepeddopaaGreatDoorK12
import Derived.Test.YtmokgpepeddopaaGreatDoorK28
import Derived.Test.YtmokgpepeddopaaGreatDoorK31
import Derived.Test.YtmokgpepeddopaaGreatDoorK15
section
namespace Go.Proofs.YtmokgpepeddopaaGreatDoor.P
open Go.RowKit Go.Proofs.YtmokgpepeddopaaGreatDoorW.PrintWords Go.Proofs.YtmokgpepeddopaaGreatDoorW.PrintLast Go.Proofs.YtmokgpepeddopaaGreatDoorW.PrintMore
attribute [local go_sem] max2_int min2_int max_two min_two max_three min_three max_four min_four
attribute [local go_sem high] binOp_string_leq2 binOp_string_gtr2
set_option linter.unusedVariables false
set_option linter.unusedSimpArgs false
mutual
def weirgatelaw06_AddressTagsMatchSpec.j0 : Nat → List ByteArray → ByteArray → ByteArray → Bool → Option (Bool)
 | 0, _, _, _, _ => none
 | k + 1, x0, x1, x2, x29 => if x29 = true then ((weirgatelaw06_sanity.f k).bind fun t101 => (some t101)) else (weirgatelaw06_AddressTagsMatchSpec.l0 k x0 x1 x2 0)
def weirgatelaw06_AddressTagsMatchSpec.l0 : Nat → List ByteArray → ByteArray → ByteArray → Int → Option (Bool)
 | 0, _, _, _, _ => none
 | k + 1, x0, x1, x2, x7 => if x7 < (x0.length : Int) then (if 0 ≤ x7 then (if ((rdOf ByteArray.empty x0 x7).size : Int) > 100 then ((weirgatelaw06_sanity.f k).bind fun t103 => (some t103)) else (weirgatelaw06_AddressTagsMatchSpec.l0 k x0 x1 x2 (wrap64 (x7 + 1)))) else (none)) else ((address_Tags.f x0).bind fun bt104 => ((weirgateref06_Tags.f k x0).bind fun bt106 => ((address_Split.f x1).bind fun bt109 => ((weirgateref06_Split.f k x1).bind fun bt113 => (if bt104.1.toList = bt106.1.toList then (if bt104.2 = bt106.2 then ((weirgateref06_SameList.f k bt109.1 bt113.1).bind fun t118 => (if t118 = true then (if bt109.2 = bt113.2 then ((address_HasTag.f k x1 x2).bind fun t119 => ((weirgateref06_HasTag.f k x1 x2).bind fun t120 => (weirgatelaw06_AddressTagsMatchSpec.j2 k x0 bt104.1 bt104.2 (t119 != t120)))) else (weirgatelaw06_AddressTagsMatchSpec.j2 k x0 bt104.1 bt104.2 true)) else (weirgatelaw06_AddressTagsMatchSpec.j2 k x0 bt104.1 bt104.2 true))) else (weirgatelaw06_AddressTagsMatchSpec.j2 k x0 bt104.1 bt104.2 true)) else (weirgatelaw06_AddressTagsMatchSpec.j2 k x0 bt104.1 bt104.2 true))))))
def weirgatelaw06_AddressTagsMatchSpec.j2 : Nat → List ByteArray → ByteArray → Int → Bool → Option (Bool)
 | 0, _, _, _, _ => none
 | k + 1, x0, x8, x9, x89 => if x89 = true then (some false) else (if x9 = 0 then (weirgatelaw06_AddressTagsMatchSpec.l1 k x0 x8 0) else ((weirgatelaw06_sanity.f k).bind fun t121 => (some t121)))
def weirgatelaw06_AddressTagsMatchSpec.l1 : Nat → List ByteArray → ByteArray → Int → Option (Bool)
 | 0, _, _, _ => none
 | k + 1, x0, x8, x14 => if x14 < (x0.length : Int) then (if 0 ≤ x14 then ((address_HasTag.f k x8 (rdOf ByteArray.empty x0 x14)).bind fun t123 => (if t123 = true then (weirgatelaw06_AddressTagsMatchSpec.l1 k x0 x8 (wrap64 (x14 + 1))) else (some false))) else (none)) else ((address_Split.f x8).bind fun bt124 => ((weirgatelaw06_sanity.f k).bind fun t128 => (if t128 = true then (some (bt124.2 == 0)) else (some false))))
end
def weirgatelaw06_AddressTagsMatchSpec.f (k : Nat) (l0 : List ByteArray) (a1 : ByteArray) (a2 : ByteArray) : Option (Bool) := if (l0.length : Int) > 100 then (weirgatelaw06_AddressTagsMatchSpec.j0 k l0 a1 a2 true) else (if (a1.size : Int) > 5000 then (weirgatelaw06_AddressTagsMatchSpec.j0 k l0 a1 a2 true) else (weirgatelaw06_AddressTagsMatchSpec.j0 k l0 a1 a2 (decide ((a2.size : Int) > 100))))
set_option maxRecDepth 100000 in
theorem weirgatelaw06_AddressTagsMatchSpec.lf {p : Prop} (h : p := by
 go_wp2_with (first
 | ((with_reducible refine gate_callee (f := 24) rfl ?_); refine goesL_ (some 104) rfl rfl Tryz.func24 (by kernel_rfl) rfl #[.string t104, .string (rdOf ByteArray.empty l0 x14_4)] rfl zl ?_; (with_reducible refine (address_HasTag.calls _ _ _ _ _ A31.out).mono ?_); rintro e wz0 ⟨rfl, hb⟩; refine ⟨_, rfl, ?_⟩; replace HO_118000 := rb HO_118000 hb; replace BK108 := bb BK108 hb; replace BK117 := bb BK117 hb; replace HB := sb w hb; clear hb)
 | ((with_reducible refine gate_callee (f := 21) rfl ?_); refine goesL_ (some 108) rfl rfl Tryz.func21 (by kernel_rfl) rfl #[.string t104] rfl zl ?_; (with_reducible refine (address_Split.calls _ _ _ _ A30.out).mono ?_); rintro e wz0 ⟨v126, rfl, ho0, hb⟩; refine ⟨_, rfl, ?_⟩; have HO127 := Aside0.mk (Kd.R_lower (Kd.R_new' ho0 (Kd.R_lt (kr HO_118000))) (below_size zB)); replace HO_118000 := Aside0.mk (Kd.R_elder' (kr HO_118000) (Kd.R_base ho0) hb); replace BK108 := bb BK108 hb; replace BK117 := bb BK117 hb; replace HB := sb w hb; clear hb ho0)
 | ((with_reducible refine gate_callee (f := 11) rfl ?_); refine goesL_ (some 111) rfl rfl Tryz.func11 (by kernel_rfl) rfl #[] rfl zl ?_; (with_reducible refine (weirgatelaw06_sanity.calls _ _ _ A31.out).mono ?_); rintro e wz1 ⟨rfl, hb⟩; refine ⟨_, rfl, ?_⟩; replace HO_118000 := rb HO_118000 hb; replace HO127 := rb HO127 hb; replace BK108 := bb BK108 hb; replace BK117 := bb BK117 hb; replace HB := sb w hb; clear hb))
 go_ret; exact ⟨zE, zB⟩) : p := h
set_option maxHeartbeats 8000000 in
set_option maxRecDepth 100000 in
theorem weirgatelaw06_AddressTagsMatchSpec.calls (k : Nat) (A0 : Option Addr) (c0 : Nat) (l0 : List ByteArray) (a1 : ByteArray) (a2 : ByteArray) (r : Bool) (w : World) (hr0 : Kd.C Kd.string w A0 l0.length l0) (hc0 : l0.length ≤ c0) (h : weirgatelaw06_AddressTagsMatchSpec.f k l0 a1 a2 = some r) :
  Calls Tryz.prog 4 #[.slice A0 l0.length c0, .string a1, .string a2] w fun e w' => e = .returned (.bool r) ∧ Below w.heap.size w w' := by
 have hu38 := Tryz.underlying38
 have hu48 := Tryz.underlying48
 have HR0 := Aside0.mk hr0
 have HC0 := Aside0.mk hc0
 clear hr0 hc0
 have HB := Aside0.mk (Below.refl w.heap.size w)
 have H : (if (l0.length : Int) > 100 then (weirgatelaw06_AddressTagsMatchSpec.j0 k l0 a1 a2 true) else (if (a1.size : Int) > 5000 then (weirgatelaw06_AddressTagsMatchSpec.j0 k l0 a1 a2 true) else (weirgatelaw06_AddressTagsMatchSpec.j0 k l0 a1 a2 (decide ((a2.size : Int) > 100))))) = some r := h
 clear h
 have HC4 := Aside0.mk H
 clear H
 go_enter Tryz.func4, Tryz.ntmps4
 go_upto_region 1 with (fail)
 go_cut [29] (fun v29 wc => ∃ (kq : Nat) (x29_3 : Bool), v29 = .bool x29_3 ∧ Aside0 (weirgatelaw06_AddressTagsMatchSpec.j0 kq l0 a1 a2 x29_3 = some r) ∧ Aside0 (kq ≤ k) ∧ Aside0 (Below w.heap.size w wc))
 case first =>
  have H := HC4.out
  clear HC4
  by_cases c5 : (l0.length : Int) > 100
  ·rw [if_pos c5] at H
   have c5b0 : decide (100 < (l0.length : Int)) = true := decide_eq_true c5
   have c5b1 : decide (100 < l0.length) = true := decide_eq_true (by omega)
   clear c5
   (first | rw [c5b0] | (simp only [i64_w, i32_w]; rw [c5b0]) | skip)
   have H' := Aside0.mk H
   clear H
   go_wp2
   go_meet
   case rel => exact ⟨_, (true), zS, H', ⟨zo⟩, ⟨zB⟩⟩
  ·rw [if_neg c5] at H
   have c5b0 : decide (100 < (l0.length : Int)) = false := decide_eq_false c5
   have c5b1 : decide (100 < l0.length) = false := decide_eq_false (by omega)
   clear c5
   (first | rw [c5b0] | (simp only [i64_w, i32_w]; rw [c5b0]) | skip)
   by_cases c6 : (a1.size : Int) > 5000
   ·rw [if_pos c6] at H
    have c6b0 : decide (5000 < (a1.size : Int)) = true := decide_eq_true c6
    have c6b1 : decide (5000 < a1.size) = true := decide_eq_true (by omega)
    clear c6
    have H' := Aside0.mk H
    clear H
    go_wp2
    go_meet
    case rel => exact ⟨_, (true), zS, H', ⟨zo⟩, ⟨zB⟩⟩
   ·rw [if_neg c6] at H
    have c6b0 : decide (5000 < (a1.size : Int)) = false := decide_eq_false c6
    have c6b1 : decide (5000 < a1.size) = false := decide_eq_false (by omega)
    clear c6
    have H' := Aside0.mk H
    clear H
    go_wp2
    go_meet
    case rel => exact ⟨_, (decide ((a2.size : Int) > 100)), zS, H', ⟨zo⟩, ⟨zB⟩⟩
 case rest =>
  clear HC4
  obtain ⟨kq, x29_3, rfl, HA, HJ3, HB⟩ := hcut
  cases kq with
  | zero => exact absurd HA.out (by simp [weirgatelaw06_AddressTagsMatchSpec.j0])
  | succ kj3 =>
   have H := HA.out
   clear HA
   simp only [weirgatelaw06_AddressTagsMatchSpec.j0] at H
   by_cases c7 : x29_3 = true
   ·subst c7
    rw [if_pos rfl] at H
    obtain ⟨t101, A8, H⟩ := bd H
    obtain rfl := Option.some.inj H
    go_wp2_with (first | ((with_reducible refine gate_callee (f := 11) rfl ?_); refine goesL_ (some 30) rfl rfl Tryz.func11 (by kernel_rfl) rfl #[] rfl zl ?_; (with_reducible refine (weirgatelaw06_sanity.calls kj3  t101 _ A8.out).mono ?_); rintro e w9 ⟨rfl, hb⟩; refine ⟨_, rfl, ?_⟩; replace HB := sb w hb; clear hb))
    go_ret
    exact ⟨zE, zB⟩
   ·replace c7 := Bool.eq_false_iff.mpr c7
    subst c7
    rw [if_neg Bool.false_ne_true] at H
    have H' := Aside0.mk H
    clear H
    go_wp2
    go_loopg [7] kj3 (fun kq v7 w' => ∃ (x7_2 : Int), v7 = .int .i64 x7_2 ∧ Aside0 (weirgatelaw06_AddressTagsMatchSpec.l0 kq l0 a1 a2 x7_2 = some r) ∧ Aside0 (kq ≤ kj3) ∧ Aside0 (Below w.heap.size w w'))
    case atStart => exact ⟨(0), zS, H', ⟨Nat.le_refl _⟩, ⟨zB⟩⟩
    case round =>
     clear H'
     obtain ⟨x7_2, rfl, HA, HK2, HB⟩ := hrel
     cases gk with
     | zero => exact absurd HA.out (by simp [weirgatelaw06_AddressTagsMatchSpec.l0])
     | succ k2 =>
      have H := HA.out
      clear HA
      simp only [weirgatelaw06_AddressTagsMatchSpec.l0] at H
      by_cases c8 : x7_2 < (l0.length : Int)
      ·rw [if_pos c8] at H
       have c8b0 : decide (x7_2 < (l0.length : Int)) = true := decide_eq_true c8
       clear c8
       by_cases c9 : 0 ≤ x7_2
       ·rw [if_pos c9] at H
        have c9b0 : decide (0 ≤ x7_2) = true := decide_eq_true c9
        clear c9
        by_cases c10 : ((rdOf ByteArray.empty l0 x7_2).size : Int) > 100
        ·rw [if_pos c10] at H
         have c10b0 : decide (100 < ((rdOf ByteArray.empty l0 x7_2).size : Int)) = true := decide_eq_true c10
         have c10b1 : decide (100 < (rdOf ByteArray.empty l0 x7_2).size) = true := decide_eq_true (by omega)
         clear c10
         obtain ⟨t103, A11, H⟩ := bd H
         obtain rfl := Option.some.inj H
         have p102 : 0 ≤ (x7_2 : Int) := of_decide_eq_true za
         have q102 : x7_2 < (l0.length : Int) := of_decide_eq_true za
         obtain ⟨ad102, e102, hx102_0⟩ := Kd.at_string HR0.out x7_2 p102 q102
         cases e102
         replace hx102_0 := (HB.out.cell (World.block_lt_of_cell? w _ hx102_0)).trans hx102_0
         replace p102 := eq_true p102
         replace q102 := eq_true q102
         go_wp2_with (first | ((with_reducible refine gate_callee (f := 11) rfl ?_); refine goesL_ (some 43) rfl rfl Tryz.func11 (by kernel_rfl) rfl #[] rfl zl ?_; (with_reducible refine (weirgatelaw06_sanity.calls k2  t103 _ A11.out).mono ?_); rintro e w12 ⟨rfl, hb⟩; refine ⟨_, rfl, ?_⟩; replace HB := sb w hb; clear hb))
         go_ret
         exact ⟨zE, zB⟩
        ·rw [if_neg c10] at H
         have c10b0 : decide (100 < ((rdOf ByteArray.empty l0 x7_2).size : Int)) = false := decide_eq_false c10
         have c10b1 : decide (100 < (rdOf ByteArray.empty l0 x7_2).size) = false := decide_eq_false (by omega)
         clear c10
         have H' := Aside0.mk H
         clear H
         have p102 : 0 ≤ (x7_2 : Int) := of_decide_eq_true za
         have q102 : x7_2 < (l0.length : Int) := of_decide_eq_true za
         obtain ⟨ad102, e102, hx102_0⟩ := Kd.at_string HR0.out x7_2 p102 q102
         cases e102
         replace hx102_0 := (HB.out.cell (World.block_lt_of_cell? w _ hx102_0)).trans hx102_0
         replace p102 := eq_true p102
         replace q102 := eq_true q102
         go_wp2
         go_roundg k2
         case measure => have := HJ3.out; have := HK2.out; omega
         case rel => exact ⟨(wrap64 (x7_2 + 1)), zS, H', ⟨by have := HJ3.out; have := HK2.out; omega⟩, ⟨zB⟩⟩
       ·rw [if_neg c9] at H
        exact absurd H (by simp)
      ·rw [if_neg c8] at H
       have c8b0 : decide (x7_2 < (l0.length : Int)) = false := decide_eq_false c8
       clear c8
       obtain ⟨⟨t104, t105⟩, A9, H⟩ := bd H
       dsimp only at H
       obtain ⟨⟨t106, t107⟩, A10, H⟩ := bd H
       dsimp only at H
       obtain ⟨⟨t109, t110⟩, A11, H⟩ := bd H
       dsimp only at H
       obtain ⟨⟨t113, t116⟩, A12, H⟩ := bd H
       dsimp only at H
       have HC13 := Aside0.mk H
       clear H
       go_upto_region 12 with (first | ((with_reducible refine gate_callee (f := 19) rfl ?_); refine goesL_ (some 46) rfl rfl Tryz.func19 (by kernel_rfl) rfl #[.slice A0 l0.length c0] rfl zl ?_; (with_reducible refine (address_Tags.calls _ _ l0 t104 t105 _ ?side1 ?side2 A9.out).mono ?_); (case side1 => repeat (first | exact (Kd.C_below HR0.out HB.out) | (with_reducible refine Kd.C_alloc ?_ _) | (with_reducible refine Kd.C_drewN ?_ _) | (with_reducible refine Kd.C_drew ?_))); (case side2 => exact HC0.out); rintro e w14 ⟨rfl, hb⟩; refine ⟨_, rfl, ?_⟩; replace HB := sb w hb; clear hb) | ((with_reducible refine gate_callee (f := 20) rfl ?_); refine goesL_ (some 50) rfl rfl Tryz.func20 (by kernel_rfl) rfl #[.slice A0 l0.length c0] rfl zl ?_; (with_reducible refine (weirgateref06_Tags.calls k2 _ _ l0 t106 t107 _ ?side1 ?side2 A10.out).mono ?_); (case side1 => repeat (first | exact (Kd.C_below HR0.out HB.out) | (with_reducible refine Kd.C_alloc ?_ _) | (with_reducible refine Kd.C_drewN ?_ _) | (with_reducible refine Kd.C_drew ?_))); (case side2 => exact HC0.out); rintro e w15 ⟨rfl, hb⟩; refine ⟨_, rfl, ?_⟩; replace HB := sb w hb; clear hb) | ((with_reducible refine gate_dst (N := 10) rfl ?_); (try (refine gate_guard (by rfl) ?_; dsimp only)); refine bx 10 #[.string (⟨#[]⟩ : ByteArray), .int .i64 0] 38 fun gb108 hg w16 hbox hb => ?_; have BK108 := Aside0.mk (hbox); have GW108 := gw w hg; have GE108 := gw w hg; replace HB := sb w hb; clear hb hbox hg; obtain ⟨hcz17_0, hcz17_1, hfz17_0, hfz17_1⟩ := cf2 BK108) | ((with_reducible refine gate_callee (f := 21) rfl ?_); refine goesL_ (some 53) rfl rfl Tryz.func21 (by kernel_rfl) rfl #[.string a1] rfl zl ?_; (with_reducible refine (address_Split.calls a1 t109 t110 _ A11.out).mono ?_); rintro e w18 ⟨v111, rfl, ho0, hb⟩; refine ⟨_, rfl, ?_⟩; have HO112 := Aside0.mk (Kd.R_lower ho0 (below_size zB)); replace BK108 := bw #[.string t106, .int .i64 t107] BK108 hb; replace HB := sb w hb; clear hb ho0) | ((with_reducible refine gate_callee (f := 22) rfl ?_); refine goesL_ (some 57) rfl rfl Tryz.func22 (by kernel_rfl) rfl #[.string a1] rfl zl ?_; (with_reducible refine (weirgateref06_Split.calls k2 a1 t113 t116 _ A12.out).mono ?_); rintro e w19 ⟨v114, rfl, ho0, hb⟩; refine ⟨_, rfl, ?_⟩; have HO115 := Aside0.mk (Kd.R_lower (Kd.R_new' ho0 (Kd.R_lt (kr HO112))) (below_size zB)); replace HO112 := Aside0.mk (Kd.R_elder' (kr HO112) (Kd.R_base ho0) hb); replace BK108 := bb BK108 hb; replace HB := sb w hb; clear hb ho0) | ((with_reducible refine gate_dst (N := 13) rfl ?_); (try (refine gate_guard (by rfl) ?_; dsimp only)); refine bx 13 #[.slice none 0 0, .int .i64 0] 48 fun gb117 hg w20 hbox hb => ?_; replace HO112 := rb HO112 hb; replace HO115 := rb HO115 hb; have BK117 := Aside0.mk (hbox); have GW117 := gw w hg; have GE117 := gw w hg; replace HB := sb w hb; have NB108_117 := nl hg BK108; have NB117_108 := ng hg BK108; replace BK108 := bb BK108 hb; clear hb hbox hg; obtain ⟨Ao21, co21, eo21⟩ := Kd.R_slice HO115.out; subst eo21; have hnb22 := NB117_108.out; have hnc22 := NB108_117.out; obtain ⟨hcz23_0, hcz23_1, hfz23_0, hfz23_1⟩ := cf2 BK117))
       (try simp only [Act.put, List.setIfInBounds_toArray, List.set_cons_zero, List.set_cons_succ])
       go_cut [89] (fun v89 wc => ∃ (kq : Nat) (x89_12 : Bool), v89 = .bool x89_12 ∧ Aside0 (weirgatelaw06_AddressTagsMatchSpec.j2 kq l0 t104 t105 x89_12 = some r) ∧ Aside0 (kq ≤ k2) ∧ Aside0 (Kd.R Kd.string 9 wc w.heap.size (fun _ => True) (.slice Ao21 t113.length co21) t113) ∧ Aside0 (wc.heap[gb108]? = some (.cells #[.string t106, .int .i64 t107] 38 (0, 0))) ∧ Aside0 (wc.heap[gb117]? = some (.cells #[(.slice Ao21 t113.length co21), .int .i64 t116] 48 (0, 0))) ∧ Aside0 (Below w.heap.size w wc))
       case first =>
        have H := HC13.out
        clear HC13
        by_cases c24 : t104.toList = t106.toList
        ·rw [if_pos c24] at H
         have c24b0 : (t104.toList == t106.toList) = true := beq_iff_eq.mpr c24
         have c24b1 : (t104.toList != t106.toList) = false := bne_eq_false_iff_eq.mpr c24
         clear c24
         (first | rw [c24b0] | (simp only [i64_w, i32_w]; rw [c24b0]) | skip)
         by_cases c25 : t105 = t107
         ·rw [if_pos c25] at H
          have c25b0 : (t105 == t107) = true := beq_iff_eq.mpr c25
          have c25b1 : (t105 != t107) = false := bne_eq_false_iff_eq.mpr c25
          clear c25
          obtain ⟨t118, A26, H⟩ := bd H
          by_cases c27 : t118 = true
          ·subst c27
           rw [if_pos rfl] at H
           by_cases c28 : t110 = t116
           ·rw [if_pos c28] at H
            have c28b0 : (t110 == t116) = true := beq_iff_eq.mpr c28
            have c28b1 : (t110 != t116) = false := bne_eq_false_iff_eq.mpr c28
            clear c28
            obtain ⟨t119, A29, H⟩ := bd H
            obtain ⟨t120, A30, H⟩ := bd H
            have H' := Aside0.mk H
            clear H
            have hnb31 := NB108_117.out
            have hnc31 := NB117_108.out
            obtain ⟨hcz32_0, hcz32_1, hfz32_0, hfz32_1⟩ := cf2 BK108
            obtain ⟨hcz33_0, hcz33_1, hfz33_0, hfz33_1⟩ := cf2 BK117
            obtain ⟨Ao34, co34, eo34⟩ := Kd.R_slice HO112.out
            subst eo34
            go_wp2_with (first | (go_at_call 23; (with_reducible refine (weirgateref06_SameList.calls k2 _ _ t109 _ _ t113 true _ ?side1 ?side2 ?side3 ?side4 A26.out).mono ?_); (case side1 => refine (Kd.R_reads' (e := 9) (base := w.heap.size) (ok := fun k_ => (True ∧ some k_ ≠ (.slice Ao21 t113.length co21 : Value).ownBlock)) (n := t109.length) (c := co34) ?_).2.2; exact (kt HO112 BK117)); (case side2 => exact (Kd.R_reads' HO112.out).2.1); (case side3 => refine (Kd.R_reads' (e := 9) (base := w.heap.size) (ok := fun k_ => (True ∧ some k_ ≠ (.slice Ao34 t109.length co34 : Value).ownBlock)) (n := t113.length) (c := co21) ?_).2.2; exact (kt HO115 BK117)); (case side4 => exact (Kd.R_reads' HO115.out).2.1); rintro e w' ⟨rfl, ⟨nd, rfl⟩⟩) | (go_at_call 24; (with_reducible refine (address_HasTag.calls k2 a1 a2 t119 _ A29.out).mono ?_); rintro e w35 ⟨rfl, hb⟩; replace HO112 := rt HO112 BK117 hb; replace HO115 := rt HO115 BK117 hb; replace BK108 := bf BK108 hb; replace BK117 := bw #[.slice Ao21 t113.length co21, .int .i64 t116] BK117 hb; replace HB := sb w hb; clear hb) | (go_at_call 25; (with_reducible refine (weirgateref06_HasTag.calls k2 a1 a2 t120 _ A30.out).mono ?_); rintro e w36 ⟨rfl, hb⟩; replace HO112 := rb HO112 hb; replace HO115 := rb HO115 hb; replace BK108 := bb BK108 hb; replace BK117 := bb BK117 hb; replace HB := sb w hb; clear hb))
            go_meet
            case rel => exact ⟨_, ((t119 != t120)), zS, H', ⟨by have := HJ3.out; have := HK2.out; first | omega | exact Nat.le_refl _⟩, ⟨by (with_reducible repeat (first | apply Kd.R_alloc | apply Kd.R_drewN | apply Kd.R_drew)); exact Kd.R_mono HO115.out (fun _ hk => trivial)⟩, ⟨kb BK108⟩, ⟨kb BK117⟩, ⟨zB⟩⟩
           ·rw [if_neg c28] at H
            have c28b0 : (t110 == t116) = false := beq_eq_false_iff_ne.mpr c28
            have c28b1 : (t110 != t116) = true := bne_iff_ne.mpr c28
            have H' := Aside0.mk H
            clear H
            have hnb29 := NB108_117.out
            have hnc29 := NB117_108.out
            obtain ⟨hcz30_0, hcz30_1, hfz30_0, hfz30_1⟩ := cf2 BK108
            obtain ⟨hcz31_0, hcz31_1, hfz31_0, hfz31_1⟩ := cf2 BK117
            obtain ⟨Ao32, co32, eo32⟩ := Kd.R_slice HO112.out
            subst eo32
            go_wp2_with (first | (go_at_call 23; (with_reducible refine (weirgateref06_SameList.calls k2 _ _ t109 _ _ t113 true _ ?side1 ?side2 ?side3 ?side4 A26.out).mono ?_); (case side1 => refine (Kd.R_reads' (e := 9) (base := w.heap.size) (ok := fun k_ => (True ∧ some k_ ≠ (.slice Ao21 t113.length co21 : Value).ownBlock)) (n := t109.length) (c := co32) ?_).2.2; exact (kt HO112 BK117)); (case side2 => exact (Kd.R_reads' HO112.out).2.1); (case side3 => refine (Kd.R_reads' (e := 9) (base := w.heap.size) (ok := fun k_ => (True ∧ some k_ ≠ (.slice Ao32 t109.length co32 : Value).ownBlock)) (n := t113.length) (c := co21) ?_).2.2; exact (kt HO115 BK117)); (case side4 => exact (Kd.R_reads' HO115.out).2.1); rintro e w' ⟨rfl, ⟨nd, rfl⟩⟩))
            go_meet
            case rel => exact ⟨_, (true), zS, H', ⟨by have := HJ3.out; have := HK2.out; first | omega | exact Nat.le_refl _⟩, ⟨by (with_reducible repeat (first | apply Kd.R_alloc | apply Kd.R_drewN | apply Kd.R_drew)); exact Kd.R_mono (Kd.R_far (p := ⟨gb117, 1, none⟩) (Kd.R_far (p := ⟨gb117, 0, none⟩) (Kd.R_types HO115.out BK117.out (by decide)) (fun _ hk => hk.2) (.slice Ao21 t113.length co21)) (fun _ hk => hk.2) (.int .i64 t116)) (fun _ hk => trivial)⟩, ⟨kf BK108⟩, ⟨kp _ BK117⟩, ⟨zB⟩⟩
          ·replace c27 := Bool.eq_false_iff.mpr c27
           subst c27
           rw [if_neg Bool.false_ne_true] at H
           have H' := Aside0.mk H
           clear H
           have hnb28 := NB108_117.out
           have hnc28 := NB117_108.out
           obtain ⟨hcz29_0, hcz29_1, hfz29_0, hfz29_1⟩ := cf2 BK108
           obtain ⟨hcz30_0, hcz30_1, hfz30_0, hfz30_1⟩ := cf2 BK117
           obtain ⟨Ao31, co31, eo31⟩ := Kd.R_slice HO112.out
           subst eo31
           go_wp2_with (first | (go_at_call 23; (with_reducible refine (weirgateref06_SameList.calls k2 _ _ t109 _ _ t113 false _ ?side1 ?side2 ?side3 ?side4 A26.out).mono ?_); (case side1 => refine (Kd.R_reads' (e := 9) (base := w.heap.size) (ok := fun k_ => (True ∧ some k_ ≠ (.slice Ao21 t113.length co21 : Value).ownBlock)) (n := t109.length) (c := co31) ?_).2.2; exact (kt HO112 BK117)); (case side2 => exact (Kd.R_reads' HO112.out).2.1); (case side3 => refine (Kd.R_reads' (e := 9) (base := w.heap.size) (ok := fun k_ => (True ∧ some k_ ≠ (.slice Ao31 t109.length co31 : Value).ownBlock)) (n := t113.length) (c := co21) ?_).2.2; exact (kt HO115 BK117)); (case side4 => exact (Kd.R_reads' HO115.out).2.1); rintro e w' ⟨rfl, ⟨nd, rfl⟩⟩))
           go_meet
           case rel => exact ⟨_, (true), zS, H', ⟨by have := HJ3.out; have := HK2.out; first | omega | exact Nat.le_refl _⟩, ⟨by (with_reducible repeat (first | apply Kd.R_alloc | apply Kd.R_drewN | apply Kd.R_drew)); exact Kd.R_mono (Kd.R_far (p := ⟨gb117, 1, none⟩) (Kd.R_far (p := ⟨gb117, 0, none⟩) (Kd.R_types HO115.out BK117.out (by decide)) (fun _ hk => hk.2) (.slice Ao21 t113.length co21)) (fun _ hk => hk.2) (.int .i64 t116)) (fun _ hk => trivial)⟩, ⟨kf BK108⟩, ⟨kp _ BK117⟩, ⟨zB⟩⟩
         ·rw [if_neg c25] at H
          have c25b0 : (t105 == t107) = false := beq_eq_false_iff_ne.mpr c25
          have c25b1 : (t105 != t107) = true := bne_iff_ne.mpr c25
          have H' := Aside0.mk H
          clear H
          have hnb26 := NB108_117.out
          have hnc26 := NB117_108.out
          obtain ⟨hcz27_0, hcz27_1, hfz27_0, hfz27_1⟩ := cf2 BK108
          go_wp2
          go_meet
          case rel => exact ⟨_, (true), zS, H', ⟨by have := HJ3.out; have := HK2.out; first | omega | exact Nat.le_refl _⟩, ⟨by (with_reducible repeat (first | apply Kd.R_alloc | apply Kd.R_drewN | apply Kd.R_drew)); exact Kd.R_mono (Kd.R_far (p := ⟨gb117, 1, none⟩) (Kd.R_far (p := ⟨gb117, 0, none⟩) (Kd.R_types HO115.out BK117.out (by decide)) (fun _ hk => hk.2) (.slice Ao21 t113.length co21)) (fun _ hk => hk.2) (.int .i64 t116)) (fun _ hk => trivial)⟩, ⟨kf BK108⟩, ⟨kp _ BK117⟩, ⟨zB⟩⟩
        ·rw [if_neg c24] at H
         have c24b0 : (t104.toList == t106.toList) = false := beq_eq_false_iff_ne.mpr c24
         have c24b1 : (t104.toList != t106.toList) = true := bne_iff_ne.mpr c24
         (first | rw [c24b0] | (simp only [i64_w, i32_w]; rw [c24b0]) | skip)
         have H' := Aside0.mk H
         clear H
         have hnb25 := NB108_117.out
         have hnc25 := NB117_108.out
         obtain ⟨hcz26_0, hcz26_1, hfz26_0, hfz26_1⟩ := cf2 BK108
         go_wp2
         go_meet
         case rel => exact ⟨_, (true), zS, H', ⟨by have := HJ3.out; have := HK2.out; first | omega | exact Nat.le_refl _⟩, ⟨by (with_reducible repeat (first | apply Kd.R_alloc | apply Kd.R_drewN | apply Kd.R_drew)); exact Kd.R_mono (Kd.R_far (p := ⟨gb117, 1, none⟩) (Kd.R_far (p := ⟨gb117, 0, none⟩) (Kd.R_types HO115.out BK117.out (by decide)) (fun _ hk => hk.2) (.slice Ao21 t113.length co21)) (fun _ hk => hk.2) (.int .i64 t116)) (fun _ hk => trivial)⟩, ⟨kf BK108⟩, ⟨kp _ BK117⟩, ⟨zB⟩⟩
       case rest =>
        clear HC13
        obtain ⟨kq, x89_12, rfl, HA, HJ12, HO_118000, BK108, BK117, HB⟩ := hcut
        cases kq with
        | zero => exact absurd HA.out (by simp [weirgatelaw06_AddressTagsMatchSpec.j2])
        | succ kj12 =>
         have H := HA.out
         clear HA
         simp only [weirgatelaw06_AddressTagsMatchSpec.j2] at H
         by_cases c27 : x89_12 = true
         ·subst c27
          rw [if_pos rfl] at H
          obtain rfl := Option.some.inj H
          go_wp2
          go_ret
          exact ⟨zE, zB⟩
         ·replace c27 := Bool.eq_false_iff.mpr c27
          subst c27
          rw [if_neg Bool.false_ne_true] at H
          by_cases c28 : t105 = 0
          ·rw [if_pos c28] at H
           have c28b0 : (t105 == 0) = true := beq_iff_eq.mpr c28
           have c28b1 : (t105 != 0) = false := bne_eq_false_iff_eq.mpr c28
           clear c28
           have H' := Aside0.mk H
           clear H
           go_wp2
           go_loopg [14] kj12 (fun kq v14 w' => ∃ (x14_4 : Int), v14 = .int .i64 x14_4 ∧ Aside0 (weirgatelaw06_AddressTagsMatchSpec.l1 kq l0 t104 x14_4 = some r) ∧ Aside0 (kq ≤ kj12) ∧ Aside0 (Kd.R Kd.string 9 w' w.heap.size (fun _ => True) (.slice Ao21 t113.length co21) t113) ∧ Aside0 (w'.heap[gb108]? = some (.cells #[.string t106, .int .i64 t107] 38 (0, 0))) ∧ Aside0 (w'.heap[gb117]? = some (.cells #[(.slice Ao21 t113.length co21), .int .i64 t116] 48 (0, 0))) ∧ Aside0 (Below w.heap.size w w'))
           case atStart => exact ⟨(0), zS, H', ⟨Nat.le_refl _⟩, ⟨kr HO_118000⟩, ⟨kb BK108⟩, ⟨kb BK117⟩, ⟨zB⟩⟩
           case round =>
            clear H'
            obtain ⟨x14_4, rfl, HA, HK4, HO_118000, BK108, BK117, HB⟩ := hrel
            cases gk with
            | zero => exact absurd HA.out (by simp [weirgatelaw06_AddressTagsMatchSpec.l1])
            | succ k4 =>
             have H := HA.out
             clear HA
             simp only [weirgatelaw06_AddressTagsMatchSpec.l1] at H
             by_cases c29 : x14_4 < (l0.length : Int)
             ·rw [if_pos c29] at H
              have c29b0 : decide (x14_4 < (l0.length : Int)) = true := decide_eq_true c29
              clear c29
              by_cases c30 : 0 ≤ x14_4
              ·rw [if_pos c30] at H
               have c30b0 : decide (0 ≤ x14_4) = true := decide_eq_true c30
               clear c30
               obtain ⟨t123, A31, H⟩ := bd H
               by_cases c32 : t123 = true
               ·subst c32
                rw [if_pos rfl] at H
                have H' := Aside0.mk H
                clear H
                have p122 : 0 ≤ (x14_4 : Int) := of_decide_eq_true za
                have q122 : x14_4 < (l0.length : Int) := of_decide_eq_true za
                obtain ⟨ad122, e122, hx122_0⟩ := Kd.at_string HR0.out x14_4 p122 q122
                cases e122
                replace hx122_0 := (HB.out.cell (World.block_lt_of_cell? w _ hx122_0)).trans hx122_0
                replace p122 := eq_true p122
                replace q122 := eq_true q122
                go_wp2_with (first | ((with_reducible refine gate_callee (f := 24) rfl ?_); refine goesL_ (some 104) rfl rfl Tryz.func24 (by kernel_rfl) rfl #[.string t104, .string (rdOf ByteArray.empty l0 x14_4)] rfl zl ?_; (with_reducible refine (address_HasTag.calls k4 t104 (rdOf ByteArray.empty l0 x14_4) true _ A31.out).mono ?_); rintro e w33 ⟨rfl, hb⟩; refine ⟨_, rfl, ?_⟩; replace HO_118000 := rb HO_118000 hb; replace BK108 := bb BK108 hb; replace BK117 := bb BK117 hb; replace HB := sb w hb; clear hb))
                go_roundg k4
                case measure => have := HJ3.out; have := HK2.out; have := HJ12.out; have := HK4.out; omega
                case rel => exact ⟨(wrap64 (x14_4 + 1)), zS, H', ⟨by have := HJ3.out; have := HK2.out; have := HJ12.out; have := HK4.out; omega⟩, ⟨kr HO_118000⟩, ⟨kb BK108⟩, ⟨kb BK117⟩, ⟨zB⟩⟩
               ·replace c32 := Bool.eq_false_iff.mpr c32
                subst c32
                rw [if_neg Bool.false_ne_true] at H
                obtain rfl := Option.some.inj H
                have p122 : 0 ≤ (x14_4 : Int) := of_decide_eq_true za
                have q122 : x14_4 < (l0.length : Int) := of_decide_eq_true za
                obtain ⟨ad122, e122, hx122_0⟩ := Kd.at_string HR0.out x14_4 p122 q122
                cases e122
                replace hx122_0 := (HB.out.cell (World.block_lt_of_cell? w _ hx122_0)).trans hx122_0
                replace p122 := eq_true p122
                replace q122 := eq_true q122
                exact weirgatelaw06_AddressTagsMatchSpec.lf
              ·rw [if_neg c30] at H
               exact absurd H (by simp)
             ·rw [if_neg c29] at H
              have c29b0 : decide (x14_4 < (l0.length : Int)) = false := decide_eq_false c29
              clear c29
              obtain ⟨⟨t124, t125⟩, A30, H⟩ := bd H
              dsimp only at H
              obtain ⟨t128, A31, H⟩ := bd H
              by_cases c32 : t128 = true
              ·subst c32
               rw [if_pos rfl] at H
               obtain rfl := Option.some.inj H
               exact weirgatelaw06_AddressTagsMatchSpec.lf
              ·replace c32 := Bool.eq_false_iff.mpr c32
               subst c32
               rw [if_neg Bool.false_ne_true] at H
               obtain rfl := Option.some.inj H
               exact weirgatelaw06_AddressTagsMatchSpec.lf
          ·rw [if_neg c28] at H
           have c28b0 : (t105 == 0) = false := beq_eq_false_iff_ne.mpr c28
           have c28b1 : (t105 != 0) = true := bne_iff_ne.mpr c28
           obtain ⟨t121, A29, H⟩ := bd H
           obtain rfl := Option.some.inj H
           go_wp2_with (first | ((with_reducible refine gate_callee (f := 11) rfl ?_); refine goesL_ (some 92) rfl rfl Tryz.func11 (by kernel_rfl) rfl #[] rfl zl ?_; (with_reducible refine (weirgatelaw06_sanity.calls kj12  t121 _ A29.out).mono ?_); rintro e w30 ⟨rfl, hb⟩; refine ⟨_, rfl, ?_⟩; replace HO_118000 := rb HO_118000 hb; replace BK108 := bb BK108 hb; replace BK117 := bb BK117 hb; replace HB := sb w hb; clear hb))
           go_ret
           exact ⟨zE, zB⟩
end Go.Proofs.YtmokgpepeddopaaGreatDoor.P
end
