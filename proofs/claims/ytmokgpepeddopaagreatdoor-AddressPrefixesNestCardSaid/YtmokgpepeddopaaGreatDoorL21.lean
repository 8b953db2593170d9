/- Lemmas on the way to the statement: part 21 of 34 (functions as plain Lean functions, and that each call comes to what they say). -/
import Derived.Test.YtmokgpepeddopaaGreatDoorL12
import Derived.Test.YtmokgpepeddopaaGreatDoorL14
import Derived.Test.YtmokgpepeddopaaGreatDoorL18
import Derived.Test.YtmokgpepeddopaaGreatDoorL17
import Derived.Test.YtmokgpepeddopaaGreatDoorL19
section
namespace Go.Proofs.YtmokgpepeddopaaGreatDoor.P
open Go.RowKit Go.Proofs.YtmokgpepeddopaaGreatDoorW.PrintWords Go.Proofs.YtmokgpepeddopaaGreatDoorW.PrintLast Go.Proofs.YtmokgpepeddopaaGreatDoorW.PrintMore
attribute [local go_sem] max2_int min2_int max_two min_two max_three min_three max_four min_four
attribute [local go_sem high] binOp_string_leq2 binOp_string_gtr2
set_option linter.unusedVariables false
set_option linter.unusedSimpArgs false
mutual
def address_Covers.j0 : Nat → Bool → Int → ByteArray → List (S97) → Bool → Int → ByteArray → List (S97) → Bool → Option (Bool × ByteArray × Int)
 | 0, _, _, _, _, _, _, _, _, _ => none
 | k + 1, x32, x109000, x109001, x109002, x109003, x117000, x117001, x117002, x117003 => if x32 = true then (some (false, (⟨#[]⟩ : ByteArray), 1)) else ((address_part_with.f x117000 x117001 (⟨#[97]⟩ : ByteArray)).bind fun t117 => ((address_pattern_words.f k x117000 x117001 x117002 x117003).bind fun t118 => ((address_part_covers.f x109000 x109001 x117000 x117001).bind fun t121 => (if t121 = true then (if (x109002.length : Int) > (x117002.length : Int) then (address_Covers.j1 k t117 t118 (decide ((x109002.length : Int) > (x117002.length : Int))) x109000 x109001 x109002 x109003 x117000 x117001 x117002 x117003) else (if (x109002.length : Int) < (x117002.length : Int) then (address_Covers.j1 k t117 t118 (!x109003) x109000 x109001 x109002 x109003 x117000 x117001 x117002 x117003) else (address_Covers.j1 k t117 t118 false x109000 x109001 x109002 x109003 x117000 x117001 x117002 x117003))) else ((address_part_without.f x117000 x117001 x109000 x109001).bind fun t122 => ((address_example.f t122 t118).bind fun t123 => (some (false, t123, 0))))))))
def address_Covers.j2 : Nat → ByteArray → List ByteArray → Int → ByteArray → List (S97) → Bool → Int → ByteArray → List (S97) → Bool → Option (Bool × ByteArray × Int)
 | 0, _, _, _, _, _, _, _, _, _, _ => none
 | k + 1, x11, x12, x109000, x109001, x109002, x109003, x117000, x117001, x117002, x117003 => address_Covers.l0 k x11 x12 x109002 (x109002.length : Int) 0 x117000 x117001 x117002 x117003
def address_Covers.l0 : Nat → ByteArray → List ByteArray → List (S97) → Int → Int → Int → ByteArray → List (S97) → Bool → Option (Bool × ByteArray × Int)
 | 0, _, _, _, _, _, _, _, _, _ => none
 | k + 1, x11, x12, x86, x87, x88, x117000, x117001, x117002, x117003 => if x88 < x87 then (if 0 ≤ x88 then (if x88 < (x86.length : Int) then (if x88 < (x117002.length : Int) then ((address_part_covers.f ((rd_T97 x86 x88).f0) ((rd_T97 x86 x88).f1) ((rd_T97 x117002 x88).f0) ((rd_T97 x117002 x88).f1)).bind fun t132 => (if t132 = true then (address_Covers.l0 k x11 x12 x86 x87 (wrap64 (x88 + 1)) x117000 x117001 x117002 x117003) else ((address_part_without.f ((rd_T97 x117002 x88).f0) ((rd_T97 x117002 x88).f1) ((rd_T97 x86 x88).f0) ((rd_T97 x86 x88).f1)).bind fun t134 => (if x88 < (x12.length : Int) then ((address_example.f x11 (x12.set (x88 : Int).toNat t134)).bind fun t136 => (some (false, t136, 0))) else (none))))) else (none)) else (none)) else (none)) else (some (true, (⟨#[]⟩ : ByteArray), 0))
def address_Covers.j1 : Nat → ByteArray → List ByteArray → Bool → Int → ByteArray → List (S97) → Bool → Int → ByteArray → List (S97) → Bool → Option (Bool × ByteArray × Int)
 | 0, _, _, _, _, _, _, _, _, _, _, _ => none
 | k + 1, x11, x12, x57, x109000, x109001, x109002, x109003, x117000, x117001, x117002, x117003 => if x57 = true then ((address_example.f x11 x12).bind fun t124 => (some (false, t124, 0))) else (if x117003 = true then (if x109003 = true then (address_Covers.j2 k x11 x12 x109000 x109001 x109002 x109003 x117000 x117001 x117002 x117003) else (if x12.length < 8796093022208 then ((address_example.f x11 (x12 ++ [(⟨#[97]⟩ : ByteArray)])).bind fun t128 => (some (false, t128, 0))) else (none))) else (address_Covers.j2 k x11 x12 x109000 x109001 x109002 x109003 x117000 x117001 x117002 x117003))
end
def address_Covers.f (k : Nat) (a0 : ByteArray) (a1 : ByteArray) : Option (Bool × ByteArray × Int) := (address_compile.f a0).bind fun bt101 => ((address_compile.f a1).bind fun bt109 => (if bt101.2.2.2.2 = true then (address_Covers.j0 k (!bt109.2.2.2.2) bt101.1 bt101.2.1 bt101.2.2.1 bt101.2.2.2.1 bt109.1 bt109.2.1 bt109.2.2.1 bt109.2.2.2.1) else (address_Covers.j0 k true bt101.1 bt101.2.1 bt101.2.2.1 bt101.2.2.2.1 bt109.1 bt109.2.1 bt109.2.2.1 bt109.2.2.2.1)))
def address_Covers.T8 : Bool × List (List Nat × List Nat) := (true, [([], []), ([0], [0]), ([1], [1]), ([], []), ([3], [3]), ([4], [4]), ([2, 0, 1, 2], [2]), ([5, 6, 0, 1, 2, 3, 4, 5, 6], [5])])
def address_Covers.B8 : List Nat := [0, 1, 3, 0, 8, 24, 7, 127]
theorem address_Covers.tab8 : rtab .any (opsOf Tryz.f27 8) = address_Covers.T8 := by kernel_rfl
theorem address_Covers.bits8 : waitsOk address_Covers.T8.2 address_Covers.B8 = true := by kernel_rfl
def address_Covers.T17 : Bool × List (List Nat × List Nat) := (true, [([], []), ([], []), ([1], [1]), ([], []), ([2, 3], [2, 3]), ([4], [4]), ([0, 5], [0, 5]), ([6], [6])])
def address_Covers.B17 : List Nat := [0, 0, 2, 0, 14, 30, 63, 127]
theorem address_Covers.tab17 : rtab .any (opsOf Tryz.f27 17) = address_Covers.T17 := by kernel_rfl
theorem address_Covers.bits17 : waitsOk address_Covers.T17.2 address_Covers.B17 = true := by kernel_rfl
def address_Covers.T18 : Bool × List (List Nat × List Nat) := (true, [([], []), ([], []), ([], []), ([2], [2]), ([], []), ([3, 4], [3, 4]), ([5], [5]), ([], []), ([6, 7], [6, 7]), ([0, 1, 0, 1, 2, 3, 4, 5, 6, 7, 8], [0, 1]), ([9, 8, 8, 0, 1, 2, 3, 4, 5, 6, 7, 8], [8, 9])])
def address_Covers.B18 : List Nat := [0, 0, 0, 4, 0, 28, 60, 0, 252, 511, 1023]
theorem address_Covers.tab18 : rtab .any (opsOf Tryz.f27 18) = address_Covers.T18 := by kernel_rfl
theorem address_Covers.bits18 : waitsOk address_Covers.T18.2 address_Covers.B18 = true := by kernel_rfl
set_option maxHeartbeats 8000000 in
set_option maxRecDepth 100000 in
theorem address_Covers.calls (k : Nat) (a0 : ByteArray) (a1 : ByteArray) (r1 : Bool) (r2 : ByteArray) (r3 : Int) (w : World) (h : address_Covers.f k a0 a1 = some (r1, r2, r3)) :
  Calls Tryz.prog 27 #[.string a0, .string a1] w fun e w' => e = .returned (.tuple #[.bool r1, .string r2, .int .i64 r3]) ∧ Below w.heap.size w w' := by
 have hu100 := Tryz.underlying100
 have hu97 := Tryz.underlying97
 have HB := Aside0.mk (Below.refl w.heap.size w)
 have H : ((address_compile.f a0).bind fun bt101 => ((address_compile.f a1).bind fun bt109 => (if bt101.2.2.2.2 = true then (address_Covers.j0 k (!bt109.2.2.2.2) bt101.1 bt101.2.1 bt101.2.2.1 bt101.2.2.2.1 bt109.1 bt109.2.1 bt109.2.2.1 bt109.2.2.2.1) else (address_Covers.j0 k true bt101.1 bt101.2.1 bt101.2.2.1 bt101.2.2.2.1 bt109.1 bt109.2.1 bt109.2.2.1 bt109.2.2.2.1)))) = some (r1, r2, r3) := h
 clear h
 obtain ⟨⟨t101, t102, t103, t106, t107⟩, A3, H⟩ := bd H
 dsimp only at H
 obtain ⟨⟨t109, t110, t111, t114, t115⟩, A4, H⟩ := bd H
 dsimp only at H
 have HC5 := Aside0.mk H
 clear H
 go_enter Tryz.func27, Tryz.ntmps27
 go_upto_region 3 with (first | ((with_reducible refine gate_callee (f := 69) rfl ?_); refine goesL_ (some 19) rfl rfl Tryz.func69 (by kernel_rfl) rfl #[.string a0] rfl zl ?_; (with_reducible refine (address_compile.calls a0 t101 t102 t103 t106 t107 _ A3.out).mono ?_); rintro e w6 ⟨v104, rfl, ho0, hb⟩; refine ⟨_, rfl, ?_⟩; have HO105 := Aside0.mk (Kd.R_lower ho0 (below_size zB)); replace HB := sb w hb; clear hb ho0) | ((with_reducible refine gate_dst (N := 7) rfl ?_); refine bx 7 #[.int .i64 0, .string (⟨#[]⟩ : ByteArray), .slice none 0 0, .bool false] 100 fun gb108 hg w7 hbox hb => ?_; replace HO105 := rb HO105 hb; have BK108 := Aside0.mk (hbox); have GW108 := gw w hg; have GE108 := gw w hg; replace HB := sb w hb; clear hb hbox hg; obtain ⟨hcz8_0, hcz8_1, hcz8_2, hcz8_3, hfz8_0, hfz8_1, hfz8_2, hfz8_3⟩ := cf4 BK108; obtain ⟨Ao9, co9, eo9⟩ := Kd.R_slice HO105.out; subst eo9) | ((with_reducible refine gate_callee (f := 69) rfl ?_); refine goesL_ (some 24) rfl rfl Tryz.func69 (by kernel_rfl) rfl #[.string a1] rfl zl ?_; (with_reducible refine (address_compile.calls a1 t109 t110 t111 t114 t115 _ A4.out).mono ?_); rintro e w10 ⟨v112, rfl, ho0, hb⟩; refine ⟨_, rfl, ?_⟩; have HO113 := Aside0.mk (Kd.R_lower (Kd.R_new' ho0 (Kd.R_lt (kt HO105 BK108))) (below_size zB)); replace HO105 := Aside0.mk (Kd.R_elder' (kt HO105 BK108) (Kd.R_base ho0) hb); replace BK108 := bw #[.int .i64 t101, .string t102, .slice Ao9 t103.length co9, .bool t106] BK108 hb; replace HB := sb w hb; clear hb ho0) | ((with_reducible refine gate_dst (N := 9) rfl ?_); refine bx 9 #[.int .i64 0, .string (⟨#[]⟩ : ByteArray), .slice none 0 0, .bool false] 100 fun gb116 hg w11 hbox hb => ?_; replace HO105 := rb HO105 hb; replace HO113 := rb HO113 hb; have BK116 := Aside0.mk (hbox); have GW116 := gw w hg; have GE116 := gw w hg; replace HB := sb w hb; have NB108_116 := nl hg BK108; have NB116_108 := ng hg BK108; replace BK108 := bb BK108 hb; clear hb hbox hg; have hnb12 := NB116_108.out; have hnc12 := NB108_116.out; obtain ⟨hcz13_0, hcz13_1, hcz13_2, hcz13_3, hfz13_0, hfz13_1, hfz13_2, hfz13_3⟩ := cf4 BK116; obtain ⟨Ao14, co14, eo14⟩ := Kd.R_slice HO113.out; subst eo14))
 (try simp only [Act.put, List.setIfInBounds_toArray, List.set_cons_zero, List.set_cons_succ])
 go_cut [32] (fun v32 wc => ∃ (kq : Nat) (x32_4 : Bool), v32 = .bool x32_4 ∧ Aside0 (address_Covers.j0 kq x32_4 t101 t102 t103 t106 t109 t110 t111 t114 = some (r1, r2, r3)) ∧ Aside0 (kq ≤ k) ∧ Aside0 (Kd.R k97 97 wc w.heap.size (fun k_ => some k_ ≠ ((.slice Ao14 t111.length co14) : Value).ownBlock) (.slice Ao9 t103.length co9) t103) ∧ Aside0 (Kd.R k97 97 wc w.heap.size (fun k_ => some k_ ≠ ((.slice Ao9 t103.length co9) : Value).ownBlock) (.slice Ao14 t111.length co14) t111) ∧ Aside0 (wc.heap[gb108]? = some (.cells #[.int .i64 t101, .string t102, (.slice Ao9 t103.length co9), .bool t106] 100 (0, 0))) ∧ Aside0 (wc.heap[gb116]? = some (.cells #[.int .i64 t109, .string t110, (.slice Ao14 t111.length co14), .bool t114] 100 (0, 0))) ∧ Aside0 (Below w.heap.size w wc))
 case first =>
  have H := HC5.out
  clear HC5
  by_cases c15 : t107 = true
  ·subst c15
   rw [if_pos rfl] at H
   have H' := Aside0.mk H
   clear H
   go_wp2
   go_meet
   case rel => exact ⟨_, (!t115), zS, H', ⟨zo⟩, ⟨by (with_reducible repeat (first | apply Kd.R_alloc | apply Kd.R_drewN | apply Kd.R_drew)); exact Kd.R_mono (Kd.R_far (p := ⟨gb116, 3, none⟩) (Kd.R_far (p := ⟨gb116, 2, none⟩) (Kd.R_far (p := ⟨gb116, 1, none⟩) (Kd.R_far (p := ⟨gb116, 0, none⟩) (Kd.R_types HO105.out BK116.out (by decide)) (fun _ hk => hk.2) (.int .i64 t109)) (fun _ hk => hk.2) (.string t110)) (fun _ hk => hk.2) (.slice Ao14 t111.length co14)) (fun _ hk => hk.2) (.bool t114)) (fun _ hk => hk.1.2)⟩, ⟨by (with_reducible repeat (first | apply Kd.R_alloc | apply Kd.R_drewN | apply Kd.R_drew)); exact Kd.R_mono (Kd.R_far (p := ⟨gb116, 3, none⟩) (Kd.R_far (p := ⟨gb116, 2, none⟩) (Kd.R_far (p := ⟨gb116, 1, none⟩) (Kd.R_far (p := ⟨gb116, 0, none⟩) (Kd.R_types HO113.out BK116.out (by decide)) (fun _ hk => hk.2) (.int .i64 t109)) (fun _ hk => hk.2) (.string t110)) (fun _ hk => hk.2) (.slice Ao14 t111.length co14)) (fun _ hk => hk.2) (.bool t114)) (fun _ hk => hk.1.2)⟩, ⟨kf BK108⟩, ⟨kp _ BK116⟩, ⟨zB⟩⟩
  ·replace c15 := Bool.eq_false_iff.mpr c15
   subst c15
   rw [if_neg Bool.false_ne_true] at H
   have H' := Aside0.mk H
   clear H
   go_wp2
   go_meet
   case rel => exact ⟨_, (true), zS, H', ⟨zo⟩, ⟨by (with_reducible repeat (first | apply Kd.R_alloc | apply Kd.R_drewN | apply Kd.R_drew)); exact Kd.R_mono (Kd.R_far (p := ⟨gb116, 3, none⟩) (Kd.R_far (p := ⟨gb116, 2, none⟩) (Kd.R_far (p := ⟨gb116, 1, none⟩) (Kd.R_far (p := ⟨gb116, 0, none⟩) (Kd.R_types HO105.out BK116.out (by decide)) (fun _ hk => hk.2) (.int .i64 t109)) (fun _ hk => hk.2) (.string t110)) (fun _ hk => hk.2) (.slice Ao14 t111.length co14)) (fun _ hk => hk.2) (.bool t114)) (fun _ hk => hk.1.2)⟩, ⟨by (with_reducible repeat (first | apply Kd.R_alloc | apply Kd.R_drewN | apply Kd.R_drew)); exact Kd.R_mono (Kd.R_far (p := ⟨gb116, 3, none⟩) (Kd.R_far (p := ⟨gb116, 2, none⟩) (Kd.R_far (p := ⟨gb116, 1, none⟩) (Kd.R_far (p := ⟨gb116, 0, none⟩) (Kd.R_types HO113.out BK116.out (by decide)) (fun _ hk => hk.2) (.int .i64 t109)) (fun _ hk => hk.2) (.string t110)) (fun _ hk => hk.2) (.slice Ao14 t111.length co14)) (fun _ hk => hk.2) (.bool t114)) (fun _ hk => hk.1.2)⟩, ⟨kf BK108⟩, ⟨kp _ BK116⟩, ⟨zB⟩⟩
 case rest =>
  clear HC5
  obtain ⟨kq, x32_4, rfl, HA, HJ4, HO_109002, HO_117002, BK108, BK116, HB⟩ := hcut
  cases kq with
  | zero => exact absurd HA.out (by simp [address_Covers.j0])
  | succ kj4 =>
   have H := HA.out
   clear HA
   simp only [address_Covers.j0] at H
   by_cases c16 : x32_4 = true
   ·subst c16
    rw [if_pos rfl] at H
    simp only [Option.some.injEq, Prod.mk.injEq] at H
    obtain ⟨rfl, rfl, rfl⟩ := H
    go_wp2
    go_ret3
    exact ⟨zE, zB⟩
   ·replace c16 := Bool.eq_false_iff.mpr c16
    subst c16
    rw [if_neg Bool.false_ne_true] at H
    obtain ⟨t117, A17, H⟩ := bd H
    obtain ⟨t118, A18, H⟩ := bd H
    obtain ⟨t121, A19, H⟩ := bd H
    by_cases c20 : t121 = true
    ·subst c20
     rw [if_pos rfl] at H
     have HC21 := Aside0.mk H
     clear H
     try go_wp2
     replace HO_109002 := Aside0.mk (Kd.R_drew HO_109002.out)
     replace HO_117002 := Aside0.mk (Kd.R_drew HO_117002.out)
     replace BK108 := Aside0.mk (blk_drew BK108.out)
     replace BK116 := Aside0.mk (blk_drew BK116.out)
     replace HB := Aside0.mk (below_drew1 HB.out)
     refine start_ (n := 7) (S := fun w' => w'.cell? ⟨gb116, 0, none⟩ = some (.int .i64 t109) ∧ w'.cell? ⟨gb116, 1, none⟩ = some (.string t110) ∧ w'.cell? ⟨gb116, 2, none⟩ = some (.slice Ao14 t111.length co14) ∧ w'.cell? ⟨gb116, 3, none⟩ = some (.bool t114)) (ds := []) #[false, false, false, false, false, false, false] (by kernel_rfl) rfl rfl zh (fun hHeld => ?_)
     generalize wc.drew = w22 at HO_109002 HO_117002 BK108 BK116 HB hHeld ⊢
     refine pu 0 33 ?_
     refine tk 1 34 ?_
     refine tk 3 36 ?_
     refine on 2 (some 35) fun K hK => ?_
     refine goes_ Tryz.func70 (by kernel_rfl) rfl #[.agg #[.int .i64 t109, .string t110], .string (⟨#[97]⟩ : ByteArray)] (by rfl) rfl rfl zl ?_
     with_reducible refine (address_part_with.calls t109 t110 (⟨#[97]⟩ : ByteArray) t117 _ A17.out).mono ?_
     rintro e w23 ⟨rfl, hb⟩
     refine ⟨_, rfl, ?_⟩
     replace HO_109002 := rb HO_109002 hb
     replace HO_117002 := rb HO_117002 hb
     replace BK108 := bb BK108 hb
     replace BK116 := bb BK116 hb
     replace HB := sb w hb
     clear hb
     refine hK.out _ _ zh (fun hHeld => ?_)
     clear hK K
     refine nm 35 ?_
     refine on 4 (some 37) fun K hK => ?_
     refine goes_ Tryz.func71 (by kernel_rfl) rfl #[.agg #[.int .i64 t109, .string t110, .slice Ao14 t111.length co14, .bool t114]] (by rfl) rfl rfl zl ?_
     with_reducible refine (address_pattern_words.calls kj4 t109 t110 _ _ t111 t114 t118 _ ?side1 ?side2 A18.out).mono ?_
     (case side1 => repeat (first | exact (Kd.R_reads' HO_117002.out).2.2 | (with_reducible refine Kd.C_alloc ?_ _) | (with_reducible refine Kd.C_drewN ?_ _) | (with_reducible refine Kd.C_drew ?_)))
     (case side2 => exact (Kd.R_reads' HO_117002.out).2.1)
     rintro e w24 ⟨v119, rfl, ho0, hb⟩
     refine ⟨_, rfl, ?_⟩
     replace HO_109002 := rb HO_109002 hb
     replace HO_117002 := rb HO_117002 hb
     have HO120 := Aside0.mk (Kd.R_lower ho0 (below_size zB))
     replace BK108 := bb BK108 hb
     replace BK116 := bb BK116 hb
     replace HB := sb w hb
     clear hb ho0
     refine hK.out _ _ zh (fun hHeld => ?_)
     clear hK K
     refine nm 37 ?_
     refine pu 5 11 ?_
     refine pu 6 12 ?_
     refine dn ?_
     have hnb25 := NB108_116.out
     have hnc25 := NB116_108.out
     obtain ⟨hcz26_0, hcz26_1, hcz26_2, hcz26_3, hfz26_0, hfz26_1, hfz26_2, hfz26_3⟩ := cf4 BK108
     obtain ⟨hcz27_0, hcz27_1, hcz27_2, hcz27_3, hfz27_0, hfz27_1, hfz27_2, hfz27_3⟩ := cf4 BK116
     try go_wp2_with (first | ((with_reducible refine gate_callee (f := 72) rfl ?_); refine goesL_ (some 42) rfl rfl Tryz.func72 (by kernel_rfl) rfl #[.agg #[.int .i64 t101, .string t102], .agg #[.int .i64 t109, .string t110]] rfl zl ?_; (with_reducible refine (address_part_covers.calls t101 t102 t109 t110 true _ A19.out).mono ?_); rintro e w28 ⟨rfl, hb⟩; refine ⟨_, rfl, ?_⟩; replace HO_109002 := rb HO_109002 hb; replace HO_117002 := rb HO_117002 hb; replace HO120 := rb HO120 hb; replace BK108 := bb BK108 hb; replace BK116 := bb BK116 hb; replace HB := sb w hb; clear hb))
     replace HO_109002 := Aside0.mk (Kd.R_drew HO_109002.out)
     replace HO_117002 := Aside0.mk (Kd.R_drew HO_117002.out)
     replace HO120 := Aside0.mk (Kd.R_drew HO120.out)
     replace BK108 := Aside0.mk (blk_drew BK108.out)
     replace BK116 := Aside0.mk (blk_drew BK116.out)
     replace HB := Aside0.mk (below_drew1 HB.out)
     refine start_ (n := 8) (S := fun w' => w'.cell? ⟨gb108, 0, none⟩ = some (.int .i64 t101) ∧ w'.cell? ⟨gb108, 1, none⟩ = some (.string t102) ∧ w'.cell? ⟨gb108, 2, none⟩ = some (.slice Ao9 t103.length co9) ∧ w'.cell? ⟨gb108, 3, none⟩ = some (.bool t106) ∧ w'.cell? ⟨gb116, 0, none⟩ = some (.int .i64 t109) ∧ w'.cell? ⟨gb116, 1, none⟩ = some (.string t110) ∧ w'.cell? ⟨gb116, 2, none⟩ = some (.slice Ao14 t111.length co14) ∧ w'.cell? ⟨gb116, 3, none⟩ = some (.bool t114)) (ds := []) #[false, false, false, false, false, false, false, false] (by kernel_rfl) rfl rfl zh (fun hHeld => ?_); refine with_tabW address_Covers.tab8 address_Covers.bits8 (fun HT_ HW_ => ?_)
     generalize w28.drew = w29 at HO_109002 HO_117002 HO120 BK108 BK116 HB hHeld ⊢
     refine pu 0 51 ?_
     refine pu 3 54 ?_
     refine tk 1 52 ?_
     refine pu 2 53 ?_
     refine pu 6 13 ?_
     refine tk 4 55 ?_
     refine pu 5 56 ?_
     refine pu 7 14 ?_
     refine dn ?_
     go_upto_block 0 with (fail)
     go_cut [] (fun wc => ∃ (kq : Nat), Aside0 (address_Covers.j2 kq t117 t118 t101 t102 t103 t106 t109 t110 t111 t114 = some (r1, r2, r3)) ∧ Aside0 (kq ≤ kj4) ∧ Aside0 (Kd.R Kd.string 9 wc w.heap.size (fun _ => True) v119 t118) ∧ Aside0 (Kd.R k97 97 wc w.heap.size (fun k_ => some k_ ≠ ((.slice Ao14 t111.length co14) : Value).ownBlock) (.slice Ao9 t103.length co9) t103) ∧ Aside0 (Kd.R k97 97 wc w.heap.size (fun k_ => some k_ ≠ ((.slice Ao9 t103.length co9) : Value).ownBlock) (.slice Ao14 t111.length co14) t111) ∧ Aside0 (wc.heap[gb108]? = some (.cells #[.int .i64 t101, .string t102, (.slice Ao9 t103.length co9), .bool t106] 100 (0, 0))) ∧ Aside0 (wc.heap[gb116]? = some (.cells #[.int .i64 t109, .string t110, (.slice Ao14 t111.length co14), .bool t114] 100 (0, 0))) ∧ Aside0 (Below w.heap.size w wc))
     case first =>
      have H := HC21.out
      clear HC21
      have HC30 := Aside0.mk H
      clear H
      go_upto_if 57 with (fail)
      go_cut [57] (fun v57 wc => ∃ (kq : Nat) (x57_29 : Bool), v57 = .bool x57_29 ∧ Aside0 (address_Covers.j1 kq t117 t118 x57_29 t101 t102 t103 t106 t109 t110 t111 t114 = some (r1, r2, r3)) ∧ Aside0 (kq ≤ kj4) ∧ Aside0 (Kd.R Kd.string 9 wc w.heap.size (fun _ => True) v119 t118) ∧ Aside0 (Kd.R k97 97 wc w.heap.size (fun k_ => some k_ ≠ ((.slice Ao14 t111.length co14) : Value).ownBlock) (.slice Ao9 t103.length co9) t103) ∧ Aside0 (Kd.R k97 97 wc w.heap.size (fun k_ => some k_ ≠ ((.slice Ao9 t103.length co9) : Value).ownBlock) (.slice Ao14 t111.length co14) t111) ∧ Aside0 (wc.heap[gb108]? = some (.cells #[.int .i64 t101, .string t102, (.slice Ao9 t103.length co9), .bool t106] 100 (0, 0))) ∧ Aside0 (wc.heap[gb116]? = some (.cells #[.int .i64 t109, .string t110, (.slice Ao14 t111.length co14), .bool t114] 100 (0, 0))) ∧ Aside0 (Below w.heap.size w wc))
      case first =>
       have H := HC30.out
       clear HC30
       by_cases c31 : (t103.length : Int) > (t111.length : Int)
       ·rw [if_pos c31] at H
        have c31b0 : decide ((t111.length : Int) < (t103.length : Int)) = true := decide_eq_true c31
        have c31b1 : decide (t111.length < t103.length) = true := decide_eq_true (Int.ofNat_lt.mp c31)
        have c31q1 : t111.length < t103.length := of_decide_eq_true c31b1
        clear c31
        (first | rw [c31b0] | (simp only [i64_w, i32_w]; rw [c31b0]) | skip)
        have H' := Aside0.mk H
        clear H
        go_wp2
        go_meet
        case rel => exact ⟨_, (decide ((t103.length : Int) > (t111.length : Int))), zS, H', ⟨by have := HJ4.out; first | omega | exact Nat.le_refl _⟩, ⟨kr HO120⟩, ⟨kr HO_109002⟩, ⟨kr HO_117002⟩, ⟨kb BK108⟩, ⟨kb BK116⟩, ⟨zB⟩⟩
       ·rw [if_neg c31] at H
        have c31b0 : decide ((t111.length : Int) < (t103.length : Int)) = false := decide_eq_false c31
        have c31b1 : decide (t111.length < t103.length) = false := decide_eq_false (fun h => c31 (Int.ofNat_lt.mpr h))
        have c31q1 : ¬ (t111.length < t103.length) := of_decide_eq_false c31b1
        clear c31
        (first | rw [c31b0] | (simp only [i64_w, i32_w]; rw [c31b0]) | skip)
        by_cases c32 : (t103.length : Int) < (t111.length : Int)
        ·rw [if_pos c32] at H
         have c32b0 : decide ((t103.length : Int) < (t111.length : Int)) = true := decide_eq_true c32
         have c32b1 : decide (t103.length < t111.length) = true := decide_eq_true (Int.ofNat_lt.mp c32)
         have c32q1 : t103.length < t111.length := of_decide_eq_true c32b1
         clear c32
         have H' := Aside0.mk H
         clear H
         have hnb33 := NB108_116.out
         have hnc33 := NB116_108.out
         obtain ⟨hcz34_0, hcz34_1, hcz34_2, hcz34_3, hfz34_0, hfz34_1, hfz34_2, hfz34_3⟩ := cf4 BK108
         go_wp2
         go_meet
         case rel => exact ⟨_, (!t106), zS, H', ⟨by have := HJ4.out; first | omega | exact Nat.le_refl _⟩, ⟨kr HO120⟩, ⟨kr HO_109002⟩, ⟨kr HO_117002⟩, ⟨kb BK108⟩, ⟨kb BK116⟩, ⟨zB⟩⟩
        ·rw [if_neg c32] at H
         have c32b0 : decide ((t103.length : Int) < (t111.length : Int)) = false := decide_eq_false c32
         have c32b1 : decide (t103.length < t111.length) = false := decide_eq_false (fun h => c32 (Int.ofNat_lt.mpr h))
         have c32q1 : ¬ (t103.length < t111.length) := of_decide_eq_false c32b1
         clear c32
         have H' := Aside0.mk H
         clear H
         go_wp2
         go_meet
         case rel => exact ⟨_, (false), zS, H', ⟨by have := HJ4.out; first | omega | exact Nat.le_refl _⟩, ⟨kr HO120⟩, ⟨kr HO_109002⟩, ⟨kr HO_117002⟩, ⟨kb BK108⟩, ⟨kb BK116⟩, ⟨zB⟩⟩
      case rest =>
       clear HC30
       obtain ⟨kq, x57_29, rfl, HA, HJ29, HO_12, HO_109002, HO_117002, BK108, BK116, HB⟩ := hcut
       cases kq with
       | zero => exact absurd HA.out (by simp [address_Covers.j1])
       | succ kj29 =>
        have H := HA.out
        clear HA
        simp only [address_Covers.j1] at H
        by_cases c33 : x57_29 = true
        ·subst c33
         rw [if_pos rfl] at H
         obtain ⟨t124, A34, H⟩ := bd H
         simp only [Option.some.injEq, Prod.mk.injEq] at H
         obtain ⟨rfl, rfl, rfl⟩ := H
         obtain ⟨Ao35, co35, eo35⟩ := Kd.R_slice HO_12.out
         subst eo35
         go_wp2_with (first | ((with_reducible refine gate_callee (f := 73) rfl ?_); refine goesL_ (some 71) rfl rfl Tryz.func73 (by kernel_rfl) rfl #[.string t117, .slice Ao35 t118.length co35] rfl zl ?_; (with_reducible refine (address_example.calls t117 _ _ t118 t124 _ ?side1 ?side2 A34.out).mono ?_); (case side1 => repeat (first | exact (Kd.R_reads' HO_12.out).2.2 | (with_reducible refine Kd.C_alloc ?_ _) | (with_reducible refine Kd.C_drewN ?_ _) | (with_reducible refine Kd.C_drew ?_))); (case side2 => exact (Kd.R_reads' HO_12.out).2.1); rintro e w36 ⟨rfl, hb⟩; refine ⟨_, rfl, ?_⟩; replace HO_12 := rb HO_12 hb; replace HO_109002 := rb HO_109002 hb; replace HO_117002 := rb HO_117002 hb; replace BK108 := bb BK108 hb; replace BK116 := bb BK116 hb; replace HB := sb w hb; clear hb))
         go_ret3
         exact ⟨zE, zB⟩
        ·replace c33 := Bool.eq_false_iff.mpr c33
         subst c33
         rw [if_neg Bool.false_ne_true] at H
         by_cases c34 : t114 = true
         ·subst c34
          rw [if_pos rfl] at H
          by_cases c35 : t106 = true
          ·subst c35
           rw [if_pos rfl] at H
           have H' := Aside0.mk H
           clear H
           have hnb36 := NB116_108.out
           have hnc36 := NB108_116.out
           obtain ⟨hcz37_0, hcz37_1, hcz37_2, hcz37_3, hfz37_0, hfz37_1, hfz37_2, hfz37_3⟩ := cf4 BK116
           obtain ⟨hcz38_0, hcz38_1, hcz38_2, hcz38_3, hfz38_0, hfz38_1, hfz38_2, hfz38_3⟩ := cf4 BK108
           go_wp2
           go_meet
           case rel => exact ⟨_, H', ⟨by have := HJ4.out; have := HJ29.out; first | omega | exact Nat.le_refl _⟩, ⟨kr HO_12⟩, ⟨kr HO_109002⟩, ⟨kr HO_117002⟩, ⟨kb BK108⟩, ⟨kb BK116⟩, ⟨zB⟩⟩
          ·replace c35 := Bool.eq_false_iff.mpr c35
           subst c35
           rw [if_neg Bool.false_ne_true] at H
           by_cases c36 : t118.length < 8796093022208
           ·rw [if_pos c36] at H
            have LMc36 := Aside0.mk c36
            clear c36
            obtain ⟨y125, hy125⟩ : ∃ y_ : List ByteArray, y_ = (t118 ++ [(⟨#[97]⟩ : ByteArray)]) := ⟨_, rfl⟩
            replace H : ((address_example.f t117 y125).bind fun t128 => (some (false, t128, 0))) = some (r1, r2, r3) := by first | (rw [hy125]; with_reducible exact H) | (have H2_ := (Option.bind_some _ _).symm.trans H; rw [hy125]; with_reducible exact H2_) | (have H2_ := (Option.bind_some _ _).symm.trans H; with_reducible exact H2_) | with_reducible exact H | (rw [hy125]; exact H) | exact H
            have Ny125 := Aside0.mk hy125
            clear hy125
            obtain ⟨t128, A37, H⟩ := bd H
            simp only [Option.some.injEq, Prod.mk.injEq] at H
            obtain ⟨rfl, rfl, rfl⟩ := H
            have hnb38 := NB116_108.out
            have hnc38 := NB108_116.out
            obtain ⟨hcz39_0, hcz39_1, hcz39_2, hcz39_3, hfz39_0, hfz39_1, hfz39_2, hfz39_3⟩ := cf4 BK116
            obtain ⟨hcz40_0, hcz40_1, hcz40_2, hcz40_3, hfz40_0, hfz40_1, hfz40_2, hfz40_3⟩ := cf4 BK108
            go_wp2_with (first | ((with_reducible refine gate_builtin (b := .append) (xs := #[.tmp 81, .tmp 82]) rfl ?_); at_builtin; refine Kd.R_append Kd.string (w0 := w) w.heap.size rfl (.tmp 81) (.tmp 82) 22 9 (.string ⟨#[]⟩) 16 rfl Tryz.underlying22 info9 rfl (by decide) (by omega) v119 t118 (⟨#[97]⟩ : ByteArray) [.string (⟨#[97]⟩ : ByteArray)] (fun _ => True) (fun _ => False) rfl rfl ?aP (fun _ hk => hk.elim) ?aF ?aO ?aB ?aS ?aL ?_; (case aP => exact rfl); (case aB => exact zB); (case aF => exact (fun _ _ => trivial)); (case aO => exact (kr HO_12)); (case aS => exact (below_size zB)); (case aL => have := LMc36.out; omega); intro v126 w41 ho hb hg hat; rw [← Ny125.out] at ho; replace HO_109002 := Aside0.mk (Kd.R_over' (kr HO_109002) (Kd.R_typed (kr HO_12)) (by decide) hg); replace HO_117002 := Aside0.mk (Kd.R_over' (kr HO_117002) (Kd.R_typed (kr HO_12)) (by decide) hg); replace BK108 := Aside0.mk (blk_grown (kb BK108) hg (Kd.R_ne HO_12.out BK108.out (by decide))); replace BK116 := Aside0.mk (blk_grown (kb BK116) hg (Kd.R_ne HO_12.out BK116.out (by decide))); replace HB := Aside0.mk (hb); have HO127 := Aside0.mk (ho); clear HO_12 ho hb hg hat; obtain ⟨Ao42, co42, eo42⟩ := Kd.R_slice HO127.out; subst eo42) | ((with_reducible refine gate_callee (f := 73) rfl ?_); refine goesL_ (some 84) rfl rfl Tryz.func73 (by kernel_rfl) rfl #[.string t117, .slice Ao42 y125.length co42] rfl zl ?_; (with_reducible refine (address_example.calls t117 _ _ y125 t128 _ ?side1 ?side2 A37.out).mono ?_); (case side1 => repeat (first | exact (Kd.R_reads' HO127.out).2.2 | (with_reducible refine Kd.C_alloc ?_ _) | (with_reducible refine Kd.C_drewN ?_ _) | (with_reducible refine Kd.C_drew ?_))); (case side2 => exact (Kd.R_reads' HO127.out).2.1); rintro e w43 ⟨rfl, hb⟩; refine ⟨_, rfl, ?_⟩; replace HO_109002 := rb HO_109002 hb; replace HO_117002 := rb HO_117002 hb; replace HO127 := rb HO127 hb; replace BK108 := bb BK108 hb; replace BK116 := bb BK116 hb; replace HB := sb w hb; clear hb))
            go_ret3
            exact ⟨zE, zB⟩
           ·rw [if_neg c36] at H
            exact absurd H (by simp)
         ·replace c34 := Bool.eq_false_iff.mpr c34
          subst c34
          rw [if_neg Bool.false_ne_true] at H
          have H' := Aside0.mk H
          clear H
          have hnb35 := NB116_108.out
          have hnc35 := NB108_116.out
          obtain ⟨hcz36_0, hcz36_1, hcz36_2, hcz36_3, hfz36_0, hfz36_1, hfz36_2, hfz36_3⟩ := cf4 BK116
          go_wp2
          go_meet
          case rel => exact ⟨_, H', ⟨by have := HJ4.out; have := HJ29.out; first | omega | exact Nat.le_refl _⟩, ⟨kr HO_12⟩, ⟨kr HO_109002⟩, ⟨kr HO_117002⟩, ⟨kb BK108⟩, ⟨kb BK116⟩, ⟨zB⟩⟩
     case rest =>
      clear HC21
      obtain ⟨kq, HA, HJ20, HO_12, HO_109002, HO_117002, BK108, BK116, HB⟩ := hcut
      cases kq with
      | zero => exact absurd HA.out (by simp [address_Covers.j2])
      | succ kj20 =>
       have H := HA.out
       clear HA
       simp only [address_Covers.j2] at H
       have H' := Aside0.mk H
       clear H
       have hnb37 := NB108_116.out
       have hnc37 := NB116_108.out
       obtain ⟨hcz38_0, hcz38_1, hcz38_2, hcz38_3, hfz38_0, hfz38_1, hfz38_2, hfz38_3⟩ := cf4 BK108
       go_wp2
       go_loopg [88] kj20 (fun kq v88 w' => ∃ (x12_3 : List ByteArray) (x88_3 : Int), v88 = .int .i64 x88_3 ∧ Aside0 (address_Covers.l0 kq t117 x12_3 t103 (t103.length : Int) x88_3 t109 t110 t111 t114 = some (r1, r2, r3)) ∧ Aside0 (kq ≤ kj20) ∧ Aside0 (Kd.R Kd.string 9 w' w.heap.size (fun _ => True) v119 x12_3) ∧ Aside0 (Kd.R k97 97 w' w.heap.size (fun k_ => some k_ ≠ ((.slice Ao14 t111.length co14) : Value).ownBlock) (.slice Ao9 t103.length co9) t103) ∧ Aside0 (Kd.R k97 97 w' w.heap.size (fun k_ => some k_ ≠ ((.slice Ao14 t111.length co14) : Value).ownBlock) (.slice Ao9 t103.length co9) t103) ∧ Aside0 (Kd.R k97 97 w' w.heap.size (fun k_ => some k_ ≠ ((.slice Ao9 t103.length co9) : Value).ownBlock ∧ some k_ ≠ ((.slice Ao9 t103.length co9) : Value).ownBlock) (.slice Ao14 t111.length co14) t111) ∧ Aside0 (w'.heap[gb108]? = some (.cells #[.int .i64 t101, .string t102, (.slice Ao9 t103.length co9), .bool t106] 100 (0, 0))) ∧ Aside0 (w'.heap[gb116]? = some (.cells #[.int .i64 t109, .string t110, (.slice Ao14 t111.length co14), .bool t114] 100 (0, 0))) ∧ Aside0 (Below w.heap.size w w'))
       case atStart => exact ⟨(t118), (0), zS, H', ⟨Nat.le_refl _⟩, ⟨kr HO_12⟩, ⟨kr HO_109002⟩, ⟨kr HO_109002⟩, ⟨by (with_reducible repeat (first | apply Kd.R_alloc | apply Kd.R_drewN | apply Kd.R_drew)); exact Kd.R_mono HO_117002.out (fun _ hk => ⟨hk, hk⟩)⟩, ⟨kb BK108⟩, ⟨kb BK116⟩, ⟨zB⟩⟩
       case round =>
        clear H'
        obtain ⟨x12_3, x88_3, rfl, HA, HK3, HO_12, HO_86, HO_109002, HO_117002, BK108, BK116, HB⟩ := hrel
        cases gk with
        | zero => exact absurd HA.out (by simp [address_Covers.l0])
        | succ k3 =>
         have H := HA.out
         clear HA
         simp only [address_Covers.l0] at H
         by_cases c39 : x88_3 < (t103.length : Int)
         ·rw [if_pos c39] at H
          have c39b0 : decide (x88_3 < (t103.length : Int)) = true := decide_eq_true c39
          clear c39
          by_cases c40 : 0 ≤ x88_3
          ·rw [if_pos c40] at H
           have c40b0 : decide (0 ≤ x88_3) = true := decide_eq_true c40
           clear c40
           by_cases c41 : x88_3 < (t103.length : Int)
           ·rw [if_pos c41] at H
            have c41b0 : decide (x88_3 < (t103.length : Int)) = true := decide_eq_true c41
            clear c41
            by_cases c42 : x88_3 < (t111.length : Int)
            ·rw [if_pos c42] at H
             have c42b0 : decide (x88_3 < (t111.length : Int)) = true := decide_eq_true c42
             clear c42
             obtain ⟨t132, A43, H⟩ := bd H
             by_cases c44 : t132 = true
             ·subst c44
              rw [if_pos rfl] at H
              have H' := Aside0.mk H
              clear H
              have p129 : 0 ≤ (x88_3 : Int) := of_decide_eq_true za
              have q129 : x88_3 < (t103.length : Int) := of_decide_eq_true za
              obtain ⟨ad129, e129, hx129_0, hx129_1⟩ := at_T97 (Kd.R_reads' HO_86.out).2.2 x88_3 p129 q129
              cases e129
              replace p129 := eq_true p129
              replace q129 := eq_true q129
              try go_wp2_with (first | ((with_reducible refine gate_dst (N := 16) rfl ?_); refine bx 16 #[.int .i64 0, .string (⟨#[]⟩ : ByteArray)] 97 fun gb130 hg w45 hbox hb => ?_; replace HO_12 := rb HO_12 hb; replace HO_86 := Aside0.mk (Kd.R_below (Kd.R_elderB (kr HO_86) gb130 (Nat.le_of_eq hg.symm)) hb); replace HO_109002 := Aside0.mk (Kd.R_below (Kd.R_elderB (kr HO_109002) gb130 (Nat.le_of_eq hg.symm)) hb); replace HO_117002 := Aside0.mk (Kd.R_below (Kd.R_elderB (kr HO_117002) gb130 (Nat.le_of_eq hg.symm)) hb); have BK130 := Aside0.mk (hbox); have GW130 := gw w hg; have GE130 := gw w hg; replace HB := sb w hb; have NB108_130 := nl hg BK108; have NB130_108 := ng hg BK108; replace BK108 := bb BK108 hb; have NB116_130 := nl hg BK116; have NB130_116 := ng hg BK116; replace BK116 := bb BK116 hb; clear hb hbox hg; have hnb46 := NB130_108.out; have hnc46 := NB108_130.out; have hnb47 := NB130_116.out; have hnc47 := NB116_130.out; obtain ⟨hcz48_0, hcz48_1, hfz48_0, hfz48_1⟩ := cf2 BK130))
              have n0_ : Aside0 (Kd.R Kd.string 9 ((w45.setCell ⟨gb130, 0, none⟩ (.int .i64 ((rd_T97 t103 x88_3).f0))).setCell ⟨gb130, 1, none⟩ (.string ((rd_T97 t103 x88_3).f1))) w.heap.size (fun _ => True) v119 x12_3) := ⟨by (with_reducible repeat (first | apply Kd.R_alloc | apply Kd.R_drewN | apply Kd.R_drew)); exact Kd.R_mono (Kd.R_far (p := ⟨gb130, 1, none⟩) (Kd.R_far (p := ⟨gb130, 0, none⟩) (Kd.R_types HO_12.out BK130.out (by decide)) (fun _ hk => hk.2) (.int .i64 ((rd_T97 t103 x88_3).f0))) (fun _ hk => hk.2) (.string ((rd_T97 t103 x88_3).f1))) (fun _ hk => trivial)⟩
              have n1_ : Aside0 (Kd.R k97 97 ((w45.setCell ⟨gb130, 0, none⟩ (.int .i64 ((rd_T97 t103 x88_3).f0))).setCell ⟨gb130, 1, none⟩ (.string ((rd_T97 t103 x88_3).f1))) w.heap.size (fun k_ => some k_ ≠ (.slice Ao14 t111.length co14 : Value).ownBlock ∧ k_ ≠ gb130) (.slice (some ad129) t103.length co9) t103) := ⟨by (with_reducible repeat (first | apply Kd.R_alloc | apply Kd.R_drewN | apply Kd.R_drew)); exact Kd.R_mono (Kd.R_far (p := ⟨gb130, 1, none⟩) (Kd.R_far (p := ⟨gb130, 0, none⟩) (Kd.R_mono HO_86.out (fun k_ hk => (⟨hk, hk.2⟩ : _ ∧ k_ ≠ gb130))) (fun _ hk => hk.2) (.int .i64 ((rd_T97 t103 x88_3).f0))) (fun _ hk => hk.2) (.string ((rd_T97 t103 x88_3).f1))) (fun _ hk => ⟨hk.1.1, hk.1.2⟩)⟩
              have n2_ : Aside0 (Kd.R k97 97 ((w45.setCell ⟨gb130, 0, none⟩ (.int .i64 ((rd_T97 t103 x88_3).f0))).setCell ⟨gb130, 1, none⟩ (.string ((rd_T97 t103 x88_3).f1))) w.heap.size (fun k_ => some k_ ≠ (.slice Ao14 t111.length co14 : Value).ownBlock ∧ k_ ≠ gb130) (.slice (some ad129) t103.length co9) t103) := ⟨by (with_reducible repeat (first | apply Kd.R_alloc | apply Kd.R_drewN | apply Kd.R_drew)); exact Kd.R_mono (Kd.R_far (p := ⟨gb130, 1, none⟩) (Kd.R_far (p := ⟨gb130, 0, none⟩) (Kd.R_mono HO_109002.out (fun k_ hk => (⟨hk, hk.2⟩ : _ ∧ k_ ≠ gb130))) (fun _ hk => hk.2) (.int .i64 ((rd_T97 t103 x88_3).f0))) (fun _ hk => hk.2) (.string ((rd_T97 t103 x88_3).f1))) (fun _ hk => ⟨hk.1.1, hk.1.2⟩)⟩
              have n3_ : Aside0 (Kd.R k97 97 ((w45.setCell ⟨gb130, 0, none⟩ (.int .i64 ((rd_T97 t103 x88_3).f0))).setCell ⟨gb130, 1, none⟩ (.string ((rd_T97 t103 x88_3).f1))) w.heap.size (fun k_ => some k_ ≠ (.slice (some ad129) t103.length co9 : Value).ownBlock ∧ some k_ ≠ (.slice (some ad129) t103.length co9 : Value).ownBlock ∧ k_ ≠ gb130) (.slice Ao14 t111.length co14) t111) := ⟨by (with_reducible repeat (first | apply Kd.R_alloc | apply Kd.R_drewN | apply Kd.R_drew)); exact Kd.R_mono (Kd.R_far (p := ⟨gb130, 1, none⟩) (Kd.R_far (p := ⟨gb130, 0, none⟩) (Kd.R_mono HO_117002.out (fun k_ hk => (⟨hk, hk.2⟩ : _ ∧ k_ ≠ gb130))) (fun _ hk => hk.2) (.int .i64 ((rd_T97 t103 x88_3).f0))) (fun _ hk => hk.2) (.string ((rd_T97 t103 x88_3).f1))) (fun _ hk => ⟨hk.1.1.1, ⟨hk.1.1.2, hk.1.2⟩⟩)⟩
              have n4_ : Aside0 (((w45.setCell ⟨gb130, 0, none⟩ (.int .i64 ((rd_T97 t103 x88_3).f0))).setCell ⟨gb130, 1, none⟩ (.string ((rd_T97 t103 x88_3).f1))).heap[gb108]? = some (.cells #[.int .i64 t101, .string t102, .slice (some ad129) t103.length co9, .bool t106] 100 (0, 0))) := ⟨kf BK108⟩
              have n5_ : Aside0 (((w45.setCell ⟨gb130, 0, none⟩ (.int .i64 ((rd_T97 t103 x88_3).f0))).setCell ⟨gb130, 1, none⟩ (.string ((rd_T97 t103 x88_3).f1))).heap[gb116]? = some (.cells #[.int .i64 t109, .string t110, .slice Ao14 t111.length co14, .bool t114] 100 (0, 0))) := ⟨kf BK116⟩
              have n6_ : Aside0 (((w45.setCell ⟨gb130, 0, none⟩ (.int .i64 ((rd_T97 t103 x88_3).f0))).setCell ⟨gb130, 1, none⟩ (.string ((rd_T97 t103 x88_3).f1))).heap[gb130]? = some (.cells #[.int .i64 ((rd_T97 t103 x88_3).f0), .string ((rd_T97 t103 x88_3).f1)] 97 (0, 0))) := ⟨kp _ BK130⟩
              have n7_ : Aside0 (Below w.heap.size w ((w45.setCell ⟨gb130, 0, none⟩ (.int .i64 ((rd_T97 t103 x88_3).f0))).setCell ⟨gb130, 1, none⟩ (.string ((rd_T97 t103 x88_3).f1)))) := ⟨zB⟩
              (try clear HO_12)
              (try clear HO_86)
              (try clear HO_109002)
              (try clear HO_117002)
              (try clear BK108)
              (try clear BK116)
              (try clear BK130)
              (try clear HB)
              generalize ((w45.setCell ⟨gb130, 0, none⟩ (.int .i64 ((rd_T97 t103 x88_3).f0))).setCell ⟨gb130, 1, none⟩ (.string ((rd_T97 t103 x88_3).f1))) = w49 at n0_ n1_ n2_ n3_ n4_ n5_ n6_ n7_ ⊢
              have HO_12 := n0_
              have HO_86 := n1_
              have HO_109002 := n2_
              have HO_117002 := n3_
              have BK108 := n4_
              have BK116 := n5_
              have BK130 := n6_
              have HB := n7_
              clear n0_ n1_ n2_ n3_ n4_ n5_ n6_ n7_
              replace HO_12 := Aside0.mk (Kd.R_drew HO_12.out)
              replace HO_86 := Aside0.mk (Kd.R_drew HO_86.out)
              replace HO_109002 := Aside0.mk (Kd.R_drew HO_109002.out)
              replace HO_117002 := Aside0.mk (Kd.R_drew HO_117002.out)
              replace BK108 := Aside0.mk (blk_drew BK108.out)
              replace BK116 := Aside0.mk (blk_drew BK116.out)
              replace BK130 := Aside0.mk (blk_drew BK130.out)
              replace HB := Aside0.mk (below_drew1 HB.out)
              have p131 : 0 ≤ (x88_3 : Int) := of_decide_eq_true za
              have q131 : x88_3 < (t111.length : Int) := of_decide_eq_true za
              obtain ⟨ad131, e131, hx131_0, hx131_1⟩ := at_T97 (Kd.R_reads' HO_117002.out).2.2 x88_3 p131 q131
              cases e131
              replace p131 := eq_true p131
              replace q131 := eq_true q131
              refine start_ (n := 8) (S := fun w' => w'.cell? ⟨gb130, 0, none⟩ = some (.int .i64 ((rd_T97 t103 x88_3).f0)) ∧ w'.cell? ⟨gb130, 1, none⟩ = some (.string ((rd_T97 t103 x88_3).f1)) ∧ w'.cell? ⟨gb116, 0, none⟩ = some (.int .i64 t109) ∧ w'.cell? ⟨gb116, 1, none⟩ = some (.string t110) ∧ w'.cell? ⟨gb116, 2, none⟩ = some (.slice (some ad131) t111.length co14) ∧ w'.cell? ⟨gb116, 3, none⟩ = some (.bool t114) ∧ w'.cell? (ad131.add ((x88_3).toNat * 2)) = some (.int .i64 ((rd_T97 t111 x88_3).f0)) ∧ w'.cell? ⟨(ad131.add ((x88_3).toNat * 2)).block, (ad131.add ((x88_3).toNat * 2)).off + 1, none⟩ = some (.string ((rd_T97 t111 x88_3).f1))) (ds := []) #[false, false, false, false, false, false, false, false] (by kernel_rfl) rfl rfl zh (fun hHeld => ?_); refine with_tabW address_Covers.tab17 address_Covers.bits17 (fun HT_ HW_ => ?_)
              generalize w49.drew = w50 at HO_12 HO_86 HO_109002 HO_117002 BK108 BK116 BK130 HB hx131_0 hx131_1 hHeld ⊢
              refine pu 1 94 ?_
              refine pu 3 96 ?_
              refine tk 0 93 ?_
              refine tk 2 95 ?_
              refine pu 4 97 ?_
              refine tk 5 98 ?_
              refine on 6 (some 99) fun K hK => ?_
              refine goes_ Tryz.func72 (by kernel_rfl) rfl #[.agg #[.int .i64 ((rd_T97 t103 x88_3).f0), .string ((rd_T97 t103 x88_3).f1)], .agg #[.int .i64 ((rd_T97 t111 x88_3).f0), .string ((rd_T97 t111 x88_3).f1)]] (by rfl) rfl rfl zl ?_
              with_reducible refine (address_part_covers.calls ((rd_T97 t103 x88_3).f0) ((rd_T97 t103 x88_3).f1) ((rd_T97 t111 x88_3).f0) ((rd_T97 t111 x88_3).f1) true _ A43.out).mono ?_
              rintro e w51 ⟨rfl, hb⟩
              have HS6_ := (hb.cell (World.block_lt_of_cell? _ _ (hHeld.2.2.2.2.2.2.1))).trans (hHeld.2.2.2.2.2.2.1)
              have HS7_ := (hb.cell (World.block_lt_of_cell? _ _ (hHeld.2.2.2.2.2.2.2))).trans (hHeld.2.2.2.2.2.2.2)
              refine ⟨_, rfl, ?_⟩
              replace HO_12 := rb HO_12 hb
              replace HO_86 := rb HO_86 hb
              replace HO_109002 := rb HO_109002 hb
              replace HO_117002 := rb HO_117002 hb
              replace BK108 := bb BK108 hb
              replace BK116 := bb BK116 hb
              replace BK130 := bb BK130 hb
              replace HB := sb w hb
              clear hb
              refine hK.out _ _ ⟨(blk_cell BK130.out 0).trans rfl, (blk_cell BK130.out 1).trans rfl, (blk_cell BK116.out 0).trans rfl, (blk_cell BK116.out 1).trans rfl, (blk_cell BK116.out 2).trans rfl, (blk_cell BK116.out 3).trans rfl, HS6_, HS7_⟩ (fun hHeld => ?_)
              clear hK K
              refine nm 99 ?_
              refine pu 7 100 ?_
              refine dn ?_
              try go_wp2
              go_roundg k3
              case measure => have := HJ4.out; have := HJ20.out; have := HK3.out; omega
              case rel => exact ⟨(x12_3), (wrap64 (x88_3 + 1)), zS, H', ⟨by have := HJ4.out; have := HJ20.out; have := HK3.out; omega⟩, ⟨kr HO_12⟩, ⟨by (with_reducible repeat (first | apply Kd.R_alloc | apply Kd.R_drewN | apply Kd.R_drew)); exact Kd.R_mono HO_86.out (fun _ hk => hk.1)⟩, ⟨by (with_reducible repeat (first | apply Kd.R_alloc | apply Kd.R_drewN | apply Kd.R_drew)); exact Kd.R_mono HO_109002.out (fun _ hk => hk.1)⟩, ⟨by (with_reducible repeat (first | apply Kd.R_alloc | apply Kd.R_drewN | apply Kd.R_drew)); exact Kd.R_mono HO_117002.out (fun _ hk => ⟨hk.1, hk.2.1⟩)⟩, ⟨kb BK108⟩, ⟨kb BK116⟩, ⟨zB⟩⟩
             ·replace c44 := Bool.eq_false_iff.mpr c44
              subst c44
              rw [if_neg Bool.false_ne_true] at H
              obtain ⟨t134, A45, H⟩ := bd H
              by_cases c46 : x88_3 < (x12_3.length : Int)
              ·rw [if_pos c46] at H
               have c46b0 : decide (x88_3 < (x12_3.length : Int)) = true := decide_eq_true c46
               clear c46
               obtain ⟨y135, hy135⟩ : ∃ y_ : List ByteArray, y_ = (x12_3.set (x88_3 : Int).toNat t134) := ⟨_, rfl⟩
               replace H : ((address_example.f t117 y135).bind fun t136 => (some (false, t136, 0))) = some (r1, r2, r3) := by first | (rw [hy135]; with_reducible exact H) | (have H2_ := (Option.bind_some _ _).symm.trans H; rw [hy135]; with_reducible exact H2_) | (have H2_ := (Option.bind_some _ _).symm.trans H; with_reducible exact H2_) | with_reducible exact H | (rw [hy135]; exact H) | exact H
               have Ny135 := Aside0.mk hy135
               clear hy135
               obtain ⟨t136, A48, H⟩ := bd H
               simp only [Option.some.injEq, Prod.mk.injEq] at H
               obtain ⟨rfl, rfl, rfl⟩ := H
               have p129 : 0 ≤ (x88_3 : Int) := of_decide_eq_true za
               have q129 : x88_3 < (t103.length : Int) := of_decide_eq_true za
               obtain ⟨ad129, e129, hx129_0, hx129_1⟩ := at_T97 (Kd.R_reads' HO_86.out).2.2 x88_3 p129 q129
               cases e129
               replace p129 := eq_true p129
               replace q129 := eq_true q129
               try go_wp2_with (first | ((with_reducible refine gate_dst (N := 16) rfl ?_); refine bx 16 #[.int .i64 0, .string (⟨#[]⟩ : ByteArray)] 97 fun gb130 hg w49 hbox hb => ?_; replace HO_12 := rb HO_12 hb; replace HO_86 := Aside0.mk (Kd.R_below (Kd.R_elderB (kr HO_86) gb130 (Nat.le_of_eq hg.symm)) hb); replace HO_109002 := Aside0.mk (Kd.R_below (Kd.R_elderB (kr HO_109002) gb130 (Nat.le_of_eq hg.symm)) hb); replace HO_117002 := Aside0.mk (Kd.R_below (Kd.R_elderB (kr HO_117002) gb130 (Nat.le_of_eq hg.symm)) hb); have BK130 := Aside0.mk (hbox); have GW130 := gw w hg; have GE130 := gw w hg; replace HB := sb w hb; have NB108_130 := nl hg BK108; have NB130_108 := ng hg BK108; replace BK108 := bb BK108 hb; have NB116_130 := nl hg BK116; have NB130_116 := ng hg BK116; replace BK116 := bb BK116 hb; clear hb hbox hg; have hnb50 := NB130_108.out; have hnc50 := NB108_130.out; have hnb51 := NB130_116.out; have hnc51 := NB116_130.out; obtain ⟨hcz52_0, hcz52_1, hfz52_0, hfz52_1⟩ := cf2 BK130))
               have n0_ : Aside0 (Kd.R Kd.string 9 ((w49.setCell ⟨gb130, 0, none⟩ (.int .i64 ((rd_T97 t103 x88_3).f0))).setCell ⟨gb130, 1, none⟩ (.string ((rd_T97 t103 x88_3).f1))) w.heap.size (fun _ => True) v119 x12_3) := ⟨by (with_reducible repeat (first | apply Kd.R_alloc | apply Kd.R_drewN | apply Kd.R_drew)); exact Kd.R_mono (Kd.R_far (p := ⟨gb130, 1, none⟩) (Kd.R_far (p := ⟨gb130, 0, none⟩) (Kd.R_types HO_12.out BK130.out (by decide)) (fun _ hk => hk.2) (.int .i64 ((rd_T97 t103 x88_3).f0))) (fun _ hk => hk.2) (.string ((rd_T97 t103 x88_3).f1))) (fun _ hk => trivial)⟩
               have n1_ : Aside0 (Kd.R k97 97 ((w49.setCell ⟨gb130, 0, none⟩ (.int .i64 ((rd_T97 t103 x88_3).f0))).setCell ⟨gb130, 1, none⟩ (.string ((rd_T97 t103 x88_3).f1))) w.heap.size (fun k_ => some k_ ≠ (.slice Ao14 t111.length co14 : Value).ownBlock ∧ k_ ≠ gb130) (.slice (some ad129) t103.length co9) t103) := ⟨by (with_reducible repeat (first | apply Kd.R_alloc | apply Kd.R_drewN | apply Kd.R_drew)); exact Kd.R_mono (Kd.R_far (p := ⟨gb130, 1, none⟩) (Kd.R_far (p := ⟨gb130, 0, none⟩) (Kd.R_mono HO_86.out (fun k_ hk => (⟨hk, hk.2⟩ : _ ∧ k_ ≠ gb130))) (fun _ hk => hk.2) (.int .i64 ((rd_T97 t103 x88_3).f0))) (fun _ hk => hk.2) (.string ((rd_T97 t103 x88_3).f1))) (fun _ hk => ⟨hk.1.1, hk.1.2⟩)⟩
               have n2_ : Aside0 (Kd.R k97 97 ((w49.setCell ⟨gb130, 0, none⟩ (.int .i64 ((rd_T97 t103 x88_3).f0))).setCell ⟨gb130, 1, none⟩ (.string ((rd_T97 t103 x88_3).f1))) w.heap.size (fun k_ => some k_ ≠ (.slice Ao14 t111.length co14 : Value).ownBlock ∧ k_ ≠ gb130) (.slice (some ad129) t103.length co9) t103) := ⟨by (with_reducible repeat (first | apply Kd.R_alloc | apply Kd.R_drewN | apply Kd.R_drew)); exact Kd.R_mono (Kd.R_far (p := ⟨gb130, 1, none⟩) (Kd.R_far (p := ⟨gb130, 0, none⟩) (Kd.R_mono HO_109002.out (fun k_ hk => (⟨hk, hk.2⟩ : _ ∧ k_ ≠ gb130))) (fun _ hk => hk.2) (.int .i64 ((rd_T97 t103 x88_3).f0))) (fun _ hk => hk.2) (.string ((rd_T97 t103 x88_3).f1))) (fun _ hk => ⟨hk.1.1, hk.1.2⟩)⟩
               have n3_ : Aside0 (Kd.R k97 97 ((w49.setCell ⟨gb130, 0, none⟩ (.int .i64 ((rd_T97 t103 x88_3).f0))).setCell ⟨gb130, 1, none⟩ (.string ((rd_T97 t103 x88_3).f1))) w.heap.size (fun k_ => some k_ ≠ (.slice (some ad129) t103.length co9 : Value).ownBlock ∧ some k_ ≠ (.slice (some ad129) t103.length co9 : Value).ownBlock ∧ k_ ≠ gb130) (.slice Ao14 t111.length co14) t111) := ⟨by (with_reducible repeat (first | apply Kd.R_alloc | apply Kd.R_drewN | apply Kd.R_drew)); exact Kd.R_mono (Kd.R_far (p := ⟨gb130, 1, none⟩) (Kd.R_far (p := ⟨gb130, 0, none⟩) (Kd.R_mono HO_117002.out (fun k_ hk => (⟨hk, hk.2⟩ : _ ∧ k_ ≠ gb130))) (fun _ hk => hk.2) (.int .i64 ((rd_T97 t103 x88_3).f0))) (fun _ hk => hk.2) (.string ((rd_T97 t103 x88_3).f1))) (fun _ hk => ⟨hk.1.1.1, ⟨hk.1.1.2, hk.1.2⟩⟩)⟩
               have n4_ : Aside0 (((w49.setCell ⟨gb130, 0, none⟩ (.int .i64 ((rd_T97 t103 x88_3).f0))).setCell ⟨gb130, 1, none⟩ (.string ((rd_T97 t103 x88_3).f1))).heap[gb108]? = some (.cells #[.int .i64 t101, .string t102, .slice (some ad129) t103.length co9, .bool t106] 100 (0, 0))) := ⟨kf BK108⟩
               have n5_ : Aside0 (((w49.setCell ⟨gb130, 0, none⟩ (.int .i64 ((rd_T97 t103 x88_3).f0))).setCell ⟨gb130, 1, none⟩ (.string ((rd_T97 t103 x88_3).f1))).heap[gb116]? = some (.cells #[.int .i64 t109, .string t110, .slice Ao14 t111.length co14, .bool t114] 100 (0, 0))) := ⟨kf BK116⟩
               have n6_ : Aside0 (((w49.setCell ⟨gb130, 0, none⟩ (.int .i64 ((rd_T97 t103 x88_3).f0))).setCell ⟨gb130, 1, none⟩ (.string ((rd_T97 t103 x88_3).f1))).heap[gb130]? = some (.cells #[.int .i64 ((rd_T97 t103 x88_3).f0), .string ((rd_T97 t103 x88_3).f1)] 97 (0, 0))) := ⟨kp _ BK130⟩
               have n7_ : Aside0 (Below w.heap.size w ((w49.setCell ⟨gb130, 0, none⟩ (.int .i64 ((rd_T97 t103 x88_3).f0))).setCell ⟨gb130, 1, none⟩ (.string ((rd_T97 t103 x88_3).f1)))) := ⟨zB⟩
               (try clear HO_12)
               (try clear HO_86)
               (try clear HO_109002)
               (try clear HO_117002)
               (try clear BK108)
               (try clear BK116)
               (try clear BK130)
               (try clear HB)
               generalize ((w49.setCell ⟨gb130, 0, none⟩ (.int .i64 ((rd_T97 t103 x88_3).f0))).setCell ⟨gb130, 1, none⟩ (.string ((rd_T97 t103 x88_3).f1))) = w53 at n0_ n1_ n2_ n3_ n4_ n5_ n6_ n7_ ⊢
               have HO_12 := n0_
               have HO_86 := n1_
               have HO_109002 := n2_
               have HO_117002 := n3_
               have BK108 := n4_
               have BK116 := n5_
               have BK130 := n6_
               have HB := n7_
               clear n0_ n1_ n2_ n3_ n4_ n5_ n6_ n7_
               replace HO_12 := Aside0.mk (Kd.R_drew HO_12.out)
               replace HO_86 := Aside0.mk (Kd.R_drew HO_86.out)
               replace HO_109002 := Aside0.mk (Kd.R_drew HO_109002.out)
               replace HO_117002 := Aside0.mk (Kd.R_drew HO_117002.out)
               replace BK108 := Aside0.mk (blk_drew BK108.out)
               replace BK116 := Aside0.mk (blk_drew BK116.out)
               replace BK130 := Aside0.mk (blk_drew BK130.out)
               replace HB := Aside0.mk (below_drew1 HB.out)
               have p131 : 0 ≤ (x88_3 : Int) := of_decide_eq_true za
               have q131 : x88_3 < (t111.length : Int) := of_decide_eq_true za
               obtain ⟨ad131, e131, hx131_0, hx131_1⟩ := at_T97 (Kd.R_reads' HO_117002.out).2.2 x88_3 p131 q131
               cases e131
               replace p131 := eq_true p131
               replace q131 := eq_true q131
               refine start_ (n := 8) (S := fun w' => w'.cell? ⟨gb130, 0, none⟩ = some (.int .i64 ((rd_T97 t103 x88_3).f0)) ∧ w'.cell? ⟨gb130, 1, none⟩ = some (.string ((rd_T97 t103 x88_3).f1)) ∧ w'.cell? ⟨gb116, 0, none⟩ = some (.int .i64 t109) ∧ w'.cell? ⟨gb116, 1, none⟩ = some (.string t110) ∧ w'.cell? ⟨gb116, 2, none⟩ = some (.slice (some ad131) t111.length co14) ∧ w'.cell? ⟨gb116, 3, none⟩ = some (.bool t114) ∧ w'.cell? (ad131.add ((x88_3).toNat * 2)) = some (.int .i64 ((rd_T97 t111 x88_3).f0)) ∧ w'.cell? ⟨(ad131.add ((x88_3).toNat * 2)).block, (ad131.add ((x88_3).toNat * 2)).off + 1, none⟩ = some (.string ((rd_T97 t111 x88_3).f1))) (ds := []) #[false, false, false, false, false, false, false, false] (by kernel_rfl) rfl rfl zh (fun hHeld => ?_); refine with_tabW address_Covers.tab17 address_Covers.bits17 (fun HT_ HW_ => ?_)
               generalize w53.drew = w54 at HO_12 HO_86 HO_109002 HO_117002 BK108 BK116 BK130 HB hx131_0 hx131_1 hHeld ⊢
               refine pu 1 94 ?_
               refine pu 3 96 ?_
               refine tk 0 93 ?_
               refine tk 2 95 ?_
               refine pu 4 97 ?_
               refine tk 5 98 ?_
               refine on 6 (some 99) fun K hK => ?_
               refine goes_ Tryz.func72 (by kernel_rfl) rfl #[.agg #[.int .i64 ((rd_T97 t103 x88_3).f0), .string ((rd_T97 t103 x88_3).f1)], .agg #[.int .i64 ((rd_T97 t111 x88_3).f0), .string ((rd_T97 t111 x88_3).f1)]] (by rfl) rfl rfl zl ?_
               with_reducible refine (address_part_covers.calls ((rd_T97 t103 x88_3).f0) ((rd_T97 t103 x88_3).f1) ((rd_T97 t111 x88_3).f0) ((rd_T97 t111 x88_3).f1) false _ A43.out).mono ?_
               rintro e w55 ⟨rfl, hb⟩
               have HS6_ := (hb.cell (World.block_lt_of_cell? _ _ (hHeld.2.2.2.2.2.2.1))).trans (hHeld.2.2.2.2.2.2.1)
               have HS7_ := (hb.cell (World.block_lt_of_cell? _ _ (hHeld.2.2.2.2.2.2.2))).trans (hHeld.2.2.2.2.2.2.2)
               refine ⟨_, rfl, ?_⟩
               replace HO_12 := rb HO_12 hb
               replace HO_86 := rb HO_86 hb
               replace HO_109002 := rb HO_109002 hb
               replace HO_117002 := rb HO_117002 hb
               replace BK108 := bb BK108 hb
               replace BK116 := bb BK116 hb
               replace BK130 := bb BK130 hb
               replace HB := sb w hb
               clear hb
               refine hK.out _ _ ⟨(blk_cell BK130.out 0).trans rfl, (blk_cell BK130.out 1).trans rfl, (blk_cell BK116.out 0).trans rfl, (blk_cell BK116.out 1).trans rfl, (blk_cell BK116.out 2).trans rfl, (blk_cell BK116.out 3).trans rfl, HS6_, HS7_⟩ (fun hHeld => ?_)
               clear hK K
               refine nm 99 ?_
               refine pu 7 100 ?_
               refine dn ?_
               try go_wp2
               replace HO_12 := Aside0.mk (Kd.R_drew HO_12.out)
               replace HO_86 := Aside0.mk (Kd.R_drew HO_86.out)
               replace HO_109002 := Aside0.mk (Kd.R_drew HO_109002.out)
               replace HO_117002 := Aside0.mk (Kd.R_drew HO_117002.out)
               replace BK108 := Aside0.mk (blk_drew BK108.out)
               replace BK116 := Aside0.mk (blk_drew BK116.out)
               replace BK130 := Aside0.mk (blk_drew BK130.out)
               replace HB := Aside0.mk (below_drew1 HB.out)
               have p133 : 0 ≤ (x88_3 : Int) := of_decide_eq_true za
               have q133 : x88_3 < (t111.length : Int) := of_decide_eq_true za
               obtain ⟨ad133, e133, hx133_0, hx133_1⟩ := at_T97 (Kd.R_reads' HO_117002.out).2.2 x88_3 p133 q133
               obtain rfl : ad131 = ad133 := (by injection e133)
               replace p133 := eq_true p133
               replace q133 := eq_true q133
               refine start_ (n := 11) (S := fun w' => w'.cell? ⟨gb116, 0, none⟩ = some (.int .i64 t109) ∧ w'.cell? ⟨gb116, 1, none⟩ = some (.string t110) ∧ w'.cell? ⟨gb116, 2, none⟩ = some (.slice (some ad131) t111.length co14) ∧ w'.cell? ⟨gb116, 3, none⟩ = some (.bool t114) ∧ w'.cell? ⟨gb130, 0, none⟩ = some (.int .i64 ((rd_T97 t103 x88_3).f0)) ∧ w'.cell? ⟨gb130, 1, none⟩ = some (.string ((rd_T97 t103 x88_3).f1)) ∧ w'.cell? (ad131.add ((x88_3).toNat * 2)) = some (.int .i64 ((rd_T97 t111 x88_3).f0)) ∧ w'.cell? ⟨(ad131.add ((x88_3).toNat * 2)).block, (ad131.add ((x88_3).toNat * 2)).off + 1, none⟩ = some (.string ((rd_T97 t111 x88_3).f1))) (ds := [10]) #[false, false, false, false, false, false, false, false, false, false, false] (by kernel_rfl) rfl rfl zh (fun hHeld => ?_); refine with_tabW address_Covers.tab18 address_Covers.bits18 (fun HT_ HW_ => ?_)
               generalize w55.drew = w56 at HO_12 HO_86 HO_109002 HO_117002 BK108 BK116 BK130 HB hx133_0 hx133_1 hHeld ⊢
               refine pu 0 101 ?_
               refine pu 1 102 ?_
               refine pu 2 103 ?_
               refine pu 4 105 ?_
               refine tk 3 104 ?_
               refine pu 5 106 ?_
               refine tk 6 107 ?_
               refine tk 7 108 ?_
               refine on 8 (some 109) fun K hK => ?_
               refine goes_ Tryz.func74 (by kernel_rfl) rfl #[.agg #[.int .i64 ((rd_T97 t111 x88_3).f0), .string ((rd_T97 t111 x88_3).f1)], .agg #[.int .i64 ((rd_T97 t103 x88_3).f0), .string ((rd_T97 t103 x88_3).f1)]] (by rfl) rfl rfl zl ?_
               with_reducible refine (address_part_without.calls ((rd_T97 t111 x88_3).f0) ((rd_T97 t111 x88_3).f1) ((rd_T97 t103 x88_3).f0) ((rd_T97 t103 x88_3).f1) t134 _ A45.out).mono ?_
               rintro e w57 ⟨rfl, hb⟩
               have HS6_ := (hb.cell (World.block_lt_of_cell? _ _ (hHeld.2.2.2.2.2.2.1))).trans (hHeld.2.2.2.2.2.2.1)
               have HS7_ := (hb.cell (World.block_lt_of_cell? _ _ (hHeld.2.2.2.2.2.2.2))).trans (hHeld.2.2.2.2.2.2.2)
               refine ⟨_, rfl, ?_⟩
               replace HO_12 := rb HO_12 hb
               replace HO_86 := rb HO_86 hb
               replace HO_109002 := rb HO_109002 hb
               replace HO_117002 := rb HO_117002 hb
               replace BK108 := bb BK108 hb
               replace BK116 := bb BK116 hb
               replace BK130 := bb BK130 hb
               replace HB := sb w hb
               clear hb
               have p47 : 0 ≤ (x88_3 : Int) := of_decide_eq_true za
               have q47 : (x88_3 : Int) < ((x12_3.length : Int) : Int) := of_decide_eq_true za
               obtain ⟨go47, co47, eo47, gb47, gl47, cl47, HG47⟩ := Kd.R_form HO_12.out (by omega)
               (first | cases eo47 | (injection eo47 with ea_ en_ ec_; (first | subst ea_ | (injection ea_ with ea_; subst ea_)); subst ec_; clear en_))
               have GB47 := Aside0.mk gb47
               have GG47 := Aside0.mk HG47
               clear gb47 gl47 HG47
               obtain ⟨hx47_0, hf47_0⟩ := Kd.R_celln (⟨#[]⟩ : ByteArray) HO_12.out (x88_3 : Int) p47 q47
               replace p47 := eq_true p47
               replace q47 := eq_true q47
               have HP58 := Kd.R_putn HO_12.out (x88_3 : Int) t134
               rw [← Ny135.out] at HP58
               have HQ58 := Aside0.mk HP58
               clear HP58
               refine hK.out _ _ ⟨(blk_cell BK116.out 0).trans rfl, (blk_cell BK116.out 1).trans rfl, (blk_cell BK116.out 2).trans rfl, (blk_cell BK116.out 3).trans rfl, (blk_cell BK130.out 0).trans rfl, (blk_cell BK130.out 1).trans rfl, HS6_, HS7_⟩ (fun hHeld => ?_)
               clear hK K
               refine nm 109 ?_
               refine pu 9 110 ?_
               refine last_ (i := 10) (N := none) #[true, true, true, true, true, true, true, true, true, true, true] rfl rfl (one_of HT_.out (by kernel_rfl)) (by decide) (fun K hK => ?_)
               refine skip_ (w1 := ?_) (by rfl) rfl ?_ ?_
               rotate_left
               ·go_simp
                rfl
               refine hK.out _ _ ?_
               clear hK K
               refine dn ?_
               try go_wp2_with (first | ((with_reducible refine gate_callee (f := 73) rfl ?_); refine goesL_ (some 113) rfl rfl Tryz.func73 (by kernel_rfl) rfl #[.string t117, .slice (some ⟨go47, 0, none⟩) y135.length co47] rfl (by (try simp only [List.map_toArray, List.map_cons, List.map_nil]); first | done | (rw [show y135.length = x12_3.length from (Kd.R_reads' HQ58.out).1.symm] <;> rfl) | rfl | (simp only [List.length_drop, List.length_take]; rfl)) ?_; (with_reducible refine (address_example.calls t117 _ _ y135 t136 _ ?side1 ?side2 A48.out).mono ?_); (case side1 => refine (Kd.R_reads' (e := 9) (base := w.heap.size) (ok := fun k_ => True) (n := x12_3.length) (c := co47) ?_).2.2; exact (kr HQ58)); (case side2 => rw [show y135.length = x12_3.length from (Kd.R_reads' HQ58.out).1.symm]; exact (Kd.R_reads' HO_12.out).2.1); rintro e w59 ⟨rfl, hb⟩; refine ⟨_, rfl, ?_⟩; replace HO_86 := Aside0.mk (Kd.R_below (by (with_reducible repeat (first | apply Kd.R_alloc | apply Kd.R_drewN | apply Kd.R_drew)); exact (Kd.R_mono (Kd.R_far (p := ⟨go47, (x88_3 : Int).toNat, none⟩) (Kd.R_types HO_86.out GG47.out (by decide)) (fun _ hk => hk.2) (.string t134)) (fun _ h_ => h_.1))) hb); replace HO_109002 := Aside0.mk (Kd.R_below (by (with_reducible repeat (first | apply Kd.R_alloc | apply Kd.R_drewN | apply Kd.R_drew)); exact (Kd.R_mono (Kd.R_far (p := ⟨go47, (x88_3 : Int).toNat, none⟩) (Kd.R_types HO_109002.out GG47.out (by decide)) (fun _ hk => hk.2) (.string t134)) (fun _ h_ => h_.1))) hb); replace HO_117002 := Aside0.mk (Kd.R_below (by (with_reducible repeat (first | apply Kd.R_alloc | apply Kd.R_drewN | apply Kd.R_drew)); exact (Kd.R_mono (Kd.R_far (p := ⟨go47, (x88_3 : Int).toNat, none⟩) (Kd.R_types HO_117002.out GG47.out (by decide)) (fun _ hk => hk.2) (.string t134)) (fun _ h_ => h_.1))) hb); replace BK108 := Aside0.mk (blk_below (g := gb108) (o := .cells #[.int .i64 t101, .string t102, .slice (some ad129) t103.length co9, .bool t106] 100 (0, 0)) (by (with_reducible repeat (first | refine blk_drewN ?_ _ | refine blk_drew ?_ | refine blk_alloc ?_ _)); refine blk_far ?_ (by have h_ := Kd.R_ne HO_12.out BK108.out (by decide); intro e_; exact h_ (by rw [e_]; rfl)) _; (with_reducible repeat (first | refine blk_drewN ?_ _ | refine blk_drew ?_ | refine blk_alloc ?_ _)); exact BK108.out) hb); replace BK116 := Aside0.mk (blk_below (g := gb116) (o := .cells #[.int .i64 t109, .string t110, .slice (some ad131) t111.length co14, .bool t114] 100 (0, 0)) (by (with_reducible repeat (first | refine blk_drewN ?_ _ | refine blk_drew ?_ | refine blk_alloc ?_ _)); refine blk_far ?_ (by have h_ := Kd.R_ne HO_12.out BK116.out (by decide); intro e_; exact h_ (by rw [e_]; rfl)) _; (with_reducible repeat (first | refine blk_drewN ?_ _ | refine blk_drew ?_ | refine blk_alloc ?_ _)); exact BK116.out) hb); replace BK130 := Aside0.mk (blk_below (g := gb130) (o := .cells #[.int .i64 ((rd_T97 t103 x88_3).f0), .string ((rd_T97 t103 x88_3).f1)] 97 (0, 0)) (by (with_reducible repeat (first | refine blk_drewN ?_ _ | refine blk_drew ?_ | refine blk_alloc ?_ _)); refine blk_far ?_ (by have h_ := Kd.R_ne HO_12.out BK130.out (by decide); intro e_; exact h_ (by rw [e_]; rfl)) _; (with_reducible repeat (first | refine blk_drewN ?_ _ | refine blk_drew ?_ | refine blk_alloc ?_ _)); exact BK130.out) hb); replace HO_12 := rb HQ58 hb; replace HB := sb w hb; clear hb))
               go_ret3
               exact ⟨zE, zB⟩
              ·rw [if_neg c46] at H
               exact absurd H (by simp)
            ·rw [if_neg c42] at H
             exact absurd H (by simp)
           ·rw [if_neg c41] at H
            exact absurd H (by simp)
          ·rw [if_neg c40] at H
           exact absurd H (by simp)
         ·rw [if_neg c39] at H
          have c39b0 : decide (x88_3 < (t103.length : Int)) = false := decide_eq_false c39
          clear c39
          simp only [Option.some.injEq, Prod.mk.injEq] at H
          obtain ⟨rfl, rfl, rfl⟩ := H
          go_wp2
          go_ret3
          exact ⟨zE, zB⟩
    ·replace c20 := Bool.eq_false_iff.mpr c20
     subst c20
     rw [if_neg Bool.false_ne_true] at H
     obtain ⟨t122, A21, H⟩ := bd H
     obtain ⟨t123, A22, H⟩ := bd H
     simp only [Option.some.injEq, Prod.mk.injEq] at H
     obtain ⟨rfl, rfl, rfl⟩ := H
     try go_wp2
     replace HO_109002 := Aside0.mk (Kd.R_drew HO_109002.out)
     replace HO_117002 := Aside0.mk (Kd.R_drew HO_117002.out)
     replace BK108 := Aside0.mk (blk_drew BK108.out)
     replace BK116 := Aside0.mk (blk_drew BK116.out)
     replace HB := Aside0.mk (below_drew1 HB.out)
     refine start_ (n := 7) (S := fun w' => w'.cell? ⟨gb116, 0, none⟩ = some (.int .i64 t109) ∧ w'.cell? ⟨gb116, 1, none⟩ = some (.string t110) ∧ w'.cell? ⟨gb116, 2, none⟩ = some (.slice Ao14 t111.length co14) ∧ w'.cell? ⟨gb116, 3, none⟩ = some (.bool t114)) (ds := []) #[false, false, false, false, false, false, false] (by kernel_rfl) rfl rfl zh (fun hHeld => ?_)
     generalize wc.drew = w23 at HO_109002 HO_117002 BK108 BK116 HB hHeld ⊢
     refine pu 0 33 ?_
     refine tk 1 34 ?_
     refine tk 3 36 ?_
     refine on 2 (some 35) fun K hK => ?_
     refine goes_ Tryz.func70 (by kernel_rfl) rfl #[.agg #[.int .i64 t109, .string t110], .string (⟨#[97]⟩ : ByteArray)] (by rfl) rfl rfl zl ?_
     with_reducible refine (address_part_with.calls t109 t110 (⟨#[97]⟩ : ByteArray) t117 _ A17.out).mono ?_
     rintro e w24 ⟨rfl, hb⟩
     refine ⟨_, rfl, ?_⟩
     replace HO_109002 := rb HO_109002 hb
     replace HO_117002 := rb HO_117002 hb
     replace BK108 := bb BK108 hb
     replace BK116 := bb BK116 hb
     replace HB := sb w hb
     clear hb
     refine hK.out _ _ zh (fun hHeld => ?_)
     clear hK K
     refine nm 35 ?_
     refine on 4 (some 37) fun K hK => ?_
     refine goes_ Tryz.func71 (by kernel_rfl) rfl #[.agg #[.int .i64 t109, .string t110, .slice Ao14 t111.length co14, .bool t114]] (by rfl) rfl rfl zl ?_
     with_reducible refine (address_pattern_words.calls kj4 t109 t110 _ _ t111 t114 t118 _ ?side1 ?side2 A18.out).mono ?_
     (case side1 => repeat (first | exact (Kd.R_reads' HO_117002.out).2.2 | (with_reducible refine Kd.C_alloc ?_ _) | (with_reducible refine Kd.C_drewN ?_ _) | (with_reducible refine Kd.C_drew ?_)))
     (case side2 => exact (Kd.R_reads' HO_117002.out).2.1)
     rintro e w25 ⟨v119, rfl, ho0, hb⟩
     refine ⟨_, rfl, ?_⟩
     replace HO_109002 := rb HO_109002 hb
     replace HO_117002 := rb HO_117002 hb
     have HO120 := Aside0.mk (Kd.R_lower ho0 (below_size zB))
     replace BK108 := bb BK108 hb
     replace BK116 := bb BK116 hb
     replace HB := sb w hb
     clear hb ho0
     refine hK.out _ _ zh (fun hHeld => ?_)
     clear hK K
     refine nm 37 ?_
     refine pu 5 11 ?_
     refine pu 6 12 ?_
     refine dn ?_
     have hnb26 := NB108_116.out
     have hnc26 := NB116_108.out
     obtain ⟨hcz27_0, hcz27_1, hcz27_2, hcz27_3, hfz27_0, hfz27_1, hfz27_2, hfz27_3⟩ := cf4 BK108
     obtain ⟨hcz28_0, hcz28_1, hcz28_2, hcz28_3, hfz28_0, hfz28_1, hfz28_2, hfz28_3⟩ := cf4 BK116
     try go_wp2_with (first | ((with_reducible refine gate_callee (f := 72) rfl ?_); refine goesL_ (some 42) rfl rfl Tryz.func72 (by kernel_rfl) rfl #[.agg #[.int .i64 t101, .string t102], .agg #[.int .i64 t109, .string t110]] rfl zl ?_; (with_reducible refine (address_part_covers.calls t101 t102 t109 t110 false _ A19.out).mono ?_); rintro e w29 ⟨rfl, hb⟩; refine ⟨_, rfl, ?_⟩; replace HO_109002 := rb HO_109002 hb; replace HO_117002 := rb HO_117002 hb; replace HO120 := rb HO120 hb; replace BK108 := bb BK108 hb; replace BK116 := bb BK116 hb; replace HB := sb w hb; clear hb; obtain ⟨hcz30_0, hcz30_1, hcz30_2, hcz30_3, hfz30_0, hfz30_1, hfz30_2, hfz30_3⟩ := cf4 BK116; obtain ⟨hcz31_0, hcz31_1, hcz31_2, hcz31_3, hfz31_0, hfz31_1, hfz31_2, hfz31_3⟩ := cf4 BK108) | ((with_reducible refine gate_callee (f := 74) rfl ?_); refine goesL_ (some 48) rfl rfl Tryz.func74 (by kernel_rfl) rfl #[.agg #[.int .i64 t109, .string t110], .agg #[.int .i64 t101, .string t102]] rfl zl ?_; (with_reducible refine (address_part_without.calls t109 t110 t101 t102 t122 _ A21.out).mono ?_); rintro e w32 ⟨rfl, hb⟩; refine ⟨_, rfl, ?_⟩; replace HO_109002 := rb HO_109002 hb; replace HO_117002 := rb HO_117002 hb; replace HO120 := rb HO120 hb; replace BK108 := bb BK108 hb; replace BK116 := bb BK116 hb; replace HB := sb w hb; clear hb; obtain ⟨Ao33, co33, eo33⟩ := Kd.R_slice HO120.out; subst eo33) | ((with_reducible refine gate_callee (f := 73) rfl ?_); refine goesL_ (some 50) rfl rfl Tryz.func73 (by kernel_rfl) rfl #[.string t122, .slice Ao33 t118.length co33] rfl zl ?_; (with_reducible refine (address_example.calls t122 _ _ t118 t123 _ ?side1 ?side2 A22.out).mono ?_); (case side1 => repeat (first | exact (Kd.R_reads' HO120.out).2.2 | (with_reducible refine Kd.C_alloc ?_ _) | (with_reducible refine Kd.C_drewN ?_ _) | (with_reducible refine Kd.C_drew ?_))); (case side2 => exact (Kd.R_reads' HO120.out).2.1); rintro e w34 ⟨rfl, hb⟩; refine ⟨_, rfl, ?_⟩; replace HO_109002 := rb HO_109002 hb; replace HO_117002 := rb HO_117002 hb; replace HO120 := rb HO120 hb; replace BK108 := bb BK108 hb; replace BK116 := bb BK116 hb; replace HB := sb w hb; clear hb))
     go_ret3
     exact ⟨zE, zB⟩
end Go.Proofs.YtmokgpepeddopaaGreatDoor.P
end
