/- Lemmas on the way to the statement: part 24 of 34 (functions as plain Lean functions, and that each call comes to what they say). -/
import Derived.Test.YtmokgpepeddopaaGreatDoorL12
import Derived.Test.YtmokgpepeddopaaGreatDoorL14
import Derived.Test.YtmokgpepeddopaaGreatDoorL18
import Derived.Test.YtmokgpepeddopaaGreatDoorL23
section
namespace Go.Proofs.YtmokgpepeddopaaGreatDoor.P
open Go.RowKit Go.Proofs.YtmokgpepeddopaaGreatDoorW.PrintWords Go.Proofs.YtmokgpepeddopaaGreatDoorW.PrintLast Go.Proofs.YtmokgpepeddopaaGreatDoorW.PrintMore
attribute [local go_sem] max2_int min2_int max_two min_two max_three min_three max_four min_four
attribute [local go_sem high] binOp_string_leq2 binOp_string_gtr2
set_option linter.unusedVariables false
set_option linter.unusedSimpArgs false
def address_Meet.f (k : Nat) (a0 : ByteArray) (a1 : ByteArray) : Option (Bool × ByteArray × Int) := (address_both.f a0 a1).bind fun bt101 => (if bt101.2.2.2.2.1 = true then ((address_part_with.f bt101.1 bt101.2.1 (⟨#[97]⟩ : ByteArray)).bind fun t110 => ((address_pattern_words.f k bt101.1 bt101.2.1 bt101.2.2.1 bt101.2.2.2.1).bind fun t111 => ((address_example.f t110 t111).bind fun t114 => (some (true, t114, 0))))) else (some (false, (⟨#[]⟩ : ByteArray), bt101.2.2.2.2.2)))
def address_Meet.T4 : Bool × List (List Nat × List Nat) := (true, [([], []), ([0], [0]), ([1], [1]), ([], []), ([3, 2], [3]), ([2, 4, 4], [2, 4]), ([5], []), ([5, 6, 0, 1, 2, 3, 4, 5, 6], [5]), ([7, 0, 1, 2, 3, 4, 5, 6, 7], [])])
def address_Meet.B4 : List Nat := [0, 1, 3, 0, 15, 31, 63, 127, 255]
theorem address_Meet.tab4 : rtab .any (opsOf Tryz.f30 4) = address_Meet.T4 := by kernel_rfl
theorem address_Meet.bits4 : waitsOk address_Meet.T4.2 address_Meet.B4 = true := by kernel_rfl
set_option maxHeartbeats 8000000 in
set_option maxRecDepth 100000 in
theorem address_Meet.calls (k : Nat) (a0 : ByteArray) (a1 : ByteArray) (r1 : Bool) (r2 : ByteArray) (r3 : Int) (w : World) (h : address_Meet.f k a0 a1 = some (r1, r2, r3)) :
  Calls Tryz.prog 30 #[.string a0, .string a1] w fun e w' => e = .returned (.tuple #[.bool r1, .string r2, .int .i64 r3]) ∧ Below w.heap.size w w' := by
 have hu100 := Tryz.underlying100
 have hu97 := Tryz.underlying97
 have HB := Aside0.mk (Below.refl w.heap.size w)
 have H : ((address_both.f a0 a1).bind fun bt101 => (if bt101.2.2.2.2.1 = true then ((address_part_with.f bt101.1 bt101.2.1 (⟨#[97]⟩ : ByteArray)).bind fun t110 => ((address_pattern_words.f k bt101.1 bt101.2.1 bt101.2.2.1 bt101.2.2.2.1).bind fun t111 => ((address_example.f t110 t111).bind fun t114 => (some (true, t114, 0))))) else (some (false, (⟨#[]⟩ : ByteArray), bt101.2.2.2.2.2)))) = some (r1, r2, r3) := h
 clear h
 obtain ⟨⟨t101, t102, t103, t106, t107, t108⟩, A3, H⟩ := bd H
 dsimp only at H
 by_cases c4 : t107 = true
 ·subst c4
  rw [if_pos rfl] at H
  obtain ⟨t110, A5, H⟩ := bd H
  obtain ⟨t111, A6, H⟩ := bd H
  obtain ⟨t114, A7, H⟩ := bd H
  simp only [Option.some.injEq, Prod.mk.injEq] at H
  obtain ⟨rfl, rfl, rfl⟩ := H
  go_enter Tryz.func30, Tryz.ntmps30
  try go_wp2_with (first | ((with_reducible refine gate_callee (f := 76) rfl ?_); refine goesL_ (some 13) rfl rfl Tryz.func76 (by kernel_rfl) rfl #[.string a0, .string a1] rfl zl ?_; (with_reducible refine (address_both.calls a0 a1 t101 t102 t103 t106 true t108 _ A3.out).mono ?_); rintro e w8 ⟨v104, rfl, ho0, hb⟩; refine ⟨_, rfl, ?_⟩; have HO105 := Aside0.mk (Kd.R_lower ho0 (below_size zB)); replace HB := sb w hb; clear hb ho0) | ((with_reducible refine gate_dst (N := 7) rfl ?_); refine bx 7 #[.int .i64 0, .string (⟨#[]⟩ : ByteArray), .slice none 0 0, .bool false] 100 fun gb109 hg w9 hbox hb => ?_; replace HO105 := rb HO105 hb; have BK109 := Aside0.mk (hbox); have GW109 := gw w hg; have GE109 := gw w hg; replace HB := sb w hb; clear hb hbox hg; obtain ⟨hcz10_0, hcz10_1, hcz10_2, hcz10_3, hfz10_0, hfz10_1, hfz10_2, hfz10_3⟩ := cf4 BK109; obtain ⟨Ao11, co11, eo11⟩ := Kd.R_slice HO105.out; subst eo11))
  have n0_ : Aside0 (Kd.R k97 97 ((((w9.setCell ⟨gb109, 0, none⟩ (.int .i64 t101)).setCell ⟨gb109, 1, none⟩ (.string t102)).setCell ⟨gb109, 2, none⟩ (.slice Ao11 t103.length co11)).setCell ⟨gb109, 3, none⟩ (.bool t106)) w.heap.size (fun _ => True) (.slice Ao11 t103.length co11) t103) := ⟨by (with_reducible repeat (first | apply Kd.R_alloc | apply Kd.R_drewN | apply Kd.R_drew)); exact Kd.R_mono (Kd.R_far (p := ⟨gb109, 3, none⟩) (Kd.R_far (p := ⟨gb109, 2, none⟩) (Kd.R_far (p := ⟨gb109, 1, none⟩) (Kd.R_far (p := ⟨gb109, 0, none⟩) (Kd.R_types HO105.out BK109.out (by decide)) (fun _ hk => hk.2) (.int .i64 t101)) (fun _ hk => hk.2) (.string t102)) (fun _ hk => hk.2) (.slice Ao11 t103.length co11)) (fun _ hk => hk.2) (.bool t106)) (fun _ hk => trivial)⟩
  have n1_ : Aside0 (((((w9.setCell ⟨gb109, 0, none⟩ (.int .i64 t101)).setCell ⟨gb109, 1, none⟩ (.string t102)).setCell ⟨gb109, 2, none⟩ (.slice Ao11 t103.length co11)).setCell ⟨gb109, 3, none⟩ (.bool t106)).heap[gb109]? = some (.cells #[.int .i64 t101, .string t102, .slice Ao11 t103.length co11, .bool t106] 100 (0, 0))) := ⟨kp _ BK109⟩
  have n2_ : Aside0 (Below w.heap.size w ((((w9.setCell ⟨gb109, 0, none⟩ (.int .i64 t101)).setCell ⟨gb109, 1, none⟩ (.string t102)).setCell ⟨gb109, 2, none⟩ (.slice Ao11 t103.length co11)).setCell ⟨gb109, 3, none⟩ (.bool t106))) := ⟨zB⟩
  (try clear HO105)
  (try clear BK109)
  (try clear HB)
  generalize ((((w9.setCell ⟨gb109, 0, none⟩ (.int .i64 t101)).setCell ⟨gb109, 1, none⟩ (.string t102)).setCell ⟨gb109, 2, none⟩ (.slice Ao11 t103.length co11)).setCell ⟨gb109, 3, none⟩ (.bool t106)) = w12 at n0_ n1_ n2_ ⊢
  have HO105 := n0_
  have BK109 := n1_
  have HB := n2_
  clear n0_ n1_ n2_
  replace HO105 := Aside0.mk (Kd.R_drew HO105.out)
  replace BK109 := Aside0.mk (blk_drew BK109.out)
  replace HB := Aside0.mk (below_drew1 HB.out)
  refine start_ (n := 9) (S := fun w' => w'.cell? ⟨gb109, 0, none⟩ = some (.int .i64 t101) ∧ w'.cell? ⟨gb109, 1, none⟩ = some (.string t102) ∧ w'.cell? ⟨gb109, 2, none⟩ = some (.slice Ao11 t103.length co11) ∧ w'.cell? ⟨gb109, 3, none⟩ = some (.bool t106)) (ds := []) #[false, false, false, false, false, false, false, false, false] (by kernel_rfl) rfl rfl zh (fun hHeld => ?_); refine with_tabW address_Meet.tab4 address_Meet.bits4 (fun HT_ HW_ => ?_)
  generalize w12.drew = w13 at HO105 BK109 HB hHeld ⊢
  refine pu 0 20 ?_
  refine tk 1 21 ?_
  refine tk 3 23 ?_
  refine on 2 (some 22) fun K hK => ?_
  refine goes_ Tryz.func70 (by kernel_rfl) rfl #[.agg #[.int .i64 t101, .string t102], .string (⟨#[97]⟩ : ByteArray)] (by rfl) rfl rfl zl ?_
  with_reducible refine (address_part_with.calls t101 t102 (⟨#[97]⟩ : ByteArray) t110 _ A5.out).mono ?_
  rintro e w14 ⟨rfl, hb⟩
  refine ⟨_, rfl, ?_⟩
  replace HO105 := rb HO105 hb
  replace BK109 := bb BK109 hb
  replace HB := sb w hb
  clear hb
  refine hK.out _ _ zh (fun hHeld => ?_)
  clear hK K
  refine nm 22 ?_
  refine on 4 (some 24) fun K hK => ?_
  refine goes_ Tryz.func71 (by kernel_rfl) rfl #[.agg #[.int .i64 t101, .string t102, .slice Ao11 t103.length co11, .bool t106]] (by rfl) rfl rfl zl ?_
  with_reducible refine (address_pattern_words.calls k t101 t102 _ _ t103 t106 t111 _ ?side1 ?side2 A6.out).mono ?_
  (case side1 => repeat (first | exact (Kd.R_reads' HO105.out).2.2 | (with_reducible refine Kd.C_alloc ?_ _) | (with_reducible refine Kd.C_drewN ?_ _) | (with_reducible refine Kd.C_drew ?_)))
  (case side2 => exact (Kd.R_reads' HO105.out).2.1)
  rintro e w15 ⟨v112, rfl, ho0, hb⟩
  refine ⟨_, rfl, ?_⟩
  replace HO105 := rb HO105 hb
  have HO113 := Aside0.mk (Kd.R_lower ho0 (below_size zB))
  replace BK109 := bb BK109 hb
  replace HB := sb w hb
  clear hb ho0
  obtain ⟨Ao16, co16, eo16⟩ := Kd.R_slice HO113.out
  (first | subst eo16 | (injection eo16 with f1_ f2_ f3_; have f4_ := f1_.symm; have f5_ := f3_.symm; clear f1_ f2_ f3_; subst f4_; subst f5_))
  refine hK.out _ _ zh (fun hHeld => ?_)
  clear hK K
  refine nm 24 ?_
  refine on 5 (some 25) fun K hK => ?_
  refine goes_ Tryz.func73 (by kernel_rfl) rfl #[.string t110, .slice Ao16 t111.length co16] (by rfl) rfl rfl zl ?_
  with_reducible refine (address_example.calls t110 _ _ t111 t114 _ ?side1 ?side2 A7.out).mono ?_
  (case side1 => repeat (first | exact (Kd.R_reads' HO113.out).2.2 | (with_reducible refine Kd.C_alloc ?_ _) | (with_reducible refine Kd.C_drewN ?_ _) | (with_reducible refine Kd.C_drew ?_)))
  (case side2 => exact (Kd.R_reads' HO113.out).2.1)
  rintro e w17 ⟨rfl, hb⟩
  refine ⟨_, rfl, ?_⟩
  replace HO105 := rb HO105 hb
  replace HO113 := rb HO113 hb
  replace BK109 := bb BK109 hb
  replace HB := sb w hb
  clear hb
  refine hK.out _ _ zh (fun hHeld => ?_)
  clear hK K
  refine nm 25 ?_
  refine pu 6 4 ?_
  refine pu 7 5 ?_
  refine pu 8 6 ?_
  refine dn ?_
  try go_wp2
  go_ret3
  exact ⟨zE, zB⟩
 ·replace c4 := Bool.eq_false_iff.mpr c4
  subst c4
  rw [if_neg Bool.false_ne_true] at H
  simp only [Option.some.injEq, Prod.mk.injEq] at H
  obtain ⟨rfl, rfl, rfl⟩ := H
  go_enter Tryz.func30, Tryz.ntmps30
  go_wp2_with (first | ((with_reducible refine gate_callee (f := 76) rfl ?_); refine goesL_ (some 13) rfl rfl Tryz.func76 (by kernel_rfl) rfl #[.string a0, .string a1] rfl zl ?_; (with_reducible refine (address_both.calls a0 a1 t101 t102 t103 t106 false t108 _ A3.out).mono ?_); rintro e w5 ⟨v104, rfl, ho0, hb⟩; refine ⟨_, rfl, ?_⟩; have HO105 := Aside0.mk (Kd.R_lower ho0 (below_size zB)); replace HB := sb w hb; clear hb ho0) | ((with_reducible refine gate_dst (N := 7) rfl ?_); refine bx 7 #[.int .i64 0, .string (⟨#[]⟩ : ByteArray), .slice none 0 0, .bool false] 100 fun gb109 hg w6 hbox hb => ?_; replace HO105 := rb HO105 hb; have BK109 := Aside0.mk (hbox); have GW109 := gw w hg; have GE109 := gw w hg; replace HB := sb w hb; clear hb hbox hg; obtain ⟨hcz7_0, hcz7_1, hcz7_2, hcz7_3, hfz7_0, hfz7_1, hfz7_2, hfz7_3⟩ := cf4 BK109; obtain ⟨Ao8, co8, eo8⟩ := Kd.R_slice HO105.out; subst eo8))
  go_ret3
  exact ⟨zE, zB⟩
def address_Both.f (k : Nat) (a0 : ByteArray) (a1 : ByteArray) : Option (ByteArray × Bool × Int) := (address_both.f a0 a1).bind fun bt101 => (if bt101.2.2.2.2.1 = true then ((address_pattern_String.f k bt101.1 bt101.2.1 bt101.2.2.1 bt101.2.2.2.1).bind fun t110 => (some (t110, true, 0))) else (some ((⟨#[]⟩ : ByteArray), false, bt101.2.2.2.2.2)))
set_option maxRecDepth 100000 in
theorem address_Both.lf {p : Prop} (h : p := by
 go_wp2_with (first
 | ((with_reducible refine gate_callee (f := 76) rfl ?_); refine goesL_ (some 13) rfl rfl Tryz.func76 (by kernel_rfl) rfl #[.string a0, .string a1] rfl zl ?_; (with_reducible refine (address_both.calls _ _ _ _ _ _ _ _ _ A3.out).mono ?_); rintro e wz0 ⟨v104, rfl, ho0, hb⟩; refine ⟨_, rfl, ?_⟩; have HO105 := Aside0.mk (Kd.R_lower ho0 (below_size zB)); replace HB := sb w hb; clear hb ho0)
 | ((with_reducible refine gate_dst (N := 7) rfl ?_); refine bx 7 #[.int .i64 0, .string (⟨#[]⟩ : ByteArray), .slice none 0 0, .bool false] 100 fun gb109 hg wz1 hbox hb => ?_; replace HO105 := rb HO105 hb; have BK109 := Aside0.mk (hbox); have GW109 := gw w hg; have GE109 := gw w hg; replace HB := sb w hb; clear hb hbox hg; obtain ⟨hczz2_0, hczz2_1, hczz2_2, hczz2_3, hfzz2_0, hfzz2_1, hfzz2_2, hfzz2_3⟩ := cf4 BK109; obtain ⟨Aoz3, coz3, eoz3⟩ := Kd.R_slice HO105.out; subst eoz3)
 | ((with_reducible refine gate_callee (f := 77) rfl ?_); refine goesL_ (some 21) rfl rfl Tryz.func77 (by kernel_rfl) rfl #[.agg #[.int .i64 t101, .string t102, .slice Aoz3 t103.length coz3, .bool t106]] rfl zl ?_; (with_reducible refine (address_pattern_String.calls _ _ _ _ _ _ _ _ _ ?side1 ?side2 A5.out).mono ?_); (case side1 => refine (Kd.R_reads' (e := 97) (base := w.heap.size) (ok := fun k_ => True) (n := t103.length) (c := coz3) ?_).2.2; exact (kt HO105 BK109)); (case side2 => exact (Kd.R_reads' HO105.out).2.1); rintro e wz4 ⟨rfl, hb⟩; refine ⟨_, rfl, ?_⟩; replace HO105 := rt HO105 BK109 hb; replace BK109 := bw #[.int .i64 t101, .string t102, .slice Aoz3 t103.length coz3, .bool t106] BK109 hb; replace HB := sb w hb; clear hb))
 go_ret3; exact ⟨zE, zB⟩) : p := h
set_option maxHeartbeats 8000000 in
set_option maxRecDepth 100000 in
theorem address_Both.calls (k : Nat) (a0 : ByteArray) (a1 : ByteArray) (r1 : ByteArray) (r2 : Bool) (r3 : Int) (w : World) (h : address_Both.f k a0 a1 = some (r1, r2, r3)) :
  Calls Tryz.prog 31 #[.string a0, .string a1] w fun e w' => e = .returned (.tuple #[.string r1, .bool r2, .int .i64 r3]) ∧ Below w.heap.size w w' := by
 have hu100 := Tryz.underlying100
 have HB := Aside0.mk (Below.refl w.heap.size w)
 have H : ((address_both.f a0 a1).bind fun bt101 => (if bt101.2.2.2.2.1 = true then ((address_pattern_String.f k bt101.1 bt101.2.1 bt101.2.2.1 bt101.2.2.2.1).bind fun t110 => (some (t110, true, 0))) else (some ((⟨#[]⟩ : ByteArray), false, bt101.2.2.2.2.2)))) = some (r1, r2, r3) := h
 clear h
 obtain ⟨⟨t101, t102, t103, t106, t107, t108⟩, A3, H⟩ := bd H
 dsimp only at H
 by_cases c4 : t107 = true
 ·subst c4
  rw [if_pos rfl] at H
  obtain ⟨t110, A5, H⟩ := bd H
  simp only [Option.some.injEq, Prod.mk.injEq] at H
  obtain ⟨rfl, rfl, rfl⟩ := H
  go_enter Tryz.func31, Tryz.ntmps31
  exact address_Both.lf
 ·replace c4 := Bool.eq_false_iff.mpr c4
  subst c4
  rw [if_neg Bool.false_ne_true] at H
  simp only [Option.some.injEq, Prod.mk.injEq] at H
  obtain ⟨rfl, rfl, rfl⟩ := H
  go_enter Tryz.func31, Tryz.ntmps31
  exact address_Both.lf
end Go.Proofs.YtmokgpepeddopaaGreatDoor.P
end
