/- Lemmas on the way to the statement: part 1 of 4 (functions as plain Lean functions, and that each call comes to what they say). -/
import Derived.Test.YtmokgpepeddopaaGreatDoorK12
import Derived.Test.YtmokgpepeddopaaGreatDoorK17
import Derived.Test.YtmokgpepeddopaaGreatDoorK19
section
namespace Go.Proofs.YtmokgpepeddopaaGreatDoor.P
open Go.RowKit Go.Proofs.YtmokgpepeddopaaGreatDoorW.PrintWords Go.Proofs.YtmokgpepeddopaaGreatDoorW.PrintLast Go.Proofs.YtmokgpepeddopaaGreatDoorW.PrintMore
attribute [local go_sem] max2_int min2_int max_two min_two max_three min_three max_four min_four
attribute [local go_sem high] binOp_string_leq2 binOp_string_gtr2
set_option linter.unusedVariables false
set_option linter.unusedSimpArgs false
def address_Valid.f (a0 : ByteArray) : Option (Bool) := (address_compile.f a0).bind fun bt101 => (some bt101.2.2.2.2)
set_option maxHeartbeats 8000000 in
set_option maxRecDepth 100000 in
theorem address_Valid.calls (a0 : ByteArray) (r : Bool) (w : World) (h : address_Valid.f a0 = some r) :
  Calls Tryz.prog 28 #[.string a0] w fun e w' => e = .returned (.bool r) ∧ Below w.heap.size w w' := by
 have hu100 := Tryz.underlying100
 have HB := Aside0.mk (Below.refl w.heap.size w)
 have H : ((address_compile.f a0).bind fun bt101 => (some bt101.2.2.2.2)) = some r := h
 clear h
 obtain ⟨⟨t101, t102, t103, t106, t107⟩, A2, H⟩ := bd H
 dsimp only at H
 obtain rfl := Option.some.inj H
 go_enter Tryz.func28, Tryz.ntmps28
 go_wp2_with (first | ((with_reducible refine gate_callee (f := 69) rfl ?_); refine goesL_ (some 7) rfl rfl Tryz.func69 (by kernel_rfl) rfl #[.string a0] rfl zl ?_; (with_reducible refine (address_compile.calls a0 t101 t102 t103 t106 t107 _ A2.out).mono ?_); rintro e w3 ⟨v104, rfl, ho0, hb⟩; refine ⟨_, rfl, ?_⟩; have HO105 := Aside0.mk (Kd.R_lower ho0 (below_size zB)); replace HB := sb w hb; clear hb ho0) | ((with_reducible refine gate_dst (N := 3) rfl ?_); refine bx 3 #[.int .i64 0, .string (⟨#[]⟩ : ByteArray), .slice none 0 0, .bool false] 100 fun gb108 hg w4 hbox hb => ?_; replace HO105 := rb HO105 hb; have BK108 := Aside0.mk (hbox); have GW108 := gw w hg; have GE108 := gw w hg; replace HB := sb w hb; clear hb hbox hg; obtain ⟨hcz5_0, hcz5_1, hcz5_2, hcz5_3, hfz5_0, hfz5_1, hfz5_2, hfz5_3⟩ := cf4 BK108; obtain ⟨Ao6, co6, eo6⟩ := Kd.R_slice HO105.out; subst eo6))
 go_ret
 exact ⟨zE, zB⟩
end Go.Proofs.YtmokgpepeddopaaGreatDoor.P
end
