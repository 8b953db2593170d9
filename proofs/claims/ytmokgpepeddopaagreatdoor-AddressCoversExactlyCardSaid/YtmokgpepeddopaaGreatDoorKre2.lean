/- Lemmas on the way to the statement: part 2 of 4 (functions as plain Lean functions, and that each call comes to what they say). -/
import Derived.Test.YtmokgpepeddopaaGreatDoorK12
import Derived.Test.YtmokgpepeddopaaGreatDoorK21
import Derived.Test.YtmokgpepeddopaaGreatDoorK30
import Derived.Test.YtmokgpepeddopaaGreatDoorK31
import Derived.Test.YtmokgpepeddopaaGreatDoorKre1
section
namespace Go.Proofs.YtmokgpepeddopaaGreatDoor.P
open Go.RowKit Go.Proofs.YtmokgpepeddopaaGreatDoorW.PrintWords Go.Proofs.YtmokgpepeddopaaGreatDoorW.PrintLast Go.Proofs.YtmokgpepeddopaaGreatDoorW.PrintMore
attribute [local go_sem] max2_int min2_int max_two min_two max_three min_three max_four min_four
attribute [local go_sem high] binOp_string_leq2 binOp_string_gtr2
set_option linter.unusedVariables false
set_option linter.unusedSimpArgs false
def weirgatelaw06_AddressCoversExactly.j0 : Nat → ByteArray → ByteArray → ByteArray → Bool → Option (Bool)
 | 0, _, _, _, _ => none
 | k + 1, x0, x1, x2, x22 => if x22 = true then ((weirgatelaw06_sanity.f k).bind fun t101 => (some t101)) else ((address_Covers.f k x0 x1).bind fun bt102 => (if bt102.2.2 = 0 then (if bt102.1 = true then ((weirgatelaw06_sanity.f k).bind fun t108 => (if t108 = true then ((address_Match.f k x1 x2).bind fun t109 => (if t109 = true then ((address_Match.f k x0 x2).bind fun t110 => (some t110)) else (some true))) else (some false))) else ((weirgatelaw06_sanity.f k).bind fun t111 => (if t111 = true then ((address_Match.f k x1 bt102.2.1).bind fun t112 => (if t112 = true then ((address_Match.f k x0 bt102.2.1).bind fun t113 => (some (!t113))) else (some false))) else (some false)))) else ((weirgatelaw06_sanity.f k).bind fun t105 => (if t105 = true then (if bt102.1 = true then (some false) else (if bt102.2.1.toList = ([] : List UInt8) then ((address_Valid.f x0).bind fun t106 => (if t106 = true then ((address_Valid.f x1).bind fun t107 => (some (!t107))) else (some true))) else (some false))) else (some false)))))
def weirgatelaw06_AddressCoversExactly.f (k : Nat) (a0 : ByteArray) (a1 : ByteArray) (a2 : ByteArray) : Option (Bool) := if (a0.size : Int) > 1000 then (weirgatelaw06_AddressCoversExactly.j0 k a0 a1 a2 true) else (if (a1.size : Int) > 1000 then (weirgatelaw06_AddressCoversExactly.j0 k a0 a1 a2 true) else (weirgatelaw06_AddressCoversExactly.j0 k a0 a1 a2 (decide ((a2.size : Int) > 5000))))
set_option maxRecDepth 100000 in
theorem weirgatelaw06_AddressCoversExactly.lf {p : Prop} (h : p := by
 go_wp2_with (first
 | ((with_reducible refine gate_callee (f := 27) rfl ?_); refine goesL_ (some 27) rfl rfl Tryz.func27 (by kernel_rfl) rfl #[.string a0, .string a1] rfl zl ?_; (with_reducible refine (address_Covers.calls _ _ _ _ _ _ _ A8.out).mono ?_); rintro e wz0 ⟨rfl, hb⟩; refine ⟨_, rfl, ?_⟩; replace HB := sb w hb; clear hb)
 | ((with_reducible refine gate_callee (f := 11) rfl ?_); refine goesL_ (some 53) rfl rfl Tryz.func11 (by kernel_rfl) rfl #[] rfl zl ?_; (with_reducible refine (weirgatelaw06_sanity.calls _ _ _ A11.out).mono ?_); rintro e wz1 ⟨rfl, hb⟩; refine ⟨_, rfl, ?_⟩; replace HB := sb w hb; clear hb)
 | (go_at_call 29; (with_reducible refine (address_Match.calls _ _ _ _ _ A13.out).mono ?_); rintro e wz2 ⟨rfl, hb⟩; replace HB := sb w hb; clear hb)
 | (go_at_call 29; (with_reducible refine (address_Match.calls _ _ _ _ _ A15.out).mono ?_); rintro e wz3 ⟨rfl, hb⟩; replace HB := sb w hb; clear hb)
 | ((with_reducible refine gate_callee (f := 11) rfl ?_); refine goesL_ (some 65) rfl rfl Tryz.func11 (by kernel_rfl) rfl #[] rfl zl ?_; (with_reducible refine (weirgatelaw06_sanity.calls _ _ _ A11.out).mono ?_); rintro e wz1 ⟨rfl, hb⟩; refine ⟨_, rfl, ?_⟩; replace HB := sb w hb; clear hb)
 | ((with_reducible refine gate_callee (f := 11) rfl ?_); refine goesL_ (some 33) rfl rfl Tryz.func11 (by kernel_rfl) rfl #[] rfl zl ?_; (with_reducible refine (weirgatelaw06_sanity.calls _ _ _ A10.out).mono ?_); rintro e wz1 ⟨rfl, hb⟩; refine ⟨_, rfl, ?_⟩; replace HB := sb w hb; clear hb)
 | (go_at_call 28; (with_reducible refine (address_Valid.calls _ _ _ A14.out).mono ?_); rintro e wz2 ⟨rfl, hb⟩; replace HB := sb w hb; clear hb)
 | (go_at_call 28; (with_reducible refine (address_Valid.calls _ _ _ A16.out).mono ?_); rintro e wz3 ⟨rfl, hb⟩; replace HB := sb w hb; clear hb))
 go_ret; exact ⟨zE, zB⟩) : p := h
set_option maxHeartbeats 8000000 in
set_option maxRecDepth 100000 in
theorem weirgatelaw06_AddressCoversExactly.calls (k : Nat) (a0 : ByteArray) (a1 : ByteArray) (a2 : ByteArray) (r : Bool) (w : World) (h : weirgatelaw06_AddressCoversExactly.f k a0 a1 a2 = some r) :
  Calls Tryz.prog 7 #[.string a0, .string a1, .string a2] w fun e w' => e = .returned (.bool r) ∧ Below w.heap.size w w' := by
 have HB := Aside0.mk (Below.refl w.heap.size w)
 have H : (if (a0.size : Int) > 1000 then (weirgatelaw06_AddressCoversExactly.j0 k a0 a1 a2 true) else (if (a1.size : Int) > 1000 then (weirgatelaw06_AddressCoversExactly.j0 k a0 a1 a2 true) else (weirgatelaw06_AddressCoversExactly.j0 k a0 a1 a2 (decide ((a2.size : Int) > 5000))))) = some r := h
 clear h
 have HC4 := Aside0.mk H
 clear H
 go_enter Tryz.func7, Tryz.ntmps7
 go_upto_region 1 with (fail)
 go_cut [22] (fun v22 wc => ∃ (kq : Nat) (x22_3 : Bool), v22 = .bool x22_3 ∧ Aside0 (weirgatelaw06_AddressCoversExactly.j0 kq a0 a1 a2 x22_3 = some r) ∧ Aside0 (kq ≤ k) ∧ Aside0 (Below w.heap.size w wc))
 case first =>
  have H := HC4.out
  clear HC4
  by_cases c5 : (a0.size : Int) > 1000
  ·rw [if_pos c5] at H
   have c5b0 : decide (1000 < (a0.size : Int)) = true := decide_eq_true c5
   have c5b1 : decide (1000 < a0.size) = true := decide_eq_true (by omega)
   clear c5
   (first | rw [c5b0] | (simp only [i64_w, i32_w]; rw [c5b0]) | skip)
   have H' := Aside0.mk H
   clear H
   go_wp2
   go_meet
   case rel => exact ⟨_, (true), zS, H', ⟨zo⟩, ⟨zB⟩⟩
  ·rw [if_neg c5] at H
   have c5b0 : decide (1000 < (a0.size : Int)) = false := decide_eq_false c5
   have c5b1 : decide (1000 < a0.size) = false := decide_eq_false (by omega)
   clear c5
   (first | rw [c5b0] | (simp only [i64_w, i32_w]; rw [c5b0]) | skip)
   by_cases c6 : (a1.size : Int) > 1000
   ·rw [if_pos c6] at H
    have c6b0 : decide (1000 < (a1.size : Int)) = true := decide_eq_true c6
    have c6b1 : decide (1000 < a1.size) = true := decide_eq_true (by omega)
    clear c6
    have H' := Aside0.mk H
    clear H
    go_wp2
    go_meet
    case rel => exact ⟨_, (true), zS, H', ⟨zo⟩, ⟨zB⟩⟩
   ·rw [if_neg c6] at H
    have c6b0 : decide (1000 < (a1.size : Int)) = false := decide_eq_false c6
    have c6b1 : decide (1000 < a1.size) = false := decide_eq_false (by omega)
    clear c6
    have H' := Aside0.mk H
    clear H
    go_wp2
    go_meet
    case rel => exact ⟨_, (decide ((a2.size : Int) > 5000)), zS, H', ⟨zo⟩, ⟨zB⟩⟩
 case rest =>
  clear HC4
  obtain ⟨kq, x22_3, rfl, HA, HJ3, HB⟩ := hcut
  cases kq with
  | zero => exact absurd HA.out (by simp [weirgatelaw06_AddressCoversExactly.j0])
  | succ kj3 =>
   have H := HA.out
   clear HA
   simp only [weirgatelaw06_AddressCoversExactly.j0] at H
   by_cases c7 : x22_3 = true
   ·subst c7
    rw [if_pos rfl] at H
    obtain ⟨t101, A8, H⟩ := bd H
    obtain rfl := Option.some.inj H
    go_wp2_with (first | ((with_reducible refine gate_callee (f := 11) rfl ?_); refine goesL_ (some 23) rfl rfl Tryz.func11 (by kernel_rfl) rfl #[] rfl zl ?_; (with_reducible refine (weirgatelaw06_sanity.calls kj3  t101 _ A8.out).mono ?_); rintro e w9 ⟨rfl, hb⟩; refine ⟨_, rfl, ?_⟩; replace HB := sb w hb; clear hb))
    go_ret
    exact ⟨zE, zB⟩
   ·replace c7 := Bool.eq_false_iff.mpr c7
    subst c7
    rw [if_neg Bool.false_ne_true] at H
    obtain ⟨⟨t102, t103, t104⟩, A8, H⟩ := bd H
    dsimp only at H
    by_cases c9 : t104 = 0
    ·rw [if_pos c9] at H
     have c9b0 : (t104 == 0) = true := beq_iff_eq.mpr c9
     have c9b1 : (t104 != 0) = false := bne_eq_false_iff_eq.mpr c9
     clear c9
     by_cases c10 : t102 = true
     ·subst c10
      rw [if_pos rfl] at H
      obtain ⟨t108, A11, H⟩ := bd H
      by_cases c12 : t108 = true
      ·subst c12
       rw [if_pos rfl] at H
       obtain ⟨t109, A13, H⟩ := bd H
       by_cases c14 : t109 = true
       ·subst c14
        rw [if_pos rfl] at H
        obtain ⟨t110, A15, H⟩ := bd H
        obtain rfl := Option.some.inj H
        exact weirgatelaw06_AddressCoversExactly.lf
       ·replace c14 := Bool.eq_false_iff.mpr c14
        subst c14
        rw [if_neg Bool.false_ne_true] at H
        obtain rfl := Option.some.inj H
        exact weirgatelaw06_AddressCoversExactly.lf
      ·replace c12 := Bool.eq_false_iff.mpr c12
       subst c12
       rw [if_neg Bool.false_ne_true] at H
       obtain rfl := Option.some.inj H
       exact weirgatelaw06_AddressCoversExactly.lf
     ·replace c10 := Bool.eq_false_iff.mpr c10
      subst c10
      rw [if_neg Bool.false_ne_true] at H
      obtain ⟨t111, A11, H⟩ := bd H
      by_cases c12 : t111 = true
      ·subst c12
       rw [if_pos rfl] at H
       obtain ⟨t112, A13, H⟩ := bd H
       by_cases c14 : t112 = true
       ·subst c14
        rw [if_pos rfl] at H
        obtain ⟨t113, A15, H⟩ := bd H
        obtain rfl := Option.some.inj H
        exact weirgatelaw06_AddressCoversExactly.lf
       ·replace c14 := Bool.eq_false_iff.mpr c14
        subst c14
        rw [if_neg Bool.false_ne_true] at H
        obtain rfl := Option.some.inj H
        exact weirgatelaw06_AddressCoversExactly.lf
      ·replace c12 := Bool.eq_false_iff.mpr c12
       subst c12
       rw [if_neg Bool.false_ne_true] at H
       obtain rfl := Option.some.inj H
       exact weirgatelaw06_AddressCoversExactly.lf
    ·rw [if_neg c9] at H
     have c9b0 : (t104 == 0) = false := beq_eq_false_iff_ne.mpr c9
     have c9b1 : (t104 != 0) = true := bne_iff_ne.mpr c9
     obtain ⟨t105, A10, H⟩ := bd H
     by_cases c11 : t105 = true
     ·subst c11
      rw [if_pos rfl] at H
      by_cases c12 : t102 = true
      ·subst c12
       rw [if_pos rfl] at H
       obtain rfl := Option.some.inj H
       exact weirgatelaw06_AddressCoversExactly.lf
      ·replace c12 := Bool.eq_false_iff.mpr c12
       subst c12
       rw [if_neg Bool.false_ne_true] at H
       by_cases c13 : t103.toList = ([] : List UInt8)
       ·rw [if_pos c13] at H
        have c13b0 : (t103.toList == ([] : List UInt8)) = true := beq_iff_eq.mpr c13
        have c13b1 : (t103.toList != ([] : List UInt8)) = false := bne_eq_false_iff_eq.mpr c13
        clear c13
        obtain ⟨t106, A14, H⟩ := bd H
        by_cases c15 : t106 = true
        ·subst c15
         rw [if_pos rfl] at H
         obtain ⟨t107, A16, H⟩ := bd H
         obtain rfl := Option.some.inj H
         exact weirgatelaw06_AddressCoversExactly.lf
        ·replace c15 := Bool.eq_false_iff.mpr c15
         subst c15
         rw [if_neg Bool.false_ne_true] at H
         obtain rfl := Option.some.inj H
         exact weirgatelaw06_AddressCoversExactly.lf
       ·rw [if_neg c13] at H
        have c13b0 : (t103.toList == ([] : List UInt8)) = false := beq_eq_false_iff_ne.mpr c13
        have c13b1 : (t103.toList != ([] : List UInt8)) = true := bne_iff_ne.mpr c13
        obtain rfl := Option.some.inj H
        exact weirgatelaw06_AddressCoversExactly.lf
     ·replace c11 := Bool.eq_false_iff.mpr c11
      subst c11
      rw [if_neg Bool.false_ne_true] at H
      obtain rfl := Option.some.inj H
      exact weirgatelaw06_AddressCoversExactly.lf
def weirgatelaw06_AddressCoversExactly.Pure : Prop := ∀ (a0 : ByteArray) (a1 : ByteArray) (a2 : ByteArray), a0.size ≤ 140737488351232 → a1.size ≤ 140737488351232 → a2.size ≤ 140737488351232 → ∃ k, weirgatelaw06_AddressCoversExactly.f k a0 a1 a2 = some true
theorem weirgatelaw06_AddressCoversExactly.walk (P : weirgatelaw06_AddressCoversExactly.Pure) (a0 : ByteArray) (a1 : ByteArray) (a2 : ByteArray) (w : World) (w0 : a0.size ≤ 140737488351232) (w1 : a1.size ≤ 140737488351232) (w2 : a2.size ≤ 140737488351232) :
  Calls Tryz.prog 7 #[.string a0, .string a1, .string a2] w fun e w' => e = .returned (.bool true) ∧ Below w.heap.size w w' := by
 obtain ⟨k, h⟩ := P a0 a1 a2 w0 w1 w2
 refine (weirgatelaw06_AddressCoversExactly.calls k a0 a1 a2 true w h).mono ?_
 rintro e w' ⟨rfl, hd⟩
 exact ⟨rfl, hd⟩
end Go.Proofs.YtmokgpepeddopaaGreatDoor.P
end
