/- Lemmas on the way to the statement: part 2 of 4 (functions as plain Lean functions, and that each call comes to what they say). -/
import Derived.Test.YtmokgpepeddopaaGreatDoorK12
import Derived.Test.YtmokgpepeddopaaGreatDoorK21
import Derived.Test.YtmokgpepeddopaaGreatDoorK30
import Derived.Test.YtmokgpepeddopaaGreatDoorK31
import Derived.Test.YtmokgpepeddopaaGreatDoorKrf1
import Derived.Test.YtmokgpepeddopaaGreatDoorK24
section
namespace Go.Proofs.YtmokgpepeddopaaGreatDoor.P
open Go.RowKit Go.Proofs.YtmokgpepeddopaaGreatDoorW.PrintWords Go.Proofs.YtmokgpepeddopaaGreatDoorW.PrintLast Go.Proofs.YtmokgpepeddopaaGreatDoorW.PrintMore
attribute [local go_sem] max2_int min2_int max_two min_two max_three min_three max_four min_four
attribute [local go_sem high] binOp_string_leq2 binOp_string_gtr2
set_option linter.unusedVariables false
set_option linter.unusedSimpArgs false
def weirgatelaw06_AddressCoversExactly.j0 : Nat → ByteArray → ByteArray → ByteArray → Bool → Option (Bool)
 | 0, _, _, _, _ => none
 | k + 1, x0, x1, x2, x22 => if x22 = true then ((weirgatelaw06_sanity.f k).bind fun t101 => (some t101)) else ((address_Covers.f k x0 x1).bind fun bt102 => (if bt102.2.2 = 0 then (if bt102.1 = true then ((weirgatelaw06_sanity.f k).bind fun t108 => (if t108 = true then ((address_Match.f k x1 x2).bind fun t109 => (if t109 = true then ((address_Match.f k x0 x2).bind fun t110 => (some t110)) else (some true))) else (some false))) else ((weirgatelaw06_sanity.f k).bind fun t111 => (if t111 = true then ((address_Match.f k x1 bt102.2.1).bind fun t112 => (if t112 = true then ((address_Match.f k x0 bt102.2.1).bind fun t113 => (some (!t113))) else (some false))) else (some false)))) else ((weirgatelaw06_sanity.f k).bind fun t105 => (if t105 = true then (if bt102.1 = true then (some false) else (if bt102.2.1.toList = ([] : List UInt8) then ((address_Valid.f x0).bind fun t106 => (if t106 = true then ((address_Valid.f x1).bind fun t107 => (some (!t107))) else (some true))) else (some false))) else (some false)))))
def weirgatelaw06_AddressCoversExactly.f (k : Nat) (a0 : ByteArray) (a1 : ByteArray) (a2 : ByteArray) : Option (Bool) := if (a0.size : Int) > 1000 then (weirgatelaw06_AddressCoversExactly.j0 k a0 a1 a2 true) else (if (a1.size : Int) > 1000 then (weirgatelaw06_AddressCoversExactly.j0 k a0 a1 a2 true) else (weirgatelaw06_AddressCoversExactly.j0 k a0 a1 a2 (decide ((a2.size : Int) > 5000))))
set_option maxRecDepth 100000 in
theorem weirgatelaw06_AddressCoversExactly.lf {p : Prop} (h : p := by
 go_wp2_with (first
 | ((with_reducible refine gate_callee (f := 27) rfl ?_); refine goesL_ (some 27) rfl rfl Tryz.func27 (by kernel_rfl) rfl #[.string a0, .string a1] rfl zl ?_; (with_reducible refine (address_Covers.calls _ _ _ _ _ _ _ A8.out).mono ?_); rintro e wz0 ⟨rfl, hb⟩; refine ⟨_, rfl, ?_⟩; replace HB := sb w hb; clear hb)
 | ((with_reducible refine gate_callee (f := 11) rfl ?_); refine goesL_ (some 53) rfl rfl Tryz.func11 (by kernel_rfl) rfl #[] rfl zl ?_; (with_reducible refine (weirgatelaw06_sanity.calls _ _ _ A11.out).mono ?_); rintro e wz1 ⟨rfl, hb⟩; refine ⟨_, rfl, ?_⟩; replace HB := sb w hb; clear hb)
 | (go_at_call 29; (with_reducible refine (address_Match.calls _ _ _ _ _ A13.out).mono ?_); rintro e wz2 ⟨rfl, hb⟩; replace HB := sb w hb; clear hb)
 | (go_at_call 29; (with_reducible refine (address_Match.calls _ _ _ _ _ A15.out).mono ?_); rintro e wz3 ⟨rfl, hb⟩; replace HB := sb w hb; clear hb)
 | ((with_reducible refine gate_callee (f := 11) rfl ?_); refine goesL_ (some 65) rfl rfl Tryz.func11 (by kernel_rfl) rfl #[] rfl zl ?_; (with_reducible refine (weirgatelaw06_sanity.calls _ _ _ A11.out).mono ?_); rintro e wz1 ⟨rfl, hb⟩; refine ⟨_, rfl, ?_⟩; replace HB := sb w hb; clear hb)
 | ((with_reducible refine gate_callee (f := 11) rfl ?_); refine goesL_ (some 33) rfl rfl Tryz.func11 (by kernel_rfl) rfl #[] rfl zl ?_; (with_reducible refine (weirgatelaw06_sanity.calls _ _ _ A10.out).mono ?_); rintro e wz1 ⟨rfl, hb⟩; refine ⟨_, rfl, ?_⟩; replace HB := sb w hb; clear hb)
 | (go_at_call 28; (with_reducible refine (address_Valid.calls _ _ _ A14.out).mono ?_); rintro e wz2 ⟨rfl, hb⟩; replace HB := sb w hb; clear hb)
 | (go_at_call 28; (with_reducible refine (address_Valid.calls _ _ _ A16.out).mono ?_); rintro e wz3 ⟨rfl, hb⟩; replace HB := sb w hb; clear hb))
 go_ret; exact ⟨zE, zB⟩) : p := h
set_option maxHeartbeats 8000000 in
set_option maxRecDepth 100000 in
theorem weirgatelaw06_AddressCoversExactly.calls (k : Nat) (a0 : ByteArray) (a1 : ByteArray) (a2 : ByteArray) (r : Bool) (w : World) (h : weirgatelaw06_AddressCoversExactly.f k a0 a1 a2 = some r) :
  Calls Tryz.prog 7 #[.string a0, .string a1, .string a2] w fun e w' => e = .returned (.bool r) ∧ Below w.heap.size w w' := by
 have HB := Aside0.mk (Below.refl w.heap.size w)
 have H : (if (a0.size : Int) > 1000 then (weirgatelaw06_AddressCoversExactly.j0 k a0 a1 a2 true) else (if (a1.size : Int) > 1000 then (weirgatelaw06_AddressCoversExactly.j0 k a0 a1 a2 true) else (weirgatelaw06_AddressCoversExactly.j0 k a0 a1 a2 (decide ((a2.size : Int) > 5000))))) = some r := h
 clear h
 have HC4 := Aside0.mk H
 clear H
 go_enter Tryz.func7, Tryz.ntmps7
 go_upto_region 1 with (fail)
 go_cut [22] (fun v22 wc => ∃ (kq : Nat) (x22_3 : Bool), v22 = .bool x22_3 ∧ Aside0 (weirgatelaw06_AddressCoversExactly.j0 kq a0 a1 a2 x22_3 = some r) ∧ Aside0 (kq ≤ k) ∧ Aside0 (Below w.heap.size w wc))
 case first =>
  have H := HC4.out
  clear HC4
  by_cases c5 : (a0.size : Int) > 1000
  ·rw [if_pos c5] at H
   have c5b0 : decide (1000 < (a0.size : Int)) = true := decide_eq_true c5
   have c5b1 : decide (1000 < a0.size) = true := decide_eq_true (by omega)
   clear c5
   (first | rw [c5b0] | (simp only [i64_w, i32_w]; rw [c5b0]) | skip)
   have H' := Aside0.mk H
   clear H
   go_wp2
   go_meet
   case rel => exact ⟨_, (true), zS, H', ⟨zo⟩, ⟨zB⟩⟩
  ·rw [if_neg c5] at H
   have c5b0 : decide (1000 < (a0.size : Int)) = false := decide_eq_false c5
   have c5b1 : decide (1000 < a0.size) = false := decide_eq_false (by omega)
   clear c5
   (first | rw [c5b0] | (simp only [i64_w, i32_w]; rw [c5b0]) | skip)
   by_cases c6 : (a1.size : Int) > 1000
   ·rw [if_pos c6] at H
    have c6b0 : decide (1000 < (a1.size : Int)) = true := decide_eq_true c6
    have c6b1 : decide (1000 < a1.size) = true := decide_eq_true (by omega)
    clear c6
    have H' := Aside0.mk H
    clear H
    go_wp2
    go_meet
    case rel => exact ⟨_, (true), zS, H', ⟨zo⟩, ⟨zB⟩⟩
   ·rw [if_neg c6] at H
    have c6b0 : decide (1000 < (a1.size : Int)) = false := decide_eq_false c6
    have c6b1 : decide (1000 < a1.size) = false := decide_eq_false (by omega)
    clear c6
    have H' := Aside0.mk H
    clear H
    go_wp2
    go_meet
    case rel => exact ⟨_, (decide ((a2.size : Int) > 5000)), zS, H', ⟨zo⟩, ⟨zB⟩⟩
 case rest =>
  clear HC4
  obtain ⟨kq, x22_3, rfl, HA, HJ3, HB⟩ := hcut
  cases kq with
  | zero => exact absurd HA.out (by simp [weirgatelaw06_AddressCoversExactly.j0])
  | succ kj3 =>
   have H := HA.out
   clear HA
   simp only [weirgatelaw06_AddressCoversExactly.j0] at H
   by_cases c7 : x22_3 = true
   ·subst c7
    rw [if_pos rfl] at H
    obtain ⟨t101, A8, H⟩ := bd H
    obtain rfl := Option.some.inj H
    go_wp2_with (first | ((with_reducible refine gate_callee (f := 11) rfl ?_); refine goesL_ (some 23) rfl rfl Tryz.func11 (by kernel_rfl) rfl #[] rfl zl ?_; (with_reducible refine (weirgatelaw06_sanity.calls kj3  t101 _ A8.out).mono ?_); rintro e w9 ⟨rfl, hb⟩; refine ⟨_, rfl, ?_⟩; replace HB := sb w hb; clear hb))
    go_ret
    exact ⟨zE, zB⟩
   ·replace c7 := Bool.eq_false_iff.mpr c7
    subst c7
    rw [if_neg Bool.false_ne_true] at H
    obtain ⟨⟨t102, t103, t104⟩, A8, H⟩ := bd H
    dsimp only at H
    by_cases c9 : t104 = 0
    ·rw [if_pos c9] at H
     have c9b0 : (t104 == 0) = true := beq_iff_eq.mpr c9
     have c9b1 : (t104 != 0) = false := bne_eq_false_iff_eq.mpr c9
     clear c9
     by_cases c10 : t102 = true
     ·subst c10
      rw [if_pos rfl] at H
      obtain ⟨t108, A11, H⟩ := bd H
      by_cases c12 : t108 = true
      ·subst c12
       rw [if_pos rfl] at H
       obtain ⟨t109, A13, H⟩ := bd H
       by_cases c14 : t109 = true
       ·subst c14
        rw [if_pos rfl] at H
        obtain ⟨t110, A15, H⟩ := bd H
        obtain rfl := Option.some.inj H
        exact weirgatelaw06_AddressCoversExactly.lf
       ·replace c14 := Bool.eq_false_iff.mpr c14
        subst c14
        rw [if_neg Bool.false_ne_true] at H
        obtain rfl := Option.some.inj H
        exact weirgatelaw06_AddressCoversExactly.lf
      ·replace c12 := Bool.eq_false_iff.mpr c12
       subst c12
       rw [if_neg Bool.false_ne_true] at H
       obtain rfl := Option.some.inj H
       exact weirgatelaw06_AddressCoversExactly.lf
     ·replace c10 := Bool.eq_false_iff.mpr c10
      subst c10
      rw [if_neg Bool.false_ne_true] at H
      obtain ⟨t111, A11, H⟩ := bd H
      by_cases c12 : t111 = true
      ·subst c12
       rw [if_pos rfl] at H
       obtain ⟨t112, A13, H⟩ := bd H
       by_cases c14 : t112 = true
       ·subst c14
        rw [if_pos rfl] at H
        obtain ⟨t113, A15, H⟩ := bd H
        obtain rfl := Option.some.inj H
        exact weirgatelaw06_AddressCoversExactly.lf
       ·replace c14 := Bool.eq_false_iff.mpr c14
        subst c14
        rw [if_neg Bool.false_ne_true] at H
        obtain rfl := Option.some.inj H
        exact weirgatelaw06_AddressCoversExactly.lf
      ·replace c12 := Bool.eq_false_iff.mpr c12
       subst c12
       rw [if_neg Bool.false_ne_true] at H
       obtain rfl := Option.some.inj H
       exact weirgatelaw06_AddressCoversExactly.lf
    ·rw [if_neg c9] at H
     have c9b0 : (t104 == 0) = false := beq_eq_false_iff_ne.mpr c9
     have c9b1 : (t104 != 0) = true := bne_iff_ne.mpr c9
     obtain ⟨t105, A10, H⟩ := bd H
     by_cases c11 : t105 = true
     ·subst c11
      rw [if_pos rfl] at H
      by_cases c12 : t102 = true
      ·subst c12
       rw [if_pos rfl] at H
       obtain rfl := Option.some.inj H
       exact weirgatelaw06_AddressCoversExactly.lf
      ·replace c12 := Bool.eq_false_iff.mpr c12
       subst c12
       rw [if_neg Bool.false_ne_true] at H
       by_cases c13 : t103.toList = ([] : List UInt8)
       ·rw [if_pos c13] at H
        have c13b0 : (t103.toList == ([] : List UInt8)) = true := beq_iff_eq.mpr c13
        have c13b1 : (t103.toList != ([] : List UInt8)) = false := bne_eq_false_iff_eq.mpr c13
        clear c13
        obtain ⟨t106, A14, H⟩ := bd H
        by_cases c15 : t106 = true
        ·subst c15
         rw [if_pos rfl] at H
         obtain ⟨t107, A16, H⟩ := bd H
         obtain rfl := Option.some.inj H
         exact weirgatelaw06_AddressCoversExactly.lf
        ·replace c15 := Bool.eq_false_iff.mpr c15
         subst c15
         rw [if_neg Bool.false_ne_true] at H
         obtain rfl := Option.some.inj H
         exact weirgatelaw06_AddressCoversExactly.lf
       ·rw [if_neg c13] at H
        have c13b0 : (t103.toList == ([] : List UInt8)) = false := beq_eq_false_iff_ne.mpr c13
        have c13b1 : (t103.toList != ([] : List UInt8)) = true := bne_iff_ne.mpr c13
        obtain rfl := Option.some.inj H
        exact weirgatelaw06_AddressCoversExactly.lf
     ·replace c11 := Bool.eq_false_iff.mpr c11
      subst c11
      rw [if_neg Bool.false_ne_true] at H
      obtain rfl := Option.some.inj H
      exact weirgatelaw06_AddressCoversExactly.lf
def weirgatelaw06_AddressCoversExactly.Pure : Prop := ∀ (a0 : ByteArray) (a1 : ByteArray) (a2 : ByteArray), a0.size ≤ 140737488351232 → a1.size ≤ 140737488351232 → a2.size ≤ 140737488351232 → ∃ k, weirgatelaw06_AddressCoversExactly.f k a0 a1 a2 = some true
theorem weirgatelaw06_AddressCoversExactly.walk (P : weirgatelaw06_AddressCoversExactly.Pure) (a0 : ByteArray) (a1 : ByteArray) (a2 : ByteArray) (w : World) (w0 : a0.size ≤ 140737488351232) (w1 : a1.size ≤ 140737488351232) (w2 : a2.size ≤ 140737488351232) :
  Calls Tryz.prog 7 #[.string a0, .string a1, .string a2] w fun e w' => e = .returned (.bool true) ∧ Below w.heap.size w w' := by
 obtain ⟨k, h⟩ := P a0 a1 a2 w0 w1 w2
 refine (weirgatelaw06_AddressCoversExactly.calls k a0 a1 a2 true w h).mono ?_
 rintro e w' ⟨rfl, hd⟩
 exact ⟨rfl, hd⟩
end Go.Proofs.YtmokgpepeddopaaGreatDoor.P
end
section
namespace Go.Proofs.YtmokgpepeddopaaGreatDoor.P
open Go.RowKit Go.Proofs.YtmokgpepeddopaaGreatDoorW.PrintWords Go.Proofs.YtmokgpepeddopaaGreatDoorW.PrintLast Go.Proofs.YtmokgpepeddopaaGreatDoorW.PrintMore
attribute [local go_sem] max2_int min2_int max_two min_two max_three min_three max_four min_four
attribute [local go_sem high] binOp_string_leq2 binOp_string_gtr2
set_option linter.unusedVariables false
set_option linter.unusedSimpArgs false
mutual
def weirgatelaw06_AddressMeetsExactly.j0 : Nat → ByteArray → ByteArray → ByteArray → Bool → Option (Bool)
 | 0, _, _, _, _ => none
 | k + 1, x0, x1, x2, x35 => if x35 = true then ((weirgatelaw06_sanity.f k).bind fun t101 => (some t101)) else ((address_Meet.f k x0 x1).bind fun bt102 => ((address_Meet.f k x1 x0).bind fun bt105 => (if bt102.2.2 = 0 then ((address_Covers.f k x0 x0).bind fun bt109 => ((address_Covers.f k x0 x1).bind fun bt112 => (if (bt105.1 != bt102.1) = true then (weirgatelaw06_AddressMeetsExactly.j1 k x0 x1 x2 bt102.1 bt102.2.1 bt112.1 true) else (if bt105.2.2 = 0 then (if bt109.2.2 = 0 then (if bt112.2.2 = 0 then (if bt109.1 = true then (if bt112.1 = true then (weirgatelaw06_AddressMeetsExactly.j1 k x0 x1 x2 bt102.1 bt102.2.1 bt112.1 (!bt102.1)) else (weirgatelaw06_AddressMeetsExactly.j1 k x0 x1 x2 bt102.1 bt102.2.1 bt112.1 false)) else (weirgatelaw06_AddressMeetsExactly.j1 k x0 x1 x2 bt102.1 bt102.2.1 bt112.1 true)) else (weirgatelaw06_AddressMeetsExactly.j1 k x0 x1 x2 bt102.1 bt102.2.1 bt112.1 true)) else (weirgatelaw06_AddressMeetsExactly.j1 k x0 x1 x2 bt102.1 bt102.2.1 bt112.1 true)) else (weirgatelaw06_AddressMeetsExactly.j1 k x0 x1 x2 bt102.1 bt102.2.1 bt112.1 true))))) else ((weirgatelaw06_sanity.f k).bind fun t108 => (if t108 = true then (if bt105.2.2 = bt102.2.2 then (some (!bt102.1)) else (some false)) else (some false))))))
def weirgatelaw06_AddressMeetsExactly.j1 : Nat → ByteArray → ByteArray → ByteArray → Bool → ByteArray → Bool → Bool → Option (Bool)
 | 0, _, _, _, _, _, _, _ => none
 | k + 1, x0, x1, x2, x7, x8, x16, x102 => if x102 = true then (some false) else ((address_Both.f k x0 x1).bind fun bt115 => (if (bt115.2.1 != x7) = true then (weirgatelaw06_AddressMeetsExactly.j2 k x0 x1 x2 x7 x8 x16 bt115.1 true) else (weirgatelaw06_AddressMeetsExactly.j2 k x0 x1 x2 x7 x8 x16 bt115.1 (bt115.2.2 != 0))))
def weirgatelaw06_AddressMeetsExactly.j2 : Nat → ByteArray → ByteArray → ByteArray → Bool → ByteArray → Bool → ByteArray → Bool → Option (Bool)
 | 0, _, _, _, _, _, _, _, _ => none
 | k + 1, x0, x1, x2, x7, x8, x16, x19, x116 => if x116 = true then (some false) else ((address_Match.f k x0 x2).bind fun t118 => (if t118 = true then ((address_Match.f k x1 x2).bind fun t119 => (weirgatelaw06_AddressMeetsExactly.j3 k x0 x1 x2 x7 x8 x16 x19 t119)) else (weirgatelaw06_AddressMeetsExactly.j3 k x0 x1 x2 x7 x8 x16 x19 false)))
def weirgatelaw06_AddressMeetsExactly.j3 : Nat → ByteArray → ByteArray → ByteArray → Bool → ByteArray → Bool → ByteArray → Bool → Option (Bool)
 | 0, _, _, _, _, _, _, _, _ => none
 | k + 1, x0, x1, x2, x7, x8, x16, x19, x22 => if x7 = true then ((weirgatelaw06_sanity.f k).bind fun t120 => (if t120 = true then ((address_Match.f k x0 x8).bind fun t121 => (if t121 = true then ((address_Match.f k x1 x8).bind fun t122 => (if t122 = true then ((address_Match.f k x19 x2).bind fun t123 => (if (x22 == t123) = true then (if x16 = true then (some (x19.toList == x1.toList)) else (some true)) else (some false))) else (some false))) else (some false))) else (some false))) else ((weirgatelaw06_sanity.f k).bind fun t124 => (if t124 = true then (if x19.toList = ([] : List UInt8) then (some (!x22)) else (some false)) else (some false)))
end
def weirgatelaw06_AddressMeetsExactly.f (k : Nat) (a0 : ByteArray) (a1 : ByteArray) (a2 : ByteArray) : Option (Bool) := if (a0.size : Int) > 1000 then (weirgatelaw06_AddressMeetsExactly.j0 k a0 a1 a2 true) else (if (a1.size : Int) > 1000 then (weirgatelaw06_AddressMeetsExactly.j0 k a0 a1 a2 true) else (weirgatelaw06_AddressMeetsExactly.j0 k a0 a1 a2 (decide ((a2.size : Int) > 5000))))
set_option maxRecDepth 100000 in
theorem weirgatelaw06_AddressMeetsExactly.lf {p : Prop} (h : p := by
 go_wp2_with (first
 | ((with_reducible refine gate_callee (f := 11) rfl ?_); refine goesL_ (some 126) rfl rfl Tryz.func11 (by kernel_rfl) rfl #[] rfl zl ?_; (with_reducible refine (weirgatelaw06_sanity.calls _ _ _ A31.out).mono ?_); rintro e wz0 ⟨rfl, hb⟩; refine ⟨_, rfl, ?_⟩; replace HB := sb w hb; clear hb)
 | (go_at_call 29; (with_reducible refine (address_Match.calls _ _ _ _ _ A33.out).mono ?_); rintro e wz1 ⟨rfl, hb⟩; replace HB := sb w hb; clear hb)
 | (go_at_call 29; (with_reducible refine (address_Match.calls _ _ _ _ _ A35.out).mono ?_); rintro e wz2 ⟨rfl, hb⟩; replace HB := sb w hb; clear hb)
 | (go_at_call 29; (with_reducible refine (address_Match.calls _ _ _ _ _ A37.out).mono ?_); rintro e wz3 ⟨rfl, hb⟩; replace HB := sb w hb; clear hb)
 | ((with_reducible refine gate_callee (f := 30) rfl ?_); refine goesL_ (some 40) rfl rfl Tryz.func30 (by kernel_rfl) rfl #[.string a0, .string a1] rfl zl ?_; (with_reducible refine (address_Meet.calls _ _ _ _ _ _ _ A8.out).mono ?_); rintro e wz0 ⟨rfl, hb⟩; refine ⟨_, rfl, ?_⟩; replace HB := sb w hb; clear hb)
 | ((with_reducible refine gate_callee (f := 30) rfl ?_); refine goesL_ (some 47) rfl rfl Tryz.func30 (by kernel_rfl) rfl #[.string a1, .string a0] rfl zl ?_; (with_reducible refine (address_Meet.calls _ _ _ _ _ _ _ A9.out).mono ?_); rintro e wz1 ⟨rfl, hb⟩; refine ⟨_, rfl, ?_⟩; replace HB := sb w hb; clear hb)
 | ((with_reducible refine gate_callee (f := 11) rfl ?_); refine goesL_ (some 53) rfl rfl Tryz.func11 (by kernel_rfl) rfl #[] rfl zl ?_; (with_reducible refine (weirgatelaw06_sanity.calls _ _ _ A11.out).mono ?_); rintro e wz2 ⟨rfl, hb⟩; refine ⟨_, rfl, ?_⟩; replace HB := sb w hb; clear hb))
 go_ret; exact ⟨zE, zB⟩) : p := h
set_option maxHeartbeats 8000000 in
set_option maxRecDepth 100000 in
theorem weirgatelaw06_AddressMeetsExactly.calls (k : Nat) (a0 : ByteArray) (a1 : ByteArray) (a2 : ByteArray) (r : Bool) (w : World) (h : weirgatelaw06_AddressMeetsExactly.f k a0 a1 a2 = some r) :
  Calls Tryz.prog 8 #[.string a0, .string a1, .string a2] w fun e w' => e = .returned (.bool r) ∧ Below w.heap.size w w' := by
 have HB := Aside0.mk (Below.refl w.heap.size w)
 have H : (if (a0.size : Int) > 1000 then (weirgatelaw06_AddressMeetsExactly.j0 k a0 a1 a2 true) else (if (a1.size : Int) > 1000 then (weirgatelaw06_AddressMeetsExactly.j0 k a0 a1 a2 true) else (weirgatelaw06_AddressMeetsExactly.j0 k a0 a1 a2 (decide ((a2.size : Int) > 5000))))) = some r := h
 clear h
 have HC4 := Aside0.mk H
 clear H
 go_enter Tryz.func8, Tryz.ntmps8
 go_upto_region 1 with (fail)
 go_cut [35] (fun v35 wc => ∃ (kq : Nat) (x35_3 : Bool), v35 = .bool x35_3 ∧ Aside0 (weirgatelaw06_AddressMeetsExactly.j0 kq a0 a1 a2 x35_3 = some r) ∧ Aside0 (kq ≤ k) ∧ Aside0 (Below w.heap.size w wc))
 case first =>
  have H := HC4.out
  clear HC4
  by_cases c5 : (a0.size : Int) > 1000
  ·rw [if_pos c5] at H
   have c5b0 : decide (1000 < (a0.size : Int)) = true := decide_eq_true c5
   have c5b1 : decide (1000 < a0.size) = true := decide_eq_true (by omega)
   clear c5
   (first | rw [c5b0] | (simp only [i64_w, i32_w]; rw [c5b0]) | skip)
   have H' := Aside0.mk H
   clear H
   go_wp2
   go_meet
   case rel => exact ⟨_, (true), zS, H', ⟨zo⟩, ⟨zB⟩⟩
  ·rw [if_neg c5] at H
   have c5b0 : decide (1000 < (a0.size : Int)) = false := decide_eq_false c5
   have c5b1 : decide (1000 < a0.size) = false := decide_eq_false (by omega)
   clear c5
   (first | rw [c5b0] | (simp only [i64_w, i32_w]; rw [c5b0]) | skip)
   by_cases c6 : (a1.size : Int) > 1000
   ·rw [if_pos c6] at H
    have c6b0 : decide (1000 < (a1.size : Int)) = true := decide_eq_true c6
    have c6b1 : decide (1000 < a1.size) = true := decide_eq_true (by omega)
    clear c6
    have H' := Aside0.mk H
    clear H
    go_wp2
    go_meet
    case rel => exact ⟨_, (true), zS, H', ⟨zo⟩, ⟨zB⟩⟩
   ·rw [if_neg c6] at H
    have c6b0 : decide (1000 < (a1.size : Int)) = false := decide_eq_false c6
    have c6b1 : decide (1000 < a1.size) = false := decide_eq_false (by omega)
    clear c6
    have H' := Aside0.mk H
    clear H
    go_wp2
    go_meet
    case rel => exact ⟨_, (decide ((a2.size : Int) > 5000)), zS, H', ⟨zo⟩, ⟨zB⟩⟩
 case rest =>
  clear HC4
  obtain ⟨kq, x35_3, rfl, HA, HJ3, HB⟩ := hcut
  cases kq with
  | zero => exact absurd HA.out (by simp [weirgatelaw06_AddressMeetsExactly.j0])
  | succ kj3 =>
   have H := HA.out
   clear HA
   simp only [weirgatelaw06_AddressMeetsExactly.j0] at H
   by_cases c7 : x35_3 = true
   ·subst c7
    rw [if_pos rfl] at H
    obtain ⟨t101, A8, H⟩ := bd H
    obtain rfl := Option.some.inj H
    go_wp2_with (first | ((with_reducible refine gate_callee (f := 11) rfl ?_); refine goesL_ (some 36) rfl rfl Tryz.func11 (by kernel_rfl) rfl #[] rfl zl ?_; (with_reducible refine (weirgatelaw06_sanity.calls kj3  t101 _ A8.out).mono ?_); rintro e w9 ⟨rfl, hb⟩; refine ⟨_, rfl, ?_⟩; replace HB := sb w hb; clear hb))
    go_ret
    exact ⟨zE, zB⟩
   ·replace c7 := Bool.eq_false_iff.mpr c7
    subst c7
    rw [if_neg Bool.false_ne_true] at H
    obtain ⟨⟨t102, t103, t104⟩, A8, H⟩ := bd H
    dsimp only at H
    obtain ⟨⟨t105, t106, t107⟩, A9, H⟩ := bd H
    dsimp only at H
    by_cases c10 : t104 = 0
    ·rw [if_pos c10] at H
     have c10b0 : (t104 == 0) = true := beq_iff_eq.mpr c10
     have c10b1 : (t104 != 0) = false := bne_eq_false_iff_eq.mpr c10
     clear c10
     obtain ⟨⟨t109, t110, t111⟩, A11, H⟩ := bd H
     dsimp only at H
     obtain ⟨⟨t112, t113, t114⟩, A12, H⟩ := bd H
     dsimp only at H
     have HC13 := Aside0.mk H
     clear H
     go_upto_region 9 with (first | ((with_reducible refine gate_callee (f := 30) rfl ?_); refine goesL_ (some 40) rfl rfl Tryz.func30 (by kernel_rfl) rfl #[.string a0, .string a1] rfl zl ?_; (with_reducible refine (address_Meet.calls kj3 a0 a1 t102 t103 t104 _ A8.out).mono ?_); rintro e w14 ⟨rfl, hb⟩; refine ⟨_, rfl, ?_⟩; replace HB := sb w hb; clear hb) | ((with_reducible refine gate_callee (f := 30) rfl ?_); refine goesL_ (some 47) rfl rfl Tryz.func30 (by kernel_rfl) rfl #[.string a1, .string a0] rfl zl ?_; (with_reducible refine (address_Meet.calls kj3 a1 a0 t105 t106 t107 _ A9.out).mono ?_); rintro e w15 ⟨rfl, hb⟩; refine ⟨_, rfl, ?_⟩; replace HB := sb w hb; clear hb) | ((with_reducible refine gate_callee (f := 27) rfl ?_); refine goesL_ (some 66) rfl rfl Tryz.func27 (by kernel_rfl) rfl #[.string a0, .string a0] rfl zl ?_; (with_reducible refine (address_Covers.calls kj3 a0 a0 t109 t110 t111 _ A11.out).mono ?_); rintro e w16 ⟨rfl, hb⟩; refine ⟨_, rfl, ?_⟩; replace HB := sb w hb; clear hb) | ((with_reducible refine gate_callee (f := 27) rfl ?_); refine goesL_ (some 73) rfl rfl Tryz.func27 (by kernel_rfl) rfl #[.string a0, .string a1] rfl zl ?_; (with_reducible refine (address_Covers.calls kj3 a0 a1 t112 t113 t114 _ A12.out).mono ?_); rintro e w17 ⟨rfl, hb⟩; refine ⟨_, rfl, ?_⟩; replace HB := sb w hb; clear hb))
     (try simp only [Act.put, List.setIfInBounds_toArray, List.set_cons_zero, List.set_cons_succ])
     go_cut [102] (fun v102 wc => ∃ (kq : Nat) (x102_12 : Bool), v102 = .bool x102_12 ∧ Aside0 (weirgatelaw06_AddressMeetsExactly.j1 kq a0 a1 a2 t102 t103 t112 x102_12 = some r) ∧ Aside0 (kq ≤ kj3) ∧ Aside0 (Below w.heap.size w wc))
     case first =>
      have H := HC13.out
      clear HC13
      by_cases c18 : (t105 != t102) = true
      ·rw [if_pos c18] at H
       have c18b0 : (t105 != t102) = true := c18
       (try (have c18b1 : decide (t105 = t102) = false := by simpa using c18))
       (try (have c18b2 : (t105 == t102) = false := by simpa using c18))
       (try (have c18b3 : ¬ (t105 = t102) := by simpa using c18))
       clear c18
       (first | rw [c18b0] | (simp only [i64_w, i32_w]; rw [c18b0]) | skip)
       have H' := Aside0.mk H
       clear H
       go_wp2
       go_meet
       case rel => exact ⟨_, (true), zS, H', ⟨by have := HJ3.out; first | omega | exact Nat.le_refl _⟩, ⟨zB⟩⟩
      ·rw [if_neg c18] at H
       have c18b0 : (t105 != t102) = false := by simpa using c18
       (try (have c18b1 : decide (t105 = t102) = true := by simpa using c18))
       (try (have c18b2 : (t105 == t102) = true := by simpa using c18))
       clear c18
       (first | rw [c18b0] | (simp only [i64_w, i32_w]; rw [c18b0]) | skip)
       by_cases c19 : t107 = 0
       ·rw [if_pos c19] at H
        have c19b0 : (t107 == 0) = true := beq_iff_eq.mpr c19
        have c19b1 : (t107 != 0) = false := bne_eq_false_iff_eq.mpr c19
        clear c19
        by_cases c20 : t111 = 0
        ·rw [if_pos c20] at H
         have c20b0 : (t111 == 0) = true := beq_iff_eq.mpr c20
         have c20b1 : (t111 != 0) = false := bne_eq_false_iff_eq.mpr c20
         clear c20
         by_cases c21 : t114 = 0
         ·rw [if_pos c21] at H
          have c21b0 : (t114 == 0) = true := beq_iff_eq.mpr c21
          have c21b1 : (t114 != 0) = false := bne_eq_false_iff_eq.mpr c21
          clear c21
          by_cases c22 : t109 = true
          ·subst c22
           rw [if_pos rfl] at H
           by_cases c23 : t112 = true
           ·subst c23
            rw [if_pos rfl] at H
            have H' := Aside0.mk H
            clear H
            go_wp2
            go_meet
            case rel => exact ⟨_, (!t102), zS, H', ⟨by have := HJ3.out; first | omega | exact Nat.le_refl _⟩, ⟨zB⟩⟩
           ·replace c23 := Bool.eq_false_iff.mpr c23
            subst c23
            rw [if_neg Bool.false_ne_true] at H
            have H' := Aside0.mk H
            clear H
            go_wp2
            go_meet
            case rel => exact ⟨_, (false), zS, H', ⟨by have := HJ3.out; first | omega | exact Nat.le_refl _⟩, ⟨zB⟩⟩
          ·replace c22 := Bool.eq_false_iff.mpr c22
           subst c22
           rw [if_neg Bool.false_ne_true] at H
           have H' := Aside0.mk H
           clear H
           go_wp2
           go_meet
           case rel => exact ⟨_, (true), zS, H', ⟨by have := HJ3.out; first | omega | exact Nat.le_refl _⟩, ⟨zB⟩⟩
         ·rw [if_neg c21] at H
          have c21b0 : (t114 == 0) = false := beq_eq_false_iff_ne.mpr c21
          have c21b1 : (t114 != 0) = true := bne_iff_ne.mpr c21
          have H' := Aside0.mk H
          clear H
          go_wp2
          go_meet
          case rel => exact ⟨_, (true), zS, H', ⟨by have := HJ3.out; first | omega | exact Nat.le_refl _⟩, ⟨zB⟩⟩
        ·rw [if_neg c20] at H
         have c20b0 : (t111 == 0) = false := beq_eq_false_iff_ne.mpr c20
         have c20b1 : (t111 != 0) = true := bne_iff_ne.mpr c20
         have H' := Aside0.mk H
         clear H
         go_wp2
         go_meet
         case rel => exact ⟨_, (true), zS, H', ⟨by have := HJ3.out; first | omega | exact Nat.le_refl _⟩, ⟨zB⟩⟩
       ·rw [if_neg c19] at H
        have c19b0 : (t107 == 0) = false := beq_eq_false_iff_ne.mpr c19
        have c19b1 : (t107 != 0) = true := bne_iff_ne.mpr c19
        have H' := Aside0.mk H
        clear H
        go_wp2
        go_meet
        case rel => exact ⟨_, (true), zS, H', ⟨by have := HJ3.out; first | omega | exact Nat.le_refl _⟩, ⟨zB⟩⟩
     case rest =>
      clear HC13
      obtain ⟨kq, x102_12, rfl, HA, HJ12, HB⟩ := hcut
      cases kq with
      | zero => exact absurd HA.out (by simp [weirgatelaw06_AddressMeetsExactly.j1])
      | succ kj12 =>
       have H := HA.out
       clear HA
       simp only [weirgatelaw06_AddressMeetsExactly.j1] at H
       by_cases c20 : x102_12 = true
       ·subst c20
        rw [if_pos rfl] at H
        obtain rfl := Option.some.inj H
        go_wp2
        go_ret
        exact ⟨zE, zB⟩
       ·replace c20 := Bool.eq_false_iff.mpr c20
        subst c20
        rw [if_neg Bool.false_ne_true] at H
        obtain ⟨⟨t115, t116, t117⟩, A21, H⟩ := bd H
        dsimp only at H
        have HC22 := Aside0.mk H
        clear H
        go_upto_region 12 with (first | ((with_reducible refine gate_callee (f := 31) rfl ?_); refine goesL_ (some 106) rfl rfl Tryz.func31 (by kernel_rfl) rfl #[.string a0, .string a1] rfl zl ?_; (with_reducible refine (address_Both.calls kj12 a0 a1 t115 t116 t117 _ A21.out).mono ?_); rintro e w23 ⟨rfl, hb⟩; refine ⟨_, rfl, ?_⟩; replace HB := sb w hb; clear hb))
        (try simp only [Act.put, List.setIfInBounds_toArray, List.set_cons_zero, List.set_cons_succ])
        go_cut [116] (fun v116 wc => ∃ (kq : Nat) (x116_21 : Bool), v116 = .bool x116_21 ∧ Aside0 (weirgatelaw06_AddressMeetsExactly.j2 kq a0 a1 a2 t102 t103 t112 t115 x116_21 = some r) ∧ Aside0 (kq ≤ kj12) ∧ Aside0 (Below w.heap.size w wc))
        case first =>
         have H := HC22.out
         clear HC22
         by_cases c24 : (t116 != t102) = true
         ·rw [if_pos c24] at H
          have c24b0 : (t116 != t102) = true := c24
          (try (have c24b1 : decide (t116 = t102) = false := by simpa using c24))
          (try (have c24b2 : (t116 == t102) = false := by simpa using c24))
          (try (have c24b3 : ¬ (t116 = t102) := by simpa using c24))
          clear c24
          (first | rw [c24b0] | (simp only [i64_w, i32_w]; rw [c24b0]) | skip)
          have H' := Aside0.mk H
          clear H
          go_wp2
          go_meet
          case rel => exact ⟨_, (true), zS, H', ⟨by have := HJ3.out; have := HJ12.out; first | omega | exact Nat.le_refl _⟩, ⟨zB⟩⟩
         ·rw [if_neg c24] at H
          have c24b0 : (t116 != t102) = false := by simpa using c24
          (try (have c24b1 : decide (t116 = t102) = true := by simpa using c24))
          (try (have c24b2 : (t116 == t102) = true := by simpa using c24))
          clear c24
          (first | rw [c24b0] | (simp only [i64_w, i32_w]; rw [c24b0]) | skip)
          have H' := Aside0.mk H
          clear H
          go_wp2
          go_meet
          case rel => exact ⟨_, ((t117 != 0)), zS, H', ⟨by have := HJ3.out; have := HJ12.out; first | omega | exact Nat.le_refl _⟩, ⟨zB⟩⟩
        case rest =>
         clear HC22
         obtain ⟨kq, x116_21, rfl, HA, HJ21, HB⟩ := hcut
         cases kq with
         | zero => exact absurd HA.out (by simp [weirgatelaw06_AddressMeetsExactly.j2])
         | succ kj21 =>
          have H := HA.out
          clear HA
          simp only [weirgatelaw06_AddressMeetsExactly.j2] at H
          by_cases c25 : x116_21 = true
          ·subst c25
           rw [if_pos rfl] at H
           obtain rfl := Option.some.inj H
           go_wp2
           go_ret
           exact ⟨zE, zB⟩
          ·replace c25 := Bool.eq_false_iff.mpr c25
           subst c25
           rw [if_neg Bool.false_ne_true] at H
           have HC26 := Aside0.mk H
           clear H
           go_upto_region 14 with (fail)
           go_cut [22] (fun v22 wc => ∃ (kq : Nat) (x22_25 : Bool), v22 = .bool x22_25 ∧ Aside0 (weirgatelaw06_AddressMeetsExactly.j3 kq a0 a1 a2 t102 t103 t112 t115 x22_25 = some r) ∧ Aside0 (kq ≤ kj21) ∧ Aside0 (Below w.heap.size w wc))
           case first =>
            have H := HC26.out
            clear HC26
            obtain ⟨t118, A27, H⟩ := bd H
            by_cases c28 : t118 = true
            ·subst c28
             rw [if_pos rfl] at H
             obtain ⟨t119, A29, H⟩ := bd H
             have H' := Aside0.mk H
             clear H
             go_wp2_with (first | ((with_reducible refine gate_callee (f := 29) rfl ?_); refine goesL_ (some 119) rfl rfl Tryz.func29 (by kernel_rfl) rfl #[.string a0, .string a2] rfl zl ?_; (with_reducible refine (address_Match.calls kj21 a0 a2 true _ A27.out).mono ?_); rintro e w30 ⟨rfl, hb⟩; refine ⟨_, rfl, ?_⟩; replace HB := sb w hb; clear hb) | (go_at_call 29; (with_reducible refine (address_Match.calls kj21 a1 a2 t119 _ A29.out).mono ?_); rintro e w31 ⟨rfl, hb⟩; replace HB := sb w hb; clear hb))
             go_meet
             case rel => exact ⟨_, (t119), zS, H', ⟨by have := HJ3.out; have := HJ12.out; have := HJ21.out; first | omega | exact Nat.le_refl _⟩, ⟨zB⟩⟩
            ·replace c28 := Bool.eq_false_iff.mpr c28
             subst c28
             rw [if_neg Bool.false_ne_true] at H
             have H' := Aside0.mk H
             clear H
             go_wp2_with (first | ((with_reducible refine gate_callee (f := 29) rfl ?_); refine goesL_ (some 119) rfl rfl Tryz.func29 (by kernel_rfl) rfl #[.string a0, .string a2] rfl zl ?_; (with_reducible refine (address_Match.calls kj21 a0 a2 false _ A27.out).mono ?_); rintro e w29 ⟨rfl, hb⟩; refine ⟨_, rfl, ?_⟩; replace HB := sb w hb; clear hb))
             go_meet
             case rel => exact ⟨_, (false), zS, H', ⟨by have := HJ3.out; have := HJ12.out; have := HJ21.out; first | omega | exact Nat.le_refl _⟩, ⟨zB⟩⟩
           case rest =>
            clear HC26
            obtain ⟨kq, x22_25, rfl, HA, HJ25, HB⟩ := hcut
            cases kq with
            | zero => exact absurd HA.out (by simp [weirgatelaw06_AddressMeetsExactly.j3])
            | succ kj25 =>
             have H := HA.out
             clear HA
             simp only [weirgatelaw06_AddressMeetsExactly.j3] at H
             by_cases c30 : t102 = true
             ·subst c30
              rw [if_pos rfl] at H
              obtain ⟨t120, A31, H⟩ := bd H
              by_cases c32 : t120 = true
              ·subst c32
               rw [if_pos rfl] at H
               obtain ⟨t121, A33, H⟩ := bd H
               by_cases c34 : t121 = true
               ·subst c34
                rw [if_pos rfl] at H
                obtain ⟨t122, A35, H⟩ := bd H
                by_cases c36 : t122 = true
                ·subst c36
                 rw [if_pos rfl] at H
                 obtain ⟨t123, A37, H⟩ := bd H
                 by_cases c38 : (x22_25 == t123) = true
                 ·rw [if_pos c38] at H
                  have c38b0 : (x22_25 == t123) = true := c38
                  (try (have c38b1 : decide (x22_25 = t123) = true := by simpa using c38))
                  (try (have c38b2 : (x22_25 == t123) = true := by simpa using c38))
                  clear c38
                  by_cases c39 : t112 = true
                  ·subst c39
                   rw [if_pos rfl] at H
                   obtain rfl := Option.some.inj H
                   exact weirgatelaw06_AddressMeetsExactly.lf
                  ·replace c39 := Bool.eq_false_iff.mpr c39
                   subst c39
                   rw [if_neg Bool.false_ne_true] at H
                   obtain rfl := Option.some.inj H
                   exact weirgatelaw06_AddressMeetsExactly.lf
                 ·rw [if_neg c38] at H
                  have c38b0 : (x22_25 == t123) = false := by simpa using c38
                  (try (have c38b1 : decide (x22_25 = t123) = false := by simpa using c38))
                  (try (have c38b2 : (x22_25 == t123) = false := by simpa using c38))
                  (try (have c38b3 : ¬ (x22_25 = t123) := by simpa using c38))
                  clear c38
                  obtain rfl := Option.some.inj H
                  exact weirgatelaw06_AddressMeetsExactly.lf
                ·replace c36 := Bool.eq_false_iff.mpr c36
                 subst c36
                 rw [if_neg Bool.false_ne_true] at H
                 obtain rfl := Option.some.inj H
                 exact weirgatelaw06_AddressMeetsExactly.lf
               ·replace c34 := Bool.eq_false_iff.mpr c34
                subst c34
                rw [if_neg Bool.false_ne_true] at H
                obtain rfl := Option.some.inj H
                go_wp2_with (first | ((with_reducible refine gate_callee (f := 11) rfl ?_); refine goesL_ (some 126) rfl rfl Tryz.func11 (by kernel_rfl) rfl #[] rfl zl ?_; (with_reducible refine (weirgatelaw06_sanity.calls kj25  true _ A31.out).mono ?_); rintro e w35 ⟨rfl, hb⟩; refine ⟨_, rfl, ?_⟩; replace HB := sb w hb; clear hb) | (go_at_call 29; (with_reducible refine (address_Match.calls kj25 a0 t103 false _ A33.out).mono ?_); rintro e w36 ⟨rfl, hb⟩; replace HB := sb w hb; clear hb))
                go_ret
                exact ⟨zE, zB⟩
              ·replace c32 := Bool.eq_false_iff.mpr c32
               subst c32
               rw [if_neg Bool.false_ne_true] at H
               obtain rfl := Option.some.inj H
               go_wp2_with (first | ((with_reducible refine gate_callee (f := 11) rfl ?_); refine goesL_ (some 126) rfl rfl Tryz.func11 (by kernel_rfl) rfl #[] rfl zl ?_; (with_reducible refine (weirgatelaw06_sanity.calls kj25  false _ A31.out).mono ?_); rintro e w33 ⟨rfl, hb⟩; refine ⟨_, rfl, ?_⟩; replace HB := sb w hb; clear hb))
               go_ret
               exact ⟨zE, zB⟩
             ·replace c30 := Bool.eq_false_iff.mpr c30
              subst c30
              rw [if_neg Bool.false_ne_true] at H
              obtain ⟨t124, A31, H⟩ := bd H
              by_cases c32 : t124 = true
              ·subst c32
               rw [if_pos rfl] at H
               by_cases c33 : t115.toList = ([] : List UInt8)
               ·rw [if_pos c33] at H
                have c33b0 : (t115.toList == ([] : List UInt8)) = true := beq_iff_eq.mpr c33
                have c33b1 : (t115.toList != ([] : List UInt8)) = false := bne_eq_false_iff_eq.mpr c33
                clear c33
                obtain rfl := Option.some.inj H
                go_wp2_with (first | ((with_reducible refine gate_callee (f := 11) rfl ?_); refine goesL_ (some 153) rfl rfl Tryz.func11 (by kernel_rfl) rfl #[] rfl zl ?_; (with_reducible refine (weirgatelaw06_sanity.calls kj25  true _ A31.out).mono ?_); rintro e w34 ⟨rfl, hb⟩; refine ⟨_, rfl, ?_⟩; replace HB := sb w hb; clear hb))
                go_ret
                exact ⟨zE, zB⟩
               ·rw [if_neg c33] at H
                have c33b0 : (t115.toList == ([] : List UInt8)) = false := beq_eq_false_iff_ne.mpr c33
                have c33b1 : (t115.toList != ([] : List UInt8)) = true := bne_iff_ne.mpr c33
                obtain rfl := Option.some.inj H
                go_wp2_with (first | ((with_reducible refine gate_callee (f := 11) rfl ?_); refine goesL_ (some 153) rfl rfl Tryz.func11 (by kernel_rfl) rfl #[] rfl zl ?_; (with_reducible refine (weirgatelaw06_sanity.calls kj25  true _ A31.out).mono ?_); rintro e w34 ⟨rfl, hb⟩; refine ⟨_, rfl, ?_⟩; replace HB := sb w hb; clear hb))
                go_ret
                exact ⟨zE, zB⟩
              ·replace c32 := Bool.eq_false_iff.mpr c32
               subst c32
               rw [if_neg Bool.false_ne_true] at H
               obtain rfl := Option.some.inj H
               go_wp2_with (first | ((with_reducible refine gate_callee (f := 11) rfl ?_); refine goesL_ (some 153) rfl rfl Tryz.func11 (by kernel_rfl) rfl #[] rfl zl ?_; (with_reducible refine (weirgatelaw06_sanity.calls kj25  false _ A31.out).mono ?_); rintro e w33 ⟨rfl, hb⟩; refine ⟨_, rfl, ?_⟩; replace HB := sb w hb; clear hb))
               go_ret
               exact ⟨zE, zB⟩
    ·rw [if_neg c10] at H
     have c10b0 : (t104 == 0) = false := beq_eq_false_iff_ne.mpr c10
     have c10b1 : (t104 != 0) = true := bne_iff_ne.mpr c10
     obtain ⟨t108, A11, H⟩ := bd H
     by_cases c12 : t108 = true
     ·subst c12
      rw [if_pos rfl] at H
      by_cases c13 : t107 = t104
      ·rw [if_pos c13] at H
       have c13b0 : (t107 == t104) = true := beq_iff_eq.mpr c13
       have c13b1 : (t107 != t104) = false := bne_eq_false_iff_eq.mpr c13
       clear c13
       obtain rfl := Option.some.inj H
       exact weirgatelaw06_AddressMeetsExactly.lf
      ·rw [if_neg c13] at H
       have c13b0 : (t107 == t104) = false := beq_eq_false_iff_ne.mpr c13
       have c13b1 : (t107 != t104) = true := bne_iff_ne.mpr c13
       obtain rfl := Option.some.inj H
       exact weirgatelaw06_AddressMeetsExactly.lf
     ·replace c12 := Bool.eq_false_iff.mpr c12
      subst c12
      rw [if_neg Bool.false_ne_true] at H
      obtain rfl := Option.some.inj H
      exact weirgatelaw06_AddressMeetsExactly.lf
def weirgatelaw06_AddressMeetsExactly.Pure : Prop := ∀ (a0 : ByteArray) (a1 : ByteArray) (a2 : ByteArray), a0.size ≤ 140737488351232 → a1.size ≤ 140737488351232 → a2.size ≤ 140737488351232 → ∃ k, weirgatelaw06_AddressMeetsExactly.f k a0 a1 a2 = some true
theorem weirgatelaw06_AddressMeetsExactly.walk (P : weirgatelaw06_AddressMeetsExactly.Pure) (a0 : ByteArray) (a1 : ByteArray) (a2 : ByteArray) (w : World) (w0 : a0.size ≤ 140737488351232) (w1 : a1.size ≤ 140737488351232) (w2 : a2.size ≤ 140737488351232) :
  Calls Tryz.prog 8 #[.string a0, .string a1, .string a2] w fun e w' => e = .returned (.bool true) ∧ Below w.heap.size w w' := by
 obtain ⟨k, h⟩ := P a0 a1 a2 w0 w1 w2
 refine (weirgatelaw06_AddressMeetsExactly.calls k a0 a1 a2 true w h).mono ?_
 rintro e w' ⟨rfl, hd⟩
 exact ⟨rfl, hd⟩
end Go.Proofs.YtmokgpepeddopaaGreatDoor.P
end
