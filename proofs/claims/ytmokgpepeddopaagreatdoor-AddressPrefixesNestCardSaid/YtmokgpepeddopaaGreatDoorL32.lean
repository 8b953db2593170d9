/- Lemmas on the way to the statement: part 32 of 34 (functions as plain Lean functions, and that each call comes to what they say). -/
import Derived.Test.YtmokgpepeddopaaGreatDoorL12
import Derived.Test.YtmokgpepeddopaaGreatDoorL20
import Derived.Test.YtmokgpepeddopaaGreatDoorL29
import Derived.Test.YtmokgpepeddopaaGreatDoorL30
import Derived.Test.YtmokgpepeddopaaGreatDoorL31
section
namespace Go.Proofs.YtmokgpepeddopaaGreatDoor.P
open Go.RowKit Go.Proofs.YtmokgpepeddopaaGreatDoorW.PrintWords Go.Proofs.YtmokgpepeddopaaGreatDoorW.PrintLast Go.Proofs.YtmokgpepeddopaaGreatDoorW.PrintMore
attribute [local go_sem] max2_int min2_int max_two min_two max_three min_three max_four min_four
attribute [local go_sem high] binOp_string_leq2 binOp_string_gtr2
set_option linter.unusedVariables false
set_option linter.unusedSimpArgs false
mutual
def weirgatelaw06_AddressPrefixesNest.j0 : Nat → ByteArray → ByteArray → Bool → Option (Bool)
 | 0, _, _, _ => none
 | k + 1, x0, x1, x19 => if x19 = true then ((weirgatelaw06_sanity.f k).bind fun t101 => (some t101)) else ((address_Parse.f x0).bind fun bt102 => ((address_Canonical.f k x0).bind fun bt111 => (if bt102.2.2.2 = 0 then (if bt111.2 = 0 then (if bt111.1.toList = x0.toList then (weirgatelaw06_AddressPrefixesNest.j1 k x0 x1 (decide ((bt102.2.2.1.length : Int) > 0)) bt102.1 bt102.2.1 bt102.2.2.1) else (weirgatelaw06_AddressPrefixesNest.j1 k x0 x1 true bt102.1 bt102.2.1 bt102.2.2.1)) else (weirgatelaw06_AddressPrefixesNest.j1 k x0 x1 true bt102.1 bt102.2.1 bt102.2.2.1)) else (weirgatelaw06_AddressPrefixesNest.j1 k x0 x1 true bt102.1 bt102.2.1 bt102.2.2.1))))
def weirgatelaw06_AddressPrefixesNest.j1 : Nat → ByteArray → ByteArray → Bool → ByteArray → List ByteArray → List (S66) → Option (Bool)
 | 0, _, _, _, _, _, _ => none
 | k + 1, x0, x1, x47, x111000, x111001, x111002 => if x47 = true then ((weirgatelaw06_sanity.f k).bind fun t113 => (some t113)) else (weirgatelaw06_AddressPrefixesNest.l0 k x0 x1 0 x111000 x111001 x111002)
def weirgatelaw06_AddressPrefixesNest.l0 : Nat → ByteArray → ByteArray → Int → ByteArray → List ByteArray → List (S66) → Option (Bool)
 | 0, _, _, _, _, _, _ => none
 | k + 1, x0, x1, x9, x111000, x111001, x111002 => if x9 ≤ (x111001.length : Int) then (if 0 ≤ x9 then ((address_Text.f k x111000 (x111001.take (x9 : Int).toNat) ([] : List (S66))).bind fun bt119 => (if bt119.2 = 0 then ((address_Under.f bt119.1 x0).bind fun t121 => (if t121 = true then ((address_Under.f x0 bt119.1).bind fun t122 => (if (t122 != (x9 == (x111001.length : Int))) = true then (some false) else ((address_Under.f x0 x1).bind fun t123 => (if t123 = true then ((address_Under.f bt119.1 x1).bind fun t124 => (if t124 = true then (weirgatelaw06_AddressPrefixesNest.l0 k x0 x1 (wrap64 (x9 + 1)) x111000 x111001 x111002) else (some false))) else (weirgatelaw06_AddressPrefixesNest.l0 k x0 x1 (wrap64 (x9 + 1)) x111000 x111001 x111002))))) else (some false))) else (some false))) else (none)) else ((weirgatelaw06_sanity.f k).bind fun t114 => (some t114))
end
def weirgatelaw06_AddressPrefixesNest.f (k : Nat) (a0 : ByteArray) (a1 : ByteArray) : Option (Bool) := if (a0.size : Int) > 4096 then (weirgatelaw06_AddressPrefixesNest.j0 k a0 a1 true) else (weirgatelaw06_AddressPrefixesNest.j0 k a0 a1 (decide ((a1.size : Int) > 4096)))
def weirgatelaw06_AddressPrefixesNest.T10 : Bool × List (List Nat × List Nat) := (true, [([], []), ([0], [0]), ([], []), ([2], [2]), ([], []), ([3, 4], [3, 4]), ([1, 5], [1, 5]), ([6], [6]), ([7], [7]), ([8], [8]), ([8], [8]), ([9, 7, 0, 1, 2, 3, 4, 5, 6, 7, 8, 9], [9]), ([10, 11, 0, 1, 2, 3, 4, 5, 6, 7, 8, 9, 10, 11], [10])])
def weirgatelaw06_AddressPrefixesNest.B10 : List Nat := [0, 1, 0, 4, 0, 28, 63, 127, 255, 511, 511, 1023, 4095]
theorem weirgatelaw06_AddressPrefixesNest.tab10 : rtab .any (opsOf Tryz.f6 10) = weirgatelaw06_AddressPrefixesNest.T10 := by kernel_rfl
theorem weirgatelaw06_AddressPrefixesNest.bits10 : waitsOk weirgatelaw06_AddressPrefixesNest.T10.2 weirgatelaw06_AddressPrefixesNest.B10 = true := by kernel_rfl
def weirgatelaw06_AddressPrefixesNest.T11 : Bool × List (List Nat × List Nat) := (true, [([], []), ([0], [0]), ([1], [1]), ([2], [2]), ([2], [2]), ([3, 4, 2, 2], [2, 3, 4]), ([5, 2], [2, 5]), ([2, 6], [2, 6]), ([7, 5], [7]), ([8], [8]), ([8], [8]), ([9, 10, 8, 8], [8, 9, 10]), ([8], [8]), ([8], [8]), ([13, 8], [8, 13]), ([14, 8], [8, 14]), ([12, 15, 8], [8, 12, 15]), ([11, 16, 8], [8, 11, 16]), ([8, 17], [8, 17]), ([18, 11], [18]), ([19], [19]), ([19], [19]), ([20, 21, 19, 19], [19, 20, 21]), ([22, 22, 19], [19, 22]), ([23], [23]), ([23], [23]), ([24, 25, 23, 23], [23, 24, 25]), ([26, 23], [23, 26]), ([23, 27, 19], [19, 23, 27]), ([19, 28], [19, 28])])
def weirgatelaw06_AddressPrefixesNest.B11 : List Nat := [0, 1, 3, 7, 7, 31, 63, 127, 255, 511, 511, 2047, 511, 511, 8703, 25087, 61951, 131071, 262143, 524287, 1048575, 1048575, 4194303, 8388607, 16777215, 16777215, 67108863, 134217727, 268435455, 536870911]
theorem weirgatelaw06_AddressPrefixesNest.tab11 : rtab .any (opsOf Tryz.f6 11) = weirgatelaw06_AddressPrefixesNest.T11 := by kernel_rfl
theorem weirgatelaw06_AddressPrefixesNest.bits11 : waitsOk weirgatelaw06_AddressPrefixesNest.T11.2 weirgatelaw06_AddressPrefixesNest.B11 = true := by kernel_rfl
set_option maxHeartbeats 8000000 in
set_option maxRecDepth 100000 in
theorem weirgatelaw06_AddressPrefixesNest.calls (k : Nat) (a0 : ByteArray) (a1 : ByteArray) (r : Bool) (w : World) (h : weirgatelaw06_AddressPrefixesNest.f k a0 a1 = some r) :
  Calls Tryz.prog 6 #[.string a0, .string a1] w fun e w' => e = .returned (.bool r) ∧ Below w.heap.size w w' := by
 have hu25 := Tryz.underlying25
 have HB := Aside0.mk (Below.refl w.heap.size w)
 have H : (if (a0.size : Int) > 4096 then (weirgatelaw06_AddressPrefixesNest.j0 k a0 a1 true) else (weirgatelaw06_AddressPrefixesNest.j0 k a0 a1 (decide ((a1.size : Int) > 4096)))) = some r := h
 clear h
 have HC3 := Aside0.mk H
 clear H
 go_enter Tryz.func6, Tryz.ntmps6
 go_upto_region 1 with (fail)
 go_cut [19] (fun v19 wc => ∃ (kq : Nat) (x19_2 : Bool), v19 = .bool x19_2 ∧ Aside0 (weirgatelaw06_AddressPrefixesNest.j0 kq a0 a1 x19_2 = some r) ∧ Aside0 (kq ≤ k) ∧ Aside0 (Below w.heap.size w wc))
 case first =>
  have H := HC3.out
  clear HC3
  by_cases c4 : (a0.size : Int) > 4096
  ·rw [if_pos c4] at H
   have c4b0 : decide (4096 < (a0.size : Int)) = true := decide_eq_true c4
   have c4b1 : decide (4096 < a0.size) = true := decide_eq_true (by omega)
   clear c4
   (first | rw [c4b0] | (simp only [i64_w, i32_w]; rw [c4b0]) | skip)
   have H' := Aside0.mk H
   clear H
   go_wp2
   go_meet
   case rel => exact ⟨_, (true), zS, H', ⟨zo⟩, ⟨zB⟩⟩
  ·rw [if_neg c4] at H
   have c4b0 : decide (4096 < (a0.size : Int)) = false := decide_eq_false c4
   have c4b1 : decide (4096 < a0.size) = false := decide_eq_false (by omega)
   clear c4
   (first | rw [c4b0] | (simp only [i64_w, i32_w]; rw [c4b0]) | skip)
   have H' := Aside0.mk H
   clear H
   go_wp2
   go_meet
   case rel => exact ⟨_, (decide ((a1.size : Int) > 4096)), zS, H', ⟨zo⟩, ⟨zB⟩⟩
 case rest =>
  clear HC3
  obtain ⟨kq, x19_2, rfl, HA, HJ2, HB⟩ := hcut
  cases kq with
  | zero => exact absurd HA.out (by simp [weirgatelaw06_AddressPrefixesNest.j0])
  | succ kj2 =>
   have H := HA.out
   clear HA
   simp only [weirgatelaw06_AddressPrefixesNest.j0] at H
   by_cases c5 : x19_2 = true
   ·subst c5
    rw [if_pos rfl] at H
    obtain ⟨t101, A6, H⟩ := bd H
    obtain rfl := Option.some.inj H
    go_wp2_with (first | ((with_reducible refine gate_callee (f := 11) rfl ?_); refine goesL_ (some 20) rfl rfl Tryz.func11 (by kernel_rfl) rfl #[] rfl zl ?_; (with_reducible refine (weirgatelaw06_sanity.calls kj2  t101 _ A6.out).mono ?_); rintro e w7 ⟨rfl, hb⟩; refine ⟨_, rfl, ?_⟩; replace HB := sb w hb; clear hb))
    go_ret
    exact ⟨zE, zB⟩
   ·replace c5 := Bool.eq_false_iff.mpr c5
    subst c5
    rw [if_neg Bool.false_ne_true] at H
    obtain ⟨⟨t102, t103, t106, t109⟩, A6, H⟩ := bd H
    dsimp only at H
    obtain ⟨⟨t111, t112⟩, A7, H⟩ := bd H
    dsimp only at H
    have HC8 := Aside0.mk H
    clear H
    go_upto_region 5 with (first | ((with_reducible refine gate_callee (f := 12) rfl ?_); refine goesL_ (some 23) rfl rfl Tryz.func12 (by kernel_rfl) rfl #[.string a0] rfl zl ?_; (with_reducible refine (address_Parse.calls a0 t102 t103 t106 t109 _ A6.out).mono ?_); rintro e w9 ⟨v104, v107, rfl, ho0, ho1, hb⟩; refine ⟨_, rfl, ?_⟩; have HO105 := Aside0.mk (Kd.R_lower ho0 (below_size zB)); have HO108 := Aside0.mk (Kd.R_lower ho1 (below_size zB)); replace HB := sb w hb; clear hb ho0 ho1) | ((with_reducible refine gate_dst (N := 5) rfl ?_); (try (refine gate_guard (by rfl) ?_; dsimp only)); refine bx 5 #[.string (⟨#[]⟩ : ByteArray), .slice none 0 0, .slice none 0 0] 25 fun gb110 hg w10 hbox hb => ?_; replace HO105 := rb HO105 hb; replace HO108 := rb HO108 hb; have BK110 := Aside0.mk (hbox); have GW110 := gw w hg; have GE110 := gw w hg; replace HB := sb w hb; clear hb hbox hg; obtain ⟨hcz11_0, hcz11_1, hcz11_2, hfz11_0, hfz11_1, hfz11_2⟩ := cf3 BK110; obtain ⟨Ao12, co12, eo12⟩ := Kd.R_slice HO105.out; subst eo12; obtain ⟨Ao13, co13, eo13⟩ := Kd.R_slice HO108.out; subst eo13) | ((with_reducible refine gate_callee (f := 13) rfl ?_); refine goesL_ (some 28) rfl rfl Tryz.func13 (by kernel_rfl) rfl #[.string a0] rfl zl ?_; (with_reducible refine (address_Canonical.calls kj2 a0 t111 t112 _ A7.out).mono ?_); rintro e w14 ⟨rfl, hb⟩; refine ⟨_, rfl, ?_⟩; replace HO105 := rt HO105 BK110 hb; replace HO108 := rt HO108 BK110 hb; replace BK110 := bw #[.string t102, .slice Ao12 t103.length co12, .slice Ao13 t106.length co13] BK110 hb; replace HB := sb w hb; clear hb))
    (try simp only [Act.put, List.setIfInBounds_toArray, List.set_cons_zero, List.set_cons_succ])
    go_cut [47] (fun v47 wc => ∃ (kq : Nat) (x47_7 : Bool), v47 = .bool x47_7 ∧ Aside0 (weirgatelaw06_AddressPrefixesNest.j1 kq a0 a1 x47_7 t102 t103 t106 = some r) ∧ Aside0 (kq ≤ kj2) ∧ Aside0 (Kd.R Kd.string 9 wc w.heap.size (fun _ => True) (.slice Ao12 t103.length co12) t103) ∧ Aside0 (Kd.R k66 66 wc w.heap.size (fun _ => True) (.slice Ao13 t106.length co13) t106) ∧ Aside0 (wc.heap[gb110]? = some (.cells #[.string t102, (.slice Ao12 t103.length co12), (.slice Ao13 t106.length co13)] 25 (0, 0))) ∧ Aside0 (Below w.heap.size w wc))
    case first =>
     have H := HC8.out
     clear HC8
     by_cases c15 : t109 = 0
     ·rw [if_pos c15] at H
      have c15b0 : (t109 == 0) = true := beq_iff_eq.mpr c15
      have c15b1 : (t109 != 0) = false := bne_eq_false_iff_eq.mpr c15
      clear c15
      (first | rw [c15b0] | (simp only [i64_w, i32_w]; rw [c15b0]) | skip)
      by_cases c16 : t112 = 0
      ·rw [if_pos c16] at H
       have c16b0 : (t112 == 0) = true := beq_iff_eq.mpr c16
       have c16b1 : (t112 != 0) = false := bne_eq_false_iff_eq.mpr c16
       clear c16
       by_cases c17 : t111.toList = a0.toList
       ·rw [if_pos c17] at H
        have c17b0 : (t111.toList == a0.toList) = true := beq_iff_eq.mpr c17
        have c17b1 : (t111.toList != a0.toList) = false := bne_eq_false_iff_eq.mpr c17
        clear c17
        have H' := Aside0.mk H
        clear H
        obtain ⟨hcz18_0, hcz18_1, hcz18_2, hfz18_0, hfz18_1, hfz18_2⟩ := cf3 BK110
        go_wp2
        go_meet
        case rel => exact ⟨_, (decide ((t106.length : Int) > 0)), zS, H', ⟨by have := HJ2.out; first | omega | exact Nat.le_refl _⟩, ⟨kr HO105⟩, ⟨kr HO108⟩, ⟨kb BK110⟩, ⟨zB⟩⟩
       ·rw [if_neg c17] at H
        have c17b0 : (t111.toList == a0.toList) = false := beq_eq_false_iff_ne.mpr c17
        have c17b1 : (t111.toList != a0.toList) = true := bne_iff_ne.mpr c17
        have H' := Aside0.mk H
        clear H
        go_wp2
        go_meet
        case rel => exact ⟨_, (true), zS, H', ⟨by have := HJ2.out; first | omega | exact Nat.le_refl _⟩, ⟨kr HO105⟩, ⟨kr HO108⟩, ⟨kb BK110⟩, ⟨zB⟩⟩
      ·rw [if_neg c16] at H
       have c16b0 : (t112 == 0) = false := beq_eq_false_iff_ne.mpr c16
       have c16b1 : (t112 != 0) = true := bne_iff_ne.mpr c16
       have H' := Aside0.mk H
       clear H
       go_wp2
       go_meet
       case rel => exact ⟨_, (true), zS, H', ⟨by have := HJ2.out; first | omega | exact Nat.le_refl _⟩, ⟨kr HO105⟩, ⟨kr HO108⟩, ⟨kb BK110⟩, ⟨zB⟩⟩
     ·rw [if_neg c15] at H
      have c15b0 : (t109 == 0) = false := beq_eq_false_iff_ne.mpr c15
      have c15b1 : (t109 != 0) = true := bne_iff_ne.mpr c15
      (first | rw [c15b0] | (simp only [i64_w, i32_w]; rw [c15b0]) | skip)
      have H' := Aside0.mk H
      clear H
      go_wp2
      go_meet
      case rel => exact ⟨_, (true), zS, H', ⟨by have := HJ2.out; first | omega | exact Nat.le_refl _⟩, ⟨kr HO105⟩, ⟨kr HO108⟩, ⟨kb BK110⟩, ⟨zB⟩⟩
    case rest =>
     clear HC8
     obtain ⟨kq, x47_7, rfl, HA, HJ7, HO_111001, HO_111002, BK110, HB⟩ := hcut
     cases kq with
     | zero => exact absurd HA.out (by simp [weirgatelaw06_AddressPrefixesNest.j1])
     | succ kj7 =>
      have H := HA.out
      clear HA
      simp only [weirgatelaw06_AddressPrefixesNest.j1] at H
      by_cases c16 : x47_7 = true
      ·subst c16
       rw [if_pos rfl] at H
       obtain ⟨t113, A17, H⟩ := bd H
       obtain rfl := Option.some.inj H
       go_wp2_with (first | ((with_reducible refine gate_callee (f := 11) rfl ?_); refine goesL_ (some 48) rfl rfl Tryz.func11 (by kernel_rfl) rfl #[] rfl zl ?_; (with_reducible refine (weirgatelaw06_sanity.calls kj7  t113 _ A17.out).mono ?_); rintro e w18 ⟨rfl, hb⟩; refine ⟨_, rfl, ?_⟩; replace HO_111001 := rb HO_111001 hb; replace HO_111002 := rb HO_111002 hb; replace BK110 := bb BK110 hb; replace HB := sb w hb; clear hb))
       go_ret
       exact ⟨zE, zB⟩
      ·replace c16 := Bool.eq_false_iff.mpr c16
       subst c16
       rw [if_neg Bool.false_ne_true] at H
       have H' := Aside0.mk H
       clear H
       go_wp2
       go_loopg [9] kj7 (fun kq v9 w' => ∃ (x9_3 : Int), v9 = .int .i64 x9_3 ∧ Aside0 (weirgatelaw06_AddressPrefixesNest.l0 kq a0 a1 x9_3 t102 t103 t106 = some r) ∧ Aside0 (kq ≤ kj7) ∧ Aside0 (Kd.R Kd.string 9 w' w.heap.size (fun _ => True) (.slice Ao12 t103.length co12) t103) ∧ Aside0 (Kd.R k66 66 w' w.heap.size (fun _ => True) (.slice Ao13 t106.length co13) t106) ∧ Aside0 (w'.heap[gb110]? = some (.cells #[.string t102, (.slice Ao12 t103.length co12), (.slice Ao13 t106.length co13)] 25 (0, 0))) ∧ Aside0 (Below w.heap.size w w'))
       case atStart => exact ⟨(0), zS, H', ⟨Nat.le_refl _⟩, ⟨kr HO_111001⟩, ⟨kr HO_111002⟩, ⟨kb BK110⟩, ⟨zB⟩⟩
       case round =>
        clear H'
        obtain ⟨x9_3, rfl, HA, HK3, HO_111001, HO_111002, BK110, HB⟩ := hrel
        cases gk with
        | zero => exact absurd HA.out (by simp [weirgatelaw06_AddressPrefixesNest.l0])
        | succ k3 =>
         have H := HA.out
         clear HA
         simp only [weirgatelaw06_AddressPrefixesNest.l0] at H
         by_cases c17 : x9_3 ≤ (t103.length : Int)
         ·rw [if_pos c17] at H
          have c17b0 : decide (x9_3 ≤ (t103.length : Int)) = true := decide_eq_true c17
          clear c17
          by_cases c18 : 0 ≤ x9_3
          ·rw [if_pos c18] at H
           have c18b0 := eq_true c18
           have c18b1 : decide (0 ≤ x9_3) = true := decide_eq_true c18
           clear c18
           have c19b0 := eq_true (of_decide_eq_true za : x9_3 ≤ (t103.length : Int))
           obtain ⟨y115, hy115⟩ : ∃ y_ : List ByteArray, y_ = (t103.take (x9_3 : Int).toNat) := ⟨_, rfl⟩
           replace H : ((address_Text.f k3 t102 y115 ([] : List (S66))).bind fun bt119 => (if bt119.2 = 0 then ((address_Under.f bt119.1 a0).bind fun t121 => (if t121 = true then ((address_Under.f a0 bt119.1).bind fun t122 => (if (t122 != (x9_3 == (t103.length : Int))) = true then (some false) else ((address_Under.f a0 a1).bind fun t123 => (if t123 = true then ((address_Under.f bt119.1 a1).bind fun t124 => (if t124 = true then (weirgatelaw06_AddressPrefixesNest.l0 k3 a0 a1 (wrap64 (x9_3 + 1)) t102 t103 t106) else (some false))) else (weirgatelaw06_AddressPrefixesNest.l0 k3 a0 a1 (wrap64 (x9_3 + 1)) t102 t103 t106))))) else (some false))) else (some false))) = some r := by first | (rw [hy115]; with_reducible exact H) | (have H2_ := (Option.bind_some _ _).symm.trans H; rw [hy115]; with_reducible exact H2_) | (have H2_ := (Option.bind_some _ _).symm.trans H; with_reducible exact H2_) | with_reducible exact H | (rw [hy115]; exact H) | exact H
           have Ny115 := Aside0.mk hy115
           clear hy115
           obtain ⟨⟨t119, t120⟩, A20, H⟩ := bd H
           dsimp only at H
           by_cases c21 : t120 = 0
           ·rw [if_pos c21] at H
            have c21b0 : (t120 == 0) = true := beq_iff_eq.mpr c21
            have c21b1 : (t120 != 0) = false := bne_eq_false_iff_eq.mpr c21
            clear c21
            obtain ⟨t121, A22, H⟩ := bd H
            by_cases c23 : t121 = true
            ·subst c23
             rw [if_pos rfl] at H
             obtain ⟨t122, A24, H⟩ := bd H
             by_cases c25 : (t122 != (x9_3 == (t103.length : Int))) = true
             ·rw [if_pos c25] at H
              have c25b0 : (t122 != (x9_3 == (t103.length : Int))) = true := c25
              (try (have c25b1 : decide (t122 = (x9_3 == (t103.length : Int))) = false := by simpa using c25))
              (try (have c25b2 : (t122 == (x9_3 == (t103.length : Int))) = false := by simpa using c25))
              (try (have c25b3 : ¬ (t122 = (x9_3 == (t103.length : Int))) := by simpa using c25))
              clear c25
              obtain rfl := Option.some.inj H
              obtain ⟨hcz26_0, hcz26_1, hcz26_2, hfz26_0, hfz26_1, hfz26_2⟩ := cf3 BK110
              try go_wp2
              replace HO_111001 := Aside0.mk (Kd.R_drew HO_111001.out)
              replace HO_111002 := Aside0.mk (Kd.R_drew HO_111002.out)
              replace BK110 := Aside0.mk (blk_drew BK110.out)
              replace HB := Aside0.mk (below_drew1 HB.out)
              have q28 : (x9_3 : Int) ≤ ((t103.length : Int) : Int) := of_decide_eq_true za
              obtain ⟨i028, hi028, _, hsz28, _⟩ := info_parts info9
              have hroom28 : t103.length ≤ co12 := (Kd.R_reads' HO_111001.out).2.1
              have hC28 : Kd.C Kd.string _ Ao12 t103.length t103 := (Kd.R_reads' HO_111001.out).2.2
              have hcut28 := cut_to (P := Tryz.prog) 22 9 .i64 Tryz.underlying22 hi028 Ao12 t103.length co12 x9_3 (of_decide_eq_true za) q28 hroom28
              have hr28 := Kd.C_take (m := (x9_3 : Int).toNat) hC28 (by omega)
              have hy28 : y115.length = (x9_3 : Int).toNat := (by rw [Ny115.out, List.length_take]; omega)
              rw [← Ny115.out] at hr28
              rw [← hy28] at hcut28
              have HR118 := Aside0.mk hr28
              have HC118 := Aside0.mk (show y115.length ≤ co12 from by omega)
              clear hr28 hC28 hroom28 hi028 hsz28
              have KY28 := Aside0.mk hy28
              clear hy28
              have KL28 := Aside0.mk (show (x9_3 : Int).toNat ≤ t103.length from by omega)
              replace q28 := eq_true q28
              refine start_ (n := 13) (S := fun w' => w'.cell? ⟨gb110, 0, none⟩ = some (.string t102) ∧ w'.cell? ⟨gb110, 1, none⟩ = some (.slice Ao12 t103.length co12) ∧ w'.cell? ⟨gb110, 2, none⟩ = some (.slice Ao13 t106.length co13)) (ds := []) #[false, false, false, false, false, false, false, false, false, false, false, false, false] (by kernel_rfl) rfl rfl zh (fun hHeld => ?_); refine with_tabW weirgatelaw06_AddressPrefixesNest.tab10 weirgatelaw06_AddressPrefixesNest.bits10 (fun HT_ HW_ => ?_)
              generalize wr.drew = w27 at HO_111001 HO_111002 BK110 HB HR118 hHeld ⊢
              refine pu 0 57 ?_
              refine pu 2 59 ?_
              refine pu 4 61 ?_
              refine tk 1 58 ?_
              refine tk 3 60 ?_
              refine pu 5 62 ?_
              refine pu 6 63 ?_
              refine on 7 (some 64) fun K hK => ?_
              refine goes_ Tryz.func14 (by kernel_rfl) rfl #[.agg #[.string t102, .slice Ao12 y115.length co12, .slice none 0 0]] (by rfl) rfl rfl zl ?_
              refine (address_Text.calls k3 t102 _ _ y115 _ _ ([] : List (S66)) t119 t120 _ ?side1 ?side2 ?side3 ?side4 A20.out).mono ?_
              (case side1 => repeat (first | exact (by repeat (first | (with_reducible exact HR118.out) | (with_reducible refine Kd.C_alloc ?_ _) | (with_reducible refine Kd.C_drewN ?_ _) | (with_reducible refine Kd.C_drew ?_) | exact HR118.out)) | (with_reducible refine Kd.C_alloc ?_ _) | (with_reducible refine Kd.C_drewN ?_ _) | (with_reducible refine Kd.C_drew ?_)))
              (case side2 => exact HC118.out)
              (case side3 => exact Kd.C_nil _ _)
              (case side4 => exact Nat.le_refl _)
              rintro e w29 ⟨rfl, hb⟩
              refine ⟨_, rfl, ?_⟩
              replace HO_111001 := rb HO_111001 hb
              replace HO_111002 := rb HO_111002 hb
              replace BK110 := bb BK110 hb
              replace HR118 := Aside0.mk (Kd.C_below (by repeat (first | (with_reducible exact HR118.out) | (with_reducible refine Kd.C_alloc ?_ _) | (with_reducible refine Kd.C_drewN ?_ _) | (with_reducible refine Kd.C_drew ?_) | exact HR118.out)) hb)
              replace HB := sb w hb
              clear hb
              refine hK.out _ _ zh (fun hHeld => ?_)
              clear hK K
              refine nm 64 ?_
              refine pu 8 56 ?_
              refine pu 9 65 ?_
              refine pu 10 66 ?_
              refine pu 11 10 ?_
              refine pu 12 11 ?_
              refine dn ?_
              try go_wp2
              replace HO_111001 := Aside0.mk (Kd.R_drew HO_111001.out)
              replace HO_111002 := Aside0.mk (Kd.R_drew HO_111002.out)
              replace BK110 := Aside0.mk (blk_drew BK110.out)
              replace HR118 := Aside0.mk (Kd.C_drew HR118.out)
              replace HB := Aside0.mk (below_drew1 HB.out)
              refine start_ (n := 30) (S := fun w' => w'.cell? ⟨gb110, 0, none⟩ = some (.string t102) ∧ w'.cell? ⟨gb110, 1, none⟩ = some (.slice Ao12 t103.length co12) ∧ w'.cell? ⟨gb110, 2, none⟩ = some (.slice Ao13 t106.length co13)) (ds := []) #[false, false, false, false, false, false, false, false, false, false, false, false, false, false, false, false, false, false, false, false, false, false, false, false, false, false, false, false, false, false] (by kernel_rfl) rfl rfl zh (fun hHeld => ?_); refine with_tabW weirgatelaw06_AddressPrefixesNest.tab11 weirgatelaw06_AddressPrefixesNest.bits11 (fun HT_ HW_ => ?_)
              generalize w29.drew = w30 at HO_111001 HO_111002 BK110 HR118 HB hHeld ⊢
              refine pu 0 67 ?_
              refine pu 1 68 ?_
              refine pu 2 69 ?_
              refine pu 3 70 ?_
              refine pu 4 71 ?_
              refine on 5 (some 72) fun K hK => ?_
              refine goes_ Tryz.func26 (by kernel_rfl) rfl #[.string t119, .string a0] (by rfl) rfl rfl zl ?_
              with_reducible refine (address_Under.calls t119 a0 true _ A22.out).mono ?_
              rintro e w31 ⟨rfl, hb⟩
              refine ⟨_, rfl, ?_⟩
              replace HO_111001 := rb HO_111001 hb
              replace HO_111002 := rb HO_111002 hb
              replace BK110 := bb BK110 hb
              replace HR118 := Aside0.mk (Kd.C_below (by repeat (first | (with_reducible exact HR118.out) | (with_reducible refine Kd.C_alloc ?_ _) | (with_reducible refine Kd.C_drewN ?_ _) | (with_reducible refine Kd.C_drew ?_) | exact HR118.out)) hb)
              replace HB := sb w hb
              clear hb
              refine hK.out _ _ zh (fun hHeld => ?_)
              clear hK K
              refine nm 72 ?_
              refine pu 6 73 ?_
              refine pu 7 74 ?_
              refine pu 8 75 ?_
              refine pu 9 76 ?_
              refine pu 10 77 ?_
              refine pu 12 79 ?_
              refine pu 13 80 ?_
              refine tk 14 81 ?_
              refine pu 15 82 ?_
              refine pu 16 83 ?_
              refine on 11 (some 78) fun K hK => ?_
              refine goes_ Tryz.func26 (by kernel_rfl) rfl #[.string a0, .string t119] (by rfl) rfl rfl zl ?_
              with_reducible refine (address_Under.calls a0 t119 t122 _ A24.out).mono ?_
              rintro e w32 ⟨rfl, hb⟩
              refine ⟨_, rfl, ?_⟩
              replace HO_111001 := rb HO_111001 hb
              replace HO_111002 := rb HO_111002 hb
              replace BK110 := bb BK110 hb
              replace HR118 := Aside0.mk (Kd.C_below (by repeat (first | (with_reducible exact HR118.out) | (with_reducible refine Kd.C_alloc ?_ _) | (with_reducible refine Kd.C_drewN ?_ _) | (with_reducible refine Kd.C_drew ?_) | exact HR118.out)) hb)
              replace HB := sb w hb
              clear hb
              refine hK.out _ _ zh (fun hHeld => ?_)
              clear hK K
              refine nm 78 ?_
              refine pu 17 84 ?_
              refine pu 18 85 ?_
              refine pu 19 86 ?_
              refine pn 20 87 ?_
              refine pn 21 88 ?_
              refine pn 22 89 ?_
              refine pn 23 90 ?_
              refine pn 24 91 ?_
              refine pn 25 92 ?_
              refine pn 26 93 ?_
              refine pn 27 94 ?_
              refine pn 28 95 ?_
              refine pu 29 96 ?_
              refine dn ?_
              try go_wp2
              go_ret
              exact ⟨zE, zB⟩
             ·rw [if_neg c25] at H
              have c25b0 : (t122 != (x9_3 == (t103.length : Int))) = false := by simpa using c25
              (try (have c25b1 : decide (t122 = (x9_3 == (t103.length : Int))) = true := by simpa using c25))
              (try (have c25b2 : (t122 == (x9_3 == (t103.length : Int))) = true := by simpa using c25))
              clear c25
              obtain ⟨t123, A26, H⟩ := bd H
              by_cases c27 : t123 = true
              ·subst c27
               rw [if_pos rfl] at H
               obtain ⟨t124, A28, H⟩ := bd H
               by_cases c29 : t124 = true
               ·subst c29
                rw [if_pos rfl] at H
                have H' := Aside0.mk H
                clear H
                obtain ⟨hcz30_0, hcz30_1, hcz30_2, hfz30_0, hfz30_1, hfz30_2⟩ := cf3 BK110
                try go_wp2
                replace HO_111001 := Aside0.mk (Kd.R_drew HO_111001.out)
                replace HO_111002 := Aside0.mk (Kd.R_drew HO_111002.out)
                replace BK110 := Aside0.mk (blk_drew BK110.out)
                replace HB := Aside0.mk (below_drew1 HB.out)
                have q32 : (x9_3 : Int) ≤ ((t103.length : Int) : Int) := of_decide_eq_true za
                obtain ⟨i032, hi032, _, hsz32, _⟩ := info_parts info9
                have hroom32 : t103.length ≤ co12 := (Kd.R_reads' HO_111001.out).2.1
                have hC32 : Kd.C Kd.string _ Ao12 t103.length t103 := (Kd.R_reads' HO_111001.out).2.2
                have hcut32 := cut_to (P := Tryz.prog) 22 9 .i64 Tryz.underlying22 hi032 Ao12 t103.length co12 x9_3 (of_decide_eq_true za) q32 hroom32
                have hr32 := Kd.C_take (m := (x9_3 : Int).toNat) hC32 (by omega)
                have hy32 : y115.length = (x9_3 : Int).toNat := (by rw [Ny115.out, List.length_take]; omega)
                rw [← Ny115.out] at hr32
                rw [← hy32] at hcut32
                have HR118 := Aside0.mk hr32
                have HC118 := Aside0.mk (show y115.length ≤ co12 from by omega)
                clear hr32 hC32 hroom32 hi032 hsz32
                have KY32 := Aside0.mk hy32
                clear hy32
                have KL32 := Aside0.mk (show (x9_3 : Int).toNat ≤ t103.length from by omega)
                replace q32 := eq_true q32
                refine start_ (n := 13) (S := fun w' => w'.cell? ⟨gb110, 0, none⟩ = some (.string t102) ∧ w'.cell? ⟨gb110, 1, none⟩ = some (.slice Ao12 t103.length co12) ∧ w'.cell? ⟨gb110, 2, none⟩ = some (.slice Ao13 t106.length co13)) (ds := []) #[false, false, false, false, false, false, false, false, false, false, false, false, false] (by kernel_rfl) rfl rfl zh (fun hHeld => ?_); refine with_tabW weirgatelaw06_AddressPrefixesNest.tab10 weirgatelaw06_AddressPrefixesNest.bits10 (fun HT_ HW_ => ?_)
                generalize wr.drew = w31 at HO_111001 HO_111002 BK110 HB HR118 hHeld ⊢
                refine pu 0 57 ?_
                refine pu 2 59 ?_
                refine pu 4 61 ?_
                refine tk 1 58 ?_
                refine tk 3 60 ?_
                refine pu 5 62 ?_
                refine pu 6 63 ?_
                refine on 7 (some 64) fun K hK => ?_
                refine goes_ Tryz.func14 (by kernel_rfl) rfl #[.agg #[.string t102, .slice Ao12 y115.length co12, .slice none 0 0]] (by rfl) rfl rfl zl ?_
                refine (address_Text.calls k3 t102 _ _ y115 _ _ ([] : List (S66)) t119 t120 _ ?side1 ?side2 ?side3 ?side4 A20.out).mono ?_
                (case side1 => repeat (first | exact (by repeat (first | (with_reducible exact HR118.out) | (with_reducible refine Kd.C_alloc ?_ _) | (with_reducible refine Kd.C_drewN ?_ _) | (with_reducible refine Kd.C_drew ?_) | exact HR118.out)) | (with_reducible refine Kd.C_alloc ?_ _) | (with_reducible refine Kd.C_drewN ?_ _) | (with_reducible refine Kd.C_drew ?_)))
                (case side2 => exact HC118.out)
                (case side3 => exact Kd.C_nil _ _)
                (case side4 => exact Nat.le_refl _)
                rintro e w33 ⟨rfl, hb⟩
                refine ⟨_, rfl, ?_⟩
                replace HO_111001 := rb HO_111001 hb
                replace HO_111002 := rb HO_111002 hb
                replace BK110 := bb BK110 hb
                replace HR118 := Aside0.mk (Kd.C_below (by repeat (first | (with_reducible exact HR118.out) | (with_reducible refine Kd.C_alloc ?_ _) | (with_reducible refine Kd.C_drewN ?_ _) | (with_reducible refine Kd.C_drew ?_) | exact HR118.out)) hb)
                replace HB := sb w hb
                clear hb
                refine hK.out _ _ zh (fun hHeld => ?_)
                clear hK K
                refine nm 64 ?_
                refine pu 8 56 ?_
                refine pu 9 65 ?_
                refine pu 10 66 ?_
                refine pu 11 10 ?_
                refine pu 12 11 ?_
                refine dn ?_
                try go_wp2
                replace HO_111001 := Aside0.mk (Kd.R_drew HO_111001.out)
                replace HO_111002 := Aside0.mk (Kd.R_drew HO_111002.out)
                replace BK110 := Aside0.mk (blk_drew BK110.out)
                replace HR118 := Aside0.mk (Kd.C_drew HR118.out)
                replace HB := Aside0.mk (below_drew1 HB.out)
                refine start_ (n := 30) (S := fun w' => w'.cell? ⟨gb110, 0, none⟩ = some (.string t102) ∧ w'.cell? ⟨gb110, 1, none⟩ = some (.slice Ao12 t103.length co12) ∧ w'.cell? ⟨gb110, 2, none⟩ = some (.slice Ao13 t106.length co13)) (ds := []) #[false, false, false, false, false, false, false, false, false, false, false, false, false, false, false, false, false, false, false, false, false, false, false, false, false, false, false, false, false, false] (by kernel_rfl) rfl rfl zh (fun hHeld => ?_); refine with_tabW weirgatelaw06_AddressPrefixesNest.tab11 weirgatelaw06_AddressPrefixesNest.bits11 (fun HT_ HW_ => ?_)
                generalize w33.drew = w34 at HO_111001 HO_111002 BK110 HR118 HB hHeld ⊢
                refine pu 0 67 ?_
                refine pu 1 68 ?_
                refine pu 2 69 ?_
                refine pu 3 70 ?_
                refine pu 4 71 ?_
                refine on 5 (some 72) fun K hK => ?_
                refine goes_ Tryz.func26 (by kernel_rfl) rfl #[.string t119, .string a0] (by rfl) rfl rfl zl ?_
                with_reducible refine (address_Under.calls t119 a0 true _ A22.out).mono ?_
                rintro e w35 ⟨rfl, hb⟩
                refine ⟨_, rfl, ?_⟩
                replace HO_111001 := rb HO_111001 hb
                replace HO_111002 := rb HO_111002 hb
                replace BK110 := bb BK110 hb
                replace HR118 := Aside0.mk (Kd.C_below (by repeat (first | (with_reducible exact HR118.out) | (with_reducible refine Kd.C_alloc ?_ _) | (with_reducible refine Kd.C_drewN ?_ _) | (with_reducible refine Kd.C_drew ?_) | exact HR118.out)) hb)
                replace HB := sb w hb
                clear hb
                refine hK.out _ _ zh (fun hHeld => ?_)
                clear hK K
                refine nm 72 ?_
                refine pu 6 73 ?_
                refine pu 7 74 ?_
                refine pu 8 75 ?_
                refine pu 9 76 ?_
                refine pu 10 77 ?_
                refine pu 12 79 ?_
                refine pu 13 80 ?_
                refine tk 14 81 ?_
                refine pu 15 82 ?_
                refine pu 16 83 ?_
                refine on 11 (some 78) fun K hK => ?_
                refine goes_ Tryz.func26 (by kernel_rfl) rfl #[.string a0, .string t119] (by rfl) rfl rfl zl ?_
                with_reducible refine (address_Under.calls a0 t119 t122 _ A24.out).mono ?_
                rintro e w36 ⟨rfl, hb⟩
                refine ⟨_, rfl, ?_⟩
                replace HO_111001 := rb HO_111001 hb
                replace HO_111002 := rb HO_111002 hb
                replace BK110 := bb BK110 hb
                replace HR118 := Aside0.mk (Kd.C_below (by repeat (first | (with_reducible exact HR118.out) | (with_reducible refine Kd.C_alloc ?_ _) | (with_reducible refine Kd.C_drewN ?_ _) | (with_reducible refine Kd.C_drew ?_) | exact HR118.out)) hb)
                replace HB := sb w hb
                clear hb
                refine hK.out _ _ zh (fun hHeld => ?_)
                clear hK K
                refine nm 78 ?_
                refine pu 17 84 ?_
                refine pu 18 85 ?_
                refine pu 19 86 ?_
                refine pu 20 87 ?_
                refine pu 21 88 ?_
                refine on 22 (some 89) fun K hK => ?_
                refine goes_ Tryz.func26 (by kernel_rfl) rfl #[.string a0, .string a1] (by rfl) rfl rfl zl ?_
                with_reducible refine (address_Under.calls a0 a1 true _ A26.out).mono ?_
                rintro e w37 ⟨rfl, hb⟩
                refine ⟨_, rfl, ?_⟩
                replace HO_111001 := rb HO_111001 hb
                replace HO_111002 := rb HO_111002 hb
                replace BK110 := bb BK110 hb
                replace HR118 := Aside0.mk (Kd.C_below (by repeat (first | (with_reducible exact HR118.out) | (with_reducible refine Kd.C_alloc ?_ _) | (with_reducible refine Kd.C_drewN ?_ _) | (with_reducible refine Kd.C_drew ?_) | exact HR118.out)) hb)
                replace HB := sb w hb
                clear hb
                refine hK.out _ _ zh (fun hHeld => ?_)
                clear hK K
                refine nm 89 ?_
                refine pu 23 90 ?_
                refine pu 24 91 ?_
                refine pu 25 92 ?_
                refine on 26 (some 93) fun K hK => ?_
                refine goes_ Tryz.func26 (by kernel_rfl) rfl #[.string t119, .string a1] (by rfl) rfl rfl zl ?_
                with_reducible refine (address_Under.calls t119 a1 true _ A28.out).mono ?_
                rintro e w38 ⟨rfl, hb⟩
                refine ⟨_, rfl, ?_⟩
                replace HO_111001 := rb HO_111001 hb
                replace HO_111002 := rb HO_111002 hb
                replace BK110 := bb BK110 hb
                replace HR118 := Aside0.mk (Kd.C_below (by repeat (first | (with_reducible exact HR118.out) | (with_reducible refine Kd.C_alloc ?_ _) | (with_reducible refine Kd.C_drewN ?_ _) | (with_reducible refine Kd.C_drew ?_) | exact HR118.out)) hb)
                replace HB := sb w hb
                clear hb
                refine hK.out _ _ zh (fun hHeld => ?_)
                clear hK K
                refine nm 93 ?_
                refine pu 27 94 ?_
                refine pu 28 95 ?_
                refine pu 29 96 ?_
                refine dn ?_
                try go_wp2
                go_roundg k3
                case measure => have := HJ2.out; have := HJ7.out; have := HK3.out; omega
                case rel => exact ⟨(wrap64 (x9_3 + 1)), zS, H', ⟨by have := HJ2.out; have := HJ7.out; have := HK3.out; omega⟩, ⟨kr HO_111001⟩, ⟨kr HO_111002⟩, ⟨kb BK110⟩, ⟨zB⟩⟩
               ·replace c29 := Bool.eq_false_iff.mpr c29
                subst c29
                rw [if_neg Bool.false_ne_true] at H
                obtain rfl := Option.some.inj H
                obtain ⟨hcz30_0, hcz30_1, hcz30_2, hfz30_0, hfz30_1, hfz30_2⟩ := cf3 BK110
                try go_wp2
                replace HO_111001 := Aside0.mk (Kd.R_drew HO_111001.out)
                replace HO_111002 := Aside0.mk (Kd.R_drew HO_111002.out)
                replace BK110 := Aside0.mk (blk_drew BK110.out)
                replace HB := Aside0.mk (below_drew1 HB.out)
                have q32 : (x9_3 : Int) ≤ ((t103.length : Int) : Int) := of_decide_eq_true za
                obtain ⟨i032, hi032, _, hsz32, _⟩ := info_parts info9
                have hroom32 : t103.length ≤ co12 := (Kd.R_reads' HO_111001.out).2.1
                have hC32 : Kd.C Kd.string _ Ao12 t103.length t103 := (Kd.R_reads' HO_111001.out).2.2
                have hcut32 := cut_to (P := Tryz.prog) 22 9 .i64 Tryz.underlying22 hi032 Ao12 t103.length co12 x9_3 (of_decide_eq_true za) q32 hroom32
                have hr32 := Kd.C_take (m := (x9_3 : Int).toNat) hC32 (by omega)
                have hy32 : y115.length = (x9_3 : Int).toNat := (by rw [Ny115.out, List.length_take]; omega)
                rw [← Ny115.out] at hr32
                rw [← hy32] at hcut32
                have HR118 := Aside0.mk hr32
                have HC118 := Aside0.mk (show y115.length ≤ co12 from by omega)
                clear hr32 hC32 hroom32 hi032 hsz32
                have KY32 := Aside0.mk hy32
                clear hy32
                have KL32 := Aside0.mk (show (x9_3 : Int).toNat ≤ t103.length from by omega)
                replace q32 := eq_true q32
                refine start_ (n := 13) (S := fun w' => w'.cell? ⟨gb110, 0, none⟩ = some (.string t102) ∧ w'.cell? ⟨gb110, 1, none⟩ = some (.slice Ao12 t103.length co12) ∧ w'.cell? ⟨gb110, 2, none⟩ = some (.slice Ao13 t106.length co13)) (ds := []) #[false, false, false, false, false, false, false, false, false, false, false, false, false] (by kernel_rfl) rfl rfl zh (fun hHeld => ?_); refine with_tabW weirgatelaw06_AddressPrefixesNest.tab10 weirgatelaw06_AddressPrefixesNest.bits10 (fun HT_ HW_ => ?_)
                generalize wr.drew = w31 at HO_111001 HO_111002 BK110 HB HR118 hHeld ⊢
                refine pu 0 57 ?_
                refine pu 2 59 ?_
                refine pu 4 61 ?_
                refine tk 1 58 ?_
                refine tk 3 60 ?_
                refine pu 5 62 ?_
                refine pu 6 63 ?_
                refine on 7 (some 64) fun K hK => ?_
                refine goes_ Tryz.func14 (by kernel_rfl) rfl #[.agg #[.string t102, .slice Ao12 y115.length co12, .slice none 0 0]] (by rfl) rfl rfl zl ?_
                refine (address_Text.calls k3 t102 _ _ y115 _ _ ([] : List (S66)) t119 t120 _ ?side1 ?side2 ?side3 ?side4 A20.out).mono ?_
                (case side1 => repeat (first | exact (by repeat (first | (with_reducible exact HR118.out) | (with_reducible refine Kd.C_alloc ?_ _) | (with_reducible refine Kd.C_drewN ?_ _) | (with_reducible refine Kd.C_drew ?_) | exact HR118.out)) | (with_reducible refine Kd.C_alloc ?_ _) | (with_reducible refine Kd.C_drewN ?_ _) | (with_reducible refine Kd.C_drew ?_)))
                (case side2 => exact HC118.out)
                (case side3 => exact Kd.C_nil _ _)
                (case side4 => exact Nat.le_refl _)
                rintro e w33 ⟨rfl, hb⟩
                refine ⟨_, rfl, ?_⟩
                replace HO_111001 := rb HO_111001 hb
                replace HO_111002 := rb HO_111002 hb
                replace BK110 := bb BK110 hb
                replace HR118 := Aside0.mk (Kd.C_below (by repeat (first | (with_reducible exact HR118.out) | (with_reducible refine Kd.C_alloc ?_ _) | (with_reducible refine Kd.C_drewN ?_ _) | (with_reducible refine Kd.C_drew ?_) | exact HR118.out)) hb)
                replace HB := sb w hb
                clear hb
                refine hK.out _ _ zh (fun hHeld => ?_)
                clear hK K
                refine nm 64 ?_
                refine pu 8 56 ?_
                refine pu 9 65 ?_
                refine pu 10 66 ?_
                refine pu 11 10 ?_
                refine pu 12 11 ?_
                refine dn ?_
                try go_wp2
                replace HO_111001 := Aside0.mk (Kd.R_drew HO_111001.out)
                replace HO_111002 := Aside0.mk (Kd.R_drew HO_111002.out)
                replace BK110 := Aside0.mk (blk_drew BK110.out)
                replace HR118 := Aside0.mk (Kd.C_drew HR118.out)
                replace HB := Aside0.mk (below_drew1 HB.out)
                refine start_ (n := 30) (S := fun w' => w'.cell? ⟨gb110, 0, none⟩ = some (.string t102) ∧ w'.cell? ⟨gb110, 1, none⟩ = some (.slice Ao12 t103.length co12) ∧ w'.cell? ⟨gb110, 2, none⟩ = some (.slice Ao13 t106.length co13)) (ds := []) #[false, false, false, false, false, false, false, false, false, false, false, false, false, false, false, false, false, false, false, false, false, false, false, false, false, false, false, false, false, false] (by kernel_rfl) rfl rfl zh (fun hHeld => ?_); refine with_tabW weirgatelaw06_AddressPrefixesNest.tab11 weirgatelaw06_AddressPrefixesNest.bits11 (fun HT_ HW_ => ?_)
                generalize w33.drew = w34 at HO_111001 HO_111002 BK110 HR118 HB hHeld ⊢
                refine pu 0 67 ?_
                refine pu 1 68 ?_
                refine pu 2 69 ?_
                refine pu 3 70 ?_
                refine pu 4 71 ?_
                refine on 5 (some 72) fun K hK => ?_
                refine goes_ Tryz.func26 (by kernel_rfl) rfl #[.string t119, .string a0] (by rfl) rfl rfl zl ?_
                with_reducible refine (address_Under.calls t119 a0 true _ A22.out).mono ?_
                rintro e w35 ⟨rfl, hb⟩
                refine ⟨_, rfl, ?_⟩
                replace HO_111001 := rb HO_111001 hb
                replace HO_111002 := rb HO_111002 hb
                replace BK110 := bb BK110 hb
                replace HR118 := Aside0.mk (Kd.C_below (by repeat (first | (with_reducible exact HR118.out) | (with_reducible refine Kd.C_alloc ?_ _) | (with_reducible refine Kd.C_drewN ?_ _) | (with_reducible refine Kd.C_drew ?_) | exact HR118.out)) hb)
                replace HB := sb w hb
                clear hb
                refine hK.out _ _ zh (fun hHeld => ?_)
                clear hK K
                refine nm 72 ?_
                refine pu 6 73 ?_
                refine pu 7 74 ?_
                refine pu 8 75 ?_
                refine pu 9 76 ?_
                refine pu 10 77 ?_
                refine pu 12 79 ?_
                refine pu 13 80 ?_
                refine tk 14 81 ?_
                refine pu 15 82 ?_
                refine pu 16 83 ?_
                refine on 11 (some 78) fun K hK => ?_
                refine goes_ Tryz.func26 (by kernel_rfl) rfl #[.string a0, .string t119] (by rfl) rfl rfl zl ?_
                with_reducible refine (address_Under.calls a0 t119 t122 _ A24.out).mono ?_
                rintro e w36 ⟨rfl, hb⟩
                refine ⟨_, rfl, ?_⟩
                replace HO_111001 := rb HO_111001 hb
                replace HO_111002 := rb HO_111002 hb
                replace BK110 := bb BK110 hb
                replace HR118 := Aside0.mk (Kd.C_below (by repeat (first | (with_reducible exact HR118.out) | (with_reducible refine Kd.C_alloc ?_ _) | (with_reducible refine Kd.C_drewN ?_ _) | (with_reducible refine Kd.C_drew ?_) | exact HR118.out)) hb)
                replace HB := sb w hb
                clear hb
                refine hK.out _ _ zh (fun hHeld => ?_)
                clear hK K
                refine nm 78 ?_
                refine pu 17 84 ?_
                refine pu 18 85 ?_
                refine pu 19 86 ?_
                refine pu 20 87 ?_
                refine pu 21 88 ?_
                refine on 22 (some 89) fun K hK => ?_
                refine goes_ Tryz.func26 (by kernel_rfl) rfl #[.string a0, .string a1] (by rfl) rfl rfl zl ?_
                with_reducible refine (address_Under.calls a0 a1 true _ A26.out).mono ?_
                rintro e w37 ⟨rfl, hb⟩
                refine ⟨_, rfl, ?_⟩
                replace HO_111001 := rb HO_111001 hb
                replace HO_111002 := rb HO_111002 hb
                replace BK110 := bb BK110 hb
                replace HR118 := Aside0.mk (Kd.C_below (by repeat (first | (with_reducible exact HR118.out) | (with_reducible refine Kd.C_alloc ?_ _) | (with_reducible refine Kd.C_drewN ?_ _) | (with_reducible refine Kd.C_drew ?_) | exact HR118.out)) hb)
                replace HB := sb w hb
                clear hb
                refine hK.out _ _ zh (fun hHeld => ?_)
                clear hK K
                refine nm 89 ?_
                refine pu 23 90 ?_
                refine pu 24 91 ?_
                refine pu 25 92 ?_
                refine on 26 (some 93) fun K hK => ?_
                refine goes_ Tryz.func26 (by kernel_rfl) rfl #[.string t119, .string a1] (by rfl) rfl rfl zl ?_
                with_reducible refine (address_Under.calls t119 a1 false _ A28.out).mono ?_
                rintro e w38 ⟨rfl, hb⟩
                refine ⟨_, rfl, ?_⟩
                replace HO_111001 := rb HO_111001 hb
                replace HO_111002 := rb HO_111002 hb
                replace BK110 := bb BK110 hb
                replace HR118 := Aside0.mk (Kd.C_below (by repeat (first | (with_reducible exact HR118.out) | (with_reducible refine Kd.C_alloc ?_ _) | (with_reducible refine Kd.C_drewN ?_ _) | (with_reducible refine Kd.C_drew ?_) | exact HR118.out)) hb)
                replace HB := sb w hb
                clear hb
                refine hK.out _ _ zh (fun hHeld => ?_)
                clear hK K
                refine nm 93 ?_
                refine pu 27 94 ?_
                refine pu 28 95 ?_
                refine pu 29 96 ?_
                refine dn ?_
                try go_wp2
                go_ret
                exact ⟨zE, zB⟩
              ·replace c27 := Bool.eq_false_iff.mpr c27
               subst c27
               rw [if_neg Bool.false_ne_true] at H
               have H' := Aside0.mk H
               clear H
               obtain ⟨hcz28_0, hcz28_1, hcz28_2, hfz28_0, hfz28_1, hfz28_2⟩ := cf3 BK110
               try go_wp2
               replace HO_111001 := Aside0.mk (Kd.R_drew HO_111001.out)
               replace HO_111002 := Aside0.mk (Kd.R_drew HO_111002.out)
               replace BK110 := Aside0.mk (blk_drew BK110.out)
               replace HB := Aside0.mk (below_drew1 HB.out)
               have q30 : (x9_3 : Int) ≤ ((t103.length : Int) : Int) := of_decide_eq_true za
               obtain ⟨i030, hi030, _, hsz30, _⟩ := info_parts info9
               have hroom30 : t103.length ≤ co12 := (Kd.R_reads' HO_111001.out).2.1
               have hC30 : Kd.C Kd.string _ Ao12 t103.length t103 := (Kd.R_reads' HO_111001.out).2.2
               have hcut30 := cut_to (P := Tryz.prog) 22 9 .i64 Tryz.underlying22 hi030 Ao12 t103.length co12 x9_3 (of_decide_eq_true za) q30 hroom30
               have hr30 := Kd.C_take (m := (x9_3 : Int).toNat) hC30 (by omega)
               have hy30 : y115.length = (x9_3 : Int).toNat := (by rw [Ny115.out, List.length_take]; omega)
               rw [← Ny115.out] at hr30
               rw [← hy30] at hcut30
               have HR118 := Aside0.mk hr30
               have HC118 := Aside0.mk (show y115.length ≤ co12 from by omega)
               clear hr30 hC30 hroom30 hi030 hsz30
               have KY30 := Aside0.mk hy30
               clear hy30
               have KL30 := Aside0.mk (show (x9_3 : Int).toNat ≤ t103.length from by omega)
               replace q30 := eq_true q30
               refine start_ (n := 13) (S := fun w' => w'.cell? ⟨gb110, 0, none⟩ = some (.string t102) ∧ w'.cell? ⟨gb110, 1, none⟩ = some (.slice Ao12 t103.length co12) ∧ w'.cell? ⟨gb110, 2, none⟩ = some (.slice Ao13 t106.length co13)) (ds := []) #[false, false, false, false, false, false, false, false, false, false, false, false, false] (by kernel_rfl) rfl rfl zh (fun hHeld => ?_); refine with_tabW weirgatelaw06_AddressPrefixesNest.tab10 weirgatelaw06_AddressPrefixesNest.bits10 (fun HT_ HW_ => ?_)
               generalize wr.drew = w29 at HO_111001 HO_111002 BK110 HB HR118 hHeld ⊢
               refine pu 0 57 ?_
               refine pu 2 59 ?_
               refine pu 4 61 ?_
               refine tk 1 58 ?_
               refine tk 3 60 ?_
               refine pu 5 62 ?_
               refine pu 6 63 ?_
               refine on 7 (some 64) fun K hK => ?_
               refine goes_ Tryz.func14 (by kernel_rfl) rfl #[.agg #[.string t102, .slice Ao12 y115.length co12, .slice none 0 0]] (by rfl) rfl rfl zl ?_
               refine (address_Text.calls k3 t102 _ _ y115 _ _ ([] : List (S66)) t119 t120 _ ?side1 ?side2 ?side3 ?side4 A20.out).mono ?_
               (case side1 => repeat (first | exact (by repeat (first | (with_reducible exact HR118.out) | (with_reducible refine Kd.C_alloc ?_ _) | (with_reducible refine Kd.C_drewN ?_ _) | (with_reducible refine Kd.C_drew ?_) | exact HR118.out)) | (with_reducible refine Kd.C_alloc ?_ _) | (with_reducible refine Kd.C_drewN ?_ _) | (with_reducible refine Kd.C_drew ?_)))
               (case side2 => exact HC118.out)
               (case side3 => exact Kd.C_nil _ _)
               (case side4 => exact Nat.le_refl _)
               rintro e w31 ⟨rfl, hb⟩
               refine ⟨_, rfl, ?_⟩
               replace HO_111001 := rb HO_111001 hb
               replace HO_111002 := rb HO_111002 hb
               replace BK110 := bb BK110 hb
               replace HR118 := Aside0.mk (Kd.C_below (by repeat (first | (with_reducible exact HR118.out) | (with_reducible refine Kd.C_alloc ?_ _) | (with_reducible refine Kd.C_drewN ?_ _) | (with_reducible refine Kd.C_drew ?_) | exact HR118.out)) hb)
               replace HB := sb w hb
               clear hb
               refine hK.out _ _ zh (fun hHeld => ?_)
               clear hK K
               refine nm 64 ?_
               refine pu 8 56 ?_
               refine pu 9 65 ?_
               refine pu 10 66 ?_
               refine pu 11 10 ?_
               refine pu 12 11 ?_
               refine dn ?_
               try go_wp2
               replace HO_111001 := Aside0.mk (Kd.R_drew HO_111001.out)
               replace HO_111002 := Aside0.mk (Kd.R_drew HO_111002.out)
               replace BK110 := Aside0.mk (blk_drew BK110.out)
               replace HR118 := Aside0.mk (Kd.C_drew HR118.out)
               replace HB := Aside0.mk (below_drew1 HB.out)
               refine start_ (n := 30) (S := fun w' => w'.cell? ⟨gb110, 0, none⟩ = some (.string t102) ∧ w'.cell? ⟨gb110, 1, none⟩ = some (.slice Ao12 t103.length co12) ∧ w'.cell? ⟨gb110, 2, none⟩ = some (.slice Ao13 t106.length co13)) (ds := []) #[false, false, false, false, false, false, false, false, false, false, false, false, false, false, false, false, false, false, false, false, false, false, false, false, false, false, false, false, false, false] (by kernel_rfl) rfl rfl zh (fun hHeld => ?_); refine with_tabW weirgatelaw06_AddressPrefixesNest.tab11 weirgatelaw06_AddressPrefixesNest.bits11 (fun HT_ HW_ => ?_)
               generalize w31.drew = w32 at HO_111001 HO_111002 BK110 HR118 HB hHeld ⊢
               refine pu 0 67 ?_
               refine pu 1 68 ?_
               refine pu 2 69 ?_
               refine pu 3 70 ?_
               refine pu 4 71 ?_
               refine on 5 (some 72) fun K hK => ?_
               refine goes_ Tryz.func26 (by kernel_rfl) rfl #[.string t119, .string a0] (by rfl) rfl rfl zl ?_
               with_reducible refine (address_Under.calls t119 a0 true _ A22.out).mono ?_
               rintro e w33 ⟨rfl, hb⟩
               refine ⟨_, rfl, ?_⟩
               replace HO_111001 := rb HO_111001 hb
               replace HO_111002 := rb HO_111002 hb
               replace BK110 := bb BK110 hb
               replace HR118 := Aside0.mk (Kd.C_below (by repeat (first | (with_reducible exact HR118.out) | (with_reducible refine Kd.C_alloc ?_ _) | (with_reducible refine Kd.C_drewN ?_ _) | (with_reducible refine Kd.C_drew ?_) | exact HR118.out)) hb)
               replace HB := sb w hb
               clear hb
               refine hK.out _ _ zh (fun hHeld => ?_)
               clear hK K
               refine nm 72 ?_
               refine pu 6 73 ?_
               refine pu 7 74 ?_
               refine pu 8 75 ?_
               refine pu 9 76 ?_
               refine pu 10 77 ?_
               refine pu 12 79 ?_
               refine pu 13 80 ?_
               refine tk 14 81 ?_
               refine pu 15 82 ?_
               refine pu 16 83 ?_
               refine on 11 (some 78) fun K hK => ?_
               refine goes_ Tryz.func26 (by kernel_rfl) rfl #[.string a0, .string t119] (by rfl) rfl rfl zl ?_
               with_reducible refine (address_Under.calls a0 t119 t122 _ A24.out).mono ?_
               rintro e w34 ⟨rfl, hb⟩
               refine ⟨_, rfl, ?_⟩
               replace HO_111001 := rb HO_111001 hb
               replace HO_111002 := rb HO_111002 hb
               replace BK110 := bb BK110 hb
               replace HR118 := Aside0.mk (Kd.C_below (by repeat (first | (with_reducible exact HR118.out) | (with_reducible refine Kd.C_alloc ?_ _) | (with_reducible refine Kd.C_drewN ?_ _) | (with_reducible refine Kd.C_drew ?_) | exact HR118.out)) hb)
               replace HB := sb w hb
               clear hb
               refine hK.out _ _ zh (fun hHeld => ?_)
               clear hK K
               refine nm 78 ?_
               refine pu 17 84 ?_
               refine pu 18 85 ?_
               refine pu 19 86 ?_
               refine pu 20 87 ?_
               refine pu 21 88 ?_
               refine on 22 (some 89) fun K hK => ?_
               refine goes_ Tryz.func26 (by kernel_rfl) rfl #[.string a0, .string a1] (by rfl) rfl rfl zl ?_
               with_reducible refine (address_Under.calls a0 a1 false _ A26.out).mono ?_
               rintro e w35 ⟨rfl, hb⟩
               refine ⟨_, rfl, ?_⟩
               replace HO_111001 := rb HO_111001 hb
               replace HO_111002 := rb HO_111002 hb
               replace BK110 := bb BK110 hb
               replace HR118 := Aside0.mk (Kd.C_below (by repeat (first | (with_reducible exact HR118.out) | (with_reducible refine Kd.C_alloc ?_ _) | (with_reducible refine Kd.C_drewN ?_ _) | (with_reducible refine Kd.C_drew ?_) | exact HR118.out)) hb)
               replace HB := sb w hb
               clear hb
               refine hK.out _ _ zh (fun hHeld => ?_)
               clear hK K
               refine nm 89 ?_
               refine pu 23 90 ?_
               refine pn 24 91 ?_
               refine pn 25 92 ?_
               refine pn 26 93 ?_
               refine pn 27 94 ?_
               refine pu 28 95 ?_
               refine pu 29 96 ?_
               refine dn ?_
               try go_wp2
               go_roundg k3
               case measure => have := HJ2.out; have := HJ7.out; have := HK3.out; omega
               case rel => exact ⟨(wrap64 (x9_3 + 1)), zS, H', ⟨by have := HJ2.out; have := HJ7.out; have := HK3.out; omega⟩, ⟨kr HO_111001⟩, ⟨kr HO_111002⟩, ⟨kb BK110⟩, ⟨zB⟩⟩
            ·replace c23 := Bool.eq_false_iff.mpr c23
             subst c23
             rw [if_neg Bool.false_ne_true] at H
             obtain rfl := Option.some.inj H
             obtain ⟨hcz24_0, hcz24_1, hcz24_2, hfz24_0, hfz24_1, hfz24_2⟩ := cf3 BK110
             try go_wp2
             replace HO_111001 := Aside0.mk (Kd.R_drew HO_111001.out)
             replace HO_111002 := Aside0.mk (Kd.R_drew HO_111002.out)
             replace BK110 := Aside0.mk (blk_drew BK110.out)
             replace HB := Aside0.mk (below_drew1 HB.out)
             have q26 : (x9_3 : Int) ≤ ((t103.length : Int) : Int) := of_decide_eq_true za
             obtain ⟨i026, hi026, _, hsz26, _⟩ := info_parts info9
             have hroom26 : t103.length ≤ co12 := (Kd.R_reads' HO_111001.out).2.1
             have hC26 : Kd.C Kd.string _ Ao12 t103.length t103 := (Kd.R_reads' HO_111001.out).2.2
             have hcut26 := cut_to (P := Tryz.prog) 22 9 .i64 Tryz.underlying22 hi026 Ao12 t103.length co12 x9_3 (of_decide_eq_true za) q26 hroom26
             have hr26 := Kd.C_take (m := (x9_3 : Int).toNat) hC26 (by omega)
             have hy26 : y115.length = (x9_3 : Int).toNat := (by rw [Ny115.out, List.length_take]; omega)
             rw [← Ny115.out] at hr26
             rw [← hy26] at hcut26
             have HR118 := Aside0.mk hr26
             have HC118 := Aside0.mk (show y115.length ≤ co12 from by omega)
             clear hr26 hC26 hroom26 hi026 hsz26
             have KY26 := Aside0.mk hy26
             clear hy26
             have KL26 := Aside0.mk (show (x9_3 : Int).toNat ≤ t103.length from by omega)
             replace q26 := eq_true q26
             refine start_ (n := 13) (S := fun w' => w'.cell? ⟨gb110, 0, none⟩ = some (.string t102) ∧ w'.cell? ⟨gb110, 1, none⟩ = some (.slice Ao12 t103.length co12) ∧ w'.cell? ⟨gb110, 2, none⟩ = some (.slice Ao13 t106.length co13)) (ds := []) #[false, false, false, false, false, false, false, false, false, false, false, false, false] (by kernel_rfl) rfl rfl zh (fun hHeld => ?_); refine with_tabW weirgatelaw06_AddressPrefixesNest.tab10 weirgatelaw06_AddressPrefixesNest.bits10 (fun HT_ HW_ => ?_)
             generalize wr.drew = w25 at HO_111001 HO_111002 BK110 HB HR118 hHeld ⊢
             refine pu 0 57 ?_
             refine pu 2 59 ?_
             refine pu 4 61 ?_
             refine tk 1 58 ?_
             refine tk 3 60 ?_
             refine pu 5 62 ?_
             refine pu 6 63 ?_
             refine on 7 (some 64) fun K hK => ?_
             refine goes_ Tryz.func14 (by kernel_rfl) rfl #[.agg #[.string t102, .slice Ao12 y115.length co12, .slice none 0 0]] (by rfl) rfl rfl zl ?_
             refine (address_Text.calls k3 t102 _ _ y115 _ _ ([] : List (S66)) t119 t120 _ ?side1 ?side2 ?side3 ?side4 A20.out).mono ?_
             (case side1 => repeat (first | exact (by repeat (first | (with_reducible exact HR118.out) | (with_reducible refine Kd.C_alloc ?_ _) | (with_reducible refine Kd.C_drewN ?_ _) | (with_reducible refine Kd.C_drew ?_) | exact HR118.out)) | (with_reducible refine Kd.C_alloc ?_ _) | (with_reducible refine Kd.C_drewN ?_ _) | (with_reducible refine Kd.C_drew ?_)))
             (case side2 => exact HC118.out)
             (case side3 => exact Kd.C_nil _ _)
             (case side4 => exact Nat.le_refl _)
             rintro e w27 ⟨rfl, hb⟩
             refine ⟨_, rfl, ?_⟩
             replace HO_111001 := rb HO_111001 hb
             replace HO_111002 := rb HO_111002 hb
             replace BK110 := bb BK110 hb
             replace HR118 := Aside0.mk (Kd.C_below (by repeat (first | (with_reducible exact HR118.out) | (with_reducible refine Kd.C_alloc ?_ _) | (with_reducible refine Kd.C_drewN ?_ _) | (with_reducible refine Kd.C_drew ?_) | exact HR118.out)) hb)
             replace HB := sb w hb
             clear hb
             refine hK.out _ _ zh (fun hHeld => ?_)
             clear hK K
             refine nm 64 ?_
             refine pu 8 56 ?_
             refine pu 9 65 ?_
             refine pu 10 66 ?_
             refine pu 11 10 ?_
             refine pu 12 11 ?_
             refine dn ?_
             try go_wp2
             replace HO_111001 := Aside0.mk (Kd.R_drew HO_111001.out)
             replace HO_111002 := Aside0.mk (Kd.R_drew HO_111002.out)
             replace BK110 := Aside0.mk (blk_drew BK110.out)
             replace HR118 := Aside0.mk (Kd.C_drew HR118.out)
             replace HB := Aside0.mk (below_drew1 HB.out)
             refine start_ (n := 30) (S := fun w' => True) (ds := []) #[false, false, false, false, false, false, false, false, false, false, false, false, false, false, false, false, false, false, false, false, false, false, false, false, false, false, false, false, false, false] (by kernel_rfl) rfl rfl trivial (fun hHeld => ?_); refine with_tabW weirgatelaw06_AddressPrefixesNest.tab11 weirgatelaw06_AddressPrefixesNest.bits11 (fun HT_ HW_ => ?_)
             generalize w27.drew = w28 at HO_111001 HO_111002 BK110 HR118 HB hHeld ⊢
             refine pu 0 67 ?_
             refine pu 1 68 ?_
             refine pu 2 69 ?_
             refine pu 3 70 ?_
             refine pu 4 71 ?_
             refine on 5 (some 72) fun K hK => ?_
             refine goes_ Tryz.func26 (by kernel_rfl) rfl #[.string t119, .string a0] (by rfl) rfl rfl zl ?_
             with_reducible refine (address_Under.calls t119 a0 false _ A22.out).mono ?_
             rintro e w29 ⟨rfl, hb⟩
             refine ⟨_, rfl, ?_⟩
             replace HO_111001 := rb HO_111001 hb
             replace HO_111002 := rb HO_111002 hb
             replace BK110 := bb BK110 hb
             replace HR118 := Aside0.mk (Kd.C_below (by repeat (first | (with_reducible exact HR118.out) | (with_reducible refine Kd.C_alloc ?_ _) | (with_reducible refine Kd.C_drewN ?_ _) | (with_reducible refine Kd.C_drew ?_) | exact HR118.out)) hb)
             replace HB := sb w hb
             clear hb
             refine hK.out _ _ trivial (fun hHeld => ?_)
             clear hK K
             refine nm 72 ?_
             refine pu 6 73 ?_
             refine pu 7 74 ?_
             refine pu 8 75 ?_
             refine pn 9 76 ?_
             refine pn 10 77 ?_
             refine pn 11 78 ?_
             refine pn 12 79 ?_
             refine pn 13 80 ?_
             refine pn 14 81 ?_
             refine pn 15 82 ?_
             refine pn 16 83 ?_
             refine pn 17 84 ?_
             refine pu 18 85 ?_
             refine pu 19 86 ?_
             refine pn 20 87 ?_
             refine pn 21 88 ?_
             refine pn 22 89 ?_
             refine pn 23 90 ?_
             refine pn 24 91 ?_
             refine pn 25 92 ?_
             refine pn 26 93 ?_
             refine pn 27 94 ?_
             refine pn 28 95 ?_
             refine pu 29 96 ?_
             refine dn ?_
             try go_wp2
             go_ret
             exact ⟨zE, zB⟩
           ·rw [if_neg c21] at H
            have c21b0 : (t120 == 0) = false := beq_eq_false_iff_ne.mpr c21
            have c21b1 : (t120 != 0) = true := bne_iff_ne.mpr c21
            obtain rfl := Option.some.inj H
            obtain ⟨hcz22_0, hcz22_1, hcz22_2, hfz22_0, hfz22_1, hfz22_2⟩ := cf3 BK110
            try go_wp2
            replace HO_111001 := Aside0.mk (Kd.R_drew HO_111001.out)
            replace HO_111002 := Aside0.mk (Kd.R_drew HO_111002.out)
            replace BK110 := Aside0.mk (blk_drew BK110.out)
            replace HB := Aside0.mk (below_drew1 HB.out)
            have q24 : (x9_3 : Int) ≤ ((t103.length : Int) : Int) := of_decide_eq_true za
            obtain ⟨i024, hi024, _, hsz24, _⟩ := info_parts info9
            have hroom24 : t103.length ≤ co12 := (Kd.R_reads' HO_111001.out).2.1
            have hC24 : Kd.C Kd.string _ Ao12 t103.length t103 := (Kd.R_reads' HO_111001.out).2.2
            have hcut24 := cut_to (P := Tryz.prog) 22 9 .i64 Tryz.underlying22 hi024 Ao12 t103.length co12 x9_3 (of_decide_eq_true za) q24 hroom24
            have hr24 := Kd.C_take (m := (x9_3 : Int).toNat) hC24 (by omega)
            have hy24 : y115.length = (x9_3 : Int).toNat := (by rw [Ny115.out, List.length_take]; omega)
            rw [← Ny115.out] at hr24
            rw [← hy24] at hcut24
            have HR118 := Aside0.mk hr24
            have HC118 := Aside0.mk (show y115.length ≤ co12 from by omega)
            clear hr24 hC24 hroom24 hi024 hsz24
            have KY24 := Aside0.mk hy24
            clear hy24
            have KL24 := Aside0.mk (show (x9_3 : Int).toNat ≤ t103.length from by omega)
            replace q24 := eq_true q24
            refine start_ (n := 13) (S := fun w' => w'.cell? ⟨gb110, 0, none⟩ = some (.string t102) ∧ w'.cell? ⟨gb110, 1, none⟩ = some (.slice Ao12 t103.length co12) ∧ w'.cell? ⟨gb110, 2, none⟩ = some (.slice Ao13 t106.length co13)) (ds := []) #[false, false, false, false, false, false, false, false, false, false, false, false, false] (by kernel_rfl) rfl rfl zh (fun hHeld => ?_); refine with_tabW weirgatelaw06_AddressPrefixesNest.tab10 weirgatelaw06_AddressPrefixesNest.bits10 (fun HT_ HW_ => ?_)
            generalize wr.drew = w23 at HO_111001 HO_111002 BK110 HB HR118 hHeld ⊢
            refine pu 0 57 ?_
            refine pu 2 59 ?_
            refine pu 4 61 ?_
            refine tk 1 58 ?_
            refine tk 3 60 ?_
            refine pu 5 62 ?_
            refine pu 6 63 ?_
            refine on 7 (some 64) fun K hK => ?_
            refine goes_ Tryz.func14 (by kernel_rfl) rfl #[.agg #[.string t102, .slice Ao12 y115.length co12, .slice none 0 0]] (by rfl) rfl rfl zl ?_
            refine (address_Text.calls k3 t102 _ _ y115 _ _ ([] : List (S66)) t119 t120 _ ?side1 ?side2 ?side3 ?side4 A20.out).mono ?_
            (case side1 => repeat (first | exact (by repeat (first | (with_reducible exact HR118.out) | (with_reducible refine Kd.C_alloc ?_ _) | (with_reducible refine Kd.C_drewN ?_ _) | (with_reducible refine Kd.C_drew ?_) | exact HR118.out)) | (with_reducible refine Kd.C_alloc ?_ _) | (with_reducible refine Kd.C_drewN ?_ _) | (with_reducible refine Kd.C_drew ?_)))
            (case side2 => exact HC118.out)
            (case side3 => exact Kd.C_nil _ _)
            (case side4 => exact Nat.le_refl _)
            rintro e w25 ⟨rfl, hb⟩
            refine ⟨_, rfl, ?_⟩
            replace HO_111001 := rb HO_111001 hb
            replace HO_111002 := rb HO_111002 hb
            replace BK110 := bb BK110 hb
            replace HR118 := Aside0.mk (Kd.C_below (by repeat (first | (with_reducible exact HR118.out) | (with_reducible refine Kd.C_alloc ?_ _) | (with_reducible refine Kd.C_drewN ?_ _) | (with_reducible refine Kd.C_drew ?_) | exact HR118.out)) hb)
            replace HB := sb w hb
            clear hb
            refine hK.out _ _ zh (fun hHeld => ?_)
            clear hK K
            refine nm 64 ?_
            refine pu 8 56 ?_
            refine pu 9 65 ?_
            refine pu 10 66 ?_
            refine pu 11 10 ?_
            refine pu 12 11 ?_
            refine dn ?_
            try go_wp2
            replace HO_111001 := Aside0.mk (Kd.R_drew HO_111001.out)
            replace HO_111002 := Aside0.mk (Kd.R_drew HO_111002.out)
            replace BK110 := Aside0.mk (blk_drew BK110.out)
            replace HR118 := Aside0.mk (Kd.C_drew HR118.out)
            replace HB := Aside0.mk (below_drew1 HB.out)
            refine start_ (n := 30) (S := fun w' => True) (ds := []) #[false, false, false, false, false, false, false, false, false, false, false, false, false, false, false, false, false, false, false, false, false, false, false, false, false, false, false, false, false, false] (by kernel_rfl) rfl rfl trivial (fun hHeld => ?_); refine with_tabW weirgatelaw06_AddressPrefixesNest.tab11 weirgatelaw06_AddressPrefixesNest.bits11 (fun HT_ HW_ => ?_)
            generalize w25.drew = w26 at HO_111001 HO_111002 BK110 HR118 HB hHeld ⊢
            refine pu 0 67 ?_
            refine pu 1 68 ?_
            refine pu 2 69 ?_
            refine pn 3 70 ?_
            refine pn 4 71 ?_
            refine pn 5 72 ?_
            refine pn 6 73 ?_
            refine pu 7 74 ?_
            refine pu 8 75 ?_
            refine pn 9 76 ?_
            refine pn 10 77 ?_
            refine pn 11 78 ?_
            refine pn 12 79 ?_
            refine pn 13 80 ?_
            refine pn 14 81 ?_
            refine pn 15 82 ?_
            refine pn 16 83 ?_
            refine pn 17 84 ?_
            refine pu 18 85 ?_
            refine pu 19 86 ?_
            refine pn 20 87 ?_
            refine pn 21 88 ?_
            refine pn 22 89 ?_
            refine pn 23 90 ?_
            refine pn 24 91 ?_
            refine pn 25 92 ?_
            refine pn 26 93 ?_
            refine pn 27 94 ?_
            refine pn 28 95 ?_
            refine pu 29 96 ?_
            refine dn ?_
            try go_wp2
            go_ret
            exact ⟨zE, zB⟩
          ·rw [if_neg c18] at H
           exact absurd H (by simp)
         ·rw [if_neg c17] at H
          have c17b0 : decide (x9_3 ≤ (t103.length : Int)) = false := decide_eq_false c17
          clear c17
          obtain ⟨t114, A18, H⟩ := bd H
          obtain rfl := Option.some.inj H
          obtain ⟨hcz19_0, hcz19_1, hcz19_2, hfz19_0, hfz19_1, hfz19_2⟩ := cf3 BK110
          go_wp2_with (first | ((with_reducible refine gate_callee (f := 11) rfl ?_); refine goesL_ (some 97) rfl rfl Tryz.func11 (by kernel_rfl) rfl #[] rfl zl ?_; (with_reducible refine (weirgatelaw06_sanity.calls k3  t114 _ A18.out).mono ?_); rintro e w20 ⟨rfl, hb⟩; refine ⟨_, rfl, ?_⟩; replace HO_111001 := rb HO_111001 hb; replace HO_111002 := rb HO_111002 hb; replace BK110 := bb BK110 hb; replace HB := sb w hb; clear hb))
          go_ret
          exact ⟨zE, zB⟩
def weirgatelaw06_AddressPrefixesNest.Pure : Prop := ∀ (a0 : ByteArray) (a1 : ByteArray), a0.size ≤ 140737488351232 → a1.size ≤ 140737488351232 → ∃ k, weirgatelaw06_AddressPrefixesNest.f k a0 a1 = some true
theorem weirgatelaw06_AddressPrefixesNest.walk (P : weirgatelaw06_AddressPrefixesNest.Pure) (a0 : ByteArray) (a1 : ByteArray) (w : World) (w0 : a0.size ≤ 140737488351232) (w1 : a1.size ≤ 140737488351232) :
  Calls Tryz.prog 6 #[.string a0, .string a1] w fun e w' => e = .returned (.bool true) ∧ Below w.heap.size w w' := by
 obtain ⟨k, h⟩ := P a0 a1 w0 w1
 refine (weirgatelaw06_AddressPrefixesNest.calls k a0 a1 true w h).mono ?_
 rintro e w' ⟨rfl, hd⟩
 exact ⟨rfl, hd⟩
end Go.Proofs.YtmokgpepeddopaaGreatDoor.P
end
