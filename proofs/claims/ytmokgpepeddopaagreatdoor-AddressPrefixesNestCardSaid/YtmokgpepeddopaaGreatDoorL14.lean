/- Lemmas on the way to the statement: part 14 of 34 (functions as plain Lean functions, and that each call comes to what they say). -/
import Derived.Test.YtmokgpepeddopaaGreatDoorL12
import Derived.Test.YtmokgpepeddopaaGreatDoorL13
section
namespace Go.Proofs.YtmokgpepeddopaaGreatDoor.P
open Go.RowKit Go.Proofs.YtmokgpepeddopaaGreatDoorW.PrintWords Go.Proofs.YtmokgpepeddopaaGreatDoorW.PrintLast Go.Proofs.YtmokgpepeddopaaGreatDoorW.PrintMore
attribute [local go_sem] max2_int min2_int max_two min_two max_three min_three max_four min_four
attribute [local go_sem high] binOp_string_leq2 binOp_string_gtr2
set_option linter.unusedVariables false
set_option linter.unusedSimpArgs false
mutual
def weirgateref06_Formed.j0 : Nat → Bool → ByteArray → List ByteArray → List (S66) → Option (Bool)
 | 0, _, _, _, _ => none
 | k + 1, x20, x102000, x102001, x102002 => if x20 = true then (some false) else (weirgateref06_Formed.l0 k 0 x102000 x102001 x102002)
def weirgateref06_Formed.l0 : Nat → Int → ByteArray → List ByteArray → List (S66) → Option (Bool)
 | 0, _, _, _, _ => none
 | k + 1, x3, x102000, x102001, x102002 => if x3 < (x102001.length : Int) then (if 0 ≤ x3 then ((weirgateref06_Word.f k (rdOf ByteArray.empty x102001 x3)).bind fun t104 => (if t104 = true then (weirgateref06_Formed.l0 k (wrap64 (x3 + 1)) x102000 x102001 x102002) else (some false))) else (none)) else (weirgateref06_Formed.l1 k 0 x102000 x102001 x102002)
def weirgateref06_Formed.l1 : Nat → Int → ByteArray → List ByteArray → List (S66) → Option (Bool)
 | 0, _, _, _, _ => none
 | k + 1, x4, x102000, x102001, x102002 => if x4 < (x102002.length : Int) then (if 0 ≤ x4 then ((weirgateref06_Name.f k ((rd_T66 x102002 x4).f0)).bind fun t107 => (if t107 = true then ((weirgateref06_Word.f k ((rd_T66 x102002 x4).f1)).bind fun t109 => (if t109 = true then (if x4 > 0 then (if 0 ≤ (wrap64 (x4 - 1)) then (if (wrap64 (x4 - 1)) < (x102002.length : Int) then (if ((Op.bytesLess (((rd_T66 x102002 (wrap64 (x4 - 1))).f0).toList) (((rd_T66 x102002 x4).f0).toList)) = true) then (weirgateref06_Formed.l1 k (wrap64 (x4 + 1)) x102000 x102001 x102002) else (some false)) else (none)) else (none)) else (weirgateref06_Formed.l1 k (wrap64 (x4 + 1)) x102000 x102001 x102002)) else (some false))) else (some false))) else (none)) else ((weirgateref06_text.f k x102000 x102001 x102002).bind fun t105 => (some (decide ((t105.size : Int) ≤ 4096))))
end
def weirgateref06_Formed.f (k : Nat) (a0_0 : ByteArray) (l0_1 : List ByteArray) (l0_2 : List (S66)) : Option (Bool) := (weirgateref06_Name.f k a0_0).bind fun t102 => (if t102 = true then (if (l0_1.length : Int) > 32 then (weirgateref06_Formed.j0 k true a0_0 l0_1 l0_2) else (weirgateref06_Formed.j0 k (decide ((l0_2.length : Int) > 16)) a0_0 l0_1 l0_2)) else (weirgateref06_Formed.j0 k true a0_0 l0_1 l0_2))
def weirgateref06_Formed.T11 : Bool × List (List Nat × List Nat) := (true, [([], []), ([0], [0]), ([], []), ([1, 2], [1, 2]), ([3], [3]), ([4], [4]), ([5], [5]), ([6], [6]), ([7, 6], [7]), ([8], [8]), ([9, 8], [8, 9]), ([8], [8]), ([10, 11, 8], [8, 10, 11]), ([12, 8], [8, 12]), ([13, 8], [8, 13]), ([14, 8, 8], [8, 14]), ([15, 8], [8, 15]), ([8, 16], [8, 16]), ([17, 15], [17]), ([18], [18]), ([19, 18], [18, 19]), ([20, 18, 18], [18, 20]), ([21], [21]), ([22, 21], [21, 22]), ([21], [21]), ([23, 24, 21], [21, 23, 24]), ([25, 21], [21, 25]), ([26, 21], [21, 26]), ([21], [21]), ([28, 21], [21, 28]), ([21], [21]), ([30, 21], [21, 30]), ([29, 31, 21], [21, 29, 31]), ([32, 21], [21, 32]), ([33, 21], [21, 33]), ([27, 34, 21], [21, 27, 34]), ([21, 35, 18], [18, 21, 35]), ([18, 36], [18, 36])])
def weirgateref06_Formed.B11 : List Nat := [0, 1, 0, 7, 15, 31, 63, 127, 255, 511, 1023, 511, 4095, 8191, 16383, 32767, 65535, 131071, 262143, 524287, 1048575, 2097151, 4194303, 8388607, 4194303, 33554431, 67108863, 134217727, 4194303, 272629759, 4194303, 1077936127, 4030726143, 8325693439, 16915628031, 34359738367, 68719476735, 137438953471]
theorem weirgateref06_Formed.tab11 : rtab .any (opsOf Tryz.f56 11) = weirgateref06_Formed.T11 := by kernel_rfl
theorem weirgateref06_Formed.bits11 : waitsOk weirgateref06_Formed.T11.2 weirgateref06_Formed.B11 = true := by kernel_rfl
set_option maxHeartbeats 8000000 in
set_option maxRecDepth 100000 in
theorem weirgateref06_Formed.calls (k : Nat) (a0_0 : ByteArray) (A0_1 : Option Addr) (c0_1 : Nat) (l0_1 : List ByteArray) (A0_2 : Option Addr) (c0_2 : Nat) (l0_2 : List (S66)) (r : Bool) (w : World) (hr0_1 : Kd.C Kd.string w A0_1 l0_1.length l0_1) (hc0_1 : l0_1.length ≤ c0_1) (hr0_2 : Kd.C k66 w A0_2 l0_2.length l0_2) (hc0_2 : l0_2.length ≤ c0_2) (h : weirgateref06_Formed.f k a0_0 l0_1 l0_2 = some r) :
  Calls Tryz.prog 56 #[.agg #[.string a0_0, .slice A0_1 l0_1.length c0_1, .slice A0_2 l0_2.length c0_2]] w fun e w' => e = .returned (.bool r) ∧ Below w.heap.size w w' := by
 have hu25 := Tryz.underlying25
 have HR0_1 := Aside0.mk hr0_1
 have HC0_1 := Aside0.mk hc0_1
 clear hr0_1 hc0_1
 have HR0_2 := Aside0.mk hr0_2
 have HC0_2 := Aside0.mk hc0_2
 clear hr0_2 hc0_2
 have HB := Aside0.mk (Below.refl w.heap.size w)
 have H : ((weirgateref06_Name.f k a0_0).bind fun t102 => (if t102 = true then (if (l0_1.length : Int) > 32 then (weirgateref06_Formed.j0 k true a0_0 l0_1 l0_2) else (weirgateref06_Formed.j0 k (decide ((l0_2.length : Int) > 16)) a0_0 l0_1 l0_2)) else (weirgateref06_Formed.j0 k true a0_0 l0_1 l0_2))) = some r := h
 clear h
 have HC2 := Aside0.mk H
 clear H
 go_enter Tryz.func56, Tryz.ntmps56
 go_upto_region 1 with (first | ((with_reducible refine gate_dst (N := 1) rfl ?_); (try (refine gate_guard (by rfl) ?_; dsimp only)); refine bx 1 #[.string a0_0, .slice A0_1 l0_1.length c0_1, .slice A0_2 l0_2.length c0_2] 25 fun gb101 hg w3 hbox hb => ?_; have BK101 := Aside0.mk (hbox); have GW101 := gw w hg; have GE101 := gw w hg; replace HB := sb w hb; clear hb hbox hg))
 (try simp only [Act.put, List.setIfInBounds_toArray, List.set_cons_zero, List.set_cons_succ])
 go_cut [20] (fun v20 wc => ∃ (kq : Nat) (x20_1 : Bool), v20 = .bool x20_1 ∧ Aside0 (weirgateref06_Formed.j0 kq x20_1 a0_0 l0_1 l0_2 = some r) ∧ Aside0 (kq ≤ k) ∧ Aside0 (wc.heap[gb101]? = some (.cells #[.string a0_0, (.slice A0_1 l0_1.length c0_1), (.slice A0_2 l0_2.length c0_2)] 25 (0, 0))) ∧ Aside0 (Below w.heap.size w wc))
 case first =>
  have H := HC2.out
  clear HC2
  obtain ⟨t102, A4, H⟩ := bd H
  by_cases c5 : t102 = true
  ·subst c5
   rw [if_pos rfl] at H
   by_cases c6 : (l0_1.length : Int) > 32
   ·rw [if_pos c6] at H
    have c6b0 : decide (32 < (l0_1.length : Int)) = true := decide_eq_true c6
    have c6b1 : decide (32 < l0_1.length) = true := decide_eq_true (by omega)
    clear c6
    (first | rw [c6b0] | (simp only [i64_w, i32_w]; rw [c6b0]) | skip)
    have H' := Aside0.mk H
    clear H
    obtain ⟨hcz7_0, hcz7_1, hcz7_2, hfz7_0, hfz7_1, hfz7_2⟩ := cf3 BK101
    go_wp2_with (first | ((with_reducible refine gate_callee (f := 53) rfl ?_); refine goesL_ (some 7) rfl rfl Tryz.func53 (by kernel_rfl) rfl #[.string a0_0] rfl zl ?_; (with_reducible refine (weirgateref06_Name.calls k a0_0 true _ A4.out).mono ?_); rintro e w' ⟨rfl, ⟨nd, rfl⟩⟩; refine ⟨_, rfl, ?_⟩))
    go_meet
    case rel => exact ⟨_, (true), zS, H', ⟨zo⟩, ⟨kb BK101⟩, ⟨zB⟩⟩
   ·rw [if_neg c6] at H
    have c6b0 : decide (32 < (l0_1.length : Int)) = false := decide_eq_false c6
    have c6b1 : decide (32 < l0_1.length) = false := decide_eq_false (by omega)
    clear c6
    (first | rw [c6b0] | (simp only [i64_w, i32_w]; rw [c6b0]) | skip)
    have H' := Aside0.mk H
    clear H
    obtain ⟨hcz7_0, hcz7_1, hcz7_2, hfz7_0, hfz7_1, hfz7_2⟩ := cf3 BK101
    go_wp2_with (first | ((with_reducible refine gate_callee (f := 53) rfl ?_); refine goesL_ (some 7) rfl rfl Tryz.func53 (by kernel_rfl) rfl #[.string a0_0] rfl zl ?_; (with_reducible refine (weirgateref06_Name.calls k a0_0 true _ A4.out).mono ?_); rintro e w' ⟨rfl, ⟨nd, rfl⟩⟩; refine ⟨_, rfl, ?_⟩))
    go_meet
    case rel => exact ⟨_, (decide ((l0_2.length : Int) > 16)), zS, H', ⟨zo⟩, ⟨kb BK101⟩, ⟨zB⟩⟩
  ·replace c5 := Bool.eq_false_iff.mpr c5
   subst c5
   rw [if_neg Bool.false_ne_true] at H
   have H' := Aside0.mk H
   clear H
   obtain ⟨hcz6_0, hcz6_1, hcz6_2, hfz6_0, hfz6_1, hfz6_2⟩ := cf3 BK101
   go_wp2_with (first | ((with_reducible refine gate_callee (f := 53) rfl ?_); refine goesL_ (some 7) rfl rfl Tryz.func53 (by kernel_rfl) rfl #[.string a0_0] rfl zl ?_; (with_reducible refine (weirgateref06_Name.calls k a0_0 false _ A4.out).mono ?_); rintro e w' ⟨rfl, ⟨nd, rfl⟩⟩; refine ⟨_, rfl, ?_⟩))
   go_meet
   case rel => exact ⟨_, (true), zS, H', ⟨zo⟩, ⟨kb BK101⟩, ⟨zB⟩⟩
 case rest =>
  clear HC2
  obtain ⟨kq, x20_1, rfl, HA, HJ1, BK101, HB⟩ := hcut
  cases kq with
  | zero => exact absurd HA.out (by simp [weirgateref06_Formed.j0])
  | succ kj1 =>
   have H := HA.out
   clear HA
   simp only [weirgateref06_Formed.j0] at H
   by_cases c7 : x20_1 = true
   ·subst c7
    rw [if_pos rfl] at H
    obtain rfl := Option.some.inj H
    go_wp2
    go_ret
    exact ⟨zE, zB⟩
   ·replace c7 := Bool.eq_false_iff.mpr c7
    subst c7
    rw [if_neg Bool.false_ne_true] at H
    have H' := Aside0.mk H
    clear H
    go_wp2
    go_loopg [3] kj1 (fun kq v3 w' => ∃ (x3_2 : Int), v3 = .int .i64 x3_2 ∧ Aside0 (weirgateref06_Formed.l0 kq x3_2 a0_0 l0_1 l0_2 = some r) ∧ Aside0 (kq ≤ kj1) ∧ Aside0 (w'.heap[gb101]? = some (.cells #[.string a0_0, (.slice A0_1 l0_1.length c0_1), (.slice A0_2 l0_2.length c0_2)] 25 (0, 0))) ∧ Aside0 (Below w.heap.size w w'))
    case atStart => exact ⟨(0), zS, H', ⟨Nat.le_refl _⟩, ⟨kb BK101⟩, ⟨zB⟩⟩
    case round =>
     clear H'
     obtain ⟨x3_2, rfl, HA, HK2, BK101, HB⟩ := hrel
     cases gk with
     | zero => exact absurd HA.out (by simp [weirgateref06_Formed.l0])
     | succ k2 =>
      have H := HA.out
      clear HA
      simp only [weirgateref06_Formed.l0] at H
      by_cases c8 : x3_2 < (l0_1.length : Int)
      ·rw [if_pos c8] at H
       have c8b0 : decide (x3_2 < (l0_1.length : Int)) = true := decide_eq_true c8
       clear c8
       by_cases c9 : 0 ≤ x3_2
       ·rw [if_pos c9] at H
        have c9b0 : decide (0 ≤ x3_2) = true := decide_eq_true c9
        clear c9
        obtain ⟨t104, A10, H⟩ := bd H
        by_cases c11 : t104 = true
        ·subst c11
         rw [if_pos rfl] at H
         have H' := Aside0.mk H
         clear H
         obtain ⟨hcz12_0, hcz12_1, hcz12_2, hfz12_0, hfz12_1, hfz12_2⟩ := cf3 BK101
         have p103 : 0 ≤ (x3_2 : Int) := of_decide_eq_true za
         have q103 : x3_2 < (l0_1.length : Int) := of_decide_eq_true za
         obtain ⟨ad103, e103, hx103_0⟩ := Kd.at_string HR0_1.out x3_2 p103 q103
         cases e103
         replace hx103_0 := (HB.out.cell (World.block_lt_of_cell? w _ hx103_0)).trans hx103_0
         replace p103 := eq_true p103
         replace q103 := eq_true q103
         go_wp2_with (first | ((with_reducible refine gate_callee (f := 95) rfl ?_); refine goesL_ (some 33) rfl rfl Tryz.func95 (by kernel_rfl) rfl #[.string (rdOf ByteArray.empty l0_1 x3_2)] rfl zl ?_; (with_reducible refine (weirgateref06_Word.calls k2 (rdOf ByteArray.empty l0_1 x3_2) true _ A10.out).mono ?_); rintro e w' ⟨rfl, ⟨nd, rfl⟩⟩; refine ⟨_, rfl, ?_⟩))
         go_roundg k2
         case measure => have := HJ1.out; have := HK2.out; omega
         case rel => exact ⟨(wrap64 (x3_2 + 1)), zS, H', ⟨by have := HJ1.out; have := HK2.out; omega⟩, ⟨kb BK101⟩, ⟨zB⟩⟩
        ·replace c11 := Bool.eq_false_iff.mpr c11
         subst c11
         rw [if_neg Bool.false_ne_true] at H
         obtain rfl := Option.some.inj H
         obtain ⟨hcz12_0, hcz12_1, hcz12_2, hfz12_0, hfz12_1, hfz12_2⟩ := cf3 BK101
         have p103 : 0 ≤ (x3_2 : Int) := of_decide_eq_true za
         have q103 : x3_2 < (l0_1.length : Int) := of_decide_eq_true za
         obtain ⟨ad103, e103, hx103_0⟩ := Kd.at_string HR0_1.out x3_2 p103 q103
         cases e103
         replace hx103_0 := (HB.out.cell (World.block_lt_of_cell? w _ hx103_0)).trans hx103_0
         replace p103 := eq_true p103
         replace q103 := eq_true q103
         go_wp2_with (first | ((with_reducible refine gate_callee (f := 95) rfl ?_); refine goesL_ (some 33) rfl rfl Tryz.func95 (by kernel_rfl) rfl #[.string (rdOf ByteArray.empty l0_1 x3_2)] rfl zl ?_; (with_reducible refine (weirgateref06_Word.calls k2 (rdOf ByteArray.empty l0_1 x3_2) false _ A10.out).mono ?_); rintro e w' ⟨rfl, ⟨nd, rfl⟩⟩; refine ⟨_, rfl, ?_⟩))
         go_ret
         exact ⟨zE, zB⟩
       ·rw [if_neg c9] at H
        exact absurd H (by simp)
      ·rw [if_neg c8] at H
       have c8b0 : decide (x3_2 < (l0_1.length : Int)) = false := decide_eq_false c8
       clear c8
       have H' := Aside0.mk H
       clear H
       obtain ⟨hcz9_0, hcz9_1, hcz9_2, hfz9_0, hfz9_1, hfz9_2⟩ := cf3 BK101
       go_wp2
       go_loopg [4] k2 (fun kq v4 w' => ∃ (x4_3 : Int), v4 = .int .i64 x4_3 ∧ Aside0 (weirgateref06_Formed.l1 kq x4_3 a0_0 l0_1 l0_2 = some r) ∧ Aside0 (kq ≤ k2) ∧ Aside0 (w'.heap[gb101]? = some (.cells #[.string a0_0, (.slice A0_1 l0_1.length c0_1), (.slice A0_2 l0_2.length c0_2)] 25 (0, 0))) ∧ Aside0 (Below w.heap.size w w'))
       case atStart => exact ⟨(0), zS, H', ⟨Nat.le_refl _⟩, ⟨kb BK101⟩, ⟨zB⟩⟩
       case round =>
        clear H'
        obtain ⟨x4_3, rfl, HA, HK3, BK101, HB⟩ := hrel
        cases gk with
        | zero => exact absurd HA.out (by simp [weirgateref06_Formed.l1])
        | succ k3 =>
         have H := HA.out
         clear HA
         simp only [weirgateref06_Formed.l1] at H
         by_cases c10 : x4_3 < (l0_2.length : Int)
         ·rw [if_pos c10] at H
          have c10b0 : decide (x4_3 < (l0_2.length : Int)) = true := decide_eq_true c10
          clear c10
          by_cases c11 : 0 ≤ x4_3
          ·rw [if_pos c11] at H
           have c11b0 : decide (0 ≤ x4_3) = true := decide_eq_true c11
           clear c11
           obtain ⟨t107, A12, H⟩ := bd H
           by_cases c13 : t107 = true
           ·subst c13
            rw [if_pos rfl] at H
            obtain ⟨t109, A14, H⟩ := bd H
            by_cases c15 : t109 = true
            ·subst c15
             rw [if_pos rfl] at H
             by_cases c16 : x4_3 > 0
             ·rw [if_pos c16] at H
              have c16b0 : decide (0 < x4_3) = true := decide_eq_true c16
              clear c16
              obtain ⟨ji17, hji17⟩ : ∃ j_ : Int, (wrap64 (x4_3 - 1)) = j_ := ⟨_, rfl⟩
              replace H : (if 0 ≤ (ji17) then (if (ji17) < (l0_2.length : Int) then (if ((Op.bytesLess (((rd_T66 l0_2 (ji17)).f0).toList) (((rd_T66 l0_2 x4_3).f0).toList)) = true) then (weirgateref06_Formed.l1 k3 (wrap64 (x4_3 + 1)) a0_0 l0_1 l0_2) else (some false)) else (none)) else (none)) = some r := by first | (rw [hji17] at H; exact H) | (simp only [hji17] at H ⊢; exact H)
              (try rw [hji17] at A12)
              (try rw [hji17] at A14)
              have hji17w : (IntKind.i64.wrap (x4_3 - 1)) = ji17 := (i64_w _).trans hji17
              by_cases c18 : 0 ≤ (ji17)
              ·rw [if_pos c18] at H
               have c18b0 : decide (0 ≤ (ji17)) = true := decide_eq_true c18
               clear c18
               by_cases c19 : (ji17) < (l0_2.length : Int)
               ·rw [if_pos c19] at H
                have c19b0 : decide ((ji17) < (l0_2.length : Int)) = true := decide_eq_true c19
                clear c19
                by_cases c20 : ((Op.bytesLess (((rd_T66 l0_2 (ji17)).f0).toList) (((rd_T66 l0_2 x4_3).f0).toList)) = true)
                ·rw [if_pos c20] at H
                 have c20b0 : (Op.bytesLess (((rd_T66 l0_2 (ji17)).f0).toList) (((rd_T66 l0_2 x4_3).f0).toList)) = true := c20
                 clear c20
                 have H' := Aside0.mk H
                 clear H
                 obtain ⟨hcz21_0, hcz21_1, hcz21_2, hfz21_0, hfz21_1, hfz21_2⟩ := cf3 BK101
                 try go_wp2
                 replace BK101 := Aside0.mk (blk_drew BK101.out)
                 replace HB := Aside0.mk (below_drew1 HB.out)
                 have p106 : 0 ≤ (x4_3 : Int) := of_decide_eq_true za
                 have q106 : x4_3 < (l0_2.length : Int) := of_decide_eq_true za
                 obtain ⟨ad106, e106, hx106_0, hx106_1⟩ := at_T66 HR0_2.out x4_3 p106 q106
                 have hw106_1 := hx106_1
                 have hw106_0 := hx106_0
                 cases e106
                 replace hx106_0 := (HB.out.cell (World.block_lt_of_cell? w _ hx106_0)).trans hx106_0
                 replace hx106_1 := (HB.out.cell (World.block_lt_of_cell? w _ hx106_1)).trans hx106_1
                 replace p106 := eq_true p106
                 replace q106 := eq_true q106
                 have p108 : 0 ≤ (x4_3 : Int) := of_decide_eq_true za
                 have q108 : x4_3 < (l0_2.length : Int) := of_decide_eq_true za
                 obtain ⟨ad108, e108, hx108_0, hx108_1⟩ := at_T66 HR0_2.out x4_3 p108 q108
                 have hw108_1 := hx108_1
                 have hw108_0 := hx108_0
                 obtain rfl : ad106 = ad108 := (by injection e108)
                 replace hx108_0 := (HB.out.cell (World.block_lt_of_cell? w _ hx108_0)).trans hx108_0
                 replace hx108_1 := (HB.out.cell (World.block_lt_of_cell? w _ hx108_1)).trans hx108_1
                 replace p108 := eq_true p108
                 replace q108 := eq_true q108
                 have p110 : 0 ≤ (x4_3 : Int) := of_decide_eq_true za
                 have q110 : x4_3 < (l0_2.length : Int) := of_decide_eq_true za
                 obtain ⟨ad110, e110, hx110_0, hx110_1⟩ := at_T66 HR0_2.out x4_3 p110 q110
                 have hw110_1 := hx110_1
                 have hw110_0 := hx110_0
                 obtain rfl : ad106 = ad110 := (by injection e110)
                 replace hx110_0 := (HB.out.cell (World.block_lt_of_cell? w _ hx110_0)).trans hx110_0
                 replace hx110_1 := (HB.out.cell (World.block_lt_of_cell? w _ hx110_1)).trans hx110_1
                 replace p110 := eq_true p110
                 replace q110 := eq_true q110
                 have p111 : 0 ≤ ((ji17) : Int) := of_decide_eq_true za
                 have q111 : (ji17) < (l0_2.length : Int) := of_decide_eq_true za
                 obtain ⟨ad111, e111, hx111_0, hx111_1⟩ := at_T66 HR0_2.out (ji17) p111 q111
                 have hw111_1 := hx111_1
                 have hw111_0 := hx111_0
                 obtain rfl : ad106 = ad111 := (by injection e111)
                 replace hx111_0 := (HB.out.cell (World.block_lt_of_cell? w _ hx111_0)).trans hx111_0
                 replace hx111_1 := (HB.out.cell (World.block_lt_of_cell? w _ hx111_1)).trans hx111_1
                 replace p111 := eq_true p111
                 replace q111 := eq_true q111
                 refine start_ (n := 38) (S := fun w' => w'.cell? ⟨gb101, 0, none⟩ = some (.string a0_0) ∧ w'.cell? ⟨gb101, 1, none⟩ = some (.slice A0_1 l0_1.length c0_1) ∧ w'.cell? ⟨gb101, 2, none⟩ = some (.slice (some ad106) l0_2.length c0_2) ∧ w'.cell? (ad106.add ((x4_3).toNat * 2)) = some (.string ((rd_T66 l0_2 x4_3).f0)) ∧ w'.cell? ⟨(ad106.add ((x4_3).toNat * 2)).block, (ad106.add ((x4_3).toNat * 2)).off + 1, none⟩ = some (.string ((rd_T66 l0_2 x4_3).f1)) ∧ w'.cell? (ad106.add ((x4_3).toNat * 2)) = some (.string ((rd_T66 l0_2 x4_3).f0)) ∧ w'.cell? ⟨(ad106.add ((x4_3).toNat * 2)).block, (ad106.add ((x4_3).toNat * 2)).off + 1, none⟩ = some (.string ((rd_T66 l0_2 x4_3).f1)) ∧ w'.cell? (ad106.add ((x4_3).toNat * 2)) = some (.string ((rd_T66 l0_2 x4_3).f0)) ∧ w'.cell? ⟨(ad106.add ((x4_3).toNat * 2)).block, (ad106.add ((x4_3).toNat * 2)).off + 1, none⟩ = some (.string ((rd_T66 l0_2 x4_3).f1)) ∧ w'.cell? (ad106.add (((ji17)).toNat * 2)) = some (.string ((rd_T66 l0_2 (ji17)).f0)) ∧ w'.cell? ⟨(ad106.add (((ji17)).toNat * 2)).block, (ad106.add (((ji17)).toNat * 2)).off + 1, none⟩ = some (.string ((rd_T66 l0_2 (ji17)).f1))) (ds := []) #[false, false, false, false, false, false, false, false, false, false, false, false, false, false, false, false, false, false, false, false, false, false, false, false, false, false, false, false, false, false, false, false, false, false, false, false, false, false] (by kernel_rfl) rfl rfl ⟨(blk_cell BK101.out 0).trans rfl, (blk_cell BK101.out 1).trans rfl, (blk_cell BK101.out 2).trans rfl, ((HB.out.cell (World.block_lt_of_cell? w _ hw106_0)).trans hw106_0), ((HB.out.cell (World.block_lt_of_cell? w _ hw106_1)).trans hw106_1), ((HB.out.cell (World.block_lt_of_cell? w _ hw108_0)).trans hw108_0), ((HB.out.cell (World.block_lt_of_cell? w _ hw108_1)).trans hw108_1), ((HB.out.cell (World.block_lt_of_cell? w _ hw110_0)).trans hw110_0), ((HB.out.cell (World.block_lt_of_cell? w _ hw110_1)).trans hw110_1), ((HB.out.cell (World.block_lt_of_cell? w _ hw111_0)).trans hw111_0), ((HB.out.cell (World.block_lt_of_cell? w _ hw111_1)).trans hw111_1)⟩ (fun hHeld => ?_); refine with_tabW weirgateref06_Formed.tab11 weirgateref06_Formed.bits11 (fun HT_ HW_ => ?_)
                 generalize wr.drew = w22 at BK101 HB hx106_0 hx106_1 hx108_0 hx108_1 hx110_0 hx110_1 hx111_0 hx111_1 hHeld ⊢
                 refine pu 0 42 ?_
                 refine pu 2 44 ?_
                 refine tk 1 43 ?_
                 refine pu 3 45 ?_
                 refine pu 4 46 ?_
                 refine tk 5 47 ?_
                 refine on 6 (some 48) fun K hK => ?_
                 refine goes_ Tryz.func53 (by kernel_rfl) rfl #[.string ((rd_T66 l0_2 x4_3).f0)] (by rfl) rfl rfl zl ?_
                 with_reducible refine (weirgateref06_Name.calls k3 ((rd_T66 l0_2 x4_3).f0) true _ A12.out).mono ?_
                 rintro e w' ⟨rfl, ⟨nd, rfl⟩⟩
                 refine ⟨_, rfl, ?_⟩
                 refine hK.out _ _ ⟨(blk_cell BK101.out 0).trans rfl, (blk_cell BK101.out 1).trans rfl, (blk_cell BK101.out 2).trans rfl, ((HB.out.cell (World.block_lt_of_cell? w _ hw106_0)).trans hw106_0), ((HB.out.cell (World.block_lt_of_cell? w _ hw106_1)).trans hw106_1), ((HB.out.cell (World.block_lt_of_cell? w _ hw108_0)).trans hw108_0), ((HB.out.cell (World.block_lt_of_cell? w _ hw108_1)).trans hw108_1), ((HB.out.cell (World.block_lt_of_cell? w _ hw110_0)).trans hw110_0), ((HB.out.cell (World.block_lt_of_cell? w _ hw110_1)).trans hw110_1), ((HB.out.cell (World.block_lt_of_cell? w _ hw111_0)).trans hw111_0), ((HB.out.cell (World.block_lt_of_cell? w _ hw111_1)).trans hw111_1)⟩ (fun hHeld => ?_)
                 clear hK K
                 refine nm 48 ?_
                 refine pu 7 49 ?_
                 refine pu 8 50 ?_
                 refine pu 9 51 ?_
                 refine pu 11 53 ?_
                 refine tk 10 52 ?_
                 refine pu 12 54 ?_
                 refine pu 13 55 ?_
                 refine tk 14 56 ?_
                 refine on 15 (some 57) fun K hK => ?_
                 refine goes_ Tryz.func95 (by kernel_rfl) rfl #[.string ((rd_T66 l0_2 x4_3).f1)] (by rfl) rfl rfl zl ?_
                 with_reducible refine (weirgateref06_Word.calls k3 ((rd_T66 l0_2 x4_3).f1) true _ A14.out).mono ?_
                 rintro e w' ⟨rfl, ⟨nd, rfl⟩⟩
                 refine ⟨_, rfl, ?_⟩
                 refine hK.out _ _ ⟨(blk_cell BK101.out 0).trans rfl, (blk_cell BK101.out 1).trans rfl, (blk_cell BK101.out 2).trans rfl, ((HB.out.cell (World.block_lt_of_cell? w _ hw106_0)).trans hw106_0), ((HB.out.cell (World.block_lt_of_cell? w _ hw106_1)).trans hw106_1), ((HB.out.cell (World.block_lt_of_cell? w _ hw108_0)).trans hw108_0), ((HB.out.cell (World.block_lt_of_cell? w _ hw108_1)).trans hw108_1), ((HB.out.cell (World.block_lt_of_cell? w _ hw110_0)).trans hw110_0), ((HB.out.cell (World.block_lt_of_cell? w _ hw110_1)).trans hw110_1), ((HB.out.cell (World.block_lt_of_cell? w _ hw111_0)).trans hw111_0), ((HB.out.cell (World.block_lt_of_cell? w _ hw111_1)).trans hw111_1)⟩ (fun hHeld => ?_)
                 clear hK K
                 refine nm 57 ?_
                 refine pu 16 58 ?_
                 refine pu 17 59 ?_
                 refine pu 18 60 ?_
                 refine pu 19 61 ?_
                 refine pu 20 62 ?_
                 refine pu 21 63 ?_
                 refine pu 22 64 ?_
                 refine pu 24 66 ?_
                 refine pu 28 70 ?_
                 refine pu 30 72 ?_
                 refine pu 31 73 ?_
                 refine tk 23 65 ?_
                 refine pu 25 67 ?_
                 refine pu 26 68 ?_
                 refine tk 27 69 ?_
                 refine tk 29 71 ?_
                 refine pu 32 74 ?_
                 refine pu 33 75 ?_
                 refine tk 34 76 ?_
                 refine pu 35 77 ?_
                 refine pu 36 78 ?_
                 refine pu 37 79 ?_
                 refine dn ?_
                 try go_wp2
                 go_roundg k3
                 case measure => have := HJ1.out; have := HK2.out; have := HK3.out; omega
                 case rel => exact ⟨(wrap64 (x4_3 + 1)), zS, H', ⟨by have := HJ1.out; have := HK2.out; have := HK3.out; omega⟩, ⟨kb BK101⟩, ⟨zB⟩⟩
                ·rw [if_neg c20] at H
                 have c20b0 : (Op.bytesLess (((rd_T66 l0_2 (ji17)).f0).toList) (((rd_T66 l0_2 x4_3).f0).toList)) = false := by simpa using c20
                 clear c20
                 obtain rfl := Option.some.inj H
                 obtain ⟨hcz21_0, hcz21_1, hcz21_2, hfz21_0, hfz21_1, hfz21_2⟩ := cf3 BK101
                 try go_wp2
                 replace BK101 := Aside0.mk (blk_drew BK101.out)
                 replace HB := Aside0.mk (below_drew1 HB.out)
                 have p106 : 0 ≤ (x4_3 : Int) := of_decide_eq_true za
                 have q106 : x4_3 < (l0_2.length : Int) := of_decide_eq_true za
                 obtain ⟨ad106, e106, hx106_0, hx106_1⟩ := at_T66 HR0_2.out x4_3 p106 q106
                 have hw106_1 := hx106_1
                 have hw106_0 := hx106_0
                 cases e106
                 replace hx106_0 := (HB.out.cell (World.block_lt_of_cell? w _ hx106_0)).trans hx106_0
                 replace hx106_1 := (HB.out.cell (World.block_lt_of_cell? w _ hx106_1)).trans hx106_1
                 replace p106 := eq_true p106
                 replace q106 := eq_true q106
                 have p108 : 0 ≤ (x4_3 : Int) := of_decide_eq_true za
                 have q108 : x4_3 < (l0_2.length : Int) := of_decide_eq_true za
                 obtain ⟨ad108, e108, hx108_0, hx108_1⟩ := at_T66 HR0_2.out x4_3 p108 q108
                 have hw108_1 := hx108_1
                 have hw108_0 := hx108_0
                 obtain rfl : ad106 = ad108 := (by injection e108)
                 replace hx108_0 := (HB.out.cell (World.block_lt_of_cell? w _ hx108_0)).trans hx108_0
                 replace hx108_1 := (HB.out.cell (World.block_lt_of_cell? w _ hx108_1)).trans hx108_1
                 replace p108 := eq_true p108
                 replace q108 := eq_true q108
                 have p110 : 0 ≤ (x4_3 : Int) := of_decide_eq_true za
                 have q110 : x4_3 < (l0_2.length : Int) := of_decide_eq_true za
                 obtain ⟨ad110, e110, hx110_0, hx110_1⟩ := at_T66 HR0_2.out x4_3 p110 q110
                 have hw110_1 := hx110_1
                 have hw110_0 := hx110_0
                 obtain rfl : ad106 = ad110 := (by injection e110)
                 replace hx110_0 := (HB.out.cell (World.block_lt_of_cell? w _ hx110_0)).trans hx110_0
                 replace hx110_1 := (HB.out.cell (World.block_lt_of_cell? w _ hx110_1)).trans hx110_1
                 replace p110 := eq_true p110
                 replace q110 := eq_true q110
                 have p111 : 0 ≤ ((ji17) : Int) := of_decide_eq_true za
                 have q111 : (ji17) < (l0_2.length : Int) := of_decide_eq_true za
                 obtain ⟨ad111, e111, hx111_0, hx111_1⟩ := at_T66 HR0_2.out (ji17) p111 q111
                 have hw111_1 := hx111_1
                 have hw111_0 := hx111_0
                 obtain rfl : ad106 = ad111 := (by injection e111)
                 replace hx111_0 := (HB.out.cell (World.block_lt_of_cell? w _ hx111_0)).trans hx111_0
                 replace hx111_1 := (HB.out.cell (World.block_lt_of_cell? w _ hx111_1)).trans hx111_1
                 replace p111 := eq_true p111
                 replace q111 := eq_true q111
                 refine start_ (n := 38) (S := fun w' => w'.cell? ⟨gb101, 0, none⟩ = some (.string a0_0) ∧ w'.cell? ⟨gb101, 1, none⟩ = some (.slice A0_1 l0_1.length c0_1) ∧ w'.cell? ⟨gb101, 2, none⟩ = some (.slice (some ad106) l0_2.length c0_2) ∧ w'.cell? (ad106.add ((x4_3).toNat * 2)) = some (.string ((rd_T66 l0_2 x4_3).f0)) ∧ w'.cell? ⟨(ad106.add ((x4_3).toNat * 2)).block, (ad106.add ((x4_3).toNat * 2)).off + 1, none⟩ = some (.string ((rd_T66 l0_2 x4_3).f1)) ∧ w'.cell? (ad106.add ((x4_3).toNat * 2)) = some (.string ((rd_T66 l0_2 x4_3).f0)) ∧ w'.cell? ⟨(ad106.add ((x4_3).toNat * 2)).block, (ad106.add ((x4_3).toNat * 2)).off + 1, none⟩ = some (.string ((rd_T66 l0_2 x4_3).f1)) ∧ w'.cell? (ad106.add ((x4_3).toNat * 2)) = some (.string ((rd_T66 l0_2 x4_3).f0)) ∧ w'.cell? ⟨(ad106.add ((x4_3).toNat * 2)).block, (ad106.add ((x4_3).toNat * 2)).off + 1, none⟩ = some (.string ((rd_T66 l0_2 x4_3).f1)) ∧ w'.cell? (ad106.add (((ji17)).toNat * 2)) = some (.string ((rd_T66 l0_2 (ji17)).f0)) ∧ w'.cell? ⟨(ad106.add (((ji17)).toNat * 2)).block, (ad106.add (((ji17)).toNat * 2)).off + 1, none⟩ = some (.string ((rd_T66 l0_2 (ji17)).f1))) (ds := []) #[false, false, false, false, false, false, false, false, false, false, false, false, false, false, false, false, false, false, false, false, false, false, false, false, false, false, false, false, false, false, false, false, false, false, false, false, false, false] (by kernel_rfl) rfl rfl ⟨(blk_cell BK101.out 0).trans rfl, (blk_cell BK101.out 1).trans rfl, (blk_cell BK101.out 2).trans rfl, ((HB.out.cell (World.block_lt_of_cell? w _ hw106_0)).trans hw106_0), ((HB.out.cell (World.block_lt_of_cell? w _ hw106_1)).trans hw106_1), ((HB.out.cell (World.block_lt_of_cell? w _ hw108_0)).trans hw108_0), ((HB.out.cell (World.block_lt_of_cell? w _ hw108_1)).trans hw108_1), ((HB.out.cell (World.block_lt_of_cell? w _ hw110_0)).trans hw110_0), ((HB.out.cell (World.block_lt_of_cell? w _ hw110_1)).trans hw110_1), ((HB.out.cell (World.block_lt_of_cell? w _ hw111_0)).trans hw111_0), ((HB.out.cell (World.block_lt_of_cell? w _ hw111_1)).trans hw111_1)⟩ (fun hHeld => ?_); refine with_tabW weirgateref06_Formed.tab11 weirgateref06_Formed.bits11 (fun HT_ HW_ => ?_)
                 generalize wr.drew = w22 at BK101 HB hx106_0 hx106_1 hx108_0 hx108_1 hx110_0 hx110_1 hx111_0 hx111_1 hHeld ⊢
                 refine pu 0 42 ?_
                 refine pu 2 44 ?_
                 refine tk 1 43 ?_
                 refine pu 3 45 ?_
                 refine pu 4 46 ?_
                 refine tk 5 47 ?_
                 refine on 6 (some 48) fun K hK => ?_
                 refine goes_ Tryz.func53 (by kernel_rfl) rfl #[.string ((rd_T66 l0_2 x4_3).f0)] (by rfl) rfl rfl zl ?_
                 with_reducible refine (weirgateref06_Name.calls k3 ((rd_T66 l0_2 x4_3).f0) true _ A12.out).mono ?_
                 rintro e w' ⟨rfl, ⟨nd, rfl⟩⟩
                 refine ⟨_, rfl, ?_⟩
                 refine hK.out _ _ ⟨(blk_cell BK101.out 0).trans rfl, (blk_cell BK101.out 1).trans rfl, (blk_cell BK101.out 2).trans rfl, ((HB.out.cell (World.block_lt_of_cell? w _ hw106_0)).trans hw106_0), ((HB.out.cell (World.block_lt_of_cell? w _ hw106_1)).trans hw106_1), ((HB.out.cell (World.block_lt_of_cell? w _ hw108_0)).trans hw108_0), ((HB.out.cell (World.block_lt_of_cell? w _ hw108_1)).trans hw108_1), ((HB.out.cell (World.block_lt_of_cell? w _ hw110_0)).trans hw110_0), ((HB.out.cell (World.block_lt_of_cell? w _ hw110_1)).trans hw110_1), ((HB.out.cell (World.block_lt_of_cell? w _ hw111_0)).trans hw111_0), ((HB.out.cell (World.block_lt_of_cell? w _ hw111_1)).trans hw111_1)⟩ (fun hHeld => ?_)
                 clear hK K
                 refine nm 48 ?_
                 refine pu 7 49 ?_
                 refine pu 8 50 ?_
                 refine pu 9 51 ?_
                 refine pu 11 53 ?_
                 refine tk 10 52 ?_
                 refine pu 12 54 ?_
                 refine pu 13 55 ?_
                 refine tk 14 56 ?_
                 refine on 15 (some 57) fun K hK => ?_
                 refine goes_ Tryz.func95 (by kernel_rfl) rfl #[.string ((rd_T66 l0_2 x4_3).f1)] (by rfl) rfl rfl zl ?_
                 with_reducible refine (weirgateref06_Word.calls k3 ((rd_T66 l0_2 x4_3).f1) true _ A14.out).mono ?_
                 rintro e w' ⟨rfl, ⟨nd, rfl⟩⟩
                 refine ⟨_, rfl, ?_⟩
                 refine hK.out _ _ ⟨(blk_cell BK101.out 0).trans rfl, (blk_cell BK101.out 1).trans rfl, (blk_cell BK101.out 2).trans rfl, ((HB.out.cell (World.block_lt_of_cell? w _ hw106_0)).trans hw106_0), ((HB.out.cell (World.block_lt_of_cell? w _ hw106_1)).trans hw106_1), ((HB.out.cell (World.block_lt_of_cell? w _ hw108_0)).trans hw108_0), ((HB.out.cell (World.block_lt_of_cell? w _ hw108_1)).trans hw108_1), ((HB.out.cell (World.block_lt_of_cell? w _ hw110_0)).trans hw110_0), ((HB.out.cell (World.block_lt_of_cell? w _ hw110_1)).trans hw110_1), ((HB.out.cell (World.block_lt_of_cell? w _ hw111_0)).trans hw111_0), ((HB.out.cell (World.block_lt_of_cell? w _ hw111_1)).trans hw111_1)⟩ (fun hHeld => ?_)
                 clear hK K
                 refine nm 57 ?_
                 refine pu 16 58 ?_
                 refine pu 17 59 ?_
                 refine pu 18 60 ?_
                 refine pu 19 61 ?_
                 refine pu 20 62 ?_
                 refine pu 21 63 ?_
                 refine pu 22 64 ?_
                 refine pu 24 66 ?_
                 refine pu 28 70 ?_
                 refine pu 30 72 ?_
                 refine pu 31 73 ?_
                 refine tk 23 65 ?_
                 refine pu 25 67 ?_
                 refine pu 26 68 ?_
                 refine tk 27 69 ?_
                 refine tk 29 71 ?_
                 refine pu 32 74 ?_
                 refine pu 33 75 ?_
                 refine tk 34 76 ?_
                 refine pu 35 77 ?_
                 refine pu 36 78 ?_
                 refine pu 37 79 ?_
                 refine dn ?_
                 try go_wp2
                 go_ret
                 exact ⟨by first | rfl | (simp [errW_none, errW_some] <;> rfl) | (simp only [← hji17]; first | rfl | (simp [errW_none, errW_some] <;> rfl)) | (simp [*, errW_none, errW_some] <;> rfl), zB⟩
               ·rw [if_neg c19] at H
                exact absurd H (by simp)
              ·rw [if_neg c18] at H
               exact absurd H (by simp)
             ·rw [if_neg c16] at H
              have c16b0 : decide (0 < x4_3) = false := decide_eq_false c16
              clear c16
              have H' := Aside0.mk H
              clear H
              obtain ⟨hcz17_0, hcz17_1, hcz17_2, hfz17_0, hfz17_1, hfz17_2⟩ := cf3 BK101
              try go_wp2
              replace BK101 := Aside0.mk (blk_drew BK101.out)
              replace HB := Aside0.mk (below_drew1 HB.out)
              have p106 : 0 ≤ (x4_3 : Int) := of_decide_eq_true za
              have q106 : x4_3 < (l0_2.length : Int) := of_decide_eq_true za
              obtain ⟨ad106, e106, hx106_0, hx106_1⟩ := at_T66 HR0_2.out x4_3 p106 q106
              have hw106_1 := hx106_1
              have hw106_0 := hx106_0
              cases e106
              replace hx106_0 := (HB.out.cell (World.block_lt_of_cell? w _ hx106_0)).trans hx106_0
              replace hx106_1 := (HB.out.cell (World.block_lt_of_cell? w _ hx106_1)).trans hx106_1
              replace p106 := eq_true p106
              replace q106 := eq_true q106
              have p108 : 0 ≤ (x4_3 : Int) := of_decide_eq_true za
              have q108 : x4_3 < (l0_2.length : Int) := of_decide_eq_true za
              obtain ⟨ad108, e108, hx108_0, hx108_1⟩ := at_T66 HR0_2.out x4_3 p108 q108
              have hw108_1 := hx108_1
              have hw108_0 := hx108_0
              obtain rfl : ad106 = ad108 := (by injection e108)
              replace hx108_0 := (HB.out.cell (World.block_lt_of_cell? w _ hx108_0)).trans hx108_0
              replace hx108_1 := (HB.out.cell (World.block_lt_of_cell? w _ hx108_1)).trans hx108_1
              replace p108 := eq_true p108
              replace q108 := eq_true q108
              refine start_ (n := 38) (S := fun w' => w'.cell? ⟨gb101, 0, none⟩ = some (.string a0_0) ∧ w'.cell? ⟨gb101, 1, none⟩ = some (.slice A0_1 l0_1.length c0_1) ∧ w'.cell? ⟨gb101, 2, none⟩ = some (.slice (some ad106) l0_2.length c0_2) ∧ w'.cell? (ad106.add ((x4_3).toNat * 2)) = some (.string ((rd_T66 l0_2 x4_3).f0)) ∧ w'.cell? ⟨(ad106.add ((x4_3).toNat * 2)).block, (ad106.add ((x4_3).toNat * 2)).off + 1, none⟩ = some (.string ((rd_T66 l0_2 x4_3).f1)) ∧ w'.cell? (ad106.add ((x4_3).toNat * 2)) = some (.string ((rd_T66 l0_2 x4_3).f0)) ∧ w'.cell? ⟨(ad106.add ((x4_3).toNat * 2)).block, (ad106.add ((x4_3).toNat * 2)).off + 1, none⟩ = some (.string ((rd_T66 l0_2 x4_3).f1))) (ds := []) #[false, false, false, false, false, false, false, false, false, false, false, false, false, false, false, false, false, false, false, false, false, false, false, false, false, false, false, false, false, false, false, false, false, false, false, false, false, false] (by kernel_rfl) rfl rfl ⟨(blk_cell BK101.out 0).trans rfl, (blk_cell BK101.out 1).trans rfl, (blk_cell BK101.out 2).trans rfl, ((HB.out.cell (World.block_lt_of_cell? w _ hw106_0)).trans hw106_0), ((HB.out.cell (World.block_lt_of_cell? w _ hw106_1)).trans hw106_1), ((HB.out.cell (World.block_lt_of_cell? w _ hw108_0)).trans hw108_0), ((HB.out.cell (World.block_lt_of_cell? w _ hw108_1)).trans hw108_1)⟩ (fun hHeld => ?_); refine with_tabW weirgateref06_Formed.tab11 weirgateref06_Formed.bits11 (fun HT_ HW_ => ?_)
              generalize wr.drew = w18 at BK101 HB hx106_0 hx106_1 hx108_0 hx108_1 hHeld ⊢
              refine pu 0 42 ?_
              refine pu 2 44 ?_
              refine tk 1 43 ?_
              refine pu 3 45 ?_
              refine pu 4 46 ?_
              refine tk 5 47 ?_
              refine on 6 (some 48) fun K hK => ?_
              refine goes_ Tryz.func53 (by kernel_rfl) rfl #[.string ((rd_T66 l0_2 x4_3).f0)] (by rfl) rfl rfl zl ?_
              with_reducible refine (weirgateref06_Name.calls k3 ((rd_T66 l0_2 x4_3).f0) true _ A12.out).mono ?_
              rintro e w' ⟨rfl, ⟨nd, rfl⟩⟩
              refine ⟨_, rfl, ?_⟩
              refine hK.out _ _ ⟨(blk_cell BK101.out 0).trans rfl, (blk_cell BK101.out 1).trans rfl, (blk_cell BK101.out 2).trans rfl, ((HB.out.cell (World.block_lt_of_cell? w _ hw106_0)).trans hw106_0), ((HB.out.cell (World.block_lt_of_cell? w _ hw106_1)).trans hw106_1), ((HB.out.cell (World.block_lt_of_cell? w _ hw108_0)).trans hw108_0), ((HB.out.cell (World.block_lt_of_cell? w _ hw108_1)).trans hw108_1)⟩ (fun hHeld => ?_)
              clear hK K
              refine nm 48 ?_
              refine pu 7 49 ?_
              refine pu 8 50 ?_
              refine pu 9 51 ?_
              refine pu 11 53 ?_
              refine tk 10 52 ?_
              refine pu 12 54 ?_
              refine pu 13 55 ?_
              refine tk 14 56 ?_
              refine on 15 (some 57) fun K hK => ?_
              refine goes_ Tryz.func95 (by kernel_rfl) rfl #[.string ((rd_T66 l0_2 x4_3).f1)] (by rfl) rfl rfl zl ?_
              with_reducible refine (weirgateref06_Word.calls k3 ((rd_T66 l0_2 x4_3).f1) true _ A14.out).mono ?_
              rintro e w' ⟨rfl, ⟨nd, rfl⟩⟩
              refine ⟨_, rfl, ?_⟩
              refine hK.out _ _ ⟨(blk_cell BK101.out 0).trans rfl, (blk_cell BK101.out 1).trans rfl, (blk_cell BK101.out 2).trans rfl, ((HB.out.cell (World.block_lt_of_cell? w _ hw106_0)).trans hw106_0), ((HB.out.cell (World.block_lt_of_cell? w _ hw106_1)).trans hw106_1), ((HB.out.cell (World.block_lt_of_cell? w _ hw108_0)).trans hw108_0), ((HB.out.cell (World.block_lt_of_cell? w _ hw108_1)).trans hw108_1)⟩ (fun hHeld => ?_)
              clear hK K
              refine nm 57 ?_
              refine pu 16 58 ?_
              refine pu 17 59 ?_
              refine pu 18 60 ?_
              refine pu 19 61 ?_
              refine pu 20 62 ?_
              refine pu 21 63 ?_
              refine pn 22 64 ?_
              refine pn 23 65 ?_
              refine pn 24 66 ?_
              refine pn 25 67 ?_
              refine pn 26 68 ?_
              refine pn 27 69 ?_
              refine pn 28 70 ?_
              refine pn 29 71 ?_
              refine pn 30 72 ?_
              refine pn 31 73 ?_
              refine pn 32 74 ?_
              refine pn 33 75 ?_
              refine pn 34 76 ?_
              refine pn 35 77 ?_
              refine pu 36 78 ?_
              refine pu 37 79 ?_
              refine dn ?_
              try go_wp2
              go_roundg k3
              case measure => have := HJ1.out; have := HK2.out; have := HK3.out; omega
              case rel => exact ⟨(wrap64 (x4_3 + 1)), zS, H', ⟨by have := HJ1.out; have := HK2.out; have := HK3.out; omega⟩, ⟨kb BK101⟩, ⟨zB⟩⟩
            ·replace c15 := Bool.eq_false_iff.mpr c15
             subst c15
             rw [if_neg Bool.false_ne_true] at H
             obtain rfl := Option.some.inj H
             obtain ⟨hcz16_0, hcz16_1, hcz16_2, hfz16_0, hfz16_1, hfz16_2⟩ := cf3 BK101
             try go_wp2
             replace BK101 := Aside0.mk (blk_drew BK101.out)
             replace HB := Aside0.mk (below_drew1 HB.out)
             have p106 : 0 ≤ (x4_3 : Int) := of_decide_eq_true za
             have q106 : x4_3 < (l0_2.length : Int) := of_decide_eq_true za
             obtain ⟨ad106, e106, hx106_0, hx106_1⟩ := at_T66 HR0_2.out x4_3 p106 q106
             have hw106_1 := hx106_1
             have hw106_0 := hx106_0
             cases e106
             replace hx106_0 := (HB.out.cell (World.block_lt_of_cell? w _ hx106_0)).trans hx106_0
             replace hx106_1 := (HB.out.cell (World.block_lt_of_cell? w _ hx106_1)).trans hx106_1
             replace p106 := eq_true p106
             replace q106 := eq_true q106
             have p108 : 0 ≤ (x4_3 : Int) := of_decide_eq_true za
             have q108 : x4_3 < (l0_2.length : Int) := of_decide_eq_true za
             obtain ⟨ad108, e108, hx108_0, hx108_1⟩ := at_T66 HR0_2.out x4_3 p108 q108
             have hw108_1 := hx108_1
             have hw108_0 := hx108_0
             obtain rfl : ad106 = ad108 := (by injection e108)
             replace hx108_0 := (HB.out.cell (World.block_lt_of_cell? w _ hx108_0)).trans hx108_0
             replace hx108_1 := (HB.out.cell (World.block_lt_of_cell? w _ hx108_1)).trans hx108_1
             replace p108 := eq_true p108
             replace q108 := eq_true q108
             refine start_ (n := 38) (S := fun w' => w'.cell? ⟨gb101, 0, none⟩ = some (.string a0_0) ∧ w'.cell? ⟨gb101, 1, none⟩ = some (.slice A0_1 l0_1.length c0_1) ∧ w'.cell? ⟨gb101, 2, none⟩ = some (.slice (some ad106) l0_2.length c0_2) ∧ w'.cell? (ad106.add ((x4_3).toNat * 2)) = some (.string ((rd_T66 l0_2 x4_3).f0)) ∧ w'.cell? ⟨(ad106.add ((x4_3).toNat * 2)).block, (ad106.add ((x4_3).toNat * 2)).off + 1, none⟩ = some (.string ((rd_T66 l0_2 x4_3).f1)) ∧ w'.cell? (ad106.add ((x4_3).toNat * 2)) = some (.string ((rd_T66 l0_2 x4_3).f0)) ∧ w'.cell? ⟨(ad106.add ((x4_3).toNat * 2)).block, (ad106.add ((x4_3).toNat * 2)).off + 1, none⟩ = some (.string ((rd_T66 l0_2 x4_3).f1))) (ds := []) #[false, false, false, false, false, false, false, false, false, false, false, false, false, false, false, false, false, false, false, false, false, false, false, false, false, false, false, false, false, false, false, false, false, false, false, false, false, false] (by kernel_rfl) rfl rfl ⟨(blk_cell BK101.out 0).trans rfl, (blk_cell BK101.out 1).trans rfl, (blk_cell BK101.out 2).trans rfl, ((HB.out.cell (World.block_lt_of_cell? w _ hw106_0)).trans hw106_0), ((HB.out.cell (World.block_lt_of_cell? w _ hw106_1)).trans hw106_1), ((HB.out.cell (World.block_lt_of_cell? w _ hw108_0)).trans hw108_0), ((HB.out.cell (World.block_lt_of_cell? w _ hw108_1)).trans hw108_1)⟩ (fun hHeld => ?_); refine with_tabW weirgateref06_Formed.tab11 weirgateref06_Formed.bits11 (fun HT_ HW_ => ?_)
             generalize wr.drew = w17 at BK101 HB hx106_0 hx106_1 hx108_0 hx108_1 hHeld ⊢
             refine pu 0 42 ?_
             refine pu 2 44 ?_
             refine tk 1 43 ?_
             refine pu 3 45 ?_
             refine pu 4 46 ?_
             refine tk 5 47 ?_
             refine on 6 (some 48) fun K hK => ?_
             refine goes_ Tryz.func53 (by kernel_rfl) rfl #[.string ((rd_T66 l0_2 x4_3).f0)] (by rfl) rfl rfl zl ?_
             with_reducible refine (weirgateref06_Name.calls k3 ((rd_T66 l0_2 x4_3).f0) true _ A12.out).mono ?_
             rintro e w' ⟨rfl, ⟨nd, rfl⟩⟩
             refine ⟨_, rfl, ?_⟩
             refine hK.out _ _ ⟨(blk_cell BK101.out 0).trans rfl, (blk_cell BK101.out 1).trans rfl, (blk_cell BK101.out 2).trans rfl, ((HB.out.cell (World.block_lt_of_cell? w _ hw106_0)).trans hw106_0), ((HB.out.cell (World.block_lt_of_cell? w _ hw106_1)).trans hw106_1), ((HB.out.cell (World.block_lt_of_cell? w _ hw108_0)).trans hw108_0), ((HB.out.cell (World.block_lt_of_cell? w _ hw108_1)).trans hw108_1)⟩ (fun hHeld => ?_)
             clear hK K
             refine nm 48 ?_
             refine pu 7 49 ?_
             refine pu 8 50 ?_
             refine pu 9 51 ?_
             refine pu 11 53 ?_
             refine tk 10 52 ?_
             refine pu 12 54 ?_
             refine pu 13 55 ?_
             refine tk 14 56 ?_
             refine on 15 (some 57) fun K hK => ?_
             refine goes_ Tryz.func95 (by kernel_rfl) rfl #[.string ((rd_T66 l0_2 x4_3).f1)] (by rfl) rfl rfl zl ?_
             with_reducible refine (weirgateref06_Word.calls k3 ((rd_T66 l0_2 x4_3).f1) false _ A14.out).mono ?_
             rintro e w' ⟨rfl, ⟨nd, rfl⟩⟩
             refine ⟨_, rfl, ?_⟩
             refine hK.out _ _ ⟨(blk_cell BK101.out 0).trans rfl, (blk_cell BK101.out 1).trans rfl, (blk_cell BK101.out 2).trans rfl, ((HB.out.cell (World.block_lt_of_cell? w _ hw106_0)).trans hw106_0), ((HB.out.cell (World.block_lt_of_cell? w _ hw106_1)).trans hw106_1), ((HB.out.cell (World.block_lt_of_cell? w _ hw108_0)).trans hw108_0), ((HB.out.cell (World.block_lt_of_cell? w _ hw108_1)).trans hw108_1)⟩ (fun hHeld => ?_)
             clear hK K
             refine nm 57 ?_
             refine pu 16 58 ?_
             refine pu 17 59 ?_
             refine pu 18 60 ?_
             refine pn 19 61 ?_
             refine pn 20 62 ?_
             refine pn 21 63 ?_
             refine pn 22 64 ?_
             refine pn 23 65 ?_
             refine pn 24 66 ?_
             refine pn 25 67 ?_
             refine pn 26 68 ?_
             refine pn 27 69 ?_
             refine pn 28 70 ?_
             refine pn 29 71 ?_
             refine pn 30 72 ?_
             refine pn 31 73 ?_
             refine pn 32 74 ?_
             refine pn 33 75 ?_
             refine pn 34 76 ?_
             refine pn 35 77 ?_
             refine pn 36 78 ?_
             refine pu 37 79 ?_
             refine dn ?_
             try go_wp2
             go_ret
             exact ⟨zE, zB⟩
           ·replace c13 := Bool.eq_false_iff.mpr c13
            subst c13
            rw [if_neg Bool.false_ne_true] at H
            obtain rfl := Option.some.inj H
            obtain ⟨hcz14_0, hcz14_1, hcz14_2, hfz14_0, hfz14_1, hfz14_2⟩ := cf3 BK101
            try go_wp2
            replace BK101 := Aside0.mk (blk_drew BK101.out)
            replace HB := Aside0.mk (below_drew1 HB.out)
            have p106 : 0 ≤ (x4_3 : Int) := of_decide_eq_true za
            have q106 : x4_3 < (l0_2.length : Int) := of_decide_eq_true za
            obtain ⟨ad106, e106, hx106_0, hx106_1⟩ := at_T66 HR0_2.out x4_3 p106 q106
            have hw106_1 := hx106_1
            have hw106_0 := hx106_0
            cases e106
            replace hx106_0 := (HB.out.cell (World.block_lt_of_cell? w _ hx106_0)).trans hx106_0
            replace hx106_1 := (HB.out.cell (World.block_lt_of_cell? w _ hx106_1)).trans hx106_1
            replace p106 := eq_true p106
            replace q106 := eq_true q106
            refine start_ (n := 38) (S := fun w' => w'.cell? ⟨gb101, 0, none⟩ = some (.string a0_0) ∧ w'.cell? ⟨gb101, 1, none⟩ = some (.slice A0_1 l0_1.length c0_1) ∧ w'.cell? ⟨gb101, 2, none⟩ = some (.slice (some ad106) l0_2.length c0_2) ∧ w'.cell? (ad106.add ((x4_3).toNat * 2)) = some (.string ((rd_T66 l0_2 x4_3).f0)) ∧ w'.cell? ⟨(ad106.add ((x4_3).toNat * 2)).block, (ad106.add ((x4_3).toNat * 2)).off + 1, none⟩ = some (.string ((rd_T66 l0_2 x4_3).f1))) (ds := []) #[false, false, false, false, false, false, false, false, false, false, false, false, false, false, false, false, false, false, false, false, false, false, false, false, false, false, false, false, false, false, false, false, false, false, false, false, false, false] (by kernel_rfl) rfl rfl ⟨(blk_cell BK101.out 0).trans rfl, (blk_cell BK101.out 1).trans rfl, (blk_cell BK101.out 2).trans rfl, ((HB.out.cell (World.block_lt_of_cell? w _ hw106_0)).trans hw106_0), ((HB.out.cell (World.block_lt_of_cell? w _ hw106_1)).trans hw106_1)⟩ (fun hHeld => ?_); refine with_tabW weirgateref06_Formed.tab11 weirgateref06_Formed.bits11 (fun HT_ HW_ => ?_)
            generalize wr.drew = w15 at BK101 HB hx106_0 hx106_1 hHeld ⊢
            refine pu 0 42 ?_
            refine pu 2 44 ?_
            refine tk 1 43 ?_
            refine pu 3 45 ?_
            refine pu 4 46 ?_
            refine tk 5 47 ?_
            refine on 6 (some 48) fun K hK => ?_
            refine goes_ Tryz.func53 (by kernel_rfl) rfl #[.string ((rd_T66 l0_2 x4_3).f0)] (by rfl) rfl rfl zl ?_
            with_reducible refine (weirgateref06_Name.calls k3 ((rd_T66 l0_2 x4_3).f0) false _ A12.out).mono ?_
            rintro e w' ⟨rfl, ⟨nd, rfl⟩⟩
            refine ⟨_, rfl, ?_⟩
            refine hK.out _ _ ⟨(blk_cell BK101.out 0).trans rfl, (blk_cell BK101.out 1).trans rfl, (blk_cell BK101.out 2).trans rfl, ((HB.out.cell (World.block_lt_of_cell? w _ hw106_0)).trans hw106_0), ((HB.out.cell (World.block_lt_of_cell? w _ hw106_1)).trans hw106_1)⟩ (fun hHeld => ?_)
            clear hK K
            refine nm 48 ?_
            refine pu 7 49 ?_
            refine pu 8 50 ?_
            refine pn 9 51 ?_
            refine pn 10 52 ?_
            refine pn 11 53 ?_
            refine pn 12 54 ?_
            refine pn 13 55 ?_
            refine pn 14 56 ?_
            refine pn 15 57 ?_
            refine pn 16 58 ?_
            refine pu 17 59 ?_
            refine pu 18 60 ?_
            refine pn 19 61 ?_
            refine pn 20 62 ?_
            refine pn 21 63 ?_
            refine pn 22 64 ?_
            refine pn 23 65 ?_
            refine pn 24 66 ?_
            refine pn 25 67 ?_
            refine pn 26 68 ?_
            refine pn 27 69 ?_
            refine pn 28 70 ?_
            refine pn 29 71 ?_
            refine pn 30 72 ?_
            refine pn 31 73 ?_
            refine pn 32 74 ?_
            refine pn 33 75 ?_
            refine pn 34 76 ?_
            refine pn 35 77 ?_
            refine pn 36 78 ?_
            refine pu 37 79 ?_
            refine dn ?_
            try go_wp2
            go_ret
            exact ⟨zE, zB⟩
          ·rw [if_neg c11] at H
           exact absurd H (by simp)
         ·rw [if_neg c10] at H
          have c10b0 : decide (x4_3 < (l0_2.length : Int)) = false := decide_eq_false c10
          clear c10
          obtain ⟨t105, A11, H⟩ := bd H
          obtain rfl := Option.some.inj H
          obtain ⟨hcz12_0, hcz12_1, hcz12_2, hfz12_0, hfz12_1, hfz12_2⟩ := cf3 BK101
          go_wp2_with (first | ((with_reducible refine gate_callee (f := 57) rfl ?_); refine goesL_ (some 81) rfl rfl Tryz.func57 (by kernel_rfl) rfl #[.agg #[.string a0_0, .slice A0_1 l0_1.length c0_1, .slice A0_2 l0_2.length c0_2]] rfl zl ?_; (with_reducible refine (weirgateref06_text.calls k3 a0_0 _ _ l0_1 _ _ l0_2 t105 _ ?side1 ?side2 ?side3 ?side4 A11.out).mono ?_); (case side1 => repeat (first | exact (Kd.C_below HR0_1.out HB.out) | (with_reducible refine Kd.C_alloc ?_ _) | (with_reducible refine Kd.C_drewN ?_ _) | (with_reducible refine Kd.C_drew ?_))); (case side2 => exact HC0_1.out); (case side3 => repeat (first | exact (Kd.C_below HR0_2.out HB.out) | (with_reducible refine Kd.C_alloc ?_ _) | (with_reducible refine Kd.C_drewN ?_ _) | (with_reducible refine Kd.C_drew ?_))); (case side4 => exact HC0_2.out); rintro e w13 ⟨rfl, hb⟩; refine ⟨_, rfl, ?_⟩; replace BK101 := bb BK101 hb; replace HB := sb w hb; clear hb))
          go_ret
          exact ⟨zE, zB⟩
end Go.Proofs.YtmokgpepeddopaaGreatDoor.P
end
section
namespace Go.Proofs.YtmokgpepeddopaaGreatDoor.P
open Go.RowKit Go.Proofs.YtmokgpepeddopaaGreatDoorW.PrintWords Go.Proofs.YtmokgpepeddopaaGreatDoorW.PrintLast Go.Proofs.YtmokgpepeddopaaGreatDoorW.PrintMore
attribute [local go_sem] max2_int min2_int max_two min_two max_three min_three max_four min_four
attribute [local go_sem high] binOp_string_leq2 binOp_string_gtr2
set_option linter.unusedVariables false
set_option linter.unusedSimpArgs false
def weirgateref06_Text.f (k : Nat) (a0_0 : ByteArray) (l0_1 : List ByteArray) (l0_2 : List (S66)) : Option (ByteArray × Int) := (weirgateref06_Formed.f k a0_0 l0_1 l0_2).bind fun t103 => (if t103 = true then ((weirgateref06_text.f k a0_0 l0_1 l0_2).bind fun t104 => (some (t104, 0))) else (some ((⟨#[]⟩ : ByteArray), 1)))
set_option maxHeartbeats 8000000 in
set_option maxRecDepth 100000 in
theorem weirgateref06_Text.calls (k : Nat) (a0_0 : ByteArray) (A0_1 : Option Addr) (c0_1 : Nat) (l0_1 : List ByteArray) (A0_2 : Option Addr) (c0_2 : Nat) (l0_2 : List (S66)) (r1 : ByteArray) (r2 : Int) (w : World) (hr0_1 : Kd.C Kd.string w A0_1 l0_1.length l0_1) (hc0_1 : l0_1.length ≤ c0_1) (hr0_2 : Kd.C k66 w A0_2 l0_2.length l0_2) (hc0_2 : l0_2.length ≤ c0_2) (h : weirgateref06_Text.f k a0_0 l0_1 l0_2 = some (r1, r2)) :
  Calls Tryz.prog 17 #[.agg #[.string a0_0, .slice A0_1 l0_1.length c0_1, .slice A0_2 l0_2.length c0_2]] w fun e w' => e = .returned (.agg #[.string r1, .int .i64 r2]) ∧ Below w.heap.size w w' := by
 have hu25 := Tryz.underlying25
 have hu38 := Tryz.underlying38
 have HR0_1 := Aside0.mk hr0_1
 have HC0_1 := Aside0.mk hc0_1
 clear hr0_1 hc0_1
 have HR0_2 := Aside0.mk hr0_2
 have HC0_2 := Aside0.mk hc0_2
 clear hr0_2 hc0_2
 have HB := Aside0.mk (Below.refl w.heap.size w)
 have H : ((weirgateref06_Formed.f k a0_0 l0_1 l0_2).bind fun t103 => (if t103 = true then ((weirgateref06_text.f k a0_0 l0_1 l0_2).bind fun t104 => (some (t104, 0))) else (some ((⟨#[]⟩ : ByteArray), 1)))) = some (r1, r2) := h
 clear h
 obtain ⟨t103, A2, H⟩ := bd H
 by_cases c3 : t103 = true
 ·subst c3
  rw [if_pos rfl] at H
  obtain ⟨t104, A4, H⟩ := bd H
  simp only [Option.some.injEq, Prod.mk.injEq] at H
  obtain ⟨rfl, rfl⟩ := H
  go_enter Tryz.func17, Tryz.ntmps17
  go_wp2_with (first | ((with_reducible refine gate_dst (N := 1) rfl ?_); refine bx 1 #[.string a0_0, .slice A0_1 l0_1.length c0_1, .slice A0_2 l0_2.length c0_2] 25 fun gb101 hg w5 hbox hb => ?_; have BK101 := Aside0.mk (hbox); have GW101 := gw w hg; have GE101 := gw w hg; replace HB := sb w hb; clear hb hbox hg) | ((with_reducible refine gate_dst (N := 2) rfl ?_); refine bx 2 #[.string (⟨#[]⟩ : ByteArray), .int .i64 0] 38 fun gb102 hg w6 hbox hb => ?_; have BK102 := Aside0.mk (hbox); have GW102 := gw w hg; have GE102 := gw w hg; replace HB := sb w hb; have NB101_102 := nl hg BK101; have NB102_101 := ng hg BK101; replace BK101 := bb BK101 hb; clear hb hbox hg; have hnb7 := NB101_102.out; have hnc7 := NB102_101.out; obtain ⟨hcz8_0, hcz8_1, hcz8_2, hfz8_0, hfz8_1, hfz8_2⟩ := cf3 BK101) | ((with_reducible refine gate_callee (f := 56) rfl ?_); refine goesL_ (some 5) rfl rfl Tryz.func56 (by kernel_rfl) rfl #[.agg #[.string a0_0, .slice A0_1 l0_1.length c0_1, .slice A0_2 l0_2.length c0_2]] rfl zl ?_; (with_reducible refine (weirgateref06_Formed.calls k a0_0 _ _ l0_1 _ _ l0_2 true _ ?side1 ?side2 ?side3 ?side4 A2.out).mono ?_); (case side1 => repeat (first | exact (Kd.C_below HR0_1.out HB.out) | (with_reducible refine Kd.C_alloc ?_ _) | (with_reducible refine Kd.C_drewN ?_ _) | (with_reducible refine Kd.C_drew ?_))); (case side2 => exact HC0_1.out); (case side3 => repeat (first | exact (Kd.C_below HR0_2.out HB.out) | (with_reducible refine Kd.C_alloc ?_ _) | (with_reducible refine Kd.C_drewN ?_ _) | (with_reducible refine Kd.C_drew ?_))); (case side4 => exact HC0_2.out); rintro e w9 ⟨rfl, hb⟩; refine ⟨_, rfl, ?_⟩; replace BK101 := bb BK101 hb; replace BK102 := bb BK102 hb; replace HB := sb w hb; clear hb; obtain ⟨hcz10_0, hcz10_1, hcz10_2, hfz10_0, hfz10_1, hfz10_2⟩ := cf3 BK101) | ((with_reducible refine gate_callee (f := 57) rfl ?_); refine goesL_ (some 10) rfl rfl Tryz.func57 (by kernel_rfl) rfl #[.agg #[.string a0_0, .slice A0_1 l0_1.length c0_1, .slice A0_2 l0_2.length c0_2]] rfl zl ?_; (with_reducible refine (weirgateref06_text.calls k a0_0 _ _ l0_1 _ _ l0_2 t104 _ ?side1 ?side2 ?side3 ?side4 A4.out).mono ?_); (case side1 => repeat (first | exact (Kd.C_below HR0_1.out HB.out) | (with_reducible refine Kd.C_alloc ?_ _) | (with_reducible refine Kd.C_drewN ?_ _) | (with_reducible refine Kd.C_drew ?_))); (case side2 => exact HC0_1.out); (case side3 => repeat (first | exact (Kd.C_below HR0_2.out HB.out) | (with_reducible refine Kd.C_alloc ?_ _) | (with_reducible refine Kd.C_drewN ?_ _) | (with_reducible refine Kd.C_drew ?_))); (case side4 => exact HC0_2.out); rintro e w11 ⟨rfl, hb⟩; refine ⟨_, rfl, ?_⟩; replace BK101 := bb BK101 hb; replace BK102 := bb BK102 hb; replace HB := sb w hb; clear hb; obtain ⟨hcz12_0, hcz12_1, hfz12_0, hfz12_1⟩ := cf2 BK102))
  refine bodyPost_ret (results_cell_row rfl _ _ gb102 38 #[.string t104, .int .i64 0] (0, 0) _ rfl (kp _ BK102) Tryz.underlying38 rfl (by kernel_rfl)) rfl ?_
  exact ⟨zE, zB⟩
 ·replace c3 := Bool.eq_false_iff.mpr c3
  subst c3
  rw [if_neg Bool.false_ne_true] at H
  simp only [Option.some.injEq, Prod.mk.injEq] at H
  obtain ⟨rfl, rfl⟩ := H
  go_enter Tryz.func17, Tryz.ntmps17
  go_wp2_with (first | ((with_reducible refine gate_dst (N := 1) rfl ?_); refine bx 1 #[.string a0_0, .slice A0_1 l0_1.length c0_1, .slice A0_2 l0_2.length c0_2] 25 fun gb101 hg w4 hbox hb => ?_; have BK101 := Aside0.mk (hbox); have GW101 := gw w hg; have GE101 := gw w hg; replace HB := sb w hb; clear hb hbox hg) | ((with_reducible refine gate_dst (N := 2) rfl ?_); refine bx 2 #[.string (⟨#[]⟩ : ByteArray), .int .i64 0] 38 fun gb102 hg w5 hbox hb => ?_; have BK102 := Aside0.mk (hbox); have GW102 := gw w hg; have GE102 := gw w hg; replace HB := sb w hb; have NB101_102 := nl hg BK101; have NB102_101 := ng hg BK101; replace BK101 := bb BK101 hb; clear hb hbox hg; have hnb6 := NB101_102.out; have hnc6 := NB102_101.out; obtain ⟨hcz7_0, hcz7_1, hcz7_2, hfz7_0, hfz7_1, hfz7_2⟩ := cf3 BK101) | ((with_reducible refine gate_callee (f := 56) rfl ?_); refine goesL_ (some 5) rfl rfl Tryz.func56 (by kernel_rfl) rfl #[.agg #[.string a0_0, .slice A0_1 l0_1.length c0_1, .slice A0_2 l0_2.length c0_2]] rfl zl ?_; (with_reducible refine (weirgateref06_Formed.calls k a0_0 _ _ l0_1 _ _ l0_2 false _ ?side1 ?side2 ?side3 ?side4 A2.out).mono ?_); (case side1 => repeat (first | exact (Kd.C_below HR0_1.out HB.out) | (with_reducible refine Kd.C_alloc ?_ _) | (with_reducible refine Kd.C_drewN ?_ _) | (with_reducible refine Kd.C_drew ?_))); (case side2 => exact HC0_1.out); (case side3 => repeat (first | exact (Kd.C_below HR0_2.out HB.out) | (with_reducible refine Kd.C_alloc ?_ _) | (with_reducible refine Kd.C_drewN ?_ _) | (with_reducible refine Kd.C_drew ?_))); (case side4 => exact HC0_2.out); rintro e w8 ⟨rfl, hb⟩; refine ⟨_, rfl, ?_⟩; replace BK101 := bb BK101 hb; replace BK102 := bb BK102 hb; replace HB := sb w hb; clear hb; obtain ⟨hcz9_0, hcz9_1, hfz9_0, hfz9_1⟩ := cf2 BK102))
  refine bodyPost_ret (results_cell_row rfl _ _ gb102 38 #[.string (⟨#[]⟩ : ByteArray), .int .i64 1] (0, 0) _ rfl (kp _ BK102) Tryz.underlying38 rfl (by kernel_rfl)) rfl ?_
  exact ⟨zE, zB⟩
def strings_HasSuffix.f (a0 : ByteArray) (a1 : ByteArray) : Option (Bool) := (stringslite_HasSuffix.f a0 a1).bind fun t101 => (some t101)
set_option maxHeartbeats 8000000 in
set_option maxRecDepth 100000 in
theorem strings_HasSuffix.calls (a0 : ByteArray) (a1 : ByteArray) (r : Bool) (w : World) (h : strings_HasSuffix.f a0 a1 = some r) :
  Calls Tryz.prog 106 #[.string a0, .string a1] w fun e w' => e = .returned (.bool r) ∧ Drawn0 w w' := by
 have H : ((stringslite_HasSuffix.f a0 a1).bind fun t101 => (some t101)) = some r := h
 clear h
 obtain ⟨t101, A3, H⟩ := bd H
 obtain rfl := Option.some.inj H
 go_enter Tryz.func106, Tryz.ntmps106
 go_wp2_with (first | ((with_reducible refine gate_callee (f := 113) rfl ?_); refine goesL_ (some 7) rfl rfl Tryz.func113 (by kernel_rfl) rfl #[.string a0, .string a1] rfl zl ?_; (with_reducible refine (stringslite_HasSuffix.calls a0 a1 t101 _ A3.out).mono ?_); rintro e w' ⟨rfl, ⟨nd, rfl⟩⟩; refine ⟨_, rfl, ?_⟩))
 go_ret
 exact ⟨zS, zd⟩
def address_part_has.f (a0_0 : Int) (a0_1 : ByteArray) (a1 : ByteArray) : Option (Bool) := if a0_0 = 0 then (some (a0_1.toList == a1.toList)) else (if a0_0 = 1 then (if (a1.size : Int) > (a0_1.size : Int) then ((strings_HasSuffix.f a1 a0_1).bind fun t102 => (some t102)) else (some false)) else (some true))
set_option maxHeartbeats 8000000 in
set_option maxRecDepth 100000 in
theorem address_part_has.calls (a0_0 : Int) (a0_1 : ByteArray) (a1 : ByteArray) (r : Bool) (w : World) (h : address_part_has.f a0_0 a0_1 a1 = some r) :
  Calls Tryz.prog 75 #[.agg #[.int .i64 a0_0, .string a0_1], .string a1] w fun e w' => e = .returned (.bool r) ∧ Below w.heap.size w w' := by
 have hu97 := Tryz.underlying97
 have HB := Aside0.mk (Below.refl w.heap.size w)
 have H : (if a0_0 = 0 then (some (a0_1.toList == a1.toList)) else (if a0_0 = 1 then (if (a1.size : Int) > (a0_1.size : Int) then ((strings_HasSuffix.f a1 a0_1).bind fun t102 => (some t102)) else (some false)) else (some true))) = some r := h
 clear h
 by_cases c3 : a0_0 = 0
 ·rw [if_pos c3] at H
  have c3b0 : (a0_0 == 0) = true := beq_iff_eq.mpr c3
  have c3b1 : (a0_0 != 0) = false := bne_eq_false_iff_eq.mpr c3
  clear c3
  obtain rfl := Option.some.inj H
  go_enter Tryz.func75, Tryz.ntmps75
  go_wp2_with (first | ((with_reducible refine gate_dst (N := 2) rfl ?_); refine bx 2 #[.int .i64 a0_0, .string a0_1] 97 fun gb101 hg w4 hbox hb => ?_; have BK101 := Aside0.mk (hbox); have GW101 := gw w hg; have GE101 := gw w hg; replace HB := sb w hb; clear hb hbox hg; obtain ⟨hcz5_0, hcz5_1, hfz5_0, hfz5_1⟩ := cf2 BK101))
  go_ret
  exact ⟨zE, zB⟩
 ·rw [if_neg c3] at H
  have c3b0 : (a0_0 == 0) = false := beq_eq_false_iff_ne.mpr c3
  have c3b1 : (a0_0 != 0) = true := bne_iff_ne.mpr c3
  by_cases c4 : a0_0 = 1
  ·rw [if_pos c4] at H
   have c4b0 : (a0_0 == 1) = true := beq_iff_eq.mpr c4
   have c4b1 : (a0_0 != 1) = false := bne_eq_false_iff_eq.mpr c4
   clear c4
   by_cases c5 : (a1.size : Int) > (a0_1.size : Int)
   ·rw [if_pos c5] at H
    have c5b0 : decide ((a0_1.size : Int) < (a1.size : Int)) = true := decide_eq_true c5
    have c5b1 : decide (a0_1.size < a1.size) = true := decide_eq_true (Int.ofNat_lt.mp c5)
    have c5q1 : a0_1.size < a1.size := of_decide_eq_true c5b1
    clear c5
    obtain ⟨t102, A6, H⟩ := bd H
    obtain rfl := Option.some.inj H
    go_enter Tryz.func75, Tryz.ntmps75
    go_wp2_with (first | ((with_reducible refine gate_dst (N := 2) rfl ?_); refine bx 2 #[.int .i64 a0_0, .string a0_1] 97 fun gb101 hg w7 hbox hb => ?_; have BK101 := Aside0.mk (hbox); have GW101 := gw w hg; have GE101 := gw w hg; replace HB := sb w hb; clear hb hbox hg; obtain ⟨hcz8_0, hcz8_1, hfz8_0, hfz8_1⟩ := cf2 BK101) | (go_at_call 106; (with_reducible refine (strings_HasSuffix.calls a1 a0_1 t102 _ A6.out).mono ?_); rintro e w' ⟨rfl, ⟨nd, rfl⟩⟩))
    go_ret
    exact ⟨zE, zB⟩
   ·rw [if_neg c5] at H
    have c5b0 : decide ((a0_1.size : Int) < (a1.size : Int)) = false := decide_eq_false c5
    have c5b1 : decide (a0_1.size < a1.size) = false := decide_eq_false (fun h => c5 (Int.ofNat_lt.mpr h))
    have c5q1 : ¬ (a0_1.size < a1.size) := of_decide_eq_false c5b1
    clear c5
    obtain rfl := Option.some.inj H
    go_enter Tryz.func75, Tryz.ntmps75
    go_wp2_with (first | ((with_reducible refine gate_dst (N := 2) rfl ?_); refine bx 2 #[.int .i64 a0_0, .string a0_1] 97 fun gb101 hg w6 hbox hb => ?_; have BK101 := Aside0.mk (hbox); have GW101 := gw w hg; have GE101 := gw w hg; replace HB := sb w hb; clear hb hbox hg; obtain ⟨hcz7_0, hcz7_1, hfz7_0, hfz7_1⟩ := cf2 BK101))
    go_ret
    exact ⟨zE, zB⟩
  ·rw [if_neg c4] at H
   have c4b0 : (a0_0 == 1) = false := beq_eq_false_iff_ne.mpr c4
   have c4b1 : (a0_0 != 1) = true := bne_iff_ne.mpr c4
   obtain rfl := Option.some.inj H
   go_enter Tryz.func75, Tryz.ntmps75
   go_wp2_with (first | ((with_reducible refine gate_dst (N := 2) rfl ?_); refine bx 2 #[.int .i64 a0_0, .string a0_1] 97 fun gb101 hg w5 hbox hb => ?_; have BK101 := Aside0.mk (hbox); have GW101 := gw w hg; have GE101 := gw w hg; replace HB := sb w hb; clear hb hbox hg; obtain ⟨hcz6_0, hcz6_1, hfz6_0, hfz6_1⟩ := cf2 BK101))
   go_ret
   exact ⟨zE, zB⟩
def address_part_covers.f (a0_0 : Int) (a0_1 : ByteArray) (a1_0 : Int) (a1_1 : ByteArray) : Option (Bool) := if a1_0 = 0 then ((address_part_has.f a0_0 a0_1 a1_1).bind fun t103 => (some t103)) else (if a1_0 = 1 then (if a0_0 = 2 then (some true) else (if a0_0 = 1 then ((strings_HasSuffix.f a1_1 a0_1).bind fun t104 => (some t104)) else (some false))) else (some (a0_0 == 2)))
set_option maxRecDepth 100000 in
theorem address_part_covers.lf {p : Prop} (h : p := by
 go_wp2_with (first
 | ((with_reducible refine gate_dst (N := 2) rfl ?_); refine bx 2 #[.int .i64 a0_0, .string a0_1] 97 fun gb101 hg wz0 hbox hb => ?_; have BK101 := Aside0.mk (hbox); have GW101 := gw w hg; have GE101 := gw w hg; replace HB := sb w hb; clear hb hbox hg)
 | ((with_reducible refine gate_dst (N := 3) rfl ?_); refine bx 3 #[.int .i64 a1_0, .string a1_1] 97 fun gb102 hg wz1 hbox hb => ?_; have BK102 := Aside0.mk (hbox); have GW102 := gw w hg; have GE102 := gw w hg; replace HB := sb w hb; have NB101_102 := nl hg BK101; have NB102_101 := ng hg BK101; replace BK101 := bb BK101 hb; clear hb hbox hg; have hnbz2 := NB102_101.out; have hncz2 := NB101_102.out; obtain ⟨hczz3_0, hczz3_1, hfzz3_0, hfzz3_1⟩ := cf2 BK102; obtain ⟨hczz4_0, hczz4_1, hfzz4_0, hfzz4_1⟩ := cf2 BK101)
 | ((with_reducible refine gate_callee (f := 75) rfl ?_); refine goesL_ (some 12) rfl rfl Tryz.func75 (by kernel_rfl) rfl #[.agg #[.int .i64 a0_0, .string a0_1], .string a1_1] rfl zl ?_; (with_reducible refine (address_part_has.calls _ _ _ _ _ A4.out).mono ?_); rintro e wz5 ⟨rfl, hb⟩; refine ⟨_, rfl, ?_⟩; replace BK101 := bb BK101 hb; replace BK102 := bb BK102 hb; replace HB := sb w hb; clear hb)
 | (go_at_call 106; (with_reducible refine (strings_HasSuffix.calls _ _ _ _ A7.out).mono ?_); rintro e w' ⟨rfl, ⟨nd, rfl⟩⟩))
 go_ret; exact ⟨zE, zB⟩) : p := h
set_option maxHeartbeats 8000000 in
set_option maxRecDepth 100000 in
theorem address_part_covers.calls (a0_0 : Int) (a0_1 : ByteArray) (a1_0 : Int) (a1_1 : ByteArray) (r : Bool) (w : World) (h : address_part_covers.f a0_0 a0_1 a1_0 a1_1 = some r) :
  Calls Tryz.prog 72 #[.agg #[.int .i64 a0_0, .string a0_1], .agg #[.int .i64 a1_0, .string a1_1]] w fun e w' => e = .returned (.bool r) ∧ Below w.heap.size w w' := by
 have hu97 := Tryz.underlying97
 have HB := Aside0.mk (Below.refl w.heap.size w)
 have H : (if a1_0 = 0 then ((address_part_has.f a0_0 a0_1 a1_1).bind fun t103 => (some t103)) else (if a1_0 = 1 then (if a0_0 = 2 then (some true) else (if a0_0 = 1 then ((strings_HasSuffix.f a1_1 a0_1).bind fun t104 => (some t104)) else (some false))) else (some (a0_0 == 2)))) = some r := h
 clear h
 by_cases c3 : a1_0 = 0
 ·rw [if_pos c3] at H
  have c3b0 : (a1_0 == 0) = true := beq_iff_eq.mpr c3
  have c3b1 : (a1_0 != 0) = false := bne_eq_false_iff_eq.mpr c3
  clear c3
  obtain ⟨t103, A4, H⟩ := bd H
  obtain rfl := Option.some.inj H
  go_enter Tryz.func72, Tryz.ntmps72
  exact address_part_covers.lf
 ·rw [if_neg c3] at H
  have c3b0 : (a1_0 == 0) = false := beq_eq_false_iff_ne.mpr c3
  have c3b1 : (a1_0 != 0) = true := bne_iff_ne.mpr c3
  by_cases c4 : a1_0 = 1
  ·rw [if_pos c4] at H
   have c4b0 : (a1_0 == 1) = true := beq_iff_eq.mpr c4
   have c4b1 : (a1_0 != 1) = false := bne_eq_false_iff_eq.mpr c4
   clear c4
   by_cases c5 : a0_0 = 2
   ·rw [if_pos c5] at H
    have c5b0 : (a0_0 == 2) = true := beq_iff_eq.mpr c5
    have c5b1 : (a0_0 != 2) = false := bne_eq_false_iff_eq.mpr c5
    clear c5
    obtain rfl := Option.some.inj H
    go_enter Tryz.func72, Tryz.ntmps72
    exact address_part_covers.lf
   ·rw [if_neg c5] at H
    have c5b0 : (a0_0 == 2) = false := beq_eq_false_iff_ne.mpr c5
    have c5b1 : (a0_0 != 2) = true := bne_iff_ne.mpr c5
    by_cases c6 : a0_0 = 1
    ·rw [if_pos c6] at H
     have c6b0 : (a0_0 == 1) = true := beq_iff_eq.mpr c6
     have c6b1 : (a0_0 != 1) = false := bne_eq_false_iff_eq.mpr c6
     clear c6
     obtain ⟨t104, A7, H⟩ := bd H
     obtain rfl := Option.some.inj H
     go_enter Tryz.func72, Tryz.ntmps72
     exact address_part_covers.lf
    ·rw [if_neg c6] at H
     have c6b0 : (a0_0 == 1) = false := beq_eq_false_iff_ne.mpr c6
     have c6b1 : (a0_0 != 1) = true := bne_iff_ne.mpr c6
     obtain rfl := Option.some.inj H
     go_enter Tryz.func72, Tryz.ntmps72
     exact address_part_covers.lf
  ·rw [if_neg c4] at H
   have c4b0 : (a1_0 == 1) = false := beq_eq_false_iff_ne.mpr c4
   have c4b1 : (a1_0 != 1) = true := bne_iff_ne.mpr c4
   obtain rfl := Option.some.inj H
   go_enter Tryz.func72, Tryz.ntmps72
   exact address_part_covers.lf
def address_part_with.f (a0_0 : Int) (a0_1 : ByteArray) (a1 : ByteArray) : Option (ByteArray) := if a0_0 = 0 then (some a0_1) else (if a0_0 = 1 then (if a1.size + a0_1.size ≤ 9223372036854775807 then (some (a1 ++ a0_1)) else (none)) else (some a1))
set_option maxHeartbeats 8000000 in
set_option maxRecDepth 100000 in
theorem address_part_with.calls (a0_0 : Int) (a0_1 : ByteArray) (a1 : ByteArray) (r : ByteArray) (w : World) (h : address_part_with.f a0_0 a0_1 a1 = some r) :
  Calls Tryz.prog 70 #[.agg #[.int .i64 a0_0, .string a0_1], .string a1] w fun e w' => e = .returned (.string r) ∧ Below w.heap.size w w' := by
 have hu97 := Tryz.underlying97
 have HB := Aside0.mk (Below.refl w.heap.size w)
 have H : (if a0_0 = 0 then (some a0_1) else (if a0_0 = 1 then (if a1.size + a0_1.size ≤ 9223372036854775807 then (some (a1 ++ a0_1)) else (none)) else (some a1))) = some r := h
 clear h
 by_cases c3 : a0_0 = 0
 ·rw [if_pos c3] at H
  have c3b0 : (a0_0 == 0) = true := beq_iff_eq.mpr c3
  have c3b1 : (a0_0 != 0) = false := bne_eq_false_iff_eq.mpr c3
  clear c3
  obtain rfl := Option.some.inj H
  go_enter Tryz.func70, Tryz.ntmps70
  go_wp2_with (first | ((with_reducible refine gate_dst (N := 2) rfl ?_); refine bx 2 #[.int .i64 a0_0, .string a0_1] 97 fun gb101 hg w4 hbox hb => ?_; have BK101 := Aside0.mk (hbox); have GW101 := gw w hg; have GE101 := gw w hg; replace HB := sb w hb; clear hb hbox hg; obtain ⟨hcz5_0, hcz5_1, hfz5_0, hfz5_1⟩ := cf2 BK101))
  go_ret
  exact ⟨zE, zB⟩
 ·rw [if_neg c3] at H
  have c3b0 : (a0_0 == 0) = false := beq_eq_false_iff_ne.mpr c3
  have c3b1 : (a0_0 != 0) = true := bne_iff_ne.mpr c3
  by_cases c4 : a0_0 = 1
  ·rw [if_pos c4] at H
   have c4b0 : (a0_0 == 1) = true := beq_iff_eq.mpr c4
   have c4b1 : (a0_0 != 1) = false := bne_eq_false_iff_eq.mpr c4
   clear c4
   by_cases c5 : a1.size + a0_1.size ≤ 9223372036854775807
   ·rw [if_pos c5] at H
    have c5b0 := eq_true c5
    have c5b1 : decide (a1.size + a0_1.size ≤ 9223372036854775807) = true := decide_eq_true c5
    try have c5b2 : (9223372036854775807 < a1.size + a0_1.size) = False := eq_false (Nat.not_lt.2 c5)
    try (have c5b9 := c5; simp [go_sem, ByteArray.size_append, ByteArray.size_extract] at c5b9)
    obtain rfl := Option.some.inj H
    go_enter Tryz.func70, Tryz.ntmps70
    go_wp2_with (first | ((with_reducible refine gate_dst (N := 2) rfl ?_); refine bx 2 #[.int .i64 a0_0, .string a0_1] 97 fun gb101 hg w6 hbox hb => ?_; have BK101 := Aside0.mk (hbox); have GW101 := gw w hg; have GE101 := gw w hg; replace HB := sb w hb; clear hb hbox hg; obtain ⟨hcz7_0, hcz7_1, hfz7_0, hfz7_1⟩ := cf2 BK101))
    go_ret
    exact ⟨zE, zB⟩
   ·rw [if_neg c5] at H
    exact absurd H (by simp)
  ·rw [if_neg c4] at H
   have c4b0 : (a0_0 == 1) = false := beq_eq_false_iff_ne.mpr c4
   have c4b1 : (a0_0 != 1) = true := bne_iff_ne.mpr c4
   obtain rfl := Option.some.inj H
   go_enter Tryz.func70, Tryz.ntmps70
   go_wp2_with (first | ((with_reducible refine gate_dst (N := 2) rfl ?_); refine bx 2 #[.int .i64 a0_0, .string a0_1] 97 fun gb101 hg w5 hbox hb => ?_; have BK101 := Aside0.mk (hbox); have GW101 := gw w hg; have GE101 := gw w hg; replace HB := sb w hb; clear hb hbox hg; obtain ⟨hcz6_0, hcz6_1, hfz6_0, hfz6_1⟩ := cf2 BK101))
   go_ret
   exact ⟨zE, zB⟩
def address_part_without.f (a0_0 : Int) (a0_1 : ByteArray) (a1_0 : Int) (a1_1 : ByteArray) : Option (ByteArray) := (address_part_with.f a0_0 a0_1 (⟨#[97]⟩ : ByteArray)).bind fun t103 => ((address_part_has.f a1_0 a1_1 t103).bind fun t104 => (if t104 = true then ((address_part_with.f a0_0 a0_1 (⟨#[98]⟩ : ByteArray)).bind fun t105 => (some t105)) else (some t103)))
set_option maxRecDepth 100000 in
theorem address_part_without.lf {p : Prop} (h : p := by
 go_wp2_with (first
 | ((with_reducible refine gate_dst (N := 2) rfl ?_); refine bx 2 #[.int .i64 a0_0, .string a0_1] 97 fun gb101 hg wz0 hbox hb => ?_; have BK101 := Aside0.mk (hbox); have GW101 := gw w hg; have GE101 := gw w hg; replace HB := sb w hb; clear hb hbox hg)
 | ((with_reducible refine gate_dst (N := 3) rfl ?_); refine bx 3 #[.int .i64 a1_0, .string a1_1] 97 fun gb102 hg wz1 hbox hb => ?_; have BK102 := Aside0.mk (hbox); have GW102 := gw w hg; have GE102 := gw w hg; replace HB := sb w hb; have NB101_102 := nl hg BK101; have NB102_101 := ng hg BK101; replace BK101 := bb BK101 hb; clear hb hbox hg; have hnbz2 := NB101_102.out; have hncz2 := NB102_101.out; obtain ⟨hczz3_0, hczz3_1, hfzz3_0, hfzz3_1⟩ := cf2 BK101)
 | ((with_reducible refine gate_callee (f := 70) rfl ?_); refine goesL_ (some 7) rfl rfl Tryz.func70 (by kernel_rfl) rfl #[.agg #[.int .i64 a0_0, .string a0_1], .string (⟨#[97]⟩ : ByteArray)] rfl zl ?_; (with_reducible refine (address_part_with.calls _ _ _ _ _ A3.out).mono ?_); rintro e wz4 ⟨rfl, hb⟩; refine ⟨_, rfl, ?_⟩; replace BK101 := bb BK101 hb; replace BK102 := bb BK102 hb; replace HB := sb w hb; clear hb; obtain ⟨hczz5_0, hczz5_1, hfzz5_0, hfzz5_1⟩ := cf2 BK102)
 | ((with_reducible refine gate_callee (f := 75) rfl ?_); refine goesL_ (some 10) rfl rfl Tryz.func75 (by kernel_rfl) rfl #[.agg #[.int .i64 a1_0, .string a1_1], .string t103] rfl zl ?_; (with_reducible refine (address_part_has.calls _ _ _ _ _ A4.out).mono ?_); rintro e wz6 ⟨rfl, hb⟩; refine ⟨_, rfl, ?_⟩; replace BK101 := bb BK101 hb; replace BK102 := bb BK102 hb; replace HB := sb w hb; clear hb; obtain ⟨hczz7_0, hczz7_1, hfzz7_0, hfzz7_1⟩ := cf2 BK101)
 | ((with_reducible refine gate_callee (f := 70) rfl ?_); refine goesL_ (some 12) rfl rfl Tryz.func70 (by kernel_rfl) rfl #[.agg #[.int .i64 a0_0, .string a0_1], .string (⟨#[98]⟩ : ByteArray)] rfl zl ?_; (with_reducible refine (address_part_with.calls _ _ _ _ _ A6.out).mono ?_); rintro e wz8 ⟨rfl, hb⟩; refine ⟨_, rfl, ?_⟩; replace BK101 := bb BK101 hb; replace BK102 := bb BK102 hb; replace HB := sb w hb; clear hb))
 go_ret; exact ⟨zE, zB⟩) : p := h
set_option maxHeartbeats 8000000 in
set_option maxRecDepth 100000 in
theorem address_part_without.calls (a0_0 : Int) (a0_1 : ByteArray) (a1_0 : Int) (a1_1 : ByteArray) (r : ByteArray) (w : World) (h : address_part_without.f a0_0 a0_1 a1_0 a1_1 = some r) :
  Calls Tryz.prog 74 #[.agg #[.int .i64 a0_0, .string a0_1], .agg #[.int .i64 a1_0, .string a1_1]] w fun e w' => e = .returned (.string r) ∧ Below w.heap.size w w' := by
 have hu97 := Tryz.underlying97
 have HB := Aside0.mk (Below.refl w.heap.size w)
 have H : ((address_part_with.f a0_0 a0_1 (⟨#[97]⟩ : ByteArray)).bind fun t103 => ((address_part_has.f a1_0 a1_1 t103).bind fun t104 => (if t104 = true then ((address_part_with.f a0_0 a0_1 (⟨#[98]⟩ : ByteArray)).bind fun t105 => (some t105)) else (some t103)))) = some r := h
 clear h
 obtain ⟨t103, A3, H⟩ := bd H
 obtain ⟨t104, A4, H⟩ := bd H
 by_cases c5 : t104 = true
 ·subst c5
  rw [if_pos rfl] at H
  obtain ⟨t105, A6, H⟩ := bd H
  obtain rfl := Option.some.inj H
  go_enter Tryz.func74, Tryz.ntmps74
  exact address_part_without.lf
 ·replace c5 := Bool.eq_false_iff.mpr c5
  subst c5
  rw [if_neg Bool.false_ne_true] at H
  obtain rfl := Option.some.inj H
  go_enter Tryz.func74, Tryz.ntmps74
  exact address_part_without.lf
def address_pattern_words.l0 : Nat → List ByteArray → List (S97) → Int → Int → Option (List ByteArray)
 | 0, _, _, _, _ => none
 | k + 1, x3, x7, x8, x9 => if x9 < x8 then (if 0 ≤ x9 then (if x9 < (x7.length : Int) then ((address_part_with.f ((rd_T97 x7 x9).f0) ((rd_T97 x7 x9).f1) (⟨#[97]⟩ : ByteArray)).bind fun t104 => (if x3.length < 8796093022208 then (address_pattern_words.l0 k (x3 ++ [t104]) x7 x8 (wrap64 (x9 + 1))) else (none))) else (none)) else (none)) else (some x3)
def address_pattern_words.f (k : Nat) (a0_0 : Int) (a0_1 : ByteArray) (l0_2 : List (S97)) (a0_3 : Bool) : Option (List ByteArray) := address_pattern_words.l0 k ([] : List ByteArray) l0_2 (l0_2.length : Int) 0
set_option maxHeartbeats 8000000 in
set_option maxRecDepth 100000 in
theorem address_pattern_words.calls (k : Nat) (a0_0 : Int) (a0_1 : ByteArray) (A0_2 : Option Addr) (c0_2 : Nat) (l0_2 : List (S97)) (a0_3 : Bool) (r : List ByteArray) (w : World) (hr0_2 : Kd.C k97 w A0_2 l0_2.length l0_2) (hc0_2 : l0_2.length ≤ c0_2) (h : address_pattern_words.f k a0_0 a0_1 l0_2 a0_3 = some r) :
  Calls Tryz.prog 71 #[.agg #[.int .i64 a0_0, .string a0_1, .slice A0_2 l0_2.length c0_2, .bool a0_3]] w fun e w' => ∃ v0_ : Value, e = .returned (v0_) ∧ Kd.R Kd.string 9 w' w.heap.size (fun _ => True) v0_ r ∧ Below w.heap.size w w' := by
 have hu100 := Tryz.underlying100
 have hu97 := Tryz.underlying97
 have HR0_2 := Aside0.mk hr0_2
 have HC0_2 := Aside0.mk hc0_2
 clear hr0_2 hc0_2
 have HB := Aside0.mk (Below.refl w.heap.size w)
 have H : (address_pattern_words.l0 k ([] : List ByteArray) l0_2 (l0_2.length : Int) 0) = some r := h
 clear h
 have H' := Aside0.mk H
 clear H
 go_enter Tryz.func71, Tryz.ntmps71
 go_wp2_with (first | ((with_reducible refine gate_dst (N := 1) rfl ?_); refine bx 1 #[.int .i64 a0_0, .string a0_1, .slice A0_2 l0_2.length c0_2, .bool a0_3] 100 fun gb101 hg w2 hbox hb => ?_; have BK101 := Aside0.mk (hbox); have GW101 := gw w hg; have GE101 := gw w hg; replace HB := sb w hb; clear hb hbox hg; obtain ⟨hcz3_0, hcz3_1, hcz3_2, hcz3_3, hfz3_0, hfz3_1, hfz3_2, hfz3_3⟩ := cf4 BK101))
 go_loopg [3, 9] k (fun kq v3 v9 w' => ∃ (x3_1 : List ByteArray) (x9_1 : Int), v9 = .int .i64 x9_1 ∧ Aside0 (address_pattern_words.l0 kq x3_1 l0_2 (l0_2.length : Int) x9_1 = some r) ∧ Aside0 (kq ≤ k) ∧ Aside0 (Kd.R Kd.string 9 w' w.heap.size (fun _ => True) v3 x3_1) ∧ Aside0 (w'.heap[gb101]? = some (.cells #[.int .i64 a0_0, .string a0_1, (.slice A0_2 l0_2.length c0_2), .bool a0_3] 100 (0, 0))) ∧ Aside0 (Below w.heap.size w w'))
 case atStart => exact ⟨(([] : List ByteArray)), (0), zS, H', ⟨Nat.le_refl _⟩, ⟨by first | exact Kd.R_nil _ _ _ _ _ | exact Kd.N_nil _ _ _ _ _ | exact Kd.V_nil _ _ _ _ _ | exact Kd.Q_nil _ _ _ _ _ | exact Kd.S_nil _ _ _ _ _⟩, ⟨kb BK101⟩, ⟨zB⟩⟩
 case round =>
  clear H'
  obtain ⟨x3_1, x9_1, rfl, HA, HK1, HO_3, BK101, HB⟩ := hrel
  cases gk with
  | zero => exact absurd HA.out (by simp [address_pattern_words.l0])
  | succ k1 =>
   have H := HA.out
   clear HA
   simp only [address_pattern_words.l0] at H
   by_cases c4 : x9_1 < (l0_2.length : Int)
   ·rw [if_pos c4] at H
    have c4b0 : decide (x9_1 < (l0_2.length : Int)) = true := decide_eq_true c4
    clear c4
    by_cases c5 : 0 ≤ x9_1
    ·rw [if_pos c5] at H
     have c5b0 : decide (0 ≤ x9_1) = true := decide_eq_true c5
     clear c5
     by_cases c6 : x9_1 < (l0_2.length : Int)
     ·rw [if_pos c6] at H
      have c6b0 : decide (x9_1 < (l0_2.length : Int)) = true := decide_eq_true c6
      clear c6
      obtain ⟨t104, A7, H⟩ := bd H
      by_cases c8 : x3_1.length < 8796093022208
      ·rw [if_pos c8] at H
       have LMc8 := Aside0.mk c8
       clear c8
       obtain ⟨y105, hy105⟩ : ∃ y_ : List ByteArray, y_ = (x3_1 ++ [t104]) := ⟨_, rfl⟩
       replace H : (address_pattern_words.l0 k1 y105 l0_2 (l0_2.length : Int) (wrap64 (x9_1 + 1))) = some r := by first | (rw [hy105]; with_reducible exact H) | (have H2_ := (Option.bind_some _ _).symm.trans H; rw [hy105]; with_reducible exact H2_) | (have H2_ := (Option.bind_some _ _).symm.trans H; with_reducible exact H2_) | with_reducible exact H | (rw [hy105]; exact H) | exact H
       have Ny105 := Aside0.mk hy105
       clear hy105
       have H' := Aside0.mk H
       clear H
       have p102 : 0 ≤ (x9_1 : Int) := of_decide_eq_true za
       have q102 : x9_1 < (l0_2.length : Int) := of_decide_eq_true za
       obtain ⟨ad102, e102, hx102_0, hx102_1⟩ := at_T97 HR0_2.out x9_1 p102 q102
       cases e102
       replace hx102_0 := (HB.out.cell (World.block_lt_of_cell? w _ hx102_0)).trans hx102_0
       replace hx102_1 := (HB.out.cell (World.block_lt_of_cell? w _ hx102_1)).trans hx102_1
       replace p102 := eq_true p102
       replace q102 := eq_true q102
       go_wp2_with (first | ((with_reducible refine gate_dst (N := 5) rfl ?_); refine bx 5 #[.int .i64 0, .string (⟨#[]⟩ : ByteArray)] 97 fun gb103 hg w9 hbox hb => ?_; replace HO_3 := rb HO_3 hb; have BK103 := Aside0.mk (hbox); have GW103 := gw w hg; have GE103 := gw w hg; replace HB := sb w hb; have NB101_103 := nl hg BK101; have NB103_101 := ng hg BK101; replace BK101 := bb BK101 hb; clear hb hbox hg; have hnb10 := NB103_101.out; have hnc10 := NB101_103.out; obtain ⟨hcz11_0, hcz11_1, hfz11_0, hfz11_1⟩ := cf2 BK103) | ((with_reducible refine gate_callee (f := 70) rfl ?_); refine goesL_ (some 15) rfl rfl Tryz.func70 (by kernel_rfl) rfl #[.agg #[.int .i64 ((rd_T97 l0_2 x9_1).f0), .string ((rd_T97 l0_2 x9_1).f1)], .string (⟨#[97]⟩ : ByteArray)] rfl zl ?_; (with_reducible refine (address_part_with.calls ((rd_T97 l0_2 x9_1).f0) ((rd_T97 l0_2 x9_1).f1) (⟨#[97]⟩ : ByteArray) t104 _ A7.out).mono ?_); rintro e w12 ⟨rfl, hb⟩; refine ⟨_, rfl, ?_⟩; replace HO_3 := rt HO_3 BK103 hb; replace BK101 := bf BK101 hb; replace BK103 := bw #[.int .i64 ((rd_T97 l0_2 x9_1).f0), .string ((rd_T97 l0_2 x9_1).f1)] BK103 hb; replace HB := sb w hb; clear hb) | ((with_reducible refine gate_builtin (b := .append) (xs := #[.tmp 13, .tmp 16]) rfl ?_); at_builtin; refine Kd.R_append Kd.string (w0 := w) w.heap.size rfl (.tmp 13) (.tmp 16) 22 9 (.string ⟨#[]⟩) 16 rfl Tryz.underlying22 info9 rfl (by decide) (by omega) u3 x3_1 t104 [.string t104] (fun _ => True) (fun _ => False) rfl rfl ?aP (fun _ hk => hk.elim) ?aF ?aO ?aB ?aS ?aL ?_; (case aP => exact rfl); (case aB => exact zB); (case aF => exact (fun _ _ => trivial)); (case aO => exact (kr HO_3)); (case aS => exact (below_size zB)); (case aL => have := LMc8.out; omega); intro v106 w13 ho hb hg hat; rw [← Ny105.out] at ho; replace BK101 := Aside0.mk (blk_grown (kb BK101) hg (Kd.R_ne HO_3.out BK101.out (by decide))); replace BK103 := Aside0.mk (blk_grown (kb BK103) hg (Kd.R_ne HO_3.out BK103.out (by decide))); replace HB := Aside0.mk (hb); have HO107 := Aside0.mk (ho); clear HO_3 ho hb hg hat))
       go_roundg k1
       case measure => have := HK1.out; omega
       case rel => exact ⟨(y105), (wrap64 (x9_1 + 1)), zS, H', ⟨by have := HK1.out; omega⟩, ⟨kr HO107⟩, ⟨kb BK101⟩, ⟨zB⟩⟩
      ·rw [if_neg c8] at H
       exact absurd H (by simp)
     ·rw [if_neg c6] at H
      exact absurd H (by simp)
    ·rw [if_neg c5] at H
     exact absurd H (by simp)
   ·rw [if_neg c4] at H
    have c4b0 : decide (x9_1 < (l0_2.length : Int)) = false := decide_eq_false c4
    clear c4
    obtain rfl := Option.some.inj H
    go_wp2
    go_ret
    exact ⟨_, zE, by (with_reducible repeat (first | apply Kd.R_alloc | apply Kd.R_drewN | apply Kd.R_drew)); exact HO_3.out, zB⟩
end Go.Proofs.YtmokgpepeddopaaGreatDoor.P
end
