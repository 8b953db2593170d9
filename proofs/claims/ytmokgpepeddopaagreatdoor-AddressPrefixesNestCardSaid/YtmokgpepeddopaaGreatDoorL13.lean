/- Lemmas on the way to the statement: part 13 of 34 (functions as plain Lean functions, and that each call comes to what they say). -/
import Derived.Test.YtmokgpepeddopaaGreatDoorL12
section
namespace Go.Proofs.YtmokgpepeddopaaGreatDoor.P
open Go.RowKit Go.Proofs.YtmokgpepeddopaaGreatDoorW.PrintWords Go.Proofs.YtmokgpepeddopaaGreatDoorW.PrintLast Go.Proofs.YtmokgpepeddopaaGreatDoorW.PrintMore
attribute [local go_sem] max2_int min2_int max_two min_two max_three min_three max_four min_four
attribute [local go_sem high] binOp_string_leq2 binOp_string_gtr2
set_option linter.unusedVariables false
set_option linter.unusedSimpArgs false
def strings_TrimSuffix.f (a0 : ByteArray) (a1 : ByteArray) : Option (ByteArray) := (stringslite_TrimSuffix.f a0 a1).bind fun t101 => (some t101)
set_option maxHeartbeats 8000000 in
set_option maxRecDepth 100000 in
theorem strings_TrimSuffix.calls (a0 : ByteArray) (a1 : ByteArray) (r : ByteArray) (w : World) (h : strings_TrimSuffix.f a0 a1 = some r) :
  Calls Tryz.prog 40 #[.string a0, .string a1] w fun e w' => e = .returned (.string r) ∧ Drawn0 w w' := by
 have H : ((stringslite_TrimSuffix.f a0 a1).bind fun t101 => (some t101)) = some r := h
 clear h
 obtain ⟨t101, A3, H⟩ := bd H
 obtain rfl := Option.some.inj H
 go_enter Tryz.func40, Tryz.ntmps40
 go_wp2_with (first | ((with_reducible refine gate_callee (f := 85) rfl ?_); refine goesL_ (some 7) rfl rfl Tryz.func85 (by kernel_rfl) rfl #[.string a0, .string a1] rfl zl ?_; (with_reducible refine (stringslite_TrimSuffix.calls a0 a1 t101 _ A3.out).mono ?_); rintro e w' ⟨rfl, ⟨nd, rfl⟩⟩; refine ⟨_, rfl, ?_⟩))
 go_ret
 exact ⟨zS, zd⟩
def weirgateref06_path.l0 : Nat → List ByteArray → List ByteArray → Int → Option (List ByteArray × Bool)
 | 0, _, _, _ => none
 | k + 1, x0, x4, x5 => if x5 < (x0.length : Int) then (if 0 ≤ x5 then (if (rdOf ByteArray.empty x0 x5).toList = ([46] : List UInt8) then (weirgateref06_path.l0 k x0 x4 (wrap64 (x5 + 1))) else (if (rdOf ByteArray.empty x0 x5).toList = ([46, 46] : List UInt8) then (if (x4.length : Int) = 0 then (some (([] : List ByteArray), false)) else ((some (([] : List ByteArray) : List ByteArray)).bind fun y103 => (if 0 ≤ (wrap64 ((x4.length : Int) - 1)) then (if (wrap64 ((x4.length : Int) - 1)) ≤ (x4.length : Int) then ((some (x4.take ((wrap64 ((x4.length : Int) - 1)) : Int).toNat : List ByteArray)).bind fun y106 => (if y103.length + y106.length < 8796093022208 then (weirgateref06_path.l0 k x0 (y103 ++ y106) (wrap64 (x5 + 1))) else (none))) else (none)) else (none)))) else ((weirgateref06_Word.f k (rdOf ByteArray.empty x0 x5)).bind fun t114 => (if t114 = true then (if x4.length < 8796093022208 then (weirgateref06_path.l0 k x0 (x4 ++ [rdOf ByteArray.empty x0 x5]) (wrap64 (x5 + 1))) else (none)) else (some (([] : List ByteArray), false)))))) else (none)) else (some (x4, true))
def weirgateref06_path.f (k : Nat) (l0 : List ByteArray) : Option (List ByteArray × Bool) := weirgateref06_path.l0 k l0 ([] : List ByteArray) 0
set_option maxHeartbeats 8000000 in
set_option maxRecDepth 100000 in
theorem weirgateref06_path.calls (k : Nat) (A0 : Option Addr) (c0 : Nat) (l0 : List ByteArray) (r1 : List ByteArray) (r2 : Bool) (w : World) (hr0 : Kd.C Kd.string w A0 l0.length l0) (hc0 : l0.length ≤ c0) (h : weirgateref06_path.f k l0 = some (r1, r2)) :
  Calls Tryz.prog 54 #[.slice A0 l0.length c0] w fun e w' => ∃ v0_ : Value, e = .returned (.tuple #[v0_, .bool r2]) ∧ Kd.R Kd.string 9 w' w.heap.size (fun _ => True) v0_ r1 ∧ Below w.heap.size w w' := by
 have HR0 := Aside0.mk hr0
 have HC0 := Aside0.mk hc0
 clear hr0 hc0
 have HB := Aside0.mk (Below.refl w.heap.size w)
 have H : (weirgateref06_path.l0 k l0 ([] : List ByteArray) 0) = some (r1, r2) := h
 clear h
 have H' := Aside0.mk H
 clear H
 go_enter Tryz.func54, Tryz.ntmps54
 go_wp2
 go_loopg [4, 5] k (fun kq v4 v5 w' => ∃ (x4_1 : List ByteArray) (x5_1 : Int), v5 = .int .i64 x5_1 ∧ Aside0 (weirgateref06_path.l0 kq l0 x4_1 x5_1 = some (r1, r2)) ∧ Aside0 (kq ≤ k) ∧ Aside0 (Kd.R Kd.string 9 w' w.heap.size (fun _ => True) v4 x4_1) ∧ Aside0 (Below w.heap.size w w'))
 case atStart => exact ⟨(([] : List ByteArray)), (0), zS, H', ⟨Nat.le_refl _⟩, ⟨by first | exact Kd.R_nil _ _ _ _ _ | exact Kd.N_nil _ _ _ _ _ | exact Kd.V_nil _ _ _ _ _ | exact Kd.Q_nil _ _ _ _ _ | exact Kd.S_nil _ _ _ _ _⟩, ⟨zB⟩⟩
 case round =>
  clear H'
  obtain ⟨x4_1, x5_1, rfl, HA, HK1, HO_4, HB⟩ := hrel
  cases gk with
  | zero => exact absurd HA.out (by simp [weirgateref06_path.l0])
  | succ k1 =>
   have H := HA.out
   clear HA
   simp only [weirgateref06_path.l0] at H
   by_cases c2 : x5_1 < (l0.length : Int)
   ·rw [if_pos c2] at H
    have c2b0 : decide (x5_1 < (l0.length : Int)) = true := decide_eq_true c2
    clear c2
    by_cases c3 : 0 ≤ x5_1
    ·rw [if_pos c3] at H
     have c3b0 : decide (0 ≤ x5_1) = true := decide_eq_true c3
     clear c3
     by_cases c4 : (rdOf ByteArray.empty l0 x5_1).toList = ([46] : List UInt8)
     ·rw [if_pos c4] at H
      have c4b0 : ((rdOf ByteArray.empty l0 x5_1).toList == ([46] : List UInt8)) = true := beq_iff_eq.mpr c4
      have c4b1 : ((rdOf ByteArray.empty l0 x5_1).toList != ([46] : List UInt8)) = false := bne_eq_false_iff_eq.mpr c4
      clear c4
      have H' := Aside0.mk H
      clear H
      have p101 : 0 ≤ (x5_1 : Int) := of_decide_eq_true za
      have q101 : x5_1 < (l0.length : Int) := of_decide_eq_true za
      obtain ⟨ad101, e101, hx101_0⟩ := Kd.at_string HR0.out x5_1 p101 q101
      cases e101
      replace hx101_0 := (HB.out.cell (World.block_lt_of_cell? w _ hx101_0)).trans hx101_0
      replace p101 := eq_true p101
      replace q101 := eq_true q101
      go_wp2
      go_roundg k1
      case measure => have := HK1.out; omega
      case rel => exact ⟨(x4_1), (wrap64 (x5_1 + 1)), zS, H', ⟨by have := HK1.out; omega⟩, ⟨kr HO_4⟩, ⟨zB⟩⟩
     ·rw [if_neg c4] at H
      have c4b0 : ((rdOf ByteArray.empty l0 x5_1).toList == ([46] : List UInt8)) = false := beq_eq_false_iff_ne.mpr c4
      have c4b1 : ((rdOf ByteArray.empty l0 x5_1).toList != ([46] : List UInt8)) = true := bne_iff_ne.mpr c4
      by_cases c5 : (rdOf ByteArray.empty l0 x5_1).toList = ([46, 46] : List UInt8)
      ·rw [if_pos c5] at H
       have c5b0 : ((rdOf ByteArray.empty l0 x5_1).toList == ([46, 46] : List UInt8)) = true := beq_iff_eq.mpr c5
       have c5b1 : ((rdOf ByteArray.empty l0 x5_1).toList != ([46, 46] : List UInt8)) = false := bne_eq_false_iff_eq.mpr c5
       clear c5
       by_cases c6 : (x4_1.length : Int) = 0
       ·rw [if_pos c6] at H
        have c6b0 : ((x4_1.length : Int) == 0) = true := beq_iff_eq.mpr c6
        have c6b1 : ((x4_1.length : Int) != 0) = false := bne_eq_false_iff_eq.mpr c6
        clear c6
        simp only [Option.some.injEq, Prod.mk.injEq] at H
        obtain ⟨rfl, rfl⟩ := H
        have p101 : 0 ≤ (x5_1 : Int) := of_decide_eq_true za
        have q101 : x5_1 < (l0.length : Int) := of_decide_eq_true za
        obtain ⟨ad101, e101, hx101_0⟩ := Kd.at_string HR0.out x5_1 p101 q101
        cases e101
        replace hx101_0 := (HB.out.cell (World.block_lt_of_cell? w _ hx101_0)).trans hx101_0
        replace p101 := eq_true p101
        replace q101 := eq_true q101
        have p102 : 0 ≤ (x5_1 : Int) := of_decide_eq_true za
        have q102 : x5_1 < (l0.length : Int) := of_decide_eq_true za
        obtain ⟨ad102, e102, hx102_0⟩ := Kd.at_string HR0.out x5_1 p102 q102
        obtain rfl : ad101 = ad102 := (by injection e102)
        replace hx102_0 := (HB.out.cell (World.block_lt_of_cell? w _ hx102_0)).trans hx102_0
        replace p102 := eq_true p102
        replace q102 := eq_true q102
        obtain ⟨Ao7, co7, eo7⟩ := Kd.R_slice HO_4.out
        subst eo7
        go_wp2
        go_ret2
        exact ⟨_, zE, by first | exact Kd.R_nil _ _ _ _ _ | exact Kd.N_nil _ _ _ _ _ | exact Kd.V_nil _ _ _ _ _ | exact Kd.Q_nil _ _ _ _ _ | exact Kd.S_nil _ _ _ _ _, zB⟩
       ·rw [if_neg c6] at H
        have c6b0 : ((x4_1.length : Int) == 0) = false := beq_eq_false_iff_ne.mpr c6
        have c6b1 : ((x4_1.length : Int) != 0) = true := bne_iff_ne.mpr c6
        have c6b2 : ¬ (x4_1 = []) := fun h_ => c6 (by rw [h_]; rfl)
        obtain ⟨y103, hy103⟩ : ∃ y_ : List ByteArray, y_ = (([] : List ByteArray)) := ⟨_, rfl⟩
        replace H : (if 0 ≤ (wrap64 ((x4_1.length : Int) - 1)) then (if (wrap64 ((x4_1.length : Int) - 1)) ≤ (x4_1.length : Int) then ((some (x4_1.take ((wrap64 ((x4_1.length : Int) - 1)) : Int).toNat : List ByteArray)).bind fun y106 => (if y103.length + y106.length < 8796093022208 then (weirgateref06_path.l0 k1 l0 (y103 ++ y106) (wrap64 (x5_1 + 1))) else (none))) else (none)) else (none)) = some (r1, r2) := by first | (rw [hy103]; with_reducible exact H) | (have H2_ := (Option.bind_some _ _).symm.trans H; rw [hy103]; with_reducible exact H2_) | (have H2_ := (Option.bind_some _ _).symm.trans H; with_reducible exact H2_) | with_reducible exact H | (rw [hy103]; exact H) | exact H
        have Ny103 := Aside0.mk hy103
        clear hy103
        obtain ⟨ji7, hji7⟩ : ∃ j_ : Int, (wrap64 ((x4_1.length : Int) - 1)) = j_ := ⟨_, rfl⟩
        replace H : (if 0 ≤ (ji7) then (if (ji7) ≤ (x4_1.length : Int) then ((some (x4_1.take ((ji7) : Int).toNat : List ByteArray)).bind fun y106 => (if y103.length + y106.length < 8796093022208 then (weirgateref06_path.l0 k1 l0 (y103 ++ y106) (wrap64 (x5_1 + 1))) else (none))) else (none)) else (none)) = some (r1, r2) := by first | (rw [hji7] at H; exact H) | (simp only [hji7] at H ⊢; exact H)
        have hji7w : (IntKind.i64.wrap ((x4_1.length : Int) - 1)) = ji7 := (i64_w _).trans hji7
        by_cases c8 : 0 ≤ (ji7)
        ·rw [if_pos c8] at H
         have c8b0 := eq_true c8
         have c8b1 : decide (0 ≤ (ji7)) = true := decide_eq_true c8
         clear c8
         by_cases c9 : (ji7) ≤ (x4_1.length : Int)
         ·rw [if_pos c9] at H
          have c9b0 := eq_true c9
          have c9b1 : decide ((ji7) ≤ (x4_1.length : Int)) = true := decide_eq_true c9
          clear c9
          obtain ⟨y106, hy106⟩ : ∃ y_ : List ByteArray, y_ = (x4_1.take ((ji7) : Int).toNat) := ⟨_, rfl⟩
          replace H : (if y103.length + y106.length < 8796093022208 then (weirgateref06_path.l0 k1 l0 (y103 ++ y106) (wrap64 (x5_1 + 1))) else (none)) = some (r1, r2) := by first | (rw [hy106]; with_reducible exact H) | (have H2_ := (Option.bind_some _ _).symm.trans H; rw [hy106]; with_reducible exact H2_) | (have H2_ := (Option.bind_some _ _).symm.trans H; with_reducible exact H2_) | with_reducible exact H | (rw [hy106]; exact H) | exact H
          have Ny106 := Aside0.mk hy106
          clear hy106
          by_cases c10 : y103.length + y106.length < 8796093022208
          ·rw [if_pos c10] at H
           have LMc10 := Aside0.mk c10
           clear c10
           obtain ⟨y110, hy110⟩ : ∃ y_ : List ByteArray, y_ = (y103 ++ y106) := ⟨_, rfl⟩
           replace H : (weirgateref06_path.l0 k1 l0 y110 (wrap64 (x5_1 + 1))) = some (r1, r2) := by first | (rw [hy110]; with_reducible exact H) | (have H2_ := (Option.bind_some _ _).symm.trans H; rw [hy110]; with_reducible exact H2_) | (have H2_ := (Option.bind_some _ _).symm.trans H; with_reducible exact H2_) | with_reducible exact H | (rw [hy110]; exact H) | exact H
           have Ny110 := Aside0.mk hy110
           clear hy110
           have H' := Aside0.mk H
           clear H
           have p101 : 0 ≤ (x5_1 : Int) := of_decide_eq_true za
           have q101 : x5_1 < (l0.length : Int) := of_decide_eq_true za
           obtain ⟨ad101, e101, hx101_0⟩ := Kd.at_string HR0.out x5_1 p101 q101
           cases e101
           replace hx101_0 := (HB.out.cell (World.block_lt_of_cell? w _ hx101_0)).trans hx101_0
           replace p101 := eq_true p101
           replace q101 := eq_true q101
           have p102 : 0 ≤ (x5_1 : Int) := of_decide_eq_true za
           have q102 : x5_1 < (l0.length : Int) := of_decide_eq_true za
           obtain ⟨ad102, e102, hx102_0⟩ := Kd.at_string HR0.out x5_1 p102 q102
           obtain rfl : ad101 = ad102 := (by injection e102)
           replace hx102_0 := (HB.out.cell (World.block_lt_of_cell? w _ hx102_0)).trans hx102_0
           replace p102 := eq_true p102
           replace q102 := eq_true q102
           obtain ⟨Ao11, co11, eo11⟩ := Kd.R_slice HO_4.out
           subst eo11
           go_wp2_with (first | ((with_reducible refine gate_dst (N := 25) rfl ?_); refine Kd.R_lit Kd.string _ 9 ?hg (N := 25) ?hd (xs := ([] : List ByteArray)) (inner := []) (ok := fun _ => True) (okp := fun _ => True) ?hr ?hp (fun _ hk => hk) trivial (Below.refl _ _) (Nat.le_refl _) (by simp) ?_; (case hd => rfl); (case hg => rfl); (case hr => first | (go_simp; done) | (go_simp; rfl)); (case hp => exact (Reps.none _ _)); intro v104 w12 ho13 hb hg_ hnew_; clear hg_ hnew_; (first | rw [← Ny103.out] at ho13 | (simp only [Int.reduceToNat] at ho13; rw [← Ny103.out] at ho13)); have HO105 := Aside0.mk (Kd.R_lower (Kd.R_new' ho13 (Kd.R_lt (kr HO_4))) (below_size zB)); replace HO_4 := Aside0.mk (Kd.R_elder' (kr HO_4) (Kd.R_base ho13) hb); replace HB := sb w hb; clear hb ho13; have q14 : ((ji7) : Int) ≤ ((x4_1.length : Int) : Int) := of_decide_eq_true za; obtain ⟨i014, hi014, _, hsz14, _⟩ := info_parts info9; have hroom14 : x4_1.length ≤ co11 := (Kd.R_reads' HO_4.out).2.1; have hC14 : Kd.C Kd.string _ Ao11 x4_1.length x4_1 := (Kd.R_reads' HO_4.out).2.2; have hcut14 := cut_to (P := Tryz.prog) 22 9 .i64 Tryz.underlying22 hi014 Ao11 x4_1.length co11 (ji7) (of_decide_eq_true za) q14 hroom14; have hr14 := Kd.C_take (m := ((ji7) : Int).toNat) hC14 (by omega); have hy14 : y106.length = ((ji7) : Int).toNat := (by rw [Ny106.out, List.length_take]; omega); rw [← Ny106.out] at hr14; rw [← hy14] at hcut14; have HR109 := Aside0.mk hr14; have HC109 := Aside0.mk (show y106.length ≤ co11 from by omega); clear hr14 hC14 hroom14 hi014 hsz14; have KY14 := Aside0.mk hy14; clear hy14; have KL14 := Aside0.mk (show ((ji7) : Int).toNat ≤ x4_1.length from by omega); replace q14 := eq_true q14) | ((with_reducible refine gate_builtin (b := .append) (xs := #[.tmp 25, .tmp 30]) rfl ?_); at_builtin; refine Kd.R_append_rows Kd.string (w0 := w) w.heap.size rfl (.tmp 25) (.tmp 30) 22 9 (.string ⟨#[]⟩) 16 rfl Tryz.underlying22 info9 rfl (by decide) (by omega) v104 y103 y106 _ _ _ (fun k_ => some k_ ≠ (.slice Ao11 x4_1.length co11 : Value).ownBlock) (fun _ => False) rfl rfl ?aO ?aR (fun _ _ h => h) (fun _ h => h.elim) ?aF ?aB ?aS ?aL ?_; (case aR => repeat (first | exact (by repeat (first | (with_reducible exact HR109.out) | (with_reducible refine Kd.C_alloc ?_ _) | (with_reducible refine Kd.C_drewN ?_ _) | (with_reducible refine Kd.C_drew ?_) | exact HR109.out)) | (with_reducible refine Kd.C_alloc ?_ _) | (with_reducible refine Kd.C_drewN ?_ _) | (with_reducible refine Kd.C_drew ?_))); (case aB => exact zB); (case aF => exact (fun k_ hk => Kd.fresh' (Kd.R_lt (kr HO_4)) k_ hk)); (case aO => exact (by (with_reducible repeat (first | apply Kd.R_alloc | apply Kd.R_drewN | apply Kd.R_drew)); exact Kd.R_mono HO105.out (fun _ hk => hk.2))); (case aS => exact (below_size zB)); (case aL => have := LMc10.out; omega); intro v111 w15 ho hb hg hat; rw [← Ny110.out] at ho; replace HB := Aside0.mk (hb); replace HR109 := Aside0.mk ((show Kd.C Kd.string w15 Ao11 y106.length y106 from by rw [Ny106.out]; exact Kd.C_take (m := ((ji7) : Int).toNat) ((Kd.R_reads' (Kd.R_after (ok := (fun _ => True)) (kr HO_4) hg hat)).2.2) KL14.out)); replace HO_4 := Aside0.mk (Kd.R_after (ok := (fun _ => True)) (kr HO_4) hg hat); have HO112 := Aside0.mk (ho); clear HO105 ho hb hg hat))
           go_roundg k1
           case measure => have := HK1.out; omega
           case rel => exact ⟨(y110), (wrap64 (x5_1 + 1)), zS, H', ⟨by have := HK1.out; omega⟩, ⟨by (with_reducible repeat (first | apply Kd.R_alloc | apply Kd.R_drewN | apply Kd.R_drew)); exact Kd.R_mono HO112.out (fun _ hk => trivial)⟩, ⟨zB⟩⟩
          ·rw [if_neg c10] at H
           exact absurd H (by simp)
         ·rw [if_neg c9] at H
          exact absurd H (by simp)
        ·rw [if_neg c8] at H
         exact absurd H (by simp)
      ·rw [if_neg c5] at H
       have c5b0 : ((rdOf ByteArray.empty l0 x5_1).toList == ([46, 46] : List UInt8)) = false := beq_eq_false_iff_ne.mpr c5
       have c5b1 : ((rdOf ByteArray.empty l0 x5_1).toList != ([46, 46] : List UInt8)) = true := bne_iff_ne.mpr c5
       obtain ⟨t114, A6, H⟩ := bd H
       by_cases c7 : t114 = true
       ·subst c7
        rw [if_pos rfl] at H
        by_cases c8 : x4_1.length < 8796093022208
        ·rw [if_pos c8] at H
         have LMc8 := Aside0.mk c8
         clear c8
         obtain ⟨y116, hy116⟩ : ∃ y_ : List ByteArray, y_ = (x4_1 ++ [rdOf ByteArray.empty l0 x5_1]) := ⟨_, rfl⟩
         replace H : (weirgateref06_path.l0 k1 l0 y116 (wrap64 (x5_1 + 1))) = some (r1, r2) := by first | (rw [hy116]; with_reducible exact H) | (have H2_ := (Option.bind_some _ _).symm.trans H; rw [hy116]; with_reducible exact H2_) | (have H2_ := (Option.bind_some _ _).symm.trans H; with_reducible exact H2_) | with_reducible exact H | (rw [hy116]; exact H) | exact H
         have Ny116 := Aside0.mk hy116
         clear hy116
         have H' := Aside0.mk H
         clear H
         have p101 : 0 ≤ (x5_1 : Int) := of_decide_eq_true za
         have q101 : x5_1 < (l0.length : Int) := of_decide_eq_true za
         obtain ⟨ad101, e101, hx101_0⟩ := Kd.at_string HR0.out x5_1 p101 q101
         cases e101
         replace hx101_0 := (HB.out.cell (World.block_lt_of_cell? w _ hx101_0)).trans hx101_0
         replace p101 := eq_true p101
         replace q101 := eq_true q101
         have p102 : 0 ≤ (x5_1 : Int) := of_decide_eq_true za
         have q102 : x5_1 < (l0.length : Int) := of_decide_eq_true za
         obtain ⟨ad102, e102, hx102_0⟩ := Kd.at_string HR0.out x5_1 p102 q102
         obtain rfl : ad101 = ad102 := (by injection e102)
         replace hx102_0 := (HB.out.cell (World.block_lt_of_cell? w _ hx102_0)).trans hx102_0
         replace p102 := eq_true p102
         replace q102 := eq_true q102
         have p113 : 0 ≤ (x5_1 : Int) := of_decide_eq_true za
         have q113 : x5_1 < (l0.length : Int) := of_decide_eq_true za
         obtain ⟨ad113, e113, hx113_0⟩ := Kd.at_string HR0.out x5_1 p113 q113
         obtain rfl : ad101 = ad113 := (by injection e113)
         replace hx113_0 := (HB.out.cell (World.block_lt_of_cell? w _ hx113_0)).trans hx113_0
         replace p113 := eq_true p113
         replace q113 := eq_true q113
         go_wp2_with (first | ((with_reducible refine gate_callee (f := 95) rfl ?_); refine goesL_ (some 36) rfl rfl Tryz.func95 (by kernel_rfl) rfl #[.string (rdOf ByteArray.empty l0 x5_1)] rfl zl ?_; (with_reducible refine (weirgateref06_Word.calls k1 (rdOf ByteArray.empty l0 x5_1) true _ A6.out).mono ?_); rintro e w' ⟨rfl, ⟨nd, rfl⟩⟩; refine ⟨_, rfl, ?_⟩; have p115 : 0 ≤ (x5_1 : Int) := of_decide_eq_true za; have q115 : x5_1 < (l0.length : Int) := of_decide_eq_true za; obtain ⟨ad115, e115, hx115_0⟩ := Kd.at_string HR0.out x5_1 p115 q115; obtain rfl : ad101 = ad115 := (by injection e115); replace hx115_0 := (HB.out.cell (World.block_lt_of_cell? w _ hx115_0)).trans hx115_0; replace p115 := eq_true p115; replace q115 := eq_true q115) | ((with_reducible refine gate_builtin (b := .append) (xs := #[.tmp 38, .tmp 43]) rfl ?_); at_builtin; refine Kd.R_append Kd.string (w0 := w) w.heap.size rfl (.tmp 38) (.tmp 43) 22 9 (.string ⟨#[]⟩) 16 rfl Tryz.underlying22 info9 rfl (by decide) (by omega) u4 x4_1 (rdOf ByteArray.empty l0 x5_1) [.string (rdOf ByteArray.empty l0 x5_1)] (fun _ => True) (fun _ => False) rfl rfl ?aP (fun _ hk => hk.elim) ?aF ?aO ?aB ?aS ?aL ?_; (case aP => exact rfl); (case aB => exact zB); (case aF => exact (fun _ _ => trivial)); (case aO => exact (kr HO_4)); (case aS => exact (below_size zB)); (case aL => have := LMc8.out; omega); intro v117 w9 ho hb hg hat; rw [← Ny116.out] at ho; replace HB := Aside0.mk (hb); have HO118 := Aside0.mk (ho); clear HO_4 ho hb hg hat))
         go_roundg k1
         case measure => have := HK1.out; omega
         case rel => exact ⟨(y116), (wrap64 (x5_1 + 1)), zS, H', ⟨by have := HK1.out; omega⟩, ⟨kr HO118⟩, ⟨zB⟩⟩
        ·rw [if_neg c8] at H
         exact absurd H (by simp)
       ·replace c7 := Bool.eq_false_iff.mpr c7
        subst c7
        rw [if_neg Bool.false_ne_true] at H
        simp only [Option.some.injEq, Prod.mk.injEq] at H
        obtain ⟨rfl, rfl⟩ := H
        have p101 : 0 ≤ (x5_1 : Int) := of_decide_eq_true za
        have q101 : x5_1 < (l0.length : Int) := of_decide_eq_true za
        obtain ⟨ad101, e101, hx101_0⟩ := Kd.at_string HR0.out x5_1 p101 q101
        cases e101
        replace hx101_0 := (HB.out.cell (World.block_lt_of_cell? w _ hx101_0)).trans hx101_0
        replace p101 := eq_true p101
        replace q101 := eq_true q101
        have p102 : 0 ≤ (x5_1 : Int) := of_decide_eq_true za
        have q102 : x5_1 < (l0.length : Int) := of_decide_eq_true za
        obtain ⟨ad102, e102, hx102_0⟩ := Kd.at_string HR0.out x5_1 p102 q102
        obtain rfl : ad101 = ad102 := (by injection e102)
        replace hx102_0 := (HB.out.cell (World.block_lt_of_cell? w _ hx102_0)).trans hx102_0
        replace p102 := eq_true p102
        replace q102 := eq_true q102
        have p113 : 0 ≤ (x5_1 : Int) := of_decide_eq_true za
        have q113 : x5_1 < (l0.length : Int) := of_decide_eq_true za
        obtain ⟨ad113, e113, hx113_0⟩ := Kd.at_string HR0.out x5_1 p113 q113
        obtain rfl : ad101 = ad113 := (by injection e113)
        replace hx113_0 := (HB.out.cell (World.block_lt_of_cell? w _ hx113_0)).trans hx113_0
        replace p113 := eq_true p113
        replace q113 := eq_true q113
        go_wp2_with (first | ((with_reducible refine gate_callee (f := 95) rfl ?_); refine goesL_ (some 36) rfl rfl Tryz.func95 (by kernel_rfl) rfl #[.string (rdOf ByteArray.empty l0 x5_1)] rfl zl ?_; (with_reducible refine (weirgateref06_Word.calls k1 (rdOf ByteArray.empty l0 x5_1) false _ A6.out).mono ?_); rintro e w' ⟨rfl, ⟨nd, rfl⟩⟩; refine ⟨_, rfl, ?_⟩))
        go_ret2
        exact ⟨_, zE, by first | exact Kd.R_nil _ _ _ _ _ | exact Kd.N_nil _ _ _ _ _ | exact Kd.V_nil _ _ _ _ _ | exact Kd.Q_nil _ _ _ _ _ | exact Kd.S_nil _ _ _ _ _, zB⟩
    ·rw [if_neg c3] at H
     exact absurd H (by simp)
   ·rw [if_neg c2] at H
    have c2b0 : decide (x5_1 < (l0.length : Int)) = false := decide_eq_false c2
    clear c2
    simp only [Option.some.injEq, Prod.mk.injEq] at H
    obtain ⟨rfl, rfl⟩ := H
    go_wp2
    go_ret2
    exact ⟨_, zE, by (with_reducible repeat (first | apply Kd.R_alloc | apply Kd.R_drewN | apply Kd.R_drew)); exact HO_4.out, zB⟩
end Go.Proofs.YtmokgpepeddopaaGreatDoor.P
end
section
namespace Go.Proofs.YtmokgpepeddopaaGreatDoor.P
open Go.RowKit Go.Proofs.YtmokgpepeddopaaGreatDoorW.PrintWords Go.Proofs.YtmokgpepeddopaaGreatDoorW.PrintLast Go.Proofs.YtmokgpepeddopaaGreatDoorW.PrintMore
attribute [local go_sem] max2_int min2_int max_two min_two max_three min_three max_four min_four
attribute [local go_sem high] binOp_string_leq2 binOp_string_gtr2
set_option linter.unusedVariables false
set_option linter.unusedSimpArgs false
mutual
def weirgateref06_put.l0 : Nat → List (S66) → List (S66) → Bool → Int → ByteArray → ByteArray → Option ((List (S66)))
 | 0, _, _, _, _, _, _ => none
 | k + 1, x0, x5, x6, x7, x102000, x102001 => if x7 < (x0.length : Int) then (if x6 = true then (weirgateref06_put.j1 k x0 x5 x6 x7 false x102000 x102001) else (if 0 ≤ x7 then (weirgateref06_put.j1 k x0 x5 x6 x7 (!(Op.bytesLess (((rd_T66 x0 x7).f0).toList) x102000.toList)) x102000 x102001) else (none))) else (if x6 = true then (some x5) else (if x5.length < 4398046511104 then (some (x5 ++ [(⟨x102000, x102001⟩ : S66)])) else (none)))
def weirgateref06_put.j1 : Nat → List (S66) → List (S66) → Bool → Int → Bool → ByteArray → ByteArray → Option ((List (S66)))
 | 0, _, _, _, _, _, _, _ => none
 | k + 1, x0, x5, x6, x7, x25, x102000, x102001 => if x25 = true then (if x5.length < 4398046511104 then ((some (x5 ++ [(⟨x102000, x102001⟩ : S66)] : List (S66))).bind fun y106 => (if 0 ≤ x7 then (if x7 < (x0.length : Int) then (if ((rd_T66 x0 x7).f0).toList = x102000.toList then (weirgateref06_put.l0 k x0 y106 true (wrap64 (x7 + 1)) x102000 x102001) else (if y106.length < 4398046511104 then (weirgateref06_put.l0 k x0 (y106 ++ [(⟨(rd_T66 x0 x7).f0, (rd_T66 x0 x7).f1⟩ : S66)]) true (wrap64 (x7 + 1)) x102000 x102001) else (none))) else (none)) else (none))) else (none)) else (if 0 ≤ x7 then (if x7 < (x0.length : Int) then (if ((rd_T66 x0 x7).f0).toList = x102000.toList then (weirgateref06_put.l0 k x0 x5 x6 (wrap64 (x7 + 1)) x102000 x102001) else (if x5.length < 4398046511104 then (weirgateref06_put.l0 k x0 (x5 ++ [(⟨(rd_T66 x0 x7).f0, (rd_T66 x0 x7).f1⟩ : S66)]) x6 (wrap64 (x7 + 1)) x102000 x102001) else (none))) else (none)) else (none))
end
def weirgateref06_put.f (k : Nat) (l0 : List (S66)) (a1_0 : ByteArray) (a1_1 : ByteArray) : Option ((List (S66))) := weirgateref06_put.l0 k l0 ([] : List (S66)) false 0 a1_0 a1_1
set_option maxHeartbeats 8000000 in
set_option maxRecDepth 100000 in
theorem weirgateref06_put.calls (k : Nat) (A0 : Option Addr) (c0 : Nat) (l0 : List (S66)) (a1_0 : ByteArray) (a1_1 : ByteArray) (r : List (S66)) (w : World) (hr0 : Kd.C k66 w A0 l0.length l0) (hc0 : l0.length ≤ c0) (h : weirgateref06_put.f k l0 a1_0 a1_1 = some r) :
  Calls Tryz.prog 96 #[.slice A0 l0.length c0, .agg #[.string a1_0, .string a1_1]] w fun e w' => ∃ v0_ : Value, e = .returned (v0_) ∧ Kd.R k66 66 w' w.heap.size (fun _ => True) v0_ r ∧ Below w.heap.size w w' := by
 have hu66 := Tryz.underlying66
 have HR0 := Aside0.mk hr0
 have HC0 := Aside0.mk hc0
 clear hr0 hc0
 have HB := Aside0.mk (Below.refl w.heap.size w)
 have H : (weirgateref06_put.l0 k l0 ([] : List (S66)) false 0 a1_0 a1_1) = some r := h
 clear h
 have H' := Aside0.mk H
 clear H
 go_enter Tryz.func96, Tryz.ntmps96
 go_wp2_with (first | ((with_reducible refine gate_dst (N := 3) rfl ?_); refine bx 3 #[.string a1_0, .string a1_1] 66 fun gb101 hg w3 hbox hb => ?_; have BK101 := Aside0.mk (hbox); have GW101 := gw w hg; have GE101 := gw w hg; replace HB := sb w hb; clear hb hbox hg))
 repeat (go_quiet (first | ((with_reducible refine gate_dst (N := 3) rfl ?_); refine bx 3 #[.string a1_0, .string a1_1] 66 fun gb101 hg w3 hbox hb => ?_; have BK101 := Aside0.mk (hbox); have GW101 := gw w hg; have GE101 := gw w hg; replace HB := sb w hb; clear hb hbox hg)); try go_wp2_with (first | ((with_reducible refine gate_dst (N := 3) rfl ?_); refine bx 3 #[.string a1_0, .string a1_1] 66 fun gb101 hg w3 hbox hb => ?_; have BK101 := Aside0.mk (hbox); have GW101 := gw w hg; have GE101 := gw w hg; replace HB := sb w hb; clear hb hbox hg)))
 go_loopg [5, 6, 7] k (fun kq v5 v6 v7 w' => ∃ (x5_1 : List (S66)) (x6_1 : Bool) (x7_1 : Int), v6 = .bool x6_1 ∧ v7 = .int .i64 x7_1 ∧ Aside0 (weirgateref06_put.l0 kq l0 x5_1 x6_1 x7_1 a1_0 a1_1 = some r) ∧ Aside0 (kq ≤ k) ∧ Aside0 (Kd.R k66 66 w' w.heap.size (fun k_ => k_ ≠ gb101) v5 x5_1) ∧ Aside0 (w'.heap[gb101]? = some (.cells #[.string a1_0, .string a1_1] 66 (0, 0))) ∧ Aside0 (Below w.heap.size w w'))
 case atStart => exact ⟨(([] : List (S66))), (false), (0), zS, zS, H', ⟨Nat.le_refl _⟩, ⟨by first | exact Kd.R_nil _ _ _ _ _ | exact Kd.N_nil _ _ _ _ _ | exact Kd.V_nil _ _ _ _ _ | exact Kd.Q_nil _ _ _ _ _ | exact Kd.S_nil _ _ _ _ _⟩, ⟨kb BK101⟩, ⟨zB⟩⟩
 case round =>
  clear H'
  obtain ⟨x5_1, x6_1, x7_1, rfl, rfl, HA, HK1, HO_5, BK101, HB⟩ := hrel
  cases gk with
  | zero => exact absurd HA.out (by simp [weirgateref06_put.l0])
  | succ k1 =>
   have H := HA.out
   clear HA
   simp only [weirgateref06_put.l0] at H
   by_cases c4 : x7_1 < (l0.length : Int)
   ·rw [if_pos c4] at H
    have c4b0 : decide (x7_1 < (l0.length : Int)) = true := decide_eq_true c4
    clear c4
    have HC5 := Aside0.mk H
    clear H
    go_upto_region 6 with (fail)
    repeat (go_quiet (fail); go_upto_region 6 with (fail))
    go_cut [25] (fun v25 wc => ∃ (kq : Nat) (x25_4 : Bool), v25 = .bool x25_4 ∧ Aside0 (weirgateref06_put.j1 kq l0 x5_1 x6_1 x7_1 x25_4 a1_0 a1_1 = some r) ∧ Aside0 (kq ≤ k1) ∧ Aside0 (Kd.R k66 66 wc w.heap.size (fun k_ => k_ ≠ gb101) u5 x5_1) ∧ Aside0 (wc.heap[gb101]? = some (.cells #[.string a1_0, .string a1_1] 66 (0, 0))) ∧ Aside0 (Below w.heap.size w wc))
    case first =>
     have H := HC5.out
     clear HC5
     by_cases c6 : x6_1 = true
     ·subst c6
      rw [if_pos rfl] at H
      have H' := Aside0.mk H
      clear H
      go_wp2
      repeat (go_quiet (fail); try go_wp2)
      go_meet
      case rel => exact ⟨_, (false), zS, H', ⟨by have := HK1.out; first | omega | exact Nat.le_refl _⟩, ⟨kr HO_5⟩, ⟨kb BK101⟩, ⟨zB⟩⟩
     ·replace c6 := Bool.eq_false_iff.mpr c6
      subst c6
      rw [if_neg Bool.false_ne_true] at H
      by_cases c7 : 0 ≤ x7_1
      ·rw [if_pos c7] at H
       have c7b0 : decide (0 ≤ x7_1) = true := decide_eq_true c7
       clear c7
       (first | rw [c7b0] | (simp only [i64_w, i32_w]; rw [c7b0]) | skip)
       have H' := Aside0.mk H
       clear H
       obtain ⟨hcz8_0, hcz8_1, hfz8_0, hfz8_1⟩ := cf2 BK101
       have p105 : 0 ≤ (x7_1 : Int) := of_decide_eq_true za
       have q105 : x7_1 < (l0.length : Int) := of_decide_eq_true za
       obtain ⟨ad105, e105, hx105_0, hx105_1⟩ := at_T66 HR0.out x7_1 p105 q105
       cases e105
       replace hx105_0 := (HB.out.cell (World.block_lt_of_cell? w _ hx105_0)).trans hx105_0
       replace hx105_1 := (HB.out.cell (World.block_lt_of_cell? w _ hx105_1)).trans hx105_1
       replace p105 := eq_true p105
       replace q105 := eq_true q105
       go_wp2
       repeat (go_quiet (fail); try go_wp2)
       go_meet
       case rel => exact ⟨_, (!(Op.bytesLess (((rd_T66 l0 x7_1).f0).toList) a1_0.toList)), zS, H', ⟨by have := HK1.out; first | omega | exact Nat.le_refl _⟩, ⟨kr HO_5⟩, ⟨kb BK101⟩, ⟨zB⟩⟩
      ·rw [if_neg c7] at H
       exact absurd H (by simp)
    case rest =>
     clear HC5
     obtain ⟨kq, x25_4, rfl, HA, HJ4, HO_5, BK101, HB⟩ := hcut
     cases kq with
     | zero => exact absurd HA.out (by simp [weirgateref06_put.j1])
     | succ kj4 =>
      have H := HA.out
      clear HA
      simp only [weirgateref06_put.j1] at H
      by_cases c8 : x25_4 = true
      ·subst c8
       rw [if_pos rfl] at H
       by_cases c9 : x5_1.length < 4398046511104
       ·rw [if_pos c9] at H
        have LMc9 := Aside0.mk c9
        clear c9
        obtain ⟨y106, hy106⟩ : ∃ y_ : List (S66), y_ = (x5_1 ++ [(⟨a1_0, a1_1⟩ : S66)]) := ⟨_, rfl⟩
        replace H : (if 0 ≤ x7_1 then (if x7_1 < (l0.length : Int) then (if ((rd_T66 l0 x7_1).f0).toList = a1_0.toList then (weirgateref06_put.l0 kj4 l0 y106 true (wrap64 (x7_1 + 1)) a1_0 a1_1) else (if y106.length < 4398046511104 then (weirgateref06_put.l0 kj4 l0 (y106 ++ [(⟨(rd_T66 l0 x7_1).f0, (rd_T66 l0 x7_1).f1⟩ : S66)]) true (wrap64 (x7_1 + 1)) a1_0 a1_1) else (none))) else (none)) else (none)) = some r := by first | (rw [hy106]; with_reducible exact H) | (have H2_ := (Option.bind_some _ _).symm.trans H; rw [hy106]; with_reducible exact H2_) | (have H2_ := (Option.bind_some _ _).symm.trans H; with_reducible exact H2_) | with_reducible exact H | (rw [hy106]; exact H) | exact H
        have Ny106 := Aside0.mk hy106
        clear hy106
        by_cases c10 : 0 ≤ x7_1
        ·rw [if_pos c10] at H
         have c10b0 : decide (0 ≤ x7_1) = true := decide_eq_true c10
         clear c10
         by_cases c11 : x7_1 < (l0.length : Int)
         ·rw [if_pos c11] at H
          have c11b0 : decide (x7_1 < (l0.length : Int)) = true := decide_eq_true c11
          clear c11
          by_cases c12 : ((rd_T66 l0 x7_1).f0).toList = a1_0.toList
          ·rw [if_pos c12] at H
           have c12b0 : (((rd_T66 l0 x7_1).f0).toList == a1_0.toList) = true := beq_iff_eq.mpr c12
           have c12b1 : (((rd_T66 l0 x7_1).f0).toList != a1_0.toList) = false := bne_eq_false_iff_eq.mpr c12
           clear c12
           have H' := Aside0.mk H
           clear H
           obtain ⟨hcz13_0, hcz13_1, hfz13_0, hfz13_1⟩ := cf2 BK101
           go_wp2_with (first | ((with_reducible refine gate_builtin (b := .append) (xs := #[.tmp 26, .tmp 28]) rfl ?_); at_builtin; refine Kd.R_append k66 (w0 := w) w.heap.size rfl (.tmp 26) (.tmp 28) 23 66 (.agg #[(.string ⟨#[]⟩), (.string ⟨#[]⟩)]) 32 rfl Tryz.underlying23 info66 rfl (by decide) (by omega) u5 x5_1 (⟨a1_0, a1_1⟩ : S66) [.string a1_0, .string a1_1] (fun k_ => k_ ≠ gb101) (fun _ => False) rfl rfl ?aP (fun _ hk => hk.elim) ?aF ?aO ?aB ?aS ?aL ?_; (case aP => exact k66_mkM _ _ _ (⟨a1_0, a1_1⟩ : S66)); (case aB => exact zB); (case aF => exact (fun k_ hk => Kd.freshB (kb BK101) k_ hk)); (case aO => exact (kr HO_5)); (case aS => exact (below_size zB)); (case aL => have := LMc9.out; omega); intro v107 w14 ho hb hg hat; rw [← Ny106.out] at ho; replace BK101 := Aside0.mk (blk_grown (kb BK101) hg (Kd.R_away HO_5.out (fun _ hk => hk))); replace HB := Aside0.mk (hb); have HO108 := Aside0.mk (ho); clear HO_5 ho hb hg hat; have p109 : 0 ≤ (x7_1 : Int) := of_decide_eq_true za; have q109 : x7_1 < (l0.length : Int) := of_decide_eq_true za; obtain ⟨ad109, e109, hx109_0, hx109_1⟩ := at_T66 HR0.out x7_1 p109 q109; cases e109; replace hx109_0 := (HB.out.cell (World.block_lt_of_cell? w _ hx109_0)).trans hx109_0; replace hx109_1 := (HB.out.cell (World.block_lt_of_cell? w _ hx109_1)).trans hx109_1; replace p109 := eq_true p109; replace q109 := eq_true q109; obtain ⟨hcz15_0, hcz15_1, hfz15_0, hfz15_1⟩ := cf2 BK101))
           repeat (go_quiet (first | ((with_reducible refine gate_builtin (b := .append) (xs := #[.tmp 26, .tmp 28]) rfl ?_); at_builtin; refine Kd.R_append k66 (w0 := w) w.heap.size rfl (.tmp 26) (.tmp 28) 23 66 (.agg #[(.string ⟨#[]⟩), (.string ⟨#[]⟩)]) 32 rfl Tryz.underlying23 info66 rfl (by decide) (by omega) u5 x5_1 (⟨a1_0, a1_1⟩ : S66) [.string a1_0, .string a1_1] (fun k_ => k_ ≠ gb101) (fun _ => False) rfl rfl ?aP (fun _ hk => hk.elim) ?aF ?aO ?aB ?aS ?aL ?_; (case aP => exact k66_mkM _ _ _ (⟨a1_0, a1_1⟩ : S66)); (case aB => exact zB); (case aF => exact (fun k_ hk => Kd.freshB (kb BK101) k_ hk)); (case aO => exact (kr HO_5)); (case aS => exact (below_size zB)); (case aL => have := LMc9.out; omega); intro v107 w14 ho hb hg hat; rw [← Ny106.out] at ho; replace BK101 := Aside0.mk (blk_grown (kb BK101) hg (Kd.R_away HO_5.out (fun _ hk => hk))); replace HB := Aside0.mk (hb); have HO108 := Aside0.mk (ho); clear HO_5 ho hb hg hat; have p109 : 0 ≤ (x7_1 : Int) := of_decide_eq_true za; have q109 : x7_1 < (l0.length : Int) := of_decide_eq_true za; obtain ⟨ad109, e109, hx109_0, hx109_1⟩ := at_T66 HR0.out x7_1 p109 q109; cases e109; replace hx109_0 := (HB.out.cell (World.block_lt_of_cell? w _ hx109_0)).trans hx109_0; replace hx109_1 := (HB.out.cell (World.block_lt_of_cell? w _ hx109_1)).trans hx109_1; replace p109 := eq_true p109; replace q109 := eq_true q109; obtain ⟨hcz15_0, hcz15_1, hfz15_0, hfz15_1⟩ := cf2 BK101)); try go_wp2_with (first | ((with_reducible refine gate_builtin (b := .append) (xs := #[.tmp 26, .tmp 28]) rfl ?_); at_builtin; refine Kd.R_append k66 (w0 := w) w.heap.size rfl (.tmp 26) (.tmp 28) 23 66 (.agg #[(.string ⟨#[]⟩), (.string ⟨#[]⟩)]) 32 rfl Tryz.underlying23 info66 rfl (by decide) (by omega) u5 x5_1 (⟨a1_0, a1_1⟩ : S66) [.string a1_0, .string a1_1] (fun k_ => k_ ≠ gb101) (fun _ => False) rfl rfl ?aP (fun _ hk => hk.elim) ?aF ?aO ?aB ?aS ?aL ?_; (case aP => exact k66_mkM _ _ _ (⟨a1_0, a1_1⟩ : S66)); (case aB => exact zB); (case aF => exact (fun k_ hk => Kd.freshB (kb BK101) k_ hk)); (case aO => exact (kr HO_5)); (case aS => exact (below_size zB)); (case aL => have := LMc9.out; omega); intro v107 w14 ho hb hg hat; rw [← Ny106.out] at ho; replace BK101 := Aside0.mk (blk_grown (kb BK101) hg (Kd.R_away HO_5.out (fun _ hk => hk))); replace HB := Aside0.mk (hb); have HO108 := Aside0.mk (ho); clear HO_5 ho hb hg hat; have p109 : 0 ≤ (x7_1 : Int) := of_decide_eq_true za; have q109 : x7_1 < (l0.length : Int) := of_decide_eq_true za; obtain ⟨ad109, e109, hx109_0, hx109_1⟩ := at_T66 HR0.out x7_1 p109 q109; cases e109; replace hx109_0 := (HB.out.cell (World.block_lt_of_cell? w _ hx109_0)).trans hx109_0; replace hx109_1 := (HB.out.cell (World.block_lt_of_cell? w _ hx109_1)).trans hx109_1; replace p109 := eq_true p109; replace q109 := eq_true q109; obtain ⟨hcz15_0, hcz15_1, hfz15_0, hfz15_1⟩ := cf2 BK101)))
           go_roundg kj4
           case measure => have := HK1.out; have := HJ4.out; omega
           case rel => exact ⟨(y106), (true), (wrap64 (x7_1 + 1)), zS, zS, H', ⟨by have := HK1.out; have := HJ4.out; omega⟩, ⟨kr HO108⟩, ⟨kb BK101⟩, ⟨zB⟩⟩
          ·rw [if_neg c12] at H
           have c12b0 : (((rd_T66 l0 x7_1).f0).toList == a1_0.toList) = false := beq_eq_false_iff_ne.mpr c12
           have c12b1 : (((rd_T66 l0 x7_1).f0).toList != a1_0.toList) = true := bne_iff_ne.mpr c12
           by_cases c13 : y106.length < 4398046511104
           ·rw [if_pos c13] at H
            have LMc13 := Aside0.mk c13
            clear c13
            obtain ⟨y111, hy111⟩ : ∃ y_ : List (S66), y_ = (y106 ++ [(⟨(rd_T66 l0 x7_1).f0, (rd_T66 l0 x7_1).f1⟩ : S66)]) := ⟨_, rfl⟩
            replace H : (weirgateref06_put.l0 kj4 l0 y111 true (wrap64 (x7_1 + 1)) a1_0 a1_1) = some r := by first | (rw [hy111]; with_reducible exact H) | (have H2_ := (Option.bind_some _ _).symm.trans H; rw [hy111]; with_reducible exact H2_) | (have H2_ := (Option.bind_some _ _).symm.trans H; with_reducible exact H2_) | with_reducible exact H | (rw [hy111]; exact H) | exact H
            have Ny111 := Aside0.mk hy111
            clear hy111
            have H' := Aside0.mk H
            clear H
            obtain ⟨hcz14_0, hcz14_1, hfz14_0, hfz14_1⟩ := cf2 BK101
            go_wp2_with (first | ((with_reducible refine gate_builtin (b := .append) (xs := #[.tmp 26, .tmp 28]) rfl ?_); at_builtin; refine Kd.R_append k66 (w0 := w) w.heap.size rfl (.tmp 26) (.tmp 28) 23 66 (.agg #[(.string ⟨#[]⟩), (.string ⟨#[]⟩)]) 32 rfl Tryz.underlying23 info66 rfl (by decide) (by omega) u5 x5_1 (⟨a1_0, a1_1⟩ : S66) [.string a1_0, .string a1_1] (fun k_ => k_ ≠ gb101) (fun _ => False) rfl rfl ?aP (fun _ hk => hk.elim) ?aF ?aO ?aB ?aS ?aL ?_; (case aP => exact k66_mkM _ _ _ (⟨a1_0, a1_1⟩ : S66)); (case aB => exact zB); (case aF => exact (fun k_ hk => Kd.freshB (kb BK101) k_ hk)); (case aO => exact (kr HO_5)); (case aS => exact (below_size zB)); (case aL => have := LMc9.out; omega); intro v107 w15 ho hb hg hat; rw [← Ny106.out] at ho; replace BK101 := Aside0.mk (blk_grown (kb BK101) hg (Kd.R_away HO_5.out (fun _ hk => hk))); replace HB := Aside0.mk (hb); have HO108 := Aside0.mk (ho); clear HO_5 ho hb hg hat; have p109 : 0 ≤ (x7_1 : Int) := of_decide_eq_true za; have q109 : x7_1 < (l0.length : Int) := of_decide_eq_true za; obtain ⟨ad109, e109, hx109_0, hx109_1⟩ := at_T66 HR0.out x7_1 p109 q109; cases e109; replace hx109_0 := (HB.out.cell (World.block_lt_of_cell? w _ hx109_0)).trans hx109_0; replace hx109_1 := (HB.out.cell (World.block_lt_of_cell? w _ hx109_1)).trans hx109_1; replace p109 := eq_true p109; replace q109 := eq_true q109; obtain ⟨hcz16_0, hcz16_1, hfz16_0, hfz16_1⟩ := cf2 BK101; have p110 : 0 ≤ (x7_1 : Int) := of_decide_eq_true za; have q110 : x7_1 < (l0.length : Int) := of_decide_eq_true za; obtain ⟨ad110, e110, hx110_0, hx110_1⟩ := at_T66 HR0.out x7_1 p110 q110; obtain rfl : ad109 = ad110 := (by injection e110); replace hx110_0 := (HB.out.cell (World.block_lt_of_cell? w _ hx110_0)).trans hx110_0; replace hx110_1 := (HB.out.cell (World.block_lt_of_cell? w _ hx110_1)).trans hx110_1; replace p110 := eq_true p110; replace q110 := eq_true q110) | ((with_reducible refine gate_builtin (b := .append) (xs := #[.tmp 38, .tmp 43]) rfl ?_); at_builtin; refine Kd.R_append k66 (w0 := w) w.heap.size rfl (.tmp 38) (.tmp 43) 23 66 (.agg #[(.string ⟨#[]⟩), (.string ⟨#[]⟩)]) 32 rfl Tryz.underlying23 info66 rfl (by decide) (by omega) v107 y106 (⟨(rd_T66 l0 x7_1).f0, (rd_T66 l0 x7_1).f1⟩ : S66) [.string ((rd_T66 l0 x7_1).f0), .string ((rd_T66 l0 x7_1).f1)] (fun k_ => k_ ≠ gb101) (fun _ => False) rfl rfl ?aP (fun _ hk => hk.elim) ?aF ?aO ?aB ?aS ?aL ?_; (case aP => exact k66_mkM _ _ _ (⟨(rd_T66 l0 x7_1).f0, (rd_T66 l0 x7_1).f1⟩ : S66)); (case aB => exact zB); (case aF => exact (fun k_ hk => Kd.freshB (kb BK101) k_ hk)); (case aO => exact (kr HO108)); (case aS => exact (below_size zB)); (case aL => have := LMc13.out; omega); intro v112 w17 ho hb hg hat; rw [← Ny111.out] at ho; replace BK101 := Aside0.mk (blk_grown (kb BK101) hg (Kd.R_away HO108.out (fun _ hk => hk))); replace HB := Aside0.mk (hb); have HO113 := Aside0.mk (ho); clear HO108 ho hb hg hat))
            repeat (go_quiet (first | ((with_reducible refine gate_builtin (b := .append) (xs := #[.tmp 26, .tmp 28]) rfl ?_); at_builtin; refine Kd.R_append k66 (w0 := w) w.heap.size rfl (.tmp 26) (.tmp 28) 23 66 (.agg #[(.string ⟨#[]⟩), (.string ⟨#[]⟩)]) 32 rfl Tryz.underlying23 info66 rfl (by decide) (by omega) u5 x5_1 (⟨a1_0, a1_1⟩ : S66) [.string a1_0, .string a1_1] (fun k_ => k_ ≠ gb101) (fun _ => False) rfl rfl ?aP (fun _ hk => hk.elim) ?aF ?aO ?aB ?aS ?aL ?_; (case aP => exact k66_mkM _ _ _ (⟨a1_0, a1_1⟩ : S66)); (case aB => exact zB); (case aF => exact (fun k_ hk => Kd.freshB (kb BK101) k_ hk)); (case aO => exact (kr HO_5)); (case aS => exact (below_size zB)); (case aL => have := LMc9.out; omega); intro v107 w15 ho hb hg hat; rw [← Ny106.out] at ho; replace BK101 := Aside0.mk (blk_grown (kb BK101) hg (Kd.R_away HO_5.out (fun _ hk => hk))); replace HB := Aside0.mk (hb); have HO108 := Aside0.mk (ho); clear HO_5 ho hb hg hat; have p109 : 0 ≤ (x7_1 : Int) := of_decide_eq_true za; have q109 : x7_1 < (l0.length : Int) := of_decide_eq_true za; obtain ⟨ad109, e109, hx109_0, hx109_1⟩ := at_T66 HR0.out x7_1 p109 q109; cases e109; replace hx109_0 := (HB.out.cell (World.block_lt_of_cell? w _ hx109_0)).trans hx109_0; replace hx109_1 := (HB.out.cell (World.block_lt_of_cell? w _ hx109_1)).trans hx109_1; replace p109 := eq_true p109; replace q109 := eq_true q109; obtain ⟨hcz16_0, hcz16_1, hfz16_0, hfz16_1⟩ := cf2 BK101; have p110 : 0 ≤ (x7_1 : Int) := of_decide_eq_true za; have q110 : x7_1 < (l0.length : Int) := of_decide_eq_true za; obtain ⟨ad110, e110, hx110_0, hx110_1⟩ := at_T66 HR0.out x7_1 p110 q110; obtain rfl : ad109 = ad110 := (by injection e110); replace hx110_0 := (HB.out.cell (World.block_lt_of_cell? w _ hx110_0)).trans hx110_0; replace hx110_1 := (HB.out.cell (World.block_lt_of_cell? w _ hx110_1)).trans hx110_1; replace p110 := eq_true p110; replace q110 := eq_true q110) | ((with_reducible refine gate_builtin (b := .append) (xs := #[.tmp 38, .tmp 43]) rfl ?_); at_builtin; refine Kd.R_append k66 (w0 := w) w.heap.size rfl (.tmp 38) (.tmp 43) 23 66 (.agg #[(.string ⟨#[]⟩), (.string ⟨#[]⟩)]) 32 rfl Tryz.underlying23 info66 rfl (by decide) (by omega) v107 y106 (⟨(rd_T66 l0 x7_1).f0, (rd_T66 l0 x7_1).f1⟩ : S66) [.string ((rd_T66 l0 x7_1).f0), .string ((rd_T66 l0 x7_1).f1)] (fun k_ => k_ ≠ gb101) (fun _ => False) rfl rfl ?aP (fun _ hk => hk.elim) ?aF ?aO ?aB ?aS ?aL ?_; (case aP => exact k66_mkM _ _ _ (⟨(rd_T66 l0 x7_1).f0, (rd_T66 l0 x7_1).f1⟩ : S66)); (case aB => exact zB); (case aF => exact (fun k_ hk => Kd.freshB (kb BK101) k_ hk)); (case aO => exact (kr HO108)); (case aS => exact (below_size zB)); (case aL => have := LMc13.out; omega); intro v112 w17 ho hb hg hat; rw [← Ny111.out] at ho; replace BK101 := Aside0.mk (blk_grown (kb BK101) hg (Kd.R_away HO108.out (fun _ hk => hk))); replace HB := Aside0.mk (hb); have HO113 := Aside0.mk (ho); clear HO108 ho hb hg hat)); try go_wp2_with (first | ((with_reducible refine gate_builtin (b := .append) (xs := #[.tmp 26, .tmp 28]) rfl ?_); at_builtin; refine Kd.R_append k66 (w0 := w) w.heap.size rfl (.tmp 26) (.tmp 28) 23 66 (.agg #[(.string ⟨#[]⟩), (.string ⟨#[]⟩)]) 32 rfl Tryz.underlying23 info66 rfl (by decide) (by omega) u5 x5_1 (⟨a1_0, a1_1⟩ : S66) [.string a1_0, .string a1_1] (fun k_ => k_ ≠ gb101) (fun _ => False) rfl rfl ?aP (fun _ hk => hk.elim) ?aF ?aO ?aB ?aS ?aL ?_; (case aP => exact k66_mkM _ _ _ (⟨a1_0, a1_1⟩ : S66)); (case aB => exact zB); (case aF => exact (fun k_ hk => Kd.freshB (kb BK101) k_ hk)); (case aO => exact (kr HO_5)); (case aS => exact (below_size zB)); (case aL => have := LMc9.out; omega); intro v107 w15 ho hb hg hat; rw [← Ny106.out] at ho; replace BK101 := Aside0.mk (blk_grown (kb BK101) hg (Kd.R_away HO_5.out (fun _ hk => hk))); replace HB := Aside0.mk (hb); have HO108 := Aside0.mk (ho); clear HO_5 ho hb hg hat; have p109 : 0 ≤ (x7_1 : Int) := of_decide_eq_true za; have q109 : x7_1 < (l0.length : Int) := of_decide_eq_true za; obtain ⟨ad109, e109, hx109_0, hx109_1⟩ := at_T66 HR0.out x7_1 p109 q109; cases e109; replace hx109_0 := (HB.out.cell (World.block_lt_of_cell? w _ hx109_0)).trans hx109_0; replace hx109_1 := (HB.out.cell (World.block_lt_of_cell? w _ hx109_1)).trans hx109_1; replace p109 := eq_true p109; replace q109 := eq_true q109; obtain ⟨hcz16_0, hcz16_1, hfz16_0, hfz16_1⟩ := cf2 BK101; have p110 : 0 ≤ (x7_1 : Int) := of_decide_eq_true za; have q110 : x7_1 < (l0.length : Int) := of_decide_eq_true za; obtain ⟨ad110, e110, hx110_0, hx110_1⟩ := at_T66 HR0.out x7_1 p110 q110; obtain rfl : ad109 = ad110 := (by injection e110); replace hx110_0 := (HB.out.cell (World.block_lt_of_cell? w _ hx110_0)).trans hx110_0; replace hx110_1 := (HB.out.cell (World.block_lt_of_cell? w _ hx110_1)).trans hx110_1; replace p110 := eq_true p110; replace q110 := eq_true q110) | ((with_reducible refine gate_builtin (b := .append) (xs := #[.tmp 38, .tmp 43]) rfl ?_); at_builtin; refine Kd.R_append k66 (w0 := w) w.heap.size rfl (.tmp 38) (.tmp 43) 23 66 (.agg #[(.string ⟨#[]⟩), (.string ⟨#[]⟩)]) 32 rfl Tryz.underlying23 info66 rfl (by decide) (by omega) v107 y106 (⟨(rd_T66 l0 x7_1).f0, (rd_T66 l0 x7_1).f1⟩ : S66) [.string ((rd_T66 l0 x7_1).f0), .string ((rd_T66 l0 x7_1).f1)] (fun k_ => k_ ≠ gb101) (fun _ => False) rfl rfl ?aP (fun _ hk => hk.elim) ?aF ?aO ?aB ?aS ?aL ?_; (case aP => exact k66_mkM _ _ _ (⟨(rd_T66 l0 x7_1).f0, (rd_T66 l0 x7_1).f1⟩ : S66)); (case aB => exact zB); (case aF => exact (fun k_ hk => Kd.freshB (kb BK101) k_ hk)); (case aO => exact (kr HO108)); (case aS => exact (below_size zB)); (case aL => have := LMc13.out; omega); intro v112 w17 ho hb hg hat; rw [← Ny111.out] at ho; replace BK101 := Aside0.mk (blk_grown (kb BK101) hg (Kd.R_away HO108.out (fun _ hk => hk))); replace HB := Aside0.mk (hb); have HO113 := Aside0.mk (ho); clear HO108 ho hb hg hat)))
            go_roundg kj4
            case measure => have := HK1.out; have := HJ4.out; omega
            case rel => exact ⟨(y111), (true), (wrap64 (x7_1 + 1)), zS, zS, H', ⟨by have := HK1.out; have := HJ4.out; omega⟩, ⟨kr HO113⟩, ⟨kb BK101⟩, ⟨zB⟩⟩
           ·rw [if_neg c13] at H
            exact absurd H (by simp)
         ·rw [if_neg c11] at H
          exact absurd H (by simp)
        ·rw [if_neg c10] at H
         exact absurd H (by simp)
       ·rw [if_neg c9] at H
        exact absurd H (by simp)
      ·replace c8 := Bool.eq_false_iff.mpr c8
       subst c8
       rw [if_neg Bool.false_ne_true] at H
       by_cases c9 : 0 ≤ x7_1
       ·rw [if_pos c9] at H
        have c9b0 : decide (0 ≤ x7_1) = true := decide_eq_true c9
        clear c9
        by_cases c10 : x7_1 < (l0.length : Int)
        ·rw [if_pos c10] at H
         have c10b0 : decide (x7_1 < (l0.length : Int)) = true := decide_eq_true c10
         clear c10
         by_cases c11 : ((rd_T66 l0 x7_1).f0).toList = a1_0.toList
         ·rw [if_pos c11] at H
          have c11b0 : (((rd_T66 l0 x7_1).f0).toList == a1_0.toList) = true := beq_iff_eq.mpr c11
          have c11b1 : (((rd_T66 l0 x7_1).f0).toList != a1_0.toList) = false := bne_eq_false_iff_eq.mpr c11
          clear c11
          have H' := Aside0.mk H
          clear H
          have p114 : 0 ≤ (x7_1 : Int) := of_decide_eq_true za
          have q114 : x7_1 < (l0.length : Int) := of_decide_eq_true za
          obtain ⟨ad114, e114, hx114_0, hx114_1⟩ := at_T66 HR0.out x7_1 p114 q114
          cases e114
          replace hx114_0 := (HB.out.cell (World.block_lt_of_cell? w _ hx114_0)).trans hx114_0
          replace hx114_1 := (HB.out.cell (World.block_lt_of_cell? w _ hx114_1)).trans hx114_1
          replace p114 := eq_true p114
          replace q114 := eq_true q114
          obtain ⟨hcz12_0, hcz12_1, hfz12_0, hfz12_1⟩ := cf2 BK101
          go_wp2
          repeat (go_quiet (fail); try go_wp2)
          go_roundg kj4
          case measure => have := HK1.out; have := HJ4.out; omega
          case rel => exact ⟨(x5_1), (x6_1), (wrap64 (x7_1 + 1)), zS, zS, H', ⟨by have := HK1.out; have := HJ4.out; omega⟩, ⟨kr HO_5⟩, ⟨kb BK101⟩, ⟨zB⟩⟩
         ·rw [if_neg c11] at H
          have c11b0 : (((rd_T66 l0 x7_1).f0).toList == a1_0.toList) = false := beq_eq_false_iff_ne.mpr c11
          have c11b1 : (((rd_T66 l0 x7_1).f0).toList != a1_0.toList) = true := bne_iff_ne.mpr c11
          by_cases c12 : x5_1.length < 4398046511104
          ·rw [if_pos c12] at H
           have LMc12 := Aside0.mk c12
           clear c12
           obtain ⟨y116, hy116⟩ : ∃ y_ : List (S66), y_ = (x5_1 ++ [(⟨(rd_T66 l0 x7_1).f0, (rd_T66 l0 x7_1).f1⟩ : S66)]) := ⟨_, rfl⟩
           replace H : (weirgateref06_put.l0 kj4 l0 y116 x6_1 (wrap64 (x7_1 + 1)) a1_0 a1_1) = some r := by first | (rw [hy116]; with_reducible exact H) | (have H2_ := (Option.bind_some _ _).symm.trans H; rw [hy116]; with_reducible exact H2_) | (have H2_ := (Option.bind_some _ _).symm.trans H; with_reducible exact H2_) | with_reducible exact H | (rw [hy116]; exact H) | exact H
           have Ny116 := Aside0.mk hy116
           clear hy116
           have H' := Aside0.mk H
           clear H
           have p114 : 0 ≤ (x7_1 : Int) := of_decide_eq_true za
           have q114 : x7_1 < (l0.length : Int) := of_decide_eq_true za
           obtain ⟨ad114, e114, hx114_0, hx114_1⟩ := at_T66 HR0.out x7_1 p114 q114
           cases e114
           replace hx114_0 := (HB.out.cell (World.block_lt_of_cell? w _ hx114_0)).trans hx114_0
           replace hx114_1 := (HB.out.cell (World.block_lt_of_cell? w _ hx114_1)).trans hx114_1
           replace p114 := eq_true p114
           replace q114 := eq_true q114
           obtain ⟨hcz13_0, hcz13_1, hfz13_0, hfz13_1⟩ := cf2 BK101
           have p115 : 0 ≤ (x7_1 : Int) := of_decide_eq_true za
           have q115 : x7_1 < (l0.length : Int) := of_decide_eq_true za
           obtain ⟨ad115, e115, hx115_0, hx115_1⟩ := at_T66 HR0.out x7_1 p115 q115
           obtain rfl : ad114 = ad115 := (by injection e115)
           replace hx115_0 := (HB.out.cell (World.block_lt_of_cell? w _ hx115_0)).trans hx115_0
           replace hx115_1 := (HB.out.cell (World.block_lt_of_cell? w _ hx115_1)).trans hx115_1
           replace p115 := eq_true p115
           replace q115 := eq_true q115
           go_wp2_with (first | ((with_reducible refine gate_builtin (b := .append) (xs := #[.tmp 38, .tmp 43]) rfl ?_); at_builtin; refine Kd.R_append k66 (w0 := w) w.heap.size rfl (.tmp 38) (.tmp 43) 23 66 (.agg #[(.string ⟨#[]⟩), (.string ⟨#[]⟩)]) 32 rfl Tryz.underlying23 info66 rfl (by decide) (by omega) u5 x5_1 (⟨(rd_T66 l0 x7_1).f0, (rd_T66 l0 x7_1).f1⟩ : S66) [.string ((rd_T66 l0 x7_1).f0), .string ((rd_T66 l0 x7_1).f1)] (fun k_ => k_ ≠ gb101) (fun _ => False) rfl rfl ?aP (fun _ hk => hk.elim) ?aF ?aO ?aB ?aS ?aL ?_; (case aP => exact k66_mkM _ _ _ (⟨(rd_T66 l0 x7_1).f0, (rd_T66 l0 x7_1).f1⟩ : S66)); (case aB => exact zB); (case aF => exact (fun k_ hk => Kd.freshB (kb BK101) k_ hk)); (case aO => exact (kr HO_5)); (case aS => exact (below_size zB)); (case aL => have := LMc12.out; omega); intro v117 w14 ho hb hg hat; rw [← Ny116.out] at ho; replace BK101 := Aside0.mk (blk_grown (kb BK101) hg (Kd.R_away HO_5.out (fun _ hk => hk))); replace HB := Aside0.mk (hb); have HO118 := Aside0.mk (ho); clear HO_5 ho hb hg hat))
           repeat (go_quiet (first | ((with_reducible refine gate_builtin (b := .append) (xs := #[.tmp 38, .tmp 43]) rfl ?_); at_builtin; refine Kd.R_append k66 (w0 := w) w.heap.size rfl (.tmp 38) (.tmp 43) 23 66 (.agg #[(.string ⟨#[]⟩), (.string ⟨#[]⟩)]) 32 rfl Tryz.underlying23 info66 rfl (by decide) (by omega) u5 x5_1 (⟨(rd_T66 l0 x7_1).f0, (rd_T66 l0 x7_1).f1⟩ : S66) [.string ((rd_T66 l0 x7_1).f0), .string ((rd_T66 l0 x7_1).f1)] (fun k_ => k_ ≠ gb101) (fun _ => False) rfl rfl ?aP (fun _ hk => hk.elim) ?aF ?aO ?aB ?aS ?aL ?_; (case aP => exact k66_mkM _ _ _ (⟨(rd_T66 l0 x7_1).f0, (rd_T66 l0 x7_1).f1⟩ : S66)); (case aB => exact zB); (case aF => exact (fun k_ hk => Kd.freshB (kb BK101) k_ hk)); (case aO => exact (kr HO_5)); (case aS => exact (below_size zB)); (case aL => have := LMc12.out; omega); intro v117 w14 ho hb hg hat; rw [← Ny116.out] at ho; replace BK101 := Aside0.mk (blk_grown (kb BK101) hg (Kd.R_away HO_5.out (fun _ hk => hk))); replace HB := Aside0.mk (hb); have HO118 := Aside0.mk (ho); clear HO_5 ho hb hg hat)); try go_wp2_with (first | ((with_reducible refine gate_builtin (b := .append) (xs := #[.tmp 38, .tmp 43]) rfl ?_); at_builtin; refine Kd.R_append k66 (w0 := w) w.heap.size rfl (.tmp 38) (.tmp 43) 23 66 (.agg #[(.string ⟨#[]⟩), (.string ⟨#[]⟩)]) 32 rfl Tryz.underlying23 info66 rfl (by decide) (by omega) u5 x5_1 (⟨(rd_T66 l0 x7_1).f0, (rd_T66 l0 x7_1).f1⟩ : S66) [.string ((rd_T66 l0 x7_1).f0), .string ((rd_T66 l0 x7_1).f1)] (fun k_ => k_ ≠ gb101) (fun _ => False) rfl rfl ?aP (fun _ hk => hk.elim) ?aF ?aO ?aB ?aS ?aL ?_; (case aP => exact k66_mkM _ _ _ (⟨(rd_T66 l0 x7_1).f0, (rd_T66 l0 x7_1).f1⟩ : S66)); (case aB => exact zB); (case aF => exact (fun k_ hk => Kd.freshB (kb BK101) k_ hk)); (case aO => exact (kr HO_5)); (case aS => exact (below_size zB)); (case aL => have := LMc12.out; omega); intro v117 w14 ho hb hg hat; rw [← Ny116.out] at ho; replace BK101 := Aside0.mk (blk_grown (kb BK101) hg (Kd.R_away HO_5.out (fun _ hk => hk))); replace HB := Aside0.mk (hb); have HO118 := Aside0.mk (ho); clear HO_5 ho hb hg hat)))
           go_roundg kj4
           case measure => have := HK1.out; have := HJ4.out; omega
           case rel => exact ⟨(y116), (x6_1), (wrap64 (x7_1 + 1)), zS, zS, H', ⟨by have := HK1.out; have := HJ4.out; omega⟩, ⟨kr HO118⟩, ⟨kb BK101⟩, ⟨zB⟩⟩
          ·rw [if_neg c12] at H
           exact absurd H (by simp)
        ·rw [if_neg c10] at H
         exact absurd H (by simp)
       ·rw [if_neg c9] at H
        exact absurd H (by simp)
   ·rw [if_neg c4] at H
    have c4b0 : decide (x7_1 < (l0.length : Int)) = false := decide_eq_false c4
    clear c4
    by_cases c5 : x6_1 = true
    ·subst c5
     rw [if_pos rfl] at H
     obtain rfl := Option.some.inj H
     go_wp2
     repeat (go_quiet (fail); try go_wp2)
     go_ret
     exact ⟨_, zE, by (with_reducible repeat (first | apply Kd.R_alloc | apply Kd.R_drewN | apply Kd.R_drew)); exact Kd.R_mono HO_5.out (fun _ hk => trivial), zB⟩
    ·replace c5 := Bool.eq_false_iff.mpr c5
     subst c5
     rw [if_neg Bool.false_ne_true] at H
     by_cases c6 : x5_1.length < 4398046511104
     ·rw [if_pos c6] at H
      have LMc6 := Aside0.mk c6
      clear c6
      obtain ⟨y102, hy102⟩ : ∃ y_ : List (S66), y_ = (x5_1 ++ [(⟨a1_0, a1_1⟩ : S66)]) := ⟨_, rfl⟩
      replace H : (some y102) = some r := by first | (rw [hy102]; with_reducible exact H) | (have H2_ := (Option.bind_some _ _).symm.trans H; rw [hy102]; with_reducible exact H2_) | (have H2_ := (Option.bind_some _ _).symm.trans H; with_reducible exact H2_) | with_reducible exact H | (rw [hy102]; exact H) | exact H
      have Ny102 := Aside0.mk hy102
      clear hy102
      obtain rfl := Option.some.inj H
      obtain ⟨hcz7_0, hcz7_1, hfz7_0, hfz7_1⟩ := cf2 BK101
      go_wp2_with (first | ((with_reducible refine gate_builtin (b := .append) (xs := #[.tmp 47, .tmp 49]) rfl ?_); at_builtin; refine Kd.R_append k66 (w0 := w) w.heap.size rfl (.tmp 47) (.tmp 49) 23 66 (.agg #[(.string ⟨#[]⟩), (.string ⟨#[]⟩)]) 32 rfl Tryz.underlying23 info66 rfl (by decide) (by omega) u5 x5_1 (⟨a1_0, a1_1⟩ : S66) [.string a1_0, .string a1_1] (fun k_ => k_ ≠ gb101) (fun _ => False) rfl rfl ?aP (fun _ hk => hk.elim) ?aF ?aO ?aB ?aS ?aL ?_; (case aP => exact k66_mkM _ _ _ (⟨a1_0, a1_1⟩ : S66)); (case aB => exact zB); (case aF => exact (fun k_ hk => Kd.freshB (kb BK101) k_ hk)); (case aO => exact (kr HO_5)); (case aS => exact (below_size zB)); (case aL => have := LMc6.out; omega); intro v103 w8 ho hb hg hat; rw [← Ny102.out] at ho; replace BK101 := Aside0.mk (blk_grown (kb BK101) hg (Kd.R_away HO_5.out (fun _ hk => hk))); replace HB := Aside0.mk (hb); have HO104 := Aside0.mk (ho); clear HO_5 ho hb hg hat))
      repeat (go_quiet (first | ((with_reducible refine gate_builtin (b := .append) (xs := #[.tmp 47, .tmp 49]) rfl ?_); at_builtin; refine Kd.R_append k66 (w0 := w) w.heap.size rfl (.tmp 47) (.tmp 49) 23 66 (.agg #[(.string ⟨#[]⟩), (.string ⟨#[]⟩)]) 32 rfl Tryz.underlying23 info66 rfl (by decide) (by omega) u5 x5_1 (⟨a1_0, a1_1⟩ : S66) [.string a1_0, .string a1_1] (fun k_ => k_ ≠ gb101) (fun _ => False) rfl rfl ?aP (fun _ hk => hk.elim) ?aF ?aO ?aB ?aS ?aL ?_; (case aP => exact k66_mkM _ _ _ (⟨a1_0, a1_1⟩ : S66)); (case aB => exact zB); (case aF => exact (fun k_ hk => Kd.freshB (kb BK101) k_ hk)); (case aO => exact (kr HO_5)); (case aS => exact (below_size zB)); (case aL => have := LMc6.out; omega); intro v103 w8 ho hb hg hat; rw [← Ny102.out] at ho; replace BK101 := Aside0.mk (blk_grown (kb BK101) hg (Kd.R_away HO_5.out (fun _ hk => hk))); replace HB := Aside0.mk (hb); have HO104 := Aside0.mk (ho); clear HO_5 ho hb hg hat)); try go_wp2_with (first | ((with_reducible refine gate_builtin (b := .append) (xs := #[.tmp 47, .tmp 49]) rfl ?_); at_builtin; refine Kd.R_append k66 (w0 := w) w.heap.size rfl (.tmp 47) (.tmp 49) 23 66 (.agg #[(.string ⟨#[]⟩), (.string ⟨#[]⟩)]) 32 rfl Tryz.underlying23 info66 rfl (by decide) (by omega) u5 x5_1 (⟨a1_0, a1_1⟩ : S66) [.string a1_0, .string a1_1] (fun k_ => k_ ≠ gb101) (fun _ => False) rfl rfl ?aP (fun _ hk => hk.elim) ?aF ?aO ?aB ?aS ?aL ?_; (case aP => exact k66_mkM _ _ _ (⟨a1_0, a1_1⟩ : S66)); (case aB => exact zB); (case aF => exact (fun k_ hk => Kd.freshB (kb BK101) k_ hk)); (case aO => exact (kr HO_5)); (case aS => exact (below_size zB)); (case aL => have := LMc6.out; omega); intro v103 w8 ho hb hg hat; rw [← Ny102.out] at ho; replace BK101 := Aside0.mk (blk_grown (kb BK101) hg (Kd.R_away HO_5.out (fun _ hk => hk))); replace HB := Aside0.mk (hb); have HO104 := Aside0.mk (ho); clear HO_5 ho hb hg hat)))
      go_ret
      exact ⟨_, zE, by (with_reducible repeat (first | apply Kd.R_alloc | apply Kd.R_drewN | apply Kd.R_drew)); exact Kd.R_mono HO104.out (fun _ hk => trivial), zB⟩
     ·rw [if_neg c6] at H
      exact absurd H (by simp)
end Go.Proofs.YtmokgpepeddopaaGreatDoor.P
end
section
namespace Go.Proofs.YtmokgpepeddopaaGreatDoor.P
open Go.RowKit Go.Proofs.YtmokgpepeddopaaGreatDoorW.PrintWords Go.Proofs.YtmokgpepeddopaaGreatDoorW.PrintLast Go.Proofs.YtmokgpepeddopaaGreatDoorW.PrintMore
attribute [local go_sem] max2_int min2_int max_two min_two max_three min_three max_four min_four
attribute [local go_sem high] binOp_string_leq2 binOp_string_gtr2
set_option linter.unusedVariables false
set_option linter.unusedSimpArgs false
def weirgateref06_query.l0 : Nat → List (S66) → List ByteArray → Int → Option ((List (S66)) × Bool)
 | 0, _, _, _ => none
 | k + 1, x4, x5, x6 => if x6 < (x5.length : Int) then (if 0 ≤ x6 then ((weirgateref06_cut.f k (rdOf ByteArray.empty x5 x6) 61).bind fun bt105 => (if bt105.2.2 = true then ((weirgateref06_Name.f k bt105.1).bind fun t108 => (if t108 = true then ((weirgateref06_Word.f k bt105.2.1).bind fun t109 => (if t109 = true then ((weirgateref06_put.f k x4 bt105.1 bt105.2.1).bind fun t110 => (weirgateref06_query.l0 k t110 x5 (wrap64 (x6 + 1)))) else (some (([] : List (S66)), false)))) else (some (([] : List (S66)), false)))) else (some (([] : List (S66)), false)))) else (none)) else (some (x4, true))
def weirgateref06_query.f (k : Nat) (a0 : ByteArray) : Option ((List (S66)) × Bool) := if a0.toList = ([] : List UInt8) then (some (([] : List (S66)), true)) else ((weirgateref06_split.f k a0 38).bind fun t101 => (weirgateref06_query.l0 k ([] : List (S66)) t101 0))
set_option maxRecDepth 100000 in
theorem weirgateref06_query.lf {p : Prop} (h : p := by
 go_wp2_with (first
 | ((with_reducible refine gate_callee (f := 50) rfl ?_); refine goesL_ (some 26) rfl rfl Tryz.func50 (by kernel_rfl) rfl #[.string (rdOf ByteArray.empty t101 x6_1), .int .u8 61] rfl zl ?_; (with_reducible refine (weirgateref06_cut.calls _ _ _ _ _ _ _ A7.out).mono ?_); rintro e w' ⟨rfl, ⟨nd, rfl⟩⟩; refine ⟨_, rfl, ?_⟩)
 | (go_at_call 53; (with_reducible refine (weirgateref06_Name.calls _ _ _ _ A9.out).mono ?_); rintro e w' ⟨rfl, ⟨nd, rfl⟩⟩)
 | (go_at_call 95; (with_reducible refine (weirgateref06_Word.calls _ _ _ _ A11.out).mono ?_); rintro e w' ⟨rfl, ⟨nd, rfl⟩⟩))
 go_ret2; exact ⟨_, zE, by first | exact Kd.R_nil _ _ _ _ _ | exact Kd.N_nil _ _ _ _ _ | exact Kd.V_nil _ _ _ _ _ | exact Kd.Q_nil _ _ _ _ _ | exact Kd.S_nil _ _ _ _ _, zB⟩) : p := h
set_option maxHeartbeats 8000000 in
set_option maxRecDepth 100000 in
theorem weirgateref06_query.calls (k : Nat) (a0 : ByteArray) (r1 : List (S66)) (r2 : Bool) (w : World) (h : weirgateref06_query.f k a0 = some (r1, r2)) :
  Calls Tryz.prog 55 #[.string a0] w fun e w' => ∃ v0_ : Value, e = .returned (.tuple #[v0_, .bool r2]) ∧ Kd.R k66 66 w' w.heap.size (fun _ => True) v0_ r1 ∧ Below w.heap.size w w' := by
 have hu66 := Tryz.underlying66
 have HB := Aside0.mk (Below.refl w.heap.size w)
 have H : (if a0.toList = ([] : List UInt8) then (some (([] : List (S66)), true)) else ((weirgateref06_split.f k a0 38).bind fun t101 => (weirgateref06_query.l0 k ([] : List (S66)) t101 0))) = some (r1, r2) := h
 clear h
 by_cases c2 : a0.toList = ([] : List UInt8)
 ·rw [if_pos c2] at H
  have c2b0 : (a0.toList == ([] : List UInt8)) = true := beq_iff_eq.mpr c2
  have c2b1 : (a0.toList != ([] : List UInt8)) = false := bne_eq_false_iff_eq.mpr c2
  clear c2
  simp only [Option.some.injEq, Prod.mk.injEq] at H
  obtain ⟨rfl, rfl⟩ := H
  go_enter Tryz.func55, Tryz.ntmps55
  go_wp2
  go_ret2
  exact ⟨_, zE, by first | exact Kd.R_nil _ _ _ _ _ | exact Kd.N_nil _ _ _ _ _ | exact Kd.V_nil _ _ _ _ _ | exact Kd.Q_nil _ _ _ _ _ | exact Kd.S_nil _ _ _ _ _, zB⟩
 ·rw [if_neg c2] at H
  have c2b0 : (a0.toList == ([] : List UInt8)) = false := beq_eq_false_iff_ne.mpr c2
  have c2b1 : (a0.toList != ([] : List UInt8)) = true := bne_iff_ne.mpr c2
  obtain ⟨t101, A3, H⟩ := bd H
  have H' := Aside0.mk H
  clear H
  go_enter Tryz.func55, Tryz.ntmps55
  go_wp2_with (first | ((with_reducible refine gate_callee (f := 52) rfl ?_); refine goesL_ (some 14) rfl rfl Tryz.func52 (by kernel_rfl) rfl #[.string a0, .int .u8 38] rfl zl ?_; (with_reducible refine (weirgateref06_split.calls k a0 38 t101 _ A3.out).mono ?_); rintro e w4 ⟨v102, rfl, ho0, hb⟩; refine ⟨_, rfl, ?_⟩; have HO103 := Aside0.mk (Kd.R_lower ho0 (below_size zB)); replace HB := sb w hb; clear hb ho0))
  go_loopg [4, 6] k (fun kq v4 v6 w' => ∃ (x4_1 : List (S66)) (x6_1 : Int), v6 = .int .i64 x6_1 ∧ Aside0 (weirgateref06_query.l0 kq x4_1 t101 x6_1 = some (r1, r2)) ∧ Aside0 (kq ≤ k) ∧ Aside0 (Kd.R k66 66 w' w.heap.size (fun _ => True) v4 x4_1) ∧ Aside0 (Kd.R Kd.string 9 w' w.heap.size (fun _ => True) v102 t101) ∧ Aside0 (Below w.heap.size w w'))
  case atStart => exact ⟨(([] : List (S66))), (0), zS, H', ⟨Nat.le_refl _⟩, ⟨by first | exact Kd.R_nil _ _ _ _ _ | exact Kd.N_nil _ _ _ _ _ | exact Kd.V_nil _ _ _ _ _ | exact Kd.Q_nil _ _ _ _ _ | exact Kd.S_nil _ _ _ _ _⟩, ⟨kr HO103⟩, ⟨zB⟩⟩
  case round =>
   clear H'
   obtain ⟨x4_1, x6_1, rfl, HA, HK1, HO_4, HO_5, HB⟩ := hrel
   cases gk with
   | zero => exact absurd HA.out (by simp [weirgateref06_query.l0])
   | succ k1 =>
    have H := HA.out
    clear HA
    simp only [weirgateref06_query.l0] at H
    by_cases c5 : x6_1 < (t101.length : Int)
    ·rw [if_pos c5] at H
     have c5b0 : decide (x6_1 < (t101.length : Int)) = true := decide_eq_true c5
     clear c5
     by_cases c6 : 0 ≤ x6_1
     ·rw [if_pos c6] at H
      have c6b0 : decide (0 ≤ x6_1) = true := decide_eq_true c6
      clear c6
      obtain ⟨⟨t105, t106, t107⟩, A7, H⟩ := bd H
      dsimp only at H
      by_cases c8 : t107 = true
      ·subst c8
       rw [if_pos rfl] at H
       obtain ⟨t108, A9, H⟩ := bd H
       by_cases c10 : t108 = true
       ·subst c10
        rw [if_pos rfl] at H
        obtain ⟨t109, A11, H⟩ := bd H
        by_cases c12 : t109 = true
        ·subst c12
         rw [if_pos rfl] at H
         obtain ⟨t110, A13, H⟩ := bd H
         have H' := Aside0.mk H
         clear H
         obtain ⟨Ao14, co14, eo14⟩ := Kd.R_slice HO_5.out
         subst eo14
         have p104 : 0 ≤ (x6_1 : Int) := of_decide_eq_true za
         have q104 : x6_1 < (t101.length : Int) := of_decide_eq_true za
         obtain ⟨ad104, e104, hx104_0⟩ := Kd.at_string (Kd.R_reads' HO_5.out).2.2 x6_1 p104 q104
         cases e104
         replace p104 := eq_true p104
         replace q104 := eq_true q104
         go_wp2_with (first | ((with_reducible refine gate_callee (f := 50) rfl ?_); refine goesL_ (some 26) rfl rfl Tryz.func50 (by kernel_rfl) rfl #[.string (rdOf ByteArray.empty t101 x6_1), .int .u8 61] rfl zl ?_; (with_reducible refine (weirgateref06_cut.calls k1 (rdOf ByteArray.empty t101 x6_1) 61 t105 t106 true _ A7.out).mono ?_); rintro e w' ⟨rfl, ⟨nd, rfl⟩⟩; refine ⟨_, rfl, ?_⟩) | (go_at_call 53; (with_reducible refine (weirgateref06_Name.calls k1 t105 true _ A9.out).mono ?_); rintro e w' ⟨rfl, ⟨nd, rfl⟩⟩) | (go_at_call 95; (with_reducible refine (weirgateref06_Word.calls k1 t106 true _ A11.out).mono ?_); rintro e w' ⟨rfl, ⟨nd, rfl⟩⟩; obtain ⟨Ao15, co15, eo15⟩ := Kd.R_slice HO_4.out; subst eo15) | ((with_reducible refine gate_callee (f := 96) rfl ?_); refine goesL_ (some 46) rfl rfl Tryz.func96 (by kernel_rfl) rfl #[.slice Ao15 x4_1.length co15, .agg #[.string t105, .string t106]] rfl zl ?_; (with_reducible refine (weirgateref06_put.calls k1 _ _ x4_1 t105 t106 t110 _ ?side1 ?side2 A13.out).mono ?_); (case side1 => repeat (first | exact (Kd.R_reads' HO_4.out).2.2 | (with_reducible refine Kd.C_alloc ?_ _) | (with_reducible refine Kd.C_drewN ?_ _) | (with_reducible refine Kd.C_drew ?_))); (case side2 => exact (Kd.R_reads' HO_4.out).2.1); rintro e w16 ⟨v111, rfl, ho0, hb⟩; refine ⟨_, rfl, ?_⟩; replace HO_5 := rb HO_5 hb; have HO112 := Aside0.mk (Kd.R_lower (Kd.R_new' ho0 (Kd.R_lt (kr HO_4))) (below_size zB)); replace HO_4 := Aside0.mk (Kd.R_elder' (kr HO_4) (Kd.R_base ho0) hb); replace HB := sb w hb; clear hb ho0))
         go_roundg k1
         case measure => have := HK1.out; omega
         case rel => exact ⟨(t110), (wrap64 (x6_1 + 1)), zS, H', ⟨by have := HK1.out; omega⟩, ⟨by (with_reducible repeat (first | apply Kd.R_alloc | apply Kd.R_drewN | apply Kd.R_drew)); exact Kd.R_mono HO112.out (fun _ hk => trivial)⟩, ⟨kr HO_5⟩, ⟨zB⟩⟩
        ·replace c12 := Bool.eq_false_iff.mpr c12
         subst c12
         rw [if_neg Bool.false_ne_true] at H
         simp only [Option.some.injEq, Prod.mk.injEq] at H
         obtain ⟨rfl, rfl⟩ := H
         obtain ⟨Ao13, co13, eo13⟩ := Kd.R_slice HO_5.out
         subst eo13
         have p104 : 0 ≤ (x6_1 : Int) := of_decide_eq_true za
         have q104 : x6_1 < (t101.length : Int) := of_decide_eq_true za
         obtain ⟨ad104, e104, hx104_0⟩ := Kd.at_string (Kd.R_reads' HO_5.out).2.2 x6_1 p104 q104
         cases e104
         replace p104 := eq_true p104
         replace q104 := eq_true q104
         exact weirgateref06_query.lf
       ·replace c10 := Bool.eq_false_iff.mpr c10
        subst c10
        rw [if_neg Bool.false_ne_true] at H
        simp only [Option.some.injEq, Prod.mk.injEq] at H
        obtain ⟨rfl, rfl⟩ := H
        obtain ⟨Ao11, co11, eo11⟩ := Kd.R_slice HO_5.out
        subst eo11
        have p104 : 0 ≤ (x6_1 : Int) := of_decide_eq_true za
        have q104 : x6_1 < (t101.length : Int) := of_decide_eq_true za
        obtain ⟨ad104, e104, hx104_0⟩ := Kd.at_string (Kd.R_reads' HO_5.out).2.2 x6_1 p104 q104
        cases e104
        replace p104 := eq_true p104
        replace q104 := eq_true q104
        exact weirgateref06_query.lf
      ·replace c8 := Bool.eq_false_iff.mpr c8
       subst c8
       rw [if_neg Bool.false_ne_true] at H
       simp only [Option.some.injEq, Prod.mk.injEq] at H
       obtain ⟨rfl, rfl⟩ := H
       obtain ⟨Ao9, co9, eo9⟩ := Kd.R_slice HO_5.out
       subst eo9
       have p104 : 0 ≤ (x6_1 : Int) := of_decide_eq_true za
       have q104 : x6_1 < (t101.length : Int) := of_decide_eq_true za
       obtain ⟨ad104, e104, hx104_0⟩ := Kd.at_string (Kd.R_reads' HO_5.out).2.2 x6_1 p104 q104
       cases e104
       replace p104 := eq_true p104
       replace q104 := eq_true q104
       go_wp2_with (first | ((with_reducible refine gate_callee (f := 50) rfl ?_); refine goesL_ (some 26) rfl rfl Tryz.func50 (by kernel_rfl) rfl #[.string (rdOf ByteArray.empty t101 x6_1), .int .u8 61] rfl zl ?_; (with_reducible refine (weirgateref06_cut.calls k1 (rdOf ByteArray.empty t101 x6_1) 61 t105 t106 false _ A7.out).mono ?_); rintro e w' ⟨rfl, ⟨nd, rfl⟩⟩; refine ⟨_, rfl, ?_⟩))
       go_ret2
       exact ⟨_, zE, by first | exact Kd.R_nil _ _ _ _ _ | exact Kd.N_nil _ _ _ _ _ | exact Kd.V_nil _ _ _ _ _ | exact Kd.Q_nil _ _ _ _ _ | exact Kd.S_nil _ _ _ _ _, zB⟩
     ·rw [if_neg c6] at H
      exact absurd H (by simp)
    ·rw [if_neg c5] at H
     have c5b0 : decide (x6_1 < (t101.length : Int)) = false := decide_eq_false c5
     clear c5
     simp only [Option.some.injEq, Prod.mk.injEq] at H
     obtain ⟨rfl, rfl⟩ := H
     obtain ⟨Ao6, co6, eo6⟩ := Kd.R_slice HO_5.out
     subst eo6
     go_wp2
     go_ret2
     exact ⟨_, zE, by (with_reducible repeat (first | apply Kd.R_alloc | apply Kd.R_drewN | apply Kd.R_drew)); exact HO_4.out, zB⟩
end Go.Proofs.YtmokgpepeddopaaGreatDoor.P
end
section
namespace Go.Proofs.YtmokgpepeddopaaGreatDoor.P
open Go.RowKit Go.Proofs.YtmokgpepeddopaaGreatDoorW.PrintWords Go.Proofs.YtmokgpepeddopaaGreatDoorW.PrintLast Go.Proofs.YtmokgpepeddopaaGreatDoorW.PrintMore
attribute [local go_sem] max2_int min2_int max_two min_two max_three min_three max_four min_four
attribute [local go_sem high] binOp_string_leq2 binOp_string_gtr2
set_option linter.unusedVariables false
set_option linter.unusedSimpArgs false
mutual
def weirgateref06_text.l0 : Nat → ByteArray → Int → ByteArray → List ByteArray → List (S66) → Option (ByteArray)
 | 0, _, _, _, _, _ => none
 | k + 1, x3, x4, x102000, x102001, x102002 => if x4 < (x102001.length : Int) then (if x3.size + 1 ≤ 9223372036854775807 then (if 0 ≤ x4 then (if (x3 ++ (⟨#[47]⟩ : ByteArray)).size + (rdOf ByteArray.empty x102001 x4).size ≤ 9223372036854775807 then (weirgateref06_text.l0 k ((x3 ++ (⟨#[47]⟩ : ByteArray)) ++ (rdOf ByteArray.empty x102001 x4)) (wrap64 (x4 + 1)) x102000 x102001 x102002) else (none)) else (none)) else (none)) else (weirgateref06_text.l1 k x3 0 x102000 x102001 x102002)
def weirgateref06_text.l1 : Nat → ByteArray → Int → ByteArray → List ByteArray → List (S66) → Option (ByteArray)
 | 0, _, _, _, _, _ => none
 | k + 1, x3, x5, x102000, x102001, x102002 => if x5 < (x102002.length : Int) then (if x5 = 0 then (if x3.size + 1 ≤ 9223372036854775807 then (if 0 ≤ x5 then (if (x3 ++ (⟨#[63]⟩ : ByteArray)).size + ((rd_T66 x102002 x5).f0).size ≤ 9223372036854775807 then (if ((x3 ++ (⟨#[63]⟩ : ByteArray)) ++ ((rd_T66 x102002 x5).f0)).size + 1 ≤ 9223372036854775807 then (if (((x3 ++ (⟨#[63]⟩ : ByteArray)) ++ ((rd_T66 x102002 x5).f0)) ++ (⟨#[61]⟩ : ByteArray)).size + ((rd_T66 x102002 x5).f1).size ≤ 9223372036854775807 then (weirgateref06_text.l1 k ((((x3 ++ (⟨#[63]⟩ : ByteArray)) ++ ((rd_T66 x102002 x5).f0)) ++ (⟨#[61]⟩ : ByteArray)) ++ ((rd_T66 x102002 x5).f1)) (wrap64 (x5 + 1)) x102000 x102001 x102002) else (none)) else (none)) else (none)) else (none)) else (none)) else (if x3.size + 1 ≤ 9223372036854775807 then (if 0 ≤ x5 then (if (x3 ++ (⟨#[38]⟩ : ByteArray)).size + ((rd_T66 x102002 x5).f0).size ≤ 9223372036854775807 then (if ((x3 ++ (⟨#[38]⟩ : ByteArray)) ++ ((rd_T66 x102002 x5).f0)).size + 1 ≤ 9223372036854775807 then (if (((x3 ++ (⟨#[38]⟩ : ByteArray)) ++ ((rd_T66 x102002 x5).f0)) ++ (⟨#[61]⟩ : ByteArray)).size + ((rd_T66 x102002 x5).f1).size ≤ 9223372036854775807 then (weirgateref06_text.l1 k ((((x3 ++ (⟨#[38]⟩ : ByteArray)) ++ ((rd_T66 x102002 x5).f0)) ++ (⟨#[61]⟩ : ByteArray)) ++ ((rd_T66 x102002 x5).f1)) (wrap64 (x5 + 1)) x102000 x102001 x102002) else (none)) else (none)) else (none)) else (none)) else (none))) else (some x3)
end
def weirgateref06_text.f (k : Nat) (a0_0 : ByteArray) (l0_1 : List ByteArray) (l0_2 : List (S66)) : Option (ByteArray) := weirgateref06_text.l0 k a0_0 0 a0_0 l0_1 l0_2
set_option maxHeartbeats 8000000 in
set_option maxRecDepth 100000 in
theorem weirgateref06_text.calls (k : Nat) (a0_0 : ByteArray) (A0_1 : Option Addr) (c0_1 : Nat) (l0_1 : List ByteArray) (A0_2 : Option Addr) (c0_2 : Nat) (l0_2 : List (S66)) (r : ByteArray) (w : World) (hr0_1 : Kd.C Kd.string w A0_1 l0_1.length l0_1) (hc0_1 : l0_1.length ≤ c0_1) (hr0_2 : Kd.C k66 w A0_2 l0_2.length l0_2) (hc0_2 : l0_2.length ≤ c0_2) (h : weirgateref06_text.f k a0_0 l0_1 l0_2 = some r) :
  Calls Tryz.prog 57 #[.agg #[.string a0_0, .slice A0_1 l0_1.length c0_1, .slice A0_2 l0_2.length c0_2]] w fun e w' => e = .returned (.string r) ∧ Below w.heap.size w w' := by
 have hu25 := Tryz.underlying25
 have HR0_1 := Aside0.mk hr0_1
 have HC0_1 := Aside0.mk hc0_1
 clear hr0_1 hc0_1
 have HR0_2 := Aside0.mk hr0_2
 have HC0_2 := Aside0.mk hc0_2
 clear hr0_2 hc0_2
 have HB := Aside0.mk (Below.refl w.heap.size w)
 have H : (weirgateref06_text.l0 k a0_0 0 a0_0 l0_1 l0_2) = some r := h
 clear h
 have H' := Aside0.mk H
 clear H
 go_enter Tryz.func57, Tryz.ntmps57
 go_wp2_with (first | ((with_reducible refine gate_dst (N := 1) rfl ?_); refine bx 1 #[.string a0_0, .slice A0_1 l0_1.length c0_1, .slice A0_2 l0_2.length c0_2] 25 fun gb101 hg w2 hbox hb => ?_; have BK101 := Aside0.mk (hbox); have GW101 := gw w hg; have GE101 := gw w hg; replace HB := sb w hb; clear hb hbox hg; obtain ⟨hcz3_0, hcz3_1, hcz3_2, hfz3_0, hfz3_1, hfz3_2⟩ := cf3 BK101))
 repeat (go_quiet (first | ((with_reducible refine gate_dst (N := 1) rfl ?_); refine bx 1 #[.string a0_0, .slice A0_1 l0_1.length c0_1, .slice A0_2 l0_2.length c0_2] 25 fun gb101 hg w2 hbox hb => ?_; have BK101 := Aside0.mk (hbox); have GW101 := gw w hg; have GE101 := gw w hg; replace HB := sb w hb; clear hb hbox hg; obtain ⟨hcz3_0, hcz3_1, hcz3_2, hfz3_0, hfz3_1, hfz3_2⟩ := cf3 BK101)); try go_wp2_with (first | ((with_reducible refine gate_dst (N := 1) rfl ?_); refine bx 1 #[.string a0_0, .slice A0_1 l0_1.length c0_1, .slice A0_2 l0_2.length c0_2] 25 fun gb101 hg w2 hbox hb => ?_; have BK101 := Aside0.mk (hbox); have GW101 := gw w hg; have GE101 := gw w hg; replace HB := sb w hb; clear hb hbox hg; obtain ⟨hcz3_0, hcz3_1, hcz3_2, hfz3_0, hfz3_1, hfz3_2⟩ := cf3 BK101)))
 go_loopg [3, 4] k (fun kq v3 v4 w' => ∃ (x3_1 : ByteArray) (x4_1 : Int), v3 = .string x3_1 ∧ v4 = .int .i64 x4_1 ∧ Aside0 (weirgateref06_text.l0 kq x3_1 x4_1 a0_0 l0_1 l0_2 = some r) ∧ Aside0 (kq ≤ k) ∧ Aside0 (w'.heap[gb101]? = some (.cells #[.string a0_0, (.slice A0_1 l0_1.length c0_1), (.slice A0_2 l0_2.length c0_2)] 25 (0, 0))) ∧ Aside0 (Below w.heap.size w w'))
 case atStart => exact ⟨(a0_0), (0), zS, zS, H', ⟨Nat.le_refl _⟩, ⟨kb BK101⟩, ⟨zB⟩⟩
 case round =>
  clear H'
  obtain ⟨x3_1, x4_1, rfl, rfl, HA, HK1, BK101, HB⟩ := hrel
  cases gk with
  | zero => exact absurd HA.out (by simp [weirgateref06_text.l0])
  | succ k1 =>
   have H := HA.out
   clear HA
   simp only [weirgateref06_text.l0] at H
   by_cases c4 : x4_1 < (l0_1.length : Int)
   ·rw [if_pos c4] at H
    have c4b0 : decide (x4_1 < (l0_1.length : Int)) = true := decide_eq_true c4
    clear c4
    by_cases c5 : x3_1.size + 1 ≤ 9223372036854775807
    ·rw [if_pos c5] at H
     have c5b0 := eq_true c5
     have c5b1 : decide (x3_1.size + 1 ≤ 9223372036854775807) = true := decide_eq_true c5
     try have c5b2 : (9223372036854775807 < x3_1.size + 1) = False := eq_false (Nat.not_lt.2 c5)
     try (have c5b9 := c5; simp [go_sem, ByteArray.size_append, ByteArray.size_extract] at c5b9)
     by_cases c6 : 0 ≤ x4_1
     ·rw [if_pos c6] at H
      have c6b0 : decide (0 ≤ x4_1) = true := decide_eq_true c6
      clear c6
      by_cases c7 : (x3_1 ++ (⟨#[47]⟩ : ByteArray)).size + (rdOf ByteArray.empty l0_1 x4_1).size ≤ 9223372036854775807
      ·rw [if_pos c7] at H
       have c7b0 := eq_true c7
       have c7b1 : decide ((x3_1 ++ (⟨#[47]⟩ : ByteArray)).size + (rdOf ByteArray.empty l0_1 x4_1).size ≤ 9223372036854775807) = true := decide_eq_true c7
       try have c7b2 : (9223372036854775807 < (x3_1 ++ (⟨#[47]⟩ : ByteArray)).size + (rdOf ByteArray.empty l0_1 x4_1).size) = False := eq_false (Nat.not_lt.2 c7)
       try (have c7b9 := c7; simp [go_sem, ByteArray.size_append, ByteArray.size_extract] at c7b9)
       have H' := Aside0.mk H
       clear H
       obtain ⟨hcz8_0, hcz8_1, hcz8_2, hfz8_0, hfz8_1, hfz8_2⟩ := cf3 BK101
       have p102 : 0 ≤ (x4_1 : Int) := of_decide_eq_true za
       have q102 : x4_1 < (l0_1.length : Int) := of_decide_eq_true za
       obtain ⟨ad102, e102, hx102_0⟩ := Kd.at_string HR0_1.out x4_1 p102 q102
       cases e102
       replace hx102_0 := (HB.out.cell (World.block_lt_of_cell? w _ hx102_0)).trans hx102_0
       replace p102 := eq_true p102
       replace q102 := eq_true q102
       go_wp2
       repeat (go_quiet (fail); try go_wp2)
       go_roundg k1
       case measure => have := HK1.out; omega
       case rel => exact ⟨((x3_1 ++ (⟨#[47]⟩ : ByteArray)) ++ (rdOf ByteArray.empty l0_1 x4_1)), (wrap64 (x4_1 + 1)), zS, zS, H', ⟨by have := HK1.out; omega⟩, ⟨kb BK101⟩, ⟨zB⟩⟩
      ·rw [if_neg c7] at H
       exact absurd H (by simp)
     ·rw [if_neg c6] at H
      exact absurd H (by simp)
    ·rw [if_neg c5] at H
     exact absurd H (by simp)
   ·rw [if_neg c4] at H
    have c4b0 : decide (x4_1 < (l0_1.length : Int)) = false := decide_eq_false c4
    clear c4
    have H' := Aside0.mk H
    clear H
    obtain ⟨hcz5_0, hcz5_1, hcz5_2, hfz5_0, hfz5_1, hfz5_2⟩ := cf3 BK101
    go_wp2
    repeat (go_quiet (fail); try go_wp2)
    go_loopg [3, 5] k1 (fun kq v3 v5 w' => ∃ (x3_2 : ByteArray) (x5_2 : Int), v3 = .string x3_2 ∧ v5 = .int .i64 x5_2 ∧ Aside0 (weirgateref06_text.l1 kq x3_2 x5_2 a0_0 l0_1 l0_2 = some r) ∧ Aside0 (kq ≤ k1) ∧ Aside0 (w'.heap[gb101]? = some (.cells #[.string a0_0, (.slice A0_1 l0_1.length c0_1), (.slice A0_2 l0_2.length c0_2)] 25 (0, 0))) ∧ Aside0 (Below w.heap.size w w'))
    case atStart => exact ⟨(x3_1), (0), zS, zS, H', ⟨Nat.le_refl _⟩, ⟨kb BK101⟩, ⟨zB⟩⟩
    case round =>
     clear H'
     obtain ⟨x3_2, x5_2, rfl, rfl, HA, HK2, BK101, HB⟩ := hrel
     cases gk with
     | zero => exact absurd HA.out (by simp [weirgateref06_text.l1])
     | succ k2 =>
      have H := HA.out
      clear HA
      simp only [weirgateref06_text.l1] at H
      by_cases c6 : x5_2 < (l0_2.length : Int)
      ·rw [if_pos c6] at H
       have c6b0 : decide (x5_2 < (l0_2.length : Int)) = true := decide_eq_true c6
       clear c6
       by_cases c7 : x5_2 = 0
       ·rw [if_pos c7] at H
        have c7b0 : (x5_2 == 0) = true := beq_iff_eq.mpr c7
        have c7b1 : (x5_2 != 0) = false := bne_eq_false_iff_eq.mpr c7
        clear c7
        by_cases c8 : x3_2.size + 1 ≤ 9223372036854775807
        ·rw [if_pos c8] at H
         have c8b0 := eq_true c8
         have c8b1 : decide (x3_2.size + 1 ≤ 9223372036854775807) = true := decide_eq_true c8
         try have c8b2 : (9223372036854775807 < x3_2.size + 1) = False := eq_false (Nat.not_lt.2 c8)
         try (have c8b9 := c8; simp [go_sem, ByteArray.size_append, ByteArray.size_extract] at c8b9)
         by_cases c9 : 0 ≤ x5_2
         ·rw [if_pos c9] at H
          have c9b0 : decide (0 ≤ x5_2) = true := decide_eq_true c9
          clear c9
          by_cases c10 : (x3_2 ++ (⟨#[63]⟩ : ByteArray)).size + ((rd_T66 l0_2 x5_2).f0).size ≤ 9223372036854775807
          ·rw [if_pos c10] at H
           have c10b0 := eq_true c10
           have c10b1 : decide ((x3_2 ++ (⟨#[63]⟩ : ByteArray)).size + ((rd_T66 l0_2 x5_2).f0).size ≤ 9223372036854775807) = true := decide_eq_true c10
           try have c10b2 : (9223372036854775807 < (x3_2 ++ (⟨#[63]⟩ : ByteArray)).size + ((rd_T66 l0_2 x5_2).f0).size) = False := eq_false (Nat.not_lt.2 c10)
           try (have c10b9 := c10; simp [go_sem, ByteArray.size_append, ByteArray.size_extract] at c10b9)
           by_cases c11 : ((x3_2 ++ (⟨#[63]⟩ : ByteArray)) ++ ((rd_T66 l0_2 x5_2).f0)).size + 1 ≤ 9223372036854775807
           ·rw [if_pos c11] at H
            have c11b0 := eq_true c11
            have c11b1 : decide (((x3_2 ++ (⟨#[63]⟩ : ByteArray)) ++ ((rd_T66 l0_2 x5_2).f0)).size + 1 ≤ 9223372036854775807) = true := decide_eq_true c11
            try have c11b2 : (9223372036854775807 < ((x3_2 ++ (⟨#[63]⟩ : ByteArray)) ++ ((rd_T66 l0_2 x5_2).f0)).size + 1) = False := eq_false (Nat.not_lt.2 c11)
            try (have c11b9 := c11; simp [go_sem, ByteArray.size_append, ByteArray.size_extract] at c11b9)
            by_cases c12 : (((x3_2 ++ (⟨#[63]⟩ : ByteArray)) ++ ((rd_T66 l0_2 x5_2).f0)) ++ (⟨#[61]⟩ : ByteArray)).size + ((rd_T66 l0_2 x5_2).f1).size ≤ 9223372036854775807
            ·rw [if_pos c12] at H
             have c12b0 := eq_true c12
             have c12b1 : decide ((((x3_2 ++ (⟨#[63]⟩ : ByteArray)) ++ ((rd_T66 l0_2 x5_2).f0)) ++ (⟨#[61]⟩ : ByteArray)).size + ((rd_T66 l0_2 x5_2).f1).size ≤ 9223372036854775807) = true := decide_eq_true c12
             try have c12b2 : (9223372036854775807 < (((x3_2 ++ (⟨#[63]⟩ : ByteArray)) ++ ((rd_T66 l0_2 x5_2).f0)) ++ (⟨#[61]⟩ : ByteArray)).size + ((rd_T66 l0_2 x5_2).f1).size) = False := eq_false (Nat.not_lt.2 c12)
             try (have c12b9 := c12; simp [go_sem, ByteArray.size_append, ByteArray.size_extract] at c12b9)
             have H' := Aside0.mk H
             clear H
             obtain ⟨hcz13_0, hcz13_1, hcz13_2, hfz13_0, hfz13_1, hfz13_2⟩ := cf3 BK101
             have p103 : 0 ≤ (x5_2 : Int) := of_decide_eq_true za
             have q103 : x5_2 < (l0_2.length : Int) := of_decide_eq_true za
             obtain ⟨ad103, e103, hx103_0, hx103_1⟩ := at_T66 HR0_2.out x5_2 p103 q103
             cases e103
             replace hx103_0 := (HB.out.cell (World.block_lt_of_cell? w _ hx103_0)).trans hx103_0
             replace hx103_1 := (HB.out.cell (World.block_lt_of_cell? w _ hx103_1)).trans hx103_1
             replace p103 := eq_true p103
             replace q103 := eq_true q103
             have p104 : 0 ≤ (x5_2 : Int) := of_decide_eq_true za
             have q104 : x5_2 < (l0_2.length : Int) := of_decide_eq_true za
             obtain ⟨ad104, e104, hx104_0, hx104_1⟩ := at_T66 HR0_2.out x5_2 p104 q104
             obtain rfl : ad103 = ad104 := (by injection e104)
             replace hx104_0 := (HB.out.cell (World.block_lt_of_cell? w _ hx104_0)).trans hx104_0
             replace hx104_1 := (HB.out.cell (World.block_lt_of_cell? w _ hx104_1)).trans hx104_1
             replace p104 := eq_true p104
             replace q104 := eq_true q104
             go_wp2
             repeat (go_quiet (fail); try go_wp2)
             go_roundg k2
             case measure => have := HK1.out; have := HK2.out; omega
             case rel => exact ⟨((((x3_2 ++ (⟨#[63]⟩ : ByteArray)) ++ ((rd_T66 l0_2 x5_2).f0)) ++ (⟨#[61]⟩ : ByteArray)) ++ ((rd_T66 l0_2 x5_2).f1)), (wrap64 (x5_2 + 1)), zS, zS, H', ⟨by have := HK1.out; have := HK2.out; omega⟩, ⟨kb BK101⟩, ⟨zB⟩⟩
            ·rw [if_neg c12] at H
             exact absurd H (by simp)
           ·rw [if_neg c11] at H
            exact absurd H (by simp)
          ·rw [if_neg c10] at H
           exact absurd H (by simp)
         ·rw [if_neg c9] at H
          exact absurd H (by simp)
        ·rw [if_neg c8] at H
         exact absurd H (by simp)
       ·rw [if_neg c7] at H
        have c7b0 : (x5_2 == 0) = false := beq_eq_false_iff_ne.mpr c7
        have c7b1 : (x5_2 != 0) = true := bne_iff_ne.mpr c7
        by_cases c8 : x3_2.size + 1 ≤ 9223372036854775807
        ·rw [if_pos c8] at H
         have c8b0 := eq_true c8
         have c8b1 : decide (x3_2.size + 1 ≤ 9223372036854775807) = true := decide_eq_true c8
         try have c8b2 : (9223372036854775807 < x3_2.size + 1) = False := eq_false (Nat.not_lt.2 c8)
         try (have c8b9 := c8; simp [go_sem, ByteArray.size_append, ByteArray.size_extract] at c8b9)
         by_cases c9 : 0 ≤ x5_2
         ·rw [if_pos c9] at H
          have c9b0 : decide (0 ≤ x5_2) = true := decide_eq_true c9
          clear c9
          by_cases c10 : (x3_2 ++ (⟨#[38]⟩ : ByteArray)).size + ((rd_T66 l0_2 x5_2).f0).size ≤ 9223372036854775807
          ·rw [if_pos c10] at H
           have c10b0 := eq_true c10
           have c10b1 : decide ((x3_2 ++ (⟨#[38]⟩ : ByteArray)).size + ((rd_T66 l0_2 x5_2).f0).size ≤ 9223372036854775807) = true := decide_eq_true c10
           try have c10b2 : (9223372036854775807 < (x3_2 ++ (⟨#[38]⟩ : ByteArray)).size + ((rd_T66 l0_2 x5_2).f0).size) = False := eq_false (Nat.not_lt.2 c10)
           try (have c10b9 := c10; simp [go_sem, ByteArray.size_append, ByteArray.size_extract] at c10b9)
           by_cases c11 : ((x3_2 ++ (⟨#[38]⟩ : ByteArray)) ++ ((rd_T66 l0_2 x5_2).f0)).size + 1 ≤ 9223372036854775807
           ·rw [if_pos c11] at H
            have c11b0 := eq_true c11
            have c11b1 : decide (((x3_2 ++ (⟨#[38]⟩ : ByteArray)) ++ ((rd_T66 l0_2 x5_2).f0)).size + 1 ≤ 9223372036854775807) = true := decide_eq_true c11
            try have c11b2 : (9223372036854775807 < ((x3_2 ++ (⟨#[38]⟩ : ByteArray)) ++ ((rd_T66 l0_2 x5_2).f0)).size + 1) = False := eq_false (Nat.not_lt.2 c11)
            try (have c11b9 := c11; simp [go_sem, ByteArray.size_append, ByteArray.size_extract] at c11b9)
            by_cases c12 : (((x3_2 ++ (⟨#[38]⟩ : ByteArray)) ++ ((rd_T66 l0_2 x5_2).f0)) ++ (⟨#[61]⟩ : ByteArray)).size + ((rd_T66 l0_2 x5_2).f1).size ≤ 9223372036854775807
            ·rw [if_pos c12] at H
             have c12b0 := eq_true c12
             have c12b1 : decide ((((x3_2 ++ (⟨#[38]⟩ : ByteArray)) ++ ((rd_T66 l0_2 x5_2).f0)) ++ (⟨#[61]⟩ : ByteArray)).size + ((rd_T66 l0_2 x5_2).f1).size ≤ 9223372036854775807) = true := decide_eq_true c12
             try have c12b2 : (9223372036854775807 < (((x3_2 ++ (⟨#[38]⟩ : ByteArray)) ++ ((rd_T66 l0_2 x5_2).f0)) ++ (⟨#[61]⟩ : ByteArray)).size + ((rd_T66 l0_2 x5_2).f1).size) = False := eq_false (Nat.not_lt.2 c12)
             try (have c12b9 := c12; simp [go_sem, ByteArray.size_append, ByteArray.size_extract] at c12b9)
             have H' := Aside0.mk H
             clear H
             obtain ⟨hcz13_0, hcz13_1, hcz13_2, hfz13_0, hfz13_1, hfz13_2⟩ := cf3 BK101
             have p105 : 0 ≤ (x5_2 : Int) := of_decide_eq_true za
             have q105 : x5_2 < (l0_2.length : Int) := of_decide_eq_true za
             obtain ⟨ad105, e105, hx105_0, hx105_1⟩ := at_T66 HR0_2.out x5_2 p105 q105
             cases e105
             replace hx105_0 := (HB.out.cell (World.block_lt_of_cell? w _ hx105_0)).trans hx105_0
             replace hx105_1 := (HB.out.cell (World.block_lt_of_cell? w _ hx105_1)).trans hx105_1
             replace p105 := eq_true p105
             replace q105 := eq_true q105
             have p106 : 0 ≤ (x5_2 : Int) := of_decide_eq_true za
             have q106 : x5_2 < (l0_2.length : Int) := of_decide_eq_true za
             obtain ⟨ad106, e106, hx106_0, hx106_1⟩ := at_T66 HR0_2.out x5_2 p106 q106
             obtain rfl : ad105 = ad106 := (by injection e106)
             replace hx106_0 := (HB.out.cell (World.block_lt_of_cell? w _ hx106_0)).trans hx106_0
             replace hx106_1 := (HB.out.cell (World.block_lt_of_cell? w _ hx106_1)).trans hx106_1
             replace p106 := eq_true p106
             replace q106 := eq_true q106
             go_wp2
             repeat (go_quiet (fail); try go_wp2)
             go_roundg k2
             case measure => have := HK1.out; have := HK2.out; omega
             case rel => exact ⟨((((x3_2 ++ (⟨#[38]⟩ : ByteArray)) ++ ((rd_T66 l0_2 x5_2).f0)) ++ (⟨#[61]⟩ : ByteArray)) ++ ((rd_T66 l0_2 x5_2).f1)), (wrap64 (x5_2 + 1)), zS, zS, H', ⟨by have := HK1.out; have := HK2.out; omega⟩, ⟨kb BK101⟩, ⟨zB⟩⟩
            ·rw [if_neg c12] at H
             exact absurd H (by simp)
           ·rw [if_neg c11] at H
            exact absurd H (by simp)
          ·rw [if_neg c10] at H
           exact absurd H (by simp)
         ·rw [if_neg c9] at H
          exact absurd H (by simp)
        ·rw [if_neg c8] at H
         exact absurd H (by simp)
      ·rw [if_neg c6] at H
       have c6b0 : decide (x5_2 < (l0_2.length : Int)) = false := decide_eq_false c6
       clear c6
       obtain rfl := Option.some.inj H
       obtain ⟨hcz7_0, hcz7_1, hcz7_2, hfz7_0, hfz7_1, hfz7_2⟩ := cf3 BK101
       go_wp2
       repeat (go_quiet (fail); try go_wp2)
       go_ret
       exact ⟨zE, zB⟩
end Go.Proofs.YtmokgpepeddopaaGreatDoor.P
end
