/- Lemmas on the way to the statement: part 28 of 34 (functions as plain Lean functions, and that each call comes to what they say). -/
import Derived.Test.YtmokgpepeddopaaGreatDoorL27
import Derived.Test.YtmokgpepeddopaaGreatDoorL20
import Derived.Test.YtmokgpepeddopaaGreatDoorL12
import Derived.Test.YtmokgpepeddopaaGreatDoorL17
import Derived.Test.YtmokgpepeddopaaGreatDoorL15
section
namespace Go.Proofs.YtmokgpepeddopaaGreatDoor.P
open Go.RowKit Go.Shelf Go.Proofs.YtmokgpepeddopaaGreatDoorW.PrintWords Go.Proofs.YtmokgpepeddopaaGreatDoorW.PrintLast Go.Proofs.YtmokgpepeddopaaGreatDoorW.PrintMore
open Go.Proofs.YtmokgpepeddopaaGreatDoor.Addr
set_option linter.unusedSimpArgs false
set_option linter.unusedVariables false
def compactF (zs : List ByteArray) : List ByteArray := (Lib.compact (zs.map L)).map B
theorem compact_le (zs : List (List UInt8)) : (Lib.compact zs).length ≤ zs.length := by
  unfold Lib.compact Lib.compactUpTo
  rw [List.length_map]
  exact Nat.le_trans (List.length_filter_le _ _) (by simp)
theorem grow_nil (w : World) : Go.Sort.grow w #[] = w := by
  simp [Go.Sort.grow]
theorem strs_back (xs : List ByteArray) : encs Value.string xs = (xs.map L).map Go.Proofs.encStr := by
  rw [encStr_B, List.map_map]
  congr 1
  conv => lhs; rw [← List.map_id xs]
  exact (List.map_congr_left (fun x _ => B_L x)).symm
theorem compact_calls (v : Value) (xs : List ByteArray) (base : Nat) (w : World) (hm : xs.length < 1099511627776) (hbase : base ≤ w.heap.size) (ho : Kd.R Kd.string 9 w base (fun _ => True) v xs) :
    Calls Tryz.prog 60 #[v] w fun e w' => ∃ v', e = .returned v' ∧ Kd.R Kd.string 9 w' base (fun _ => True) v' (compactF xs) ∧ Below base w w' := by
  have hown := Kd.own_of_R ho
  rw [strs_back] at hown
  have hlen : (xs.map L).length = xs.length := by simp
  rw [← hlen] at hown
  rcases hown.2 with ⟨rfl, hz⟩ | ⟨gb, cap, cur, rfl, hge, hgb, q1, q2, q3, q4⟩
  · have hnil : xs = [] := List.eq_nil_of_length_eq_zero (by simpa using hz)
    subst hnil
    refine (Tryz.slices_Compact_string_empty none 0 w).mono ?_
    rintro e w' ⟨rfl, rfl⟩
    exact ⟨_, rfl, by simpa [compactF, Lib.compact, Lib.compactUpTo] using ho, Below.refl _ _⟩
  · have hH : Go.Sort.Holds Go.Proofs.encStr w gb 0 (xs.map L).toArray := Go.holds_of_block hgb (by simpa using q4)
    have cS := Tryz.slices_Compact_string gb 0 cap (xs.map L) w hH (by rw [hlen]; omega) q1
    refine cS.mono ?_
    rintro e w' ⟨rfl, q, rfl⟩
    have hcl := compact_le (xs.map L)
    obtain ⟨T, hT⟩ : ∃ T, Lib.compact (xs.map L) ++ List.replicate ((xs.map L).length - (Lib.compact (xs.map L)).length) [] = T := ⟨_, rfl⟩
    have hTl : T.length = (xs.map L).length := by rw [← hT, List.length_append, List.length_replicate]; omega
    have hTt : (T.map B).take (compactF xs).length = compactF xs := by
      rw [← hT, List.map_append, List.take_append_of_le_length (by simp [compactF])]
      exact List.take_length
    rw [hT]
    clear hT
    have hrow := Go.ownsRow_sorted (n := q) (os := #[]) (ts := T) hTl hge hgb q1 q2 q3
    have hg := Go.grownBy_sorted (w := w) (n := q) (os := #[]) (g := gb) T.toArray
    rw [grow_nil] at hrow hg
    rw [encStr_B] at hrow
    have hl : (T.map B).length = (xs.map L).length := by rw [List.length_map]; exact hTl
    rw [← hl] at hrow
    have hR := Kd.R_take (Kd.R_of_own (h1 := fun _ => rfl) (ok := fun _ => True) hrow (fun _ _ => trivial)) (m := (compactF xs).length) (by rw [hl]; simpa [compactF] using hcl)
    refine ⟨_, rfl, ?_, (Below.refl base w).grown hg hbase (fun j hj => by cases hj; exact hge)⟩
    have e1 : (compactF xs).length = (Lib.compact (xs.map L)).length := by simp [compactF]
    rw [hTt, e1] at hR
    exact hR
def tagsText (l : List ByteArray) : ByteArray := B (joinB 44 ((compactF (sortedF l)).map L))
def address_Tags.f (l : List ByteArray) : Option (ByteArray × Int) :=
  if l.length < 1099511627776 then
    (if (l.any fun x => !name (L x)) = true then some (⟨#[]⟩, 1) else
      if (joinB 44 ((compactF (sortedF l)).map L)).length ≤ 140737488355328 then
        (if 4096 < (tagsText l).size then some (⟨#[]⟩, 2) else some (tagsText l, 0)) else none) else none
theorem values_eg : ∀ args W, (callFunc 100 args).run Tryz.prog W = .ok (.enter 100 args) W :=
  fun args W => enters_ Tryz.func100 (by kernel_rfl) rfl args W
theorem sortedF_length (l : List ByteArray) : (sortedF l).length = l.length := by simp [sortedF]
set_option maxHeartbeats 4000000 in
theorem address_Tags.calls (A0 : Option Addr) (c0 : Nat) (l0 : List ByteArray) (r1 : ByteArray) (r2 : Int) (w : World) (hr0 : Kd.C Kd.string w A0 l0.length l0) (hc0 : l0.length ≤ c0) (h : address_Tags.f l0 = some (r1, r2)) :
    Calls Tryz.prog 19 #[.slice A0 l0.length c0] w fun e w' => e = .returned (.tuple #[.string r1, .int .i64 r2]) ∧ Below w.heap.size w w' := by
  unfold address_Tags.f at h
  split at h
  · rename_i hm
    have HM := Lib.hid hm
    have HH := Lib.hid h
    clear h hm
    have cF := any_notName.calls A0 c0 l0 (l0.any fun x => !name (L x)) w hr0 hc0 (by have := HM.out; simp only [any_notName.f]; rw [if_pos (by omega)])
    have HR := Lib.hid hr0
    have HC := Lib.hid hc0
    clear hr0 hc0
    cases hany : (l0.any fun x => !name (L x)) with
    | true =>
      rw [hany] at cF
      have hh := HH.out
      rw [if_pos hany] at hh
      injection hh with hh
      injection hh with h1 h2
      subst h1 h2
      clear HH
      go_enter Tryz.func19, Tryz.ntmps19
      go_wp2_with fail
      (with_reducible refine cF.mono ?_)
      rintro e w2 ⟨rfl, hb⟩
      go_wp2_with fail
      refine bodyPost_ret (results_tmp2 rfl _ _ _) rfl ⟨rfl, hb⟩
    | false =>
      rw [hany] at cF
      have hh := HH.out
      rw [if_neg (by rw [hany]; decide)] at hh
      clear HH
      split at hh
      · rename_i hj
        have HJ := Lib.hid hj
        have HH := Lib.hid hh
        clear hh hj
        go_enter Tryz.func19, Tryz.ntmps19
        go_wp2_with fail
        (with_reducible refine cF.mono ?_)
        rintro e w2 ⟨rfl, hb⟩
        clear cF
        have HB := Lib.hid hb
        clear hb
        go_wp2_with fail
        (with_reducible refine (values_calls A0 c0 l0 w2).mono ?_)
        rintro e w3 ⟨rfl, rfl⟩
        have hsq := values_seq A0 c0 l0 w2.heap.size w2.heap.size (w2.alloc (.cells #[.slice A0 l0.length c0] 22)) (by have := HM.out; omega) ((blk_cell (blk_new w2 _) 0).trans rfl) (Kd.C_below HR.out (HB.out.trans ((below_alloc (Below.refl _ _) _).mono HB.out.size)))
        have hso := sorted_calls _ _ values_eg w2.heap.size 0 _ w2.heap.size l0 _ HM.out (by simp) (Nat.le_refl _) (Nat.le_refl _) hsq
        clear hsq
        have HB2 := Lib.hid (below_alloc (Below.refl w2.heap.size w2) (.cells #[.slice A0 l0.length c0] 22))
        go_wp2_with fail
        (with_reducible refine hso.mono ?_)
        clear hso
        rintro e w4 ⟨v4, rfl, ho4, hb4⟩
        have hco := compact_calls v4 (sortedF l0) w2.heap.size w4 (by rw [sortedF_length]; exact HM.out) (by have := hb4.size; simp at this; omega) (Kd.R_lower ho4 (by simp))
        clear ho4
        go_wp2_with fail
        (with_reducible refine hco.mono ?_)
        clear hco
        rintro e w5 ⟨v5, rfl, ho5, hb5⟩
        obtain ⟨A5, c5, rfl, h51, h52⟩ := Kd.R_reads ho5
        have hjo := strings_Join.calls A5 c5 (compactF (sortedF l0)) ⟨#[44]⟩ (tagsText l0) w5 h52 h51 (by
          show (if (joinB 44 ((compactF (sortedF l0)).map L)).length ≤ 140737488355328 ∧ (compactF (sortedF l0)).length ≤ 140737488355328 then some (B (joinB 44 ((compactF (sortedF l0)).map L))) else none) = _
          refine if_pos ⟨HJ.out, ?_⟩
          · have h1 := compact_le ((sortedF l0).map L)
            have h2 := HM.out
            rw [List.length_map, sortedF_length] at h1
            simp only [compactF, List.length_map]
            omega)
        clear ho5 h51 h52
        have hb6 : Below w.heap.size w w5 := HB.out.trans (((HB2.out.trans (hb4.trans hb5))).mono HB.out.size)
        have HB6 := Lib.hid hb6
        clear hb6 hb4 hb5 HB HB2
        go_wp2_with fail
        (with_reducible refine hjo.mono ?_)
        clear hjo
        rintro e w6 ⟨rfl, hb7⟩
        have HB7 := Lib.hid (HB6.out.trans (hb7.mono (HB6.out.size)))
        clear hb7 HB6
        by_cases hs : 4096 < (tagsText l0).size
        · have hs2 : (4096 : Int) < ((tagsText l0).size : Int) := by omega
          have hh := HH.out
          rw [if_pos hs] at hh
          injection hh with hh
          injection hh with h1 h2
          subst h1 h2
          clear HH
          go_wp2_with fail
          refine bodyPost_ret (results_tmp2 rfl _ _ _) rfl ⟨rfl, HB7.out⟩
        · have hs2 : ¬ (4096 : Int) < ((tagsText l0).size : Int) := by omega
          have hh := HH.out
          rw [if_neg hs] at hh
          injection hh with hh
          injection hh with h1 h2
          subst h1 h2
          clear HH
          go_wp2_with fail
          refine bodyPost_ret (results_tmp2 rfl _ _ _) rfl ⟨rfl, HB7.out⟩
      · cases hh
  · cases h
end Go.Proofs.YtmokgpepeddopaaGreatDoor.P
end
section
namespace Go.Proofs.YtmokgpepeddopaaGreatDoor.P
open Go.RowKit Go.Proofs.YtmokgpepeddopaaGreatDoorW.PrintWords Go.Proofs.YtmokgpepeddopaaGreatDoorW.PrintLast Go.Proofs.YtmokgpepeddopaaGreatDoorW.PrintMore
attribute [local go_sem] max2_int min2_int max_two min_two max_three min_three max_four min_four
attribute [local go_sem high] binOp_string_leq2 binOp_string_gtr2
set_option linter.unusedVariables false
set_option linter.unusedSimpArgs false
def address_Split.f (a0 : ByteArray) : Option (List ByteArray × Int) := if a0.toList = ([] : List UInt8) then (some (([] : List ByteArray), 0)) else ((strings_Split.f a0 (⟨#[44]⟩ : ByteArray)).bind fun t101 => ((address_Tags.f t101).bind fun bt104 => (if bt104.2 = 0 then (if bt104.1.toList = a0.toList then (some (t101, 0)) else (some (([] : List ByteArray), 3))) else (some (([] : List ByteArray), 3)))))
set_option maxRecDepth 100000 in
theorem address_Split.lf {p : Prop} (h : p := by
 go_wp2_with (first
 | ((with_reducible refine gate_callee (f := 65) rfl ?_); refine goesL_ (some 10) rfl rfl Tryz.func65 (by kernel_rfl) rfl #[.string a0, .string (⟨#[44]⟩ : ByteArray)] rfl zl ?_; (with_reducible refine (strings_Split.calls _ _ _ _ A3.out).mono ?_); rintro e wz0 ⟨v102, rfl, ho0, hb⟩; refine ⟨_, rfl, ?_⟩; have HO103 := Aside0.mk (Kd.R_lower ho0 (below_size zB)); replace HB := sb w hb; clear hb ho0; obtain ⟨Aoz1, coz1, eoz1⟩ := Kd.R_slice HO103.out; subst eoz1)
 | ((with_reducible refine gate_callee (f := 19) rfl ?_); refine goesL_ (some 13) rfl rfl Tryz.func19 (by kernel_rfl) rfl #[.slice Aoz1 t101.length coz1] rfl zl ?_; (with_reducible refine (address_Tags.calls _ _ _ _ _ _ ?side1 ?side2 A4.out).mono ?_); (case side1 => repeat (first | exact (Kd.R_reads' HO103.out).2.2 | (with_reducible refine Kd.C_alloc ?_ _) | (with_reducible refine Kd.C_drewN ?_ _) | (with_reducible refine Kd.C_drew ?_))); (case side2 => exact (Kd.R_reads' HO103.out).2.1); rintro e wz2 ⟨rfl, hb⟩; refine ⟨_, rfl, ?_⟩; replace HO103 := rb HO103 hb; replace HB := sb w hb; clear hb))
 first
 | (go_ret2; exact ⟨_, zE, by (with_reducible repeat (first | apply Kd.R_alloc | apply Kd.R_drewN | apply Kd.R_drew)); exact HO103.out, zB⟩)
 | (go_ret2; exact ⟨_, zE, by first | exact Kd.R_nil _ _ _ _ _ | exact Kd.N_nil _ _ _ _ _ | exact Kd.V_nil _ _ _ _ _ | exact Kd.Q_nil _ _ _ _ _ | exact Kd.S_nil _ _ _ _ _, zB⟩)) : p := h
set_option maxHeartbeats 8000000 in
set_option maxRecDepth 100000 in
theorem address_Split.calls (a0 : ByteArray) (r1 : List ByteArray) (r2 : Int) (w : World) (h : address_Split.f a0 = some (r1, r2)) :
  Calls Tryz.prog 21 #[.string a0] w fun e w' => ∃ v0_ : Value, e = .returned (.tuple #[v0_, .int .i64 r2]) ∧ Kd.R Kd.string 9 w' w.heap.size (fun _ => True) v0_ r1 ∧ Below w.heap.size w w' := by
 have HB := Aside0.mk (Below.refl w.heap.size w)
 have H : (if a0.toList = ([] : List UInt8) then (some (([] : List ByteArray), 0)) else ((strings_Split.f a0 (⟨#[44]⟩ : ByteArray)).bind fun t101 => ((address_Tags.f t101).bind fun bt104 => (if bt104.2 = 0 then (if bt104.1.toList = a0.toList then (some (t101, 0)) else (some (([] : List ByteArray), 3))) else (some (([] : List ByteArray), 3)))))) = some (r1, r2) := h
 clear h
 by_cases c2 : a0.toList = ([] : List UInt8)
 ·rw [if_pos c2] at H
  have c2b0 : (a0.toList == ([] : List UInt8)) = true := beq_iff_eq.mpr c2
  have c2b1 : (a0.toList != ([] : List UInt8)) = false := bne_eq_false_iff_eq.mpr c2
  clear c2
  simp only [Option.some.injEq, Prod.mk.injEq] at H
  obtain ⟨rfl, rfl⟩ := H
  go_enter Tryz.func21, Tryz.ntmps21
  go_wp2
  go_ret2
  exact ⟨_, zE, by first | exact Kd.R_nil _ _ _ _ _ | exact Kd.N_nil _ _ _ _ _ | exact Kd.V_nil _ _ _ _ _ | exact Kd.Q_nil _ _ _ _ _ | exact Kd.S_nil _ _ _ _ _, zB⟩
 ·rw [if_neg c2] at H
  have c2b0 : (a0.toList == ([] : List UInt8)) = false := beq_eq_false_iff_ne.mpr c2
  have c2b1 : (a0.toList != ([] : List UInt8)) = true := bne_iff_ne.mpr c2
  obtain ⟨t101, A3, H⟩ := bd H
  obtain ⟨⟨t104, t105⟩, A4, H⟩ := bd H
  dsimp only at H
  by_cases c5 : t105 = 0
  ·rw [if_pos c5] at H
   have c5b0 : (t105 == 0) = true := beq_iff_eq.mpr c5
   have c5b1 : (t105 != 0) = false := bne_eq_false_iff_eq.mpr c5
   clear c5
   by_cases c6 : t104.toList = a0.toList
   ·rw [if_pos c6] at H
    have c6b0 : (t104.toList == a0.toList) = true := beq_iff_eq.mpr c6
    have c6b1 : (t104.toList != a0.toList) = false := bne_eq_false_iff_eq.mpr c6
    clear c6
    simp only [Option.some.injEq, Prod.mk.injEq] at H
    obtain ⟨rfl, rfl⟩ := H
    go_enter Tryz.func21, Tryz.ntmps21
    exact address_Split.lf
   ·rw [if_neg c6] at H
    have c6b0 : (t104.toList == a0.toList) = false := beq_eq_false_iff_ne.mpr c6
    have c6b1 : (t104.toList != a0.toList) = true := bne_iff_ne.mpr c6
    simp only [Option.some.injEq, Prod.mk.injEq] at H
    obtain ⟨rfl, rfl⟩ := H
    go_enter Tryz.func21, Tryz.ntmps21
    exact address_Split.lf
  ·rw [if_neg c5] at H
   have c5b0 : (t105 == 0) = false := beq_eq_false_iff_ne.mpr c5
   have c5b1 : (t105 != 0) = true := bne_iff_ne.mpr c5
   simp only [Option.some.injEq, Prod.mk.injEq] at H
   obtain ⟨rfl, rfl⟩ := H
   go_enter Tryz.func21, Tryz.ntmps21
   exact address_Split.lf
def address_HasTag.f (k : Nat) (a0 : ByteArray) (a1 : ByteArray) : Option (Bool) := (address_Split.f a0).bind fun bt101 => ((slices_Contains_string_string.f k bt101.1 a1).bind fun t105 => (some t105))
set_option maxHeartbeats 8000000 in
set_option maxRecDepth 100000 in
theorem address_HasTag.calls (k : Nat) (a0 : ByteArray) (a1 : ByteArray) (r : Bool) (w : World) (h : address_HasTag.f k a0 a1 = some r) :
  Calls Tryz.prog 24 #[.string a0, .string a1] w fun e w' => e = .returned (.bool r) ∧ Below w.heap.size w w' := by
 have HB := Aside0.mk (Below.refl w.heap.size w)
 have H : ((address_Split.f a0).bind fun bt101 => ((slices_Contains_string_string.f k bt101.1 a1).bind fun t105 => (some t105))) = some r := h
 clear h
 obtain ⟨⟨t101, t102⟩, A3, H⟩ := bd H
 dsimp only at H
 obtain ⟨t105, A4, H⟩ := bd H
 obtain rfl := Option.some.inj H
 go_enter Tryz.func24, Tryz.ntmps24
 go_wp2_with (first | ((with_reducible refine gate_callee (f := 21) rfl ?_); refine goesL_ (some 9) rfl rfl Tryz.func21 (by kernel_rfl) rfl #[.string a0] rfl zl ?_; (with_reducible refine (address_Split.calls a0 t101 t102 _ A3.out).mono ?_); rintro e w5 ⟨v103, rfl, ho0, hb⟩; refine ⟨_, rfl, ?_⟩; have HO104 := Aside0.mk (Kd.R_lower ho0 (below_size zB)); replace HB := sb w hb; clear hb ho0; obtain ⟨Ao6, co6, eo6⟩ := Kd.R_slice HO104.out; subst eo6) | ((with_reducible refine gate_callee (f := 66) rfl ?_); refine goesL_ (some 14) rfl rfl Tryz.func66 (by kernel_rfl) rfl #[.slice Ao6 t101.length co6, .string a1] rfl zl ?_; (with_reducible refine (slices_Contains_string_string.calls k _ _ t101 a1 t105 _ ?side1 ?side2 A4.out).mono ?_); (case side1 => repeat (first | exact (Kd.R_reads' HO104.out).2.2 | (with_reducible refine Kd.C_alloc ?_ _) | (with_reducible refine Kd.C_drewN ?_ _) | (with_reducible refine Kd.C_drew ?_))); (case side2 => exact (Kd.R_reads' HO104.out).2.1); rintro e w' ⟨rfl, ⟨nd, rfl⟩⟩; refine ⟨_, rfl, ?_⟩))
 go_ret
 exact ⟨zE, zB⟩
end Go.Proofs.YtmokgpepeddopaaGreatDoor.P
end
