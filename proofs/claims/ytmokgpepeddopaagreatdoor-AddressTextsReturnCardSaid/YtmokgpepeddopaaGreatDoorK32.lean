/- Lemmas on the way to the statement: part 32 of 32 (functions as plain Lean functions, and that each call comes to what they say). -/
import Derived.Test.YtmokgpepeddopaaGreatDoorK29
import Derived.Test.YtmokgpepeddopaaGreatDoorK2
import Derived.Test.YtmokgpepeddopaaGreatDoorK28
import Derived.Test.YtmokgpepeddopaaGreatDoorK15
import Derived.Test.YtmokgpepeddopaaGreatDoorK31
section
namespace Go.Proofs.YtmokgpepeddopaaGreatDoor.P
open Go.RowKit Go.Proofs.YtmokgpepeddopaaGreatDoorW.PrintWords Go.Proofs.YtmokgpepeddopaaGreatDoorW.PrintLast Go.Proofs.YtmokgpepeddopaaGreatDoorW.PrintMore
open Go.Proofs.YtmokgpepeddopaaGreatDoor.Addr
set_option linter.unusedSimpArgs false
set_option linter.unusedVariables false
def tagsR (l : List Str) : ByteArray × Int := match tagsA l with
  | .bad => (⟨#[]⟩, 1)
  | .long => (⟨#[]⟩, 2)
  | .ok t => (B t, 0)
theorem compact_sorted (l : List ByteArray) : (compactF (sortedF l)).map L = tagsL (l.map L) := by
  unfold compactF sortedF
  rw [LB_map, LB_map]
  exact compact_sort (l.map L)
theorem names_len {l : List Str} (h : ∀ x ∈ l, name x = true) : (joinB 44 l).length ≤ l.length * 65 := by
  cases l with
  | nil => simp [joinB]
  | cons x r =>
    have h1 := joinB_len 44 (x :: r) (by simp)
    have h2 : plen (x :: r) ≤ (x :: r).length * 65 := by
      have := sum_le ((x :: r).map (fun x => x.length + 1)) 65 (fun y hy => by
        obtain ⟨z, hz, rfl⟩ := List.mem_map.1 hy
        have := word_le (name_word (h z hz)); omega)
      simpa [plen] using this
    omega
theorem Tags_f (l : List ByteArray) (hl : l.length < 1099511627776) : address_Tags.f l = some (tagsR (l.map L)) := by
  unfold address_Tags.f tagsR tagsA
  have e0 : (l.any fun x => !name (L x)) = !(l.map L).all name := by simp [List.all_map, List.not_all_eq_any_not, Function.comp_def]
  rw [if_pos hl, e0]
  unfold tagsText
  rw [compact_sorted]
  cases hn : (l.map L).all name with
  | false => rfl
  | true =>
    have hnames : ∀ x ∈ tagsL (l.map L), name x = true := fun x hx => List.all_eq_true.1 hn x ((tagsL_mem _ x).1 hx)
    have h1 := names_len hnames
    have h2 := tagsL_len (l.map L)
    rw [List.length_map] at h2
    have h3 : (tagsL (l.map L)).length * 65 ≤ l.length * 65 := Nat.mul_le_mul_right _ h2
    rw [if_neg (by decide), if_pos (by omega), if_pos rfl]
    simp only [B_size]
    by_cases h : 4096 < (joinB 44 (tagsL (l.map L))).length
    · rw [if_pos h, if_pos h]
    · rw [if_neg h, if_neg h]
theorem insert_after (M : List Str) (s : ByteArray) (hl : M.length < 1099511627776) : ∀ n, n ≤ M.length → (∀ p ∈ M.drop n, p ≠ L s) → ∀ out : List ByteArray, out.length ≤ n + 1 →
    Evt (fun k => weirgateref06_insert.l0 k (M.map B) s out true (n : Int)) (out ++ (M.drop n).map B) := by
  have hml : (M.map B).length = M.length := by simp
  refine drop_ind ?_ fun n p hp hd hlt ih => ?_
  · intro _ out ho
    exact Evt.fin fun k => by simp only [weirgateref06_insert.l0]; rw [if_neg (by omega), if_pos trivial]; simp
  · intro hne out ho
    have hp2 : (M.map B)[n]? = some (B p) := by simp [hp]
    rw [hd] at hne ⊢
    have h1 : p ≠ L s := hne p (by simp)
    refine Evt.step (g := fun k => weirgateref06_insert.j1 k (M.map B) s out true (n : Int) false) (fun k => ?_) ?_
    · simp only [weirgateref06_insert.l0]
      rw [if_pos (by omega), if_pos trivial]
    · refine Evt.step (g := fun k => weirgateref06_insert.l0 k (M.map B) s (out ++ [B p]) true ((n + 1 : Nat) : Int)) (fun k => ?_) ?_
      · simp only [weirgateref06_insert.j1]
        rw [if_neg (by decide), if_pos (by omega), if_pos (by omega), rdOf_at hp2, if_neg (by rw [toList_L, toList_L, L_B]; exact h1), if_pos (by omega), wrap_nat _ (by omega)]
      · have := ih (fun q hq => hne q (by simp [hq])) (out ++ [B p]) (by simp; omega)
        simpa using this
theorem insert_before (M : List Str) (s : ByteArray) (hl : M.length < 1099511627776) (hM : strict M) : ∀ n, n ≤ M.length → ∀ out : List ByteArray, out.length ≤ n →
    Evt (fun k => weirgateref06_insert.l0 k (M.map B) s out false (n : Int)) (out ++ (insT (L s) (M.drop n)).map B) := by
  have hml : (M.map B).length = M.length := by simp
  refine drop_ind ?_ fun n p hp hd hlt ih => ?_
  · intro out ho
    rw [List.drop_length, insT]
    exact Evt.fin fun k => by simp only [weirgateref06_insert.l0]; rw [if_neg (by omega), if_neg (by decide), if_pos (by omega), List.map_cons, List.map_nil, B_L]
  · intro out ho
    have hp2 : (M.map B)[n]? = some (B p) := by simp [hp]
    have hs : strict (p :: M.drop (n + 1)) := by rw [← hd]; exact hM.sublist (List.drop_sublist n M)
    rw [hd, insT]
    refine Evt.step (g := fun k => weirgateref06_insert.j1 k (M.map B) s out false (n : Int) (!(blt p (L s)))) (fun k => ?_) ?_
    · simp only [weirgateref06_insert.l0]
      rw [if_pos (by omega), if_neg (by decide), if_pos (by omega), rdOf_at hp2, less_blt, toList_L, toList_L, L_B]
    · by_cases hb : blt p (L s) = true
      · rw [if_pos hb, hb]
        refine Evt.step (g := fun k => weirgateref06_insert.l0 k (M.map B) s (out ++ [B p]) false ((n + 1 : Nat) : Int)) (fun k => ?_) ?_
        · simp only [weirgateref06_insert.j1]
          rw [if_neg (by decide), if_pos (by omega), if_pos (by omega), rdOf_at hp2, if_neg (by rw [toList_L, toList_L, L_B]; exact blt_ne hb), if_pos (by omega), wrap_nat _ (by omega)]
        · have := ih (out ++ [B p]) (by simp; omega)
          simpa using this
      · have hb' : blt p (L s) = false := by simpa using hb
        rw [if_neg hb, hb']
        have hrest : ∀ q ∈ M.drop (n + 1), q ≠ L s := fun q hq e => by
          have h1 := (List.pairwise_cons.1 hs).1 q hq
          rw [e, hb'] at h1; cases h1
        by_cases he : p = L s
        · rw [if_pos he]
          refine Evt.step (g := fun k => weirgateref06_insert.l0 k (M.map B) s (out ++ [s]) true ((n + 1 : Nat) : Int)) (fun k => ?_) ?_
          · simp only [weirgateref06_insert.j1]
            rw [if_pos (show (!false) = true from rfl), if_pos (by omega)]
            simp only [Option.bind_some]
            rw [if_pos (by omega), if_pos (by omega), rdOf_at hp2, if_pos (by rw [toList_L, toList_L, L_B]; exact he), wrap_nat _ (by omega)]
          · have := insert_after M s hl (n + 1) (by omega) hrest (out ++ [s]) (by simp; omega)
            simpa [B_L] using this
        · rw [if_neg he]
          refine Evt.step (g := fun k => weirgateref06_insert.l0 k (M.map B) s ((out ++ [s]) ++ [B p]) true ((n + 1 : Nat) : Int)) (fun k => ?_) ?_
          · simp only [weirgateref06_insert.j1]
            rw [if_pos (show (!false) = true from rfl), if_pos (by omega)]
            simp only [Option.bind_some]
            rw [if_pos (by omega), if_pos (by omega), rdOf_at hp2, if_neg (by rw [toList_L, toList_L, L_B]; exact he), if_pos (by simp; omega), wrap_nat _ (by omega)]
          · have := insert_after M s hl (n + 1) (by omega) hrest ((out ++ [s]) ++ [B p]) (by simp; omega)
            simpa [B_L] using this
theorem insert_f (M : List Str) (s : ByteArray) (hl : M.length < 1099511627776) (hM : strict M) : Evt (fun k => weirgateref06_insert.f k (M.map B) s) ((insT (L s) M).map B) := by
  unfold weirgateref06_insert.f
  simpa using insert_before M s hl hM 0 (Nat.zero_le _) [] (Nat.le_refl _)
theorem joinB_snoc (sep : UInt8) (l : List Str) (x : Str) (h : l ≠ []) : joinB sep (l ++ [x]) = joinB sep l ++ sep :: x := by
  induction l with
  | nil => exact absurd rfl h
  | cons y r ih =>
    cases r with
    | nil => rfl
    | cons z t =>
      have := ih (by simp)
      simp only [List.cons_append, joinB] at this ⊢
      rw [this]; simp
theorem joined_l0 (M : List Str) (hl : M.length < 1099511627776) (hb : (joinB 44 M).length < 4611686018427387904) : ∀ n, n ≤ M.length → Evt (fun k => weirgateref06_joined.l0 k (M.map B) (B (joinB 44 (M.take n))) (n : Int)) (B (joinB 44 M)) := by
  have hml : (M.map B).length = M.length := by simp
  have hpre : ∀ n, n ≤ M.length → (joinB 44 (M.take n)).length ≤ (joinB 44 M).length := fun n hn => by
    by_cases h0 : M.take n = []
    · rw [h0]; simp [joinB]
    · have h1 := joinB_len 44 _ h0
      have hM : M ≠ [] := fun e => h0 (by rw [e]; simp)
      have h2 := joinB_len 44 M hM
      have h3 : plen M = plen (M.take n) + plen (M.drop n) := by rw [← plen_append, List.take_append_drop]
      omega
  refine drop_ind ?_ fun n p hp hd hlt ih => ?_
  · rw [List.take_length]
    exact Evt.fin fun k => by simp only [weirgateref06_joined.l0]; rw [if_neg (by omega)]
  · have hp2 : (M.map B)[n]? = some (B p) := by simp [hp]
    have htk : M.take (n + 1) = M.take n ++ [p] := by rw [List.take_add_one, hp]; rfl
    have hle := hpre (n + 1) (by omega)
    have h44 : L (⟨#[44]⟩ : ByteArray) = [44] := rfl
    have hs44 : (⟨#[44]⟩ : ByteArray).size = 1 := rfl
    rw [htk] at ih hle
    by_cases h0 : n = 0
    · subst h0
      refine Evt.step (fun k => ?_) ih
      simp only [weirgateref06_joined.l0]
      rw [if_pos (by omega), if_neg (by omega), if_pos (by omega), rdOf_at hp2, if_pos (by simp only [List.take_zero, joinB, B_size, List.nil_append] at hle ⊢; simp at hle ⊢; omega)]
      have : B (joinB 44 (M.take 0)) ++ B p = B (joinB 44 (M.take 0 ++ [p])) := by
        rw [← B_L (_ ++ _), L_app, L_B, L_B]; rfl
      rw [this, wrap_nat _ (by omega)]
    · have hne : M.take n ≠ [] := by
        intro e
        have := congrArg List.length e
        rw [List.length_take, List.length_nil] at this; omega
      rw [joinB_snoc _ _ _ hne] at ih hle
      rw [List.length_append, List.length_cons] at hle
      refine Evt.step (fun k => ?_) ih
      simp only [weirgateref06_joined.l0]
      rw [if_pos (by omega), if_pos (by omega), if_pos (by rw [B_size]; omega), if_pos (by omega), rdOf_at hp2, if_pos (by rw [app_size, B_size, B_size, hs44]; omega), wrap_nat _ (by omega)]
      have : (B (joinB 44 (M.take n)) ++ (⟨#[44]⟩ : ByteArray)) ++ B p = B (joinB 44 (M.take n) ++ 44 :: p) := by
        rw [← B_L (_ ++ B p), L_app, L_app, L_B, L_B, h44]; simp
      rw [this]
theorem joined_f (M : List Str) (hl : M.length < 1099511627776) (hb : (joinB 44 M).length < 4611686018427387904) : Evt (fun k => weirgateref06_joined.f k (M.map B)) (B (joinB 44 M)) := by
  unfold weirgateref06_joined.f
  exact joined_l0 M hl hb 0 (Nat.zero_le _)
theorem refTags_l0 (l : List ByteArray) (hl : l.length < 1099511627776) (hw : ∀ x ∈ l, x.size < 4611686018427387904) : ∀ n, n ≤ l.length → ((l.take n).map L).all name = true →
    Evt (fun k => weirgateref06_Tags.l0 k l ((tagsL ((l.take n).map L)).map B) (n : Int)) (tagsR (l.map L)) := by
  refine drop_ind ?_ fun n x hx hd hlt ih => ?_
  · intro hn
    rw [List.take_length] at hn ⊢
    have hnames : ∀ x ∈ tagsL (l.map L), name x = true := fun x hx => List.all_eq_true.1 hn x ((tagsL_mem _ x).1 hx)
    have h1 := names_len hnames
    have h2 := tagsL_len (l.map L)
    rw [List.length_map] at h2
    have h3 : (tagsL (l.map L)).length * 65 ≤ l.length * 65 := Nat.mul_le_mul_right _ h2
    refine Evt.step (g := fun k => (weirgateref06_joined.f k ((tagsL (l.map L)).map B)).bind fun t102 => (if (t102.size : Int) > 4096 then (some ((⟨#[]⟩ : ByteArray), 2)) else (some (t102, 0)))) (fun k => ?_) ?_
    · simp only [weirgateref06_Tags.l0]
      rw [if_neg (by omega)]
    · refine Evt.bind (joined_f (tagsL (l.map L)) (by omega) (by omega)) ?_
      refine Evt.of fun k => ?_
      unfold tagsR tagsA
      rw [if_pos hn, B_size]
      by_cases h : 4096 < (joinB 44 (tagsL (l.map L))).length
      · rw [if_pos (by omega), if_pos h]
      · rw [if_neg (by omega), if_neg h]
  · intro hn
    have hsz := hw x (List.mem_of_getElem? hx)
    have htk : l.take (n + 1) = l.take n ++ [x] := by rw [List.take_add_one, hx]; rfl
    refine Evt.step (g := fun k => (weirgateref06_Name.f k x).bind fun t104 => (if t104 = true then ((weirgateref06_insert.f k ((tagsL ((l.take n).map L)).map B) x).bind fun t106 => (weirgateref06_Tags.l0 k l t106 ((n + 1 : Nat) : Int))) else (some ((⟨#[]⟩ : ByteArray), 1)))) (fun k => ?_) ?_
    · simp only [weirgateref06_Tags.l0]
      rw [if_pos (by omega), if_pos (by omega), rdOf_at hx, wrap_nat _ (by omega)]
    · refine Evt.bind (name_f x hsz) ?_
      cases hnx : name (L x) with
      | false =>
        have : (l.map L).all name = false := by
          rw [Bool.eq_false_iff]; intro h
          have := List.all_eq_true.1 h (L x) (List.mem_map_of_mem (List.mem_of_getElem? hx))
          rw [hnx] at this; cases this
        unfold tagsR tagsA
        rw [this]
        exact Evt.of fun k => by simp
      | true =>
        refine Evt.same (fun k => if_pos rfl) ?_
        have hlen := tagsL_len ((l.take n).map L)
        rw [List.length_map, List.length_take] at hlen
        refine Evt.bind (insert_f _ x (by omega) (tagsL_strict _)) ?_
        have e : insT (L x) (tagsL ((l.take n).map L)) = tagsL ((l.take (n + 1)).map L) := by
          rw [htk, List.map_append]
          unfold tagsL
          rw [List.foldl_append]; rfl
        rw [e]
        exact ih (by rw [htk, List.map_append, List.all_append, hn]; simp [hnx])
theorem refTags_f (l : List ByteArray) (hl : l.length < 1099511627776) (hw : ∀ x ∈ l, x.size < 4611686018427387904) : Evt (fun k => weirgateref06_Tags.f k l) (tagsR (l.map L)) := by
  unfold weirgateref06_Tags.f
  exact refTags_l0 l hl hw 0 (Nat.zero_le _) rfl
def splitR (s : Str) : List ByteArray × Int := match splitTags s with
  | some l => (l.map B, 0)
  | none => ([], 3)
theorem split_size {s : ByteArray} (hs : s.size < 4294967281) : (splitB 44 (L s)).length < 1099511627776 ∧ ∀ x ∈ (splitB 44 (L s)).map B, x.size < 4611686018427387904 := by
  have h1 := splitB_length_le 44 (L s)
  rw [L_length] at h1
  refine ⟨by omega, fun x hx => ?_⟩
  obtain ⟨y, hy, rfl⟩ := List.mem_map.1 hx
  have := split_part hy
  rw [L_length] at this
  rw [B_size]; omega
theorem Split_f (s : ByteArray) (hs : s.size < 4294967281) : address_Split.f s = some (splitR (L s)) := by
  unfold address_Split.f splitR splitTags
  rw [toList_L]
  by_cases h : L s = []
  · rw [if_pos h, if_pos h]; rfl
  · rw [if_neg h, if_neg h]
    have e : strings_Split.f s (⟨#[44]⟩ : ByteArray) = some ((splitB 44 (L s)).map B) := by
      show (if s.size < 4294967281 then some ((splitB 44 (L s)).map B) else none) = _
      rw [if_pos hs]
    rw [e]
    simp only [Option.bind_some]
    rw [Tags_f _ (by rw [List.length_map]; exact (split_size hs).1), LB_map]
    simp only [Option.bind_some, tagsR]
    cases tagsA (splitB 44 (L s)) with
    | bad => simp
    | long => simp
    | ok t =>
      simp only [if_true, toList_L, L_B]
      by_cases ht : t = L s
      · rw [if_pos ht, if_pos ht]
      · rw [if_neg ht, if_neg ht]
theorem tagsA_len {l : List Str} {t : Str} (h : tagsA l = .ok t) : t.length ≤ 4096 := by
  unfold tagsA at h
  split at h
  · split at h
    · cases h
    · injection h with h; subst h; omega
  · cases h
theorem refSplit_f (s : ByteArray) (hs : s.size < 4294967281) : Evt (fun k => weirgateref06_Split.f k s) (splitR (L s)) := by
  unfold weirgateref06_Split.f splitR splitTags
  rw [toList_L]
  by_cases h0 : (s.size : Int) > 4096
  · have hne : L s ≠ [] := fun e => by have := congrArg List.length e; rw [L_length, List.length_nil] at this; omega
    rw [if_neg hne]
    refine Evt.same (fun k => if_pos h0) ?_
    cases ht : tagsA (splitB 44 (L s)) with
    | bad => exact Evt.of fun k => rfl
    | long => exact Evt.of fun k => rfl
    | ok t =>
      have hl := tagsA_len ht
      have : t ≠ L s := fun e => by rw [e, L_length] at hl; omega
      simp only [if_neg this]
      exact Evt.of fun k => rfl
  · refine Evt.same (fun k => if_neg h0) ?_
    by_cases h : L s = []
    · rw [if_pos h]
      exact Evt.of fun k => if_pos h
    · rw [if_neg h]
      refine Evt.same (fun k => if_neg h) ?_
      refine Evt.bind (split_f s 44 (by omega)) ?_
      have ht := refTags_f ((splitB 44 (L s)).map B) (by rw [List.length_map]; exact (split_size hs).1) (split_size hs).2
      rw [LB_map] at ht
      refine Evt.bind ht ?_
      unfold tagsR
      cases tagsA (splitB 44 (L s)) with
      | bad => exact Evt.of fun k => by simp
      | long => exact Evt.of fun k => by simp
      | ok t =>
        simp only [if_true, toList_L, L_B]
        by_cases ht : t = L s
        · exact Evt.of fun k => by simp only [if_pos ht]
        · exact Evt.of fun k => by simp only [if_neg ht]
def hasTagR (s tag : Str) : Bool := ((splitTags s).getD []).contains tag
theorem splitR_1 (s : Str) : (splitR s).1 = ((splitTags s).getD []).map B := by unfold splitR; cases splitTags s <;> rfl
theorem Index_l0 (l : List Str) (t : ByteArray) (hl : l.length < 1099511627776) : ∀ n, n ≤ l.length → ∃ r, Evt (fun k => slices_Index_string_string.l0 k (l.map B) t ((l.map B).length : Int) (n : Int)) r ∧ decide (r ≥ 0) = (l.drop n).contains (L t) := by
  have hml : (l.map B).length = l.length := by simp
  rw [hml]
  refine drop_ind ?_ fun n x hx hd hlt ih => ?_
  · refine ⟨-1, Evt.fin fun k => by simp only [slices_Index_string_string.l0]; rw [if_neg (by omega)], by rw [List.drop_length]; rfl⟩
  · have hx2 : (l.map B)[n]? = some (B x) := by simp [hx]
    rw [hd, List.contains_cons]
    by_cases h : L t = x
    · refine ⟨(n : Int), Evt.fin fun k => ?_, ?_⟩
      · simp only [slices_Index_string_string.l0]
        rw [if_pos (by omega), if_pos (by omega), if_pos (by omega), rdOf_at hx2, toList_L, toList_L, L_B, if_pos h]
      · rw [decide_eq_true (by omega), beq_iff_eq.2 h, Bool.true_or]
    · obtain ⟨r, h1, h2⟩ := ih
      refine ⟨r, Evt.step (fun k => ?_) h1, by rw [beq_eq_false_iff_ne.2 h, Bool.false_or]; exact h2⟩
      simp only [slices_Index_string_string.l0]
      rw [if_pos (by omega), if_pos (by omega), if_pos (by omega), rdOf_at hx2, toList_L, toList_L, L_B, if_neg h, wrap_nat _ (by omega)]
theorem splitTags_len (s : Str) : ((splitTags s).getD []).length ≤ s.length + 1 := by
  unfold splitTags
  split
  · simp
  · have := splitB_length_le 44 s
    split
    · split
      · exact this
      · simp
    · simp
theorem HasTag_f (s t : ByteArray) (hs : s.size < 4294967281) : Evt (fun k => address_HasTag.f k s t) (hasTagR (L s) (L t)) := by
  unfold address_HasTag.f
  refine Evt.bind' (Split_f s hs) ?_
  have hl := splitTags_len (L s)
  rw [L_length] at hl
  obtain ⟨r, h1, h2⟩ := Index_l0 ((splitTags (L s)).getD []) t (by omega) 0 (Nat.zero_le _)
  have h3 : Evt (fun k => slices_Contains_string_string.f k (splitR (L s)).1 t) (hasTagR (L s) (L t)) := by
    unfold slices_Contains_string_string.f slices_Index_string_string.f
    rw [splitR_1]
    refine Evt.bind h1 (Evt.of fun k => ?_)
    rw [h2]; rfl
  exact Evt.bind h3 (Evt.of fun _ => rfl)
theorem refHasTag_l0 (l : List Str) (t : ByteArray) (hl : l.length < 1099511627776) : ∀ n, n ≤ l.length → Evt (fun k => weirgateref06_HasTag.l0 k t (l.map B) (n : Int)) ((l.drop n).contains (L t)) := by
  have hml : (l.map B).length = l.length := by simp
  refine drop_ind ?_ fun n x hx hd hlt ih => ?_
  · exact Evt.fin fun k => by simp only [weirgateref06_HasTag.l0]; rw [if_neg (by omega), List.drop_length]; rfl
  · have hx2 : (l.map B)[n]? = some (B x) := by simp [hx]
    rw [hd, List.contains_cons]
    by_cases h : L t = x
    · rw [beq_iff_eq.2 h, Bool.true_or]
      refine Evt.fin fun k => ?_
      simp only [weirgateref06_HasTag.l0]
      rw [if_pos (by omega), if_pos (by omega), rdOf_at hx2, toList_L, toList_L, L_B, if_pos h.symm]
    · rw [beq_eq_false_iff_ne.2 h, Bool.false_or]
      refine Evt.step (fun k => ?_) ih
      simp only [weirgateref06_HasTag.l0]
      rw [if_pos (by omega), if_pos (by omega), rdOf_at hx2, toList_L, toList_L, L_B, if_neg (fun e => h e.symm), wrap_nat _ (by omega)]
theorem refHasTag_f (s t : ByteArray) (hs : s.size < 4294967281) : Evt (fun k => weirgateref06_HasTag.f k s t) (hasTagR (L s) (L t)) := by
  unfold weirgateref06_HasTag.f
  refine Evt.bind (refSplit_f s hs) ?_
  have hl := splitTags_len (L s)
  rw [L_length] at hl
  rw [splitR_1]
  exact refHasTag_l0 _ t (by omega) 0 (Nat.zero_le _)
theorem SameList_l0 (l : List ByteArray) (hl : l.length < 1099511627776) : ∀ n, n ≤ l.length → Evt (fun k => weirgateref06_SameList.l0 k l l (n : Int)) true := by
  refine drop_ind ?_ fun n x hx hd hlt ih => ?_
  · exact Evt.fin fun k => by simp only [weirgateref06_SameList.l0]; rw [if_neg (by omega)]
  · refine Evt.step (fun k => ?_) ih
    simp only [weirgateref06_SameList.l0]
    rw [if_pos (by omega), if_pos (by omega), if_pos (by omega), if_pos trivial, wrap_nat _ (by omega)]
theorem SameList_f (l : List ByteArray) (hl : l.length < 1099511627776) : Evt (fun k => weirgateref06_SameList.f k l l) true := by
  unfold weirgateref06_SameList.f
  exact Evt.same (fun k => if_pos rfl) (SameList_l0 l hl 0 (Nat.zero_le _))
def coversS (p q : Str) : Bool × ByteArray × Int := match pat p, pat q with
  | some x, some y => coversA x y
  | _, _ => (false, ⟨#[]⟩, 1)
def meetS (p q : Str) : Bool × ByteArray × Int := match pat p, pat q with
  | some x, some y => meetA x y
  | _, _ => (false, ⟨#[]⟩, 1)
def bothS (p q : Str) : ByteArray × Bool × Int := match pat p, pat q with
  | some x, some y => bothA x y
  | _, _ => (⟨#[]⟩, false, 1)
theorem Covers_f (p q : ByteArray) (hp : p.size < 4294967281) (hq : q.size < 4294967281) : Evt (fun k => address_Covers.f k p q) (coversS (L p) (L q)) := by
  unfold coversS
  cases hx : pat (L p) with
  | none => exact Covers_err p q hp hq (.inl hx)
  | some x => cases hy : pat (L q) with
    | none => exact Covers_err p q hp hq (.inr hy)
    | some y => exact Covers_pats p q hp hq hx hy
theorem Meet_f (p q : ByteArray) (hp : p.size < 4294967281) (hq : q.size < 4294967281) : Evt (fun k => address_Meet.f k p q) (meetS (L p) (L q)) := by
  unfold meetS
  cases hx : pat (L p) with
  | none => exact Meet_err p q hp hq (.inl hx)
  | some x => cases hy : pat (L q) with
    | none => exact Meet_err p q hp hq (.inr hy)
    | some y => exact Meet_pats p q hp hq hx hy
theorem Both_f (p q : ByteArray) (hp : p.size < 4294967281) (hq : q.size < 4294967281) : Evt (fun k => address_Both.f k p q) (bothS (L p) (L q)) := by
  unfold bothS
  cases hx : pat (L p) with
  | none => exact Both_err p q hp hq (.inl hx)
  | some x => cases hy : pat (L q) with
    | none => exact Both_err p q hp hq (.inr hy)
    | some y => exact Both_pats p q hp hq hx hy
theorem Evt.val {α : Type} {g : Nat → Option α} {r r' : α} (h : Evt g r) (e : r = r') : Evt g r' := e ▸ h
theorem sanity_j1 : Evt (fun k => weirgatelaw06_sanity.j1 k true true) true := by
  have t1 : address_Tags.f (([(⟨#[98]⟩ : ByteArray), (⟨#[97]⟩ : ByteArray), (⟨#[98]⟩ : ByteArray)] : List ByteArray)) = some (⟨#[97, 44, 98]⟩, 0) := by
    rw [Tags_f _ (by decide)]
    exact congrArg some (by decide +kernel)
  have u1 : address_Under.f (⟨#[97, 99, 109, 101, 47, 110, 101, 119, 115]⟩ : ByteArray) (⟨#[97, 99, 109, 101, 47, 110, 101, 119, 115, 47, 97]⟩ : ByteArray) = some true := by
    rw [Under_f]
    exact congrArg some (by decide +kernel)
  have u2 : address_Under.f (⟨#[97, 99, 109, 101, 47, 110, 101, 119]⟩ : ByteArray) (⟨#[97, 99, 109, 101, 47, 110, 101, 119, 115]⟩ : ByteArray) = some false := by
    rw [Under_f]
    exact congrArg some (by decide +kernel)
  have h1 : Evt (fun k => address_HasTag.f k (⟨#[97, 44, 98]⟩ : ByteArray) (⟨#[98]⟩ : ByteArray)) true := (HasTag_f _ _ (by decide)).val (by decide +kernel)
  refine Evt.step (g := fun k => (address_HasTag.f k (⟨#[97, 44, 98]⟩ : ByteArray) (⟨#[98]⟩ : ByteArray)).bind fun t126 => (some t126)) (fun k => ?_) (Evt.bind h1 (Evt.of fun _ => rfl))
  simp only [weirgatelaw06_sanity.j1]
  rw [t1, u1, u2]
  simp only [Option.bind_some, if_true, toList_L]
  rfl
theorem sanity_j0 : Evt (fun k => weirgatelaw06_sanity.j0 k true) true := by
  have c1 : Evt (fun k => address_Covers.f k (⟨#[97, 99, 109, 101, 47, 42, 42]⟩ : ByteArray) (⟨#[97, 99, 109, 101, 47, 42, 46, 99, 115, 115]⟩ : ByteArray)) (true, ⟨#[]⟩, 0) := (Covers_f _ _ (by decide) (by decide)).val (by decide +kernel)
  have c2 : Evt (fun k => address_Covers.f k (⟨#[97, 99, 109, 101, 47, 42, 46, 99, 115, 115]⟩ : ByteArray) (⟨#[97, 99, 109, 101, 47, 42]⟩ : ByteArray)) (false, ⟨#[97, 99, 109, 101, 47, 97]⟩, 0) := (Covers_f _ _ (by decide) (by decide)).val (by decide +kernel)
  have m1 : Evt (fun k => address_Meet.f k (⟨#[97, 99, 109, 101, 47, 42, 47, 98]⟩ : ByteArray) (⟨#[97, 99, 109, 101, 47, 97, 47, 42, 42]⟩ : ByteArray)) (true, ⟨#[97, 99, 109, 101, 47, 97, 47, 98]⟩, 0) := (Meet_f _ _ (by decide) (by decide)).val (by decide +kernel)
  have m2 : Evt (fun k => address_Meet.f k (⟨#[97, 99, 109, 101, 47, 42, 46, 99, 115, 115]⟩ : ByteArray) (⟨#[97, 99, 109, 101, 47, 42, 46, 106, 115]⟩ : ByteArray)) (false, ⟨#[]⟩, 0) := (Meet_f _ _ (by decide) (by decide)).val (by decide +kernel)
  have a1 : Evt (fun k => address_Match.f k (⟨#[97, 99, 109, 101, 47, 42]⟩ : ByteArray) (⟨#[97, 99, 109, 101, 47, 97]⟩ : ByteArray)) true := (Match_f _ _ (by decide)).val (by decide +kernel)
  refine Evt.step (fun k => by simp only [weirgatelaw06_sanity.j0]; rfl) ?_
  refine Evt.bind c1 (Evt.bind c2 (Evt.bind m1 (Evt.bind m2 ?_)))
  simp only [if_true]
  refine Evt.same (fun k => if_neg (by decide)) (Evt.bind a1 ?_)
  refine Evt.same (fun k => (if_pos rfl).trans (if_pos (by rw [toList_L]; rfl))) sanity_j1
theorem sanity_f : Evt (fun k => weirgatelaw06_sanity.f k) true := by
  have c1 : Evt (fun k => address_Canonical.f k (⟨#[65, 99, 109, 101, 47, 78, 101, 119, 115, 47, 46, 47, 50, 48, 50, 54, 47, 46, 46, 47, 97, 46, 72, 84, 77, 76, 47, 63, 98, 61, 50, 38, 97, 61, 49]⟩ : ByteArray)) (⟨#[97, 99, 109, 101, 47, 110, 101, 119, 115, 47, 97, 46, 104, 116, 109, 108, 63, 97, 61, 49, 38, 98, 61, 50]⟩, 0) := (Canonical_f _).val (by decide +kernel)
  have m1 : Evt (fun k => address_Match.f k (⟨#[97, 99, 109, 101, 47, 110, 101, 119, 115, 47, 42, 42]⟩ : ByteArray) (⟨#[97, 99, 109, 101, 47, 110, 101, 119, 115]⟩ : ByteArray)) true := (Match_f _ _ (by decide)).val (by decide +kernel)
  have m2 : Evt (fun k => address_Match.f k (⟨#[97, 99, 109, 101, 47, 42, 47, 42, 46, 104, 116, 109, 108]⟩ : ByteArray) (⟨#[97, 99, 109, 101, 47, 110, 101, 119, 115, 47, 97, 46, 104, 116, 109, 108]⟩ : ByteArray)) true := (Match_f _ _ (by decide)).val (by decide +kernel)
  have m3 : Evt (fun k => address_Match.f k (⟨#[97, 99, 109, 101, 47, 42]⟩ : ByteArray) (⟨#[97, 99, 109, 101, 47, 97, 47, 98]⟩ : ByteArray)) false := (Match_f _ _ (by decide)).val (by decide +kernel)
  unfold weirgatelaw06_sanity.f
  refine Evt.bind c1 ?_
  refine Evt.same (fun k => (if_pos rfl).trans (if_pos (by rw [toList_L]; rfl))) ?_
  refine Evt.bind m1 (Evt.same (fun k => if_pos rfl) (Evt.bind m2 (Evt.same (fun k => if_pos rfl) (Evt.bind m3 sanity_j0))))
end Go.Proofs.YtmokgpepeddopaaGreatDoor.P
end
