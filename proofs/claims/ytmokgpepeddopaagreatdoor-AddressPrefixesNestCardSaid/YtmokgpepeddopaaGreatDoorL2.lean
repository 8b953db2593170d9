/- Lemmas on the way to the statement: part 2 of 34 (functions as plain Lean functions, and that each call comes to what they say). -/
import Derived.Test.YtmokgpepeddopaaGreatDoorL1
import Derived.Lib.SlicesCompact
section
set_option linter.unusedVariables false
set_option linter.unusedSimpArgs false
namespace Go.Proofs.YtmokgpepeddopaaGreatDoor.Addr
def strict (l : List Str) : Prop := l.Pairwise (fun a b => blt a b = true)
def insT (s : Str) : List Str → List Str
  | [] => [s]
  | x :: r => if blt x s = true then x :: insT s r else if x = s then s :: r else s :: x :: r
def tagsL (l : List Str) : List Str := l.foldl (fun o s => insT s o) []
theorem mem_insT {s y : Str} {l : List Str} : y ∈ insT s l ↔ y = s ∨ y ∈ l := by
  induction l with
  | nil => simp [insT]
  | cons x r ih =>
    rw [insT]
    split
    · rw [List.mem_cons, ih, List.mem_cons]
      constructor
      · rintro (h | h | h)
        · exact .inr (.inl h)
        · exact .inl h
        · exact .inr (.inr h)
      · rintro (h | h | h)
        · exact .inr (.inl h)
        · exact .inl h
        · exact .inr (.inr h)
    · split
      · rename_i he; subst he; simp
      · simp
theorem strict_insT {s : Str} {l : List Str} (h : strict l) : strict (insT s l) := by
  induction l with
  | nil => exact List.pairwise_singleton _ _
  | cons x r ih =>
    obtain ⟨h1, h2⟩ := List.pairwise_cons.1 h
    rw [insT]
    split
    · rename_i hb
      refine List.pairwise_cons.2 ⟨fun y hy => ?_, ih h2⟩
      rcases mem_insT.1 hy with rfl | hy
      · exact hb
      · exact h1 y hy
    · rename_i hb
      split
      · rename_i he; subst he; exact h
      · rename_i he
        have hs : blt s x = true := by
          rcases blt_tri s x with k | k | k
          · exact k
          · exact absurd k.symm he
          · exact absurd k hb
        refine List.pairwise_cons.2 ⟨fun y hy => ?_, h⟩
        rcases List.mem_cons.1 hy with rfl | hy
        · exact hs
        · exact blt_trans hs (h1 y hy)
theorem foldl_tags (l o : List Str) (h : strict o) : strict (l.foldl (fun o s => insT s o) o) ∧ ∀ y, y ∈ l.foldl (fun o s => insT s o) o ↔ y ∈ l ∨ y ∈ o := by
  induction l generalizing o with
  | nil => simp [h]
  | cons x r ih =>
    obtain ⟨h1, h2⟩ := ih (insT x o) (strict_insT h)
    refine ⟨h1, fun y => ?_⟩
    show y ∈ r.foldl _ (insT x o) ↔ _
    rw [h2, mem_insT, List.mem_cons]
    constructor
    · rintro (h | h | h)
      · exact .inl (.inr h)
      · exact .inl (.inl h)
      · exact .inr h
    · rintro ((h | h) | h)
      · exact .inr (.inl h)
      · exact .inl h
      · exact .inr (.inr h)
theorem tagsL_strict (l : List Str) : strict (tagsL l) := (foldl_tags l [] .nil).1
theorem tagsL_mem (l : List Str) (y : Str) : y ∈ tagsL l ↔ y ∈ l := by
  have := (foldl_tags l [] .nil).2 y
  unfold tagsL
  simpa using this
theorem strict_eq {a b : List Str} (ha : strict a) (hb : strict b) (h : ∀ y, y ∈ a ↔ y ∈ b) : a = b := by
  have na : a.Nodup := ha.imp (fun h => blt_ne h)
  have nb : b.Nodup := hb.imp (fun h => blt_ne h)
  exact List.Perm.eq_of_pairwise (le := fun x y => blt x y = true) (fun x y _ _ h k => by rw [blt_asym h] at k; cases k) ha hb ((List.perm_ext_iff_of_nodup na nb).2 h)
theorem tagsL_len (l : List Str) : (tagsL l).length ≤ l.length := by
  have h : ∀ (l o : List Str), (l.foldl (fun o s => insT s o) o).length ≤ l.length + o.length := by
    intro l
    induction l with
    | nil => intro o; simp
    | cons x r ih =>
      intro o
      have h1 := ih (insT x o)
      have h2 : ∀ o : List Str, (insT x o).length ≤ o.length + 1 := by
        intro o
        induction o with
        | nil => simp [insT]
        | cons y o ih2 =>
          rw [insT]
          split
          · simp; exact ih2
          · split <;> simp
      have := h2 o
      simp only [List.foldl_cons, List.length_cons]
      omega
  unfold tagsL
  simpa using h l []
theorem compactUpTo_sorted {zs : List Str} (hs : zs.Pairwise (· ≤ ·)) : ∀ m, m ≤ zs.length → strict (Lib.compactUpTo zs.toArray m) ∧ (∀ y, y ∈ Lib.compactUpTo zs.toArray m ↔ y ∈ zs.take m) := by
  intro m
  induction m with
  | zero => intro _; exact ⟨by simp [Lib.compactUpTo, strict], by simp [Lib.compactUpTo]⟩
  | succ m ih =>
    intro hm
    obtain ⟨h1, h2⟩ := ih (by omega)
    have hlt : m < zs.length := by omega
    have hz : zs.toArray[m]! = zs[m] := by simp [hlt]
    have htk : zs.take (m + 1) = zs.take m ++ [zs[m]] := by rw [List.take_succ_eq_append_getElem hlt]
    rw [Lib.compactUpTo_succ, hz, htk]
    by_cases hk : Lib.keeps zs.toArray m = true
    · rw [if_pos hk]
      refine ⟨List.pairwise_append.2 ⟨h1, List.pairwise_singleton _ _, fun a ha b hb => ?_⟩, fun y => ?_⟩
      · rw [List.mem_singleton.1 hb]
        have ha' := (h2 a).1 ha
        obtain ⟨j, hj, rfl⟩ := List.mem_iff_getElem.1 ha'
        have hjm : j < m := by rw [List.length_take] at hj; omega
        rw [List.getElem_take]
        have hle : zs[j] ≤ zs[m] := List.pairwise_iff_getElem.1 hs j m (by omega) hlt hjm
        have hne : zs[m - 1]'(by omega) ≠ zs[m] := by
          intro e
          unfold Lib.keeps at hk
          simp [show ¬ m = 0 by omega, hlt, show m - 1 < zs.length by omega] at hk
          exact hk e.symm
        have hle2 : zs[m - 1]'(by omega) ≤ zs[m] := List.pairwise_iff_getElem.1 hs (m - 1) m (by omega) hlt (by omega)
        have hlt2 : blt (zs[m - 1]'(by omega)) zs[m] = true := by
          rcases blt_tri (zs[m - 1]'(by omega)) zs[m] with k | k | k
          · exact k
          · exact absurd k hne
          · rw [le_blt] at hle2; rw [hle2] at k; cases k
        rcases Nat.lt_or_ge j (m - 1) with hj2 | hj2
        · have hle3 : zs[j] ≤ zs[m - 1]'(by omega) := List.pairwise_iff_getElem.1 hs j (m - 1) (by omega) (by omega) hj2
          rcases blt_tri zs[j] zs[m] with k | k | k
          · exact k
          · rw [← k, ] at hlt2
            rw [le_blt] at hle3; rw [hle3] at hlt2; cases hlt2
          · rw [le_blt] at hle; rw [hle] at k; cases k
        · have : j = m - 1 := by omega
          subst this; exact hlt2
      · rw [List.mem_append, List.mem_append, h2]
    · rw [if_neg hk, List.append_nil]
      refine ⟨h1, fun y => ?_⟩
      rw [h2, List.mem_append, List.mem_singleton]
      refine ⟨.inl, fun h => ?_⟩
      rcases h with h | rfl
      · exact h
      · have : m ≠ 0 ∧ zs[m] = zs[m - 1]'(by omega) := by
          unfold Lib.keeps at hk
          by_cases h0 : m = 0
          · subst h0; simp at hk
          · refine ⟨h0, ?_⟩
            simp [h0, hlt, show m - 1 < zs.length by omega] at hk
            exact hk
        rw [this.2]
        exact List.mem_iff_getElem.2 ⟨m - 1, by rw [List.length_take]; omega, by rw [List.getElem_take]⟩
theorem compact_sort (l : List Str) : Lib.compact (sortS l) = tagsL l := by
  obtain ⟨h1, h2⟩ := compactUpTo_sorted (sortS_pair l) (sortS l).length (Nat.le_refl _)
  rw [List.take_length] at h2
  exact strict_eq h1 (tagsL_strict l) (fun y => (h2 y).trans (((sortS_perm l).mem_iff).trans (tagsL_mem l y).symm))
inductive TagsA where | bad | long | ok (t : Str)
def tagsA (l : List Str) : TagsA := if l.all name = true then (if 4096 < (joinB 44 (tagsL l)).length then .long else .ok (joinB 44 (tagsL l))) else .bad
def splitTags (s : Str) : Option (List Str) := if s = [] then some [] else match tagsA (splitB 44 s) with
  | .ok t => if t = s then some (splitB 44 s) else none
  | _ => none
end Go.Proofs.YtmokgpepeddopaaGreatDoor.Addr
end
