/- Lemmas on the way to the statement: part 2 of 3 (functions as plain Lean functions, and that each call comes to what they say). -/
import Derived.Test.YtmokgpepeddopaaGreatDoorK32
import Derived.Test.YtmokgpepeddopaaGreatDoorKrb1
section
namespace Go.Proofs.YtmokgpepeddopaaGreatDoor.P
open Go.RowKit Go.Proofs.YtmokgpepeddopaaGreatDoorW.PrintWords Go.Proofs.YtmokgpepeddopaaGreatDoorW.PrintLast Go.Proofs.YtmokgpepeddopaaGreatDoorW.PrintMore
open Go.Proofs.YtmokgpepeddopaaGreatDoor.Addr
set_option linter.unusedSimpArgs false
set_option linter.unusedVariables false
theorem tagsM_l1 (l : List ByteArray) (t : ByteArray) (hl : l.length < 1099511627776) (ht : t.size < 4294967281) (hm : ∀ x ∈ l, hasTagR (L t) (L x) = true) (h0 : (splitR (L t)).2 = 0) : ∀ n, n ≤ l.length → Evt (fun k => weirgatelaw06_AddressTagsMatchSpec.l1 k l t (n : Int)) true := by
  refine drop_ind ?_ fun n x hx hd hlt ih => ?_
  · refine Evt.step (fun k => by simp only [weirgatelaw06_AddressTagsMatchSpec.l1]; rw [if_neg (by omega)]) ?_
    refine Evt.bind' (Split_f t ht) (Evt.bind sanity_f ?_)
    exact Evt.of fun k => by rw [if_pos rfl, h0]; rfl
  · refine Evt.step (fun k => by simp only [weirgatelaw06_AddressTagsMatchSpec.l1]; rw [if_pos (by omega), if_pos (by omega), rdOf_at hx]) ?_
    have h1 := HasTag_f t x ht
    rw [hm x (List.mem_of_getElem? hx)] at h1
    refine Evt.bind h1 (Evt.same (fun k => if_pos rfl) ?_)
    rw [wrap_nat _ (by omega)]
    exact ih
theorem tagsM_j2 (l : List ByteArray) (hl : l.length < 1099511627776) : Evt (fun k => weirgatelaw06_AddressTagsMatchSpec.j2 k l (tagsR (l.map L)).1 (tagsR (l.map L)).2 false) true := by
  refine Evt.step (fun k => by simp only [weirgatelaw06_AddressTagsMatchSpec.j2]; rw [if_neg (by decide)]) ?_
  have hno : ∀ e : Int, e ≠ 0 → ∀ t : ByteArray, Evt (fun k => if e = 0 then weirgatelaw06_AddressTagsMatchSpec.l1 k l t 0 else (weirgatelaw06_sanity.f k).bind fun t121 => some t121) true := fun e he t =>
    Evt.same (fun k => if_neg he) (Evt.bind sanity_f (Evt.of fun _ => rfl))
  unfold tagsR
  cases ht : tagsA (l.map L) with
  | bad => exact hno 1 (by decide) _
  | long => exact hno 2 (by decide) _
  | ok t =>
    refine Evt.same (fun k => if_pos rfl) ?_
    have h1 := splitTags_tags ht
    have h2 := tagsA_len ht
    refine tagsM_l1 l (B t) hl (by rw [B_size]; omega) (fun x hx => ?_) ?_ 0 (Nat.zero_le _)
    · unfold hasTagR
      rw [L_B, h1]
      simp only [Option.getD_some, List.contains_iff_mem]
      exact (tagsL_mem _ _).2 (List.mem_map_of_mem hx)
    · unfold splitR
      rw [L_B, h1]
theorem tagsM_l0 (l : List ByteArray) (s tag : ByteArray) (hl : l.length < 1099511627776) (hs : s.size < 4294967281) (hw : ∀ x ∈ l, x.size < 4611686018427387904 ∨ True) : ∀ n, n ≤ l.length → (∀ x ∈ l.take n, x.size ≤ 100) → Evt (fun k => weirgatelaw06_AddressTagsMatchSpec.l0 k l s tag (n : Int)) true := by
  refine drop_ind ?_ fun n x hx hd hlt ih => ?_
  · intro hsm
    rw [List.take_length] at hsm
    refine Evt.step (fun k => by simp only [weirgatelaw06_AddressTagsMatchSpec.l0]; rw [if_neg (by omega)]) ?_
    refine Evt.bind' (Tags_f l hl) (Evt.bind (refTags_f l hl (fun x hx => by have := hsm x hx; omega)) (Evt.bind' (Split_f s hs) (Evt.bind (refSplit_f s hs) ?_)))
    refine Evt.same (fun k => if_pos rfl) (Evt.same (fun k => if_pos rfl) ?_)
    have hl2 : (splitR (L s)).1.length < 1099511627776 := by
      have := splitTags_len (L s)
      rw [L_length] at this
      rw [splitR_1, List.length_map]; omega
    refine Evt.bind (SameList_f _ hl2) (Evt.same (fun k => if_pos rfl) (Evt.same (fun k => if_pos rfl) (Evt.bind (HasTag_f s tag hs) (Evt.bind (refHasTag_f s tag hs) ?_))))
    rw [show (hasTagR (L s) (L tag) != hasTagR (L s) (L tag)) = false from bne_self_eq_false _]
    exact tagsM_j2 l hl
  · intro hsm
    by_cases h : x.size ≤ 100
    · refine Evt.step (fun k => ?_) (ih fun y hy => ?_)
      · simp only [weirgatelaw06_AddressTagsMatchSpec.l0]
        rw [if_pos (by omega), if_pos (by omega), rdOf_at hx, if_neg (by omega), wrap_nat _ (by omega)]
      · rw [List.take_add_one, hx] at hy
        rcases List.mem_append.1 hy with hy | hy
        · exact hsm y hy
        · have : y = x := by simpa using hy
          subst this; exact h
    · refine Evt.step (fun k => ?_) (Evt.bind sanity_f (Evt.of fun _ => rfl) : Evt (fun k => (weirgatelaw06_sanity.f k).bind fun t => some t) true)
      simp only [weirgatelaw06_AddressTagsMatchSpec.l0]
      rw [if_pos (by omega), if_pos (by omega), rdOf_at hx, if_pos (by omega)]
theorem tags_true (l : List ByteArray) (s tag : ByteArray) : Evt (fun k => weirgatelaw06_AddressTagsMatchSpec.f k l s tag) true := by
  have hs : ∀ x, x = true → Evt (fun k => weirgatelaw06_AddressTagsMatchSpec.j0 k l s tag x) true := fun x hx => by
    subst hx
    refine Evt.step (g := fun k => (weirgatelaw06_sanity.f k).bind fun t => some t) (fun k => ?_) (Evt.bind sanity_f (Evt.of fun _ => rfl))
    simp only [weirgatelaw06_AddressTagsMatchSpec.j0]
    rw [if_pos trivial]
  unfold weirgatelaw06_AddressTagsMatchSpec.f
  by_cases h1 : (l.length : Int) > 100
  · exact Evt.same (fun k => if_pos h1) (hs _ rfl)
  · refine Evt.same (fun k => if_neg h1) ?_
    by_cases h2 : (s.size : Int) > 5000
    · exact Evt.same (fun k => if_pos h2) (hs _ rfl)
    · refine Evt.same (fun k => if_neg h2) ?_
      by_cases h3 : (tag.size : Int) > 100
      · rw [decide_eq_true h3]; exact hs _ rfl
      · rw [decide_eq_false h3]
        refine Evt.step (fun k => by simp only [weirgatelaw06_AddressTagsMatchSpec.j0]; rw [if_neg (by decide)]) ?_
        exact tagsM_l0 l s tag (by omega) (by omega) (fun _ _ => .inr trivial) 0 (Nat.zero_le _) (by simp)
end Go.Proofs.YtmokgpepeddopaaGreatDoor.P
end
