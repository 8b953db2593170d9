/- Lemmas on the way to the statement: part 4 of 34 (functions as plain Lean functions, and that each call comes to what they say). -/
import Derived.Test.YtmokgpepeddopaaGreatDoorL1
import Derived.Sort.KeysCollected
import Derived.Maps.Own
section
namespace Go.Proofs.YtmokgpepeddopaaGreatDoor.P
open Go Go.Proofs.YtmokgpepeddopaaGreatDoor.Addr
theorem bytesBefore_blt (a b : Str) : bytesBefore a b = blt a b := by
  induction a generalizing b with
  | nil => cases b <;> rfl
  | cons x l ih =>
    cases b with
    | nil => rfl
    | cons y m => simp [bytesBefore, blt, ih]
def ent (p : Addr.Pair) : Lit × DataW Unit := (.string p.1, .lit (.string p.2))
def toD (M : List Addr.Pair) : DataW Unit := .map (M.map ent)
theorem filter_keep {k : Str} {r : List Addr.Pair} (h : ∀ y ∈ r, blt k y.1 = true) : (r.map ent).filter (fun p => !p.1.sameKey (.string k)) = r.map ent := by
  rw [List.filter_eq_self]
  intro a ha
  obtain ⟨y, hy, rfl⟩ := List.mem_map.1 ha
  have := blt_ne (h y hy)
  simp [ent, Lit.sameKey]
  exact fun e => this e.symm
theorem insert_head {k v : Str} {r : List Addr.Pair} (h : ∀ y ∈ r, blt k y.1 = true) : DataW.insert (ent (k, v)) (r.map ent) = ent (k, v) :: r.map ent := by
  cases r with
  | nil => rfl
  | cons y r =>
    have := h y (by simp)
    simp [DataW.insert, ent, Lit.before, bytesBefore_blt, this]
theorem toD_put (k v : Str) (M : List Addr.Pair) (hM : sortedP M) : (toD M).put (.string k) (.lit (.string v)) = toD (putP (k, v) M) := by
  show DataW.map (DataW.insert (ent (k, v)) ((M.map ent).filter fun p => !p.1.sameKey (.string k))) = _
  unfold toD
  congr 1
  induction M with
  | nil => rfl
  | cons x r ih =>
    have ih' := ih (sortedP_tail hM)
    have hh := sortedP_head hM
    simp only [putP]
    by_cases h1 : blt x.1 k = true
    · rw [if_pos h1]
      have hne := blt_ne h1
      have ha := blt_asym h1
      have hk : (!(ent x).1.sameKey (.string k)) = true := by simp [ent, Lit.sameKey, hne]
      rw [List.map_cons, List.filter_cons, if_pos hk, List.map_cons, ← ih']
      simp [DataW.insert, ent, Lit.before, bytesBefore_blt, ha]
    · rw [if_neg h1]
      by_cases h2 : x.1 = k
      · rw [if_pos h2]
        have hk : (!(ent x).1.sameKey (.string k)) = false := by simp [ent, Lit.sameKey, h2]
        rw [List.map_cons, List.filter_cons, if_neg (by rw [hk]; decide), List.map_cons]
        have hr : ∀ y ∈ r, blt k y.1 = true := fun y hy => by rw [← h2]; exact hh y hy
        rw [filter_keep hr, insert_head hr]
      · rw [if_neg h2]
        have h3 : blt k x.1 = true := by
          rcases blt_tri k x.1 with h | h | h
          · exact h
          · exact absurd h.symm h2
          · exact absurd h h1
        have hr : ∀ y ∈ x :: r, blt k y.1 = true := fun y hy => by
          rcases List.mem_cons.1 hy with rfl | hy
          · exact h3
          · exact blt_trans h3 (hh y hy)
        rw [filter_keep hr, insert_head hr]; rfl
theorem strKeys_toD (M : List Addr.Pair) : strKeys (toD M) = M.map (·.1) := by
  simp [strKeys, toD, ent, strOf]
theorem toD_at {M : List Addr.Pair} (hM : sortedP M) {k v : Str} (h : (k, v) ∈ M) (z : DataW Unit) : (toD M).atKey (.string k) z = .lit (.string v) := by
  unfold toD DataW.atKey
  have : (M.map ent).find? (fun p => p.1.sameKey (.string k)) = some (ent (k, v)) := by
    induction M with
    | nil => cases h
    | cons x r ih =>
      rw [List.map_cons, List.find?_cons]
      rcases List.mem_cons.1 h with rfl | h
      · simp [ent, Lit.sameKey]
      · have hne := blt_ne (sortedP_head hM _ h)
        have hk : (ent x).1.sameKey (.string k) = false := by simp [ent, Lit.sameKey]; exact hne
        rw [hk]
        exact ih (sortedP_tail hM) h
  simp only [this]
  rfl
end Go.Proofs.YtmokgpepeddopaaGreatDoor.P
end
