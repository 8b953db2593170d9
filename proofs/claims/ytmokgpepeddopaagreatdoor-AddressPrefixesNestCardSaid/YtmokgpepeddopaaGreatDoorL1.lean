/- Lemmas on the way to the statement: part 1 of 34 (functions as plain Lean functions, and that each call comes to what they say). -/
section
namespace Go.Proofs.YtmokgpepeddopaaGreatDoor.Addr
abbrev Str := List UInt8
def isL (c : UInt8) : Bool := (97 ≤ c && c ≤ 122) || (48 ≤ c && c ≤ 57) || c == 45 || c == 95 || c == 46
def word (s : Str) : Bool := decide (s ≠ []) && decide (s.length ≤ 64) && decide (s ≠ [46]) && decide (s ≠ [46, 46]) && s.all isL
def name (s : Str) : Bool := word s && !s.contains 46
def splitB (sep : UInt8) : Str → List Str
  | [] => [[]]
  | c :: t => if c = sep then [] :: splitB sep t else
    match splitB sep t with
    | h :: r => (c :: h) :: r
    | [] => [[c]]
def joinB (sep : UInt8) : List Str → Str
  | [] => []
  | [x] => x
  | x :: y :: r => x ++ sep :: joinB sep (y :: r)
def cutB (sep : UInt8) : Str → Str × Str × Bool
  | [] => ([], [], false)
  | c :: t => if c = sep then ([], t, true) else ((c :: (cutB sep t).1), (cutB sep t).2.1, (cutB sep t).2.2)
theorem splitB_ne (sep : UInt8) (s : Str) : splitB sep s ≠ [] := by
  cases s with
  | nil => simp [splitB]
  | cons c t =>
    unfold splitB
    split
    · simp
    · split <;> simp
theorem splitB_cons (sep c : UInt8) (t : Str) (h : c ≠ sep) : ∃ x r, splitB sep t = x :: r ∧ splitB sep (c :: t) = (c :: x) :: r := by
  cases e : splitB sep t with
  | nil => exact absurd e (splitB_ne _ _)
  | cons x r => exact ⟨x, r, rfl, by simp [splitB, h, e]⟩
theorem splitB_none (sep : UInt8) (s : Str) (h : sep ∉ s) : splitB sep s = [s] := by
  induction s with
  | nil => rfl
  | cons c t ih =>
    have h1 : c ≠ sep := fun e => h (by simp [e])
    have h2 := ih (fun e => h (by simp [e]))
    simp [splitB, h1, h2]
theorem splitB_app (sep : UInt8) (x t : Str) (h : sep ∉ x) : splitB sep (x ++ sep :: t) = x :: splitB sep t := by
  induction x with
  | nil => simp [splitB]
  | cons c x ih =>
    have h1 : c ≠ sep := fun e => h (by simp [e])
    have h2 := ih (fun e => h (by simp [e]))
    simp [splitB, h1, h2]
theorem splitB_join (sep : UInt8) (l : List Str) (hne : l ≠ []) (h : ∀ x ∈ l, sep ∉ x) : splitB sep (joinB sep l) = l := by
  induction l with
  | nil => exact absurd rfl hne
  | cons x l ih =>
    cases l with
    | nil => exact splitB_none _ _ (h x (by simp))
    | cons y r =>
      show splitB sep (x ++ sep :: joinB sep (y :: r)) = _
      rw [splitB_app _ _ _ (h x (by simp)), ih (by simp) (fun z hz => h z (by simp [hz]))]
theorem join_splitB (sep : UInt8) (s : Str) : joinB sep (splitB sep s) = s := by
  induction s with
  | nil => rfl
  | cons c t ih =>
    by_cases h : c = sep
    · subst h
      cases e : splitB c t with
      | nil => exact absurd e (splitB_ne _ _)
      | cons x r => rw [e] at ih; simp [splitB, e, joinB, ih]
    · obtain ⟨x, r, h1, h2⟩ := splitB_cons sep c t h
      rw [h2]; rw [h1] at ih
      cases r with
      | nil => simp [joinB] at ih ⊢; exact ih
      | cons y r => simp [joinB] at ih ⊢; exact ih
def blt : Str → Str → Bool
  | _, [] => false
  | [], _ :: _ => true
  | a :: x, b :: y => decide (a < b) || (a == b && blt x y)
theorem blt_irr (s : Str) : blt s s = false := by
  induction s with
  | nil => rfl
  | cons a x ih => simp [blt, ih]
theorem blt_trans {a b c : Str} (h : blt a b = true) (k : blt b c = true) : blt a c = true := by
  induction a generalizing b c with
  | nil =>
    cases b with
    | nil => simp [blt] at h
    | cons y b => cases c with
      | nil => simp [blt] at k
      | cons z c => rfl
  | cons x a ih =>
    cases b with
    | nil => simp [blt] at h
    | cons y b => cases c with
      | nil => simp [blt] at k
      | cons z c =>
        simp only [blt, Bool.or_eq_true, Bool.and_eq_true, decide_eq_true_eq, beq_iff_eq] at *
        rcases h with h | ⟨rfl, h⟩ <;> rcases k with k | ⟨rfl, k⟩
        · exact .inl (UInt8.lt_trans h k)
        · exact .inl h
        · exact .inl k
        · exact .inr ⟨rfl, ih h k⟩
theorem blt_tri (a b : Str) : blt a b = true ∨ a = b ∨ blt b a = true := by
  induction a generalizing b with
  | nil => cases b with
    | nil => exact .inr (.inl rfl)
    | cons y b => exact .inl rfl
  | cons x a ih => cases b with
    | nil => exact .inr (.inr rfl)
    | cons y b =>
      simp only [blt, Bool.or_eq_true, Bool.and_eq_true, decide_eq_true_eq, beq_iff_eq]
      rcases Nat.lt_trichotomy x.toNat y.toNat with h | h | h
      · exact .inl (.inl (UInt8.lt_iff_toNat_lt.2 h))
      · have := UInt8.toNat_inj.1 h
        subst this
        rcases ih b with h | rfl | h
        · exact .inl (.inr ⟨rfl, h⟩)
        · exact .inr (.inl rfl)
        · exact .inr (.inr (.inr ⟨rfl, h⟩))
      · exact .inr (.inr (.inl (UInt8.lt_iff_toNat_lt.2 h)))
theorem blt_asym {a b : Str} (h : blt a b = true) : blt b a = false := by
  cases e : blt b a with
  | false => rfl
  | true => have := blt_trans h e; rw [blt_irr] at this; cases this
theorem blt_ne {a b : Str} (h : blt a b = true) : a ≠ b := fun e => by subst e; rw [blt_irr] at h; cases h
theorem isL_le (c : UInt8) (h : isL c = true) : c ≤ 122 ∧ ¬ (65 ≤ c ∧ c ≤ 90) ∧ c ≠ 47 ∧ c ≠ 63 ∧ c ≠ 38 ∧ c ≠ 61 ∧ c ≠ 44 ∧ c ≠ 42 ∧ c ≠ 32 := by
  have h' := h
  simp only [isL, Bool.or_eq_true, Bool.and_eq_true, decide_eq_true_eq, beq_iff_eq, UInt8.le_iff_toNat_le] at h'
  simp only [UInt8.le_iff_toNat_le, ne_eq, ← UInt8.toNat_inj] at *
  simp at *
  omega
theorem word_all {s : Str} (h : word s = true) : ∀ c ∈ s, isL c = true := by
  simp [word] at h; exact fun c hc => h.2 c hc
theorem word_ne {s : Str} (h : word s = true) : s ≠ [] := by simp [word] at h; exact h.1.1.1.1
theorem word_le {s : Str} (h : word s = true) : s.length ≤ 64 := by simp [word] at h; exact h.1.1.1.2
theorem name_word {s : Str} (h : name s = true) : word s = true := by simp [name] at h; exact h.1
theorem word_nin {s : Str} (h : word s = true) : (47 : UInt8) ∉ s ∧ (63 : UInt8) ∉ s ∧ (38 : UInt8) ∉ s ∧ (61 : UInt8) ∉ s ∧ (44 : UInt8) ∉ s ∧ (42 : UInt8) ∉ s ∧ (32 : UInt8) ∉ s := by
  have := word_all h
  refine ⟨?_, ?_, ?_, ?_, ?_, ?_, ?_⟩ <;> exact fun hm => by have := isL_le _ (this _ hm); simp at this
def lowC (c : UInt8) : UInt8 := if 65 ≤ c ∧ c ≤ 90 then c + 32 else c
def low (s : Str) : Str := s.map lowC
theorem lowC_id (c : UInt8) (h : ¬ (65 ≤ c ∧ c ≤ 90)) : lowC c = c := by simp [lowC, h]
theorem low_id (s : Str) (h : ∀ c ∈ s, ¬ (65 ≤ c ∧ c ≤ 90)) : low s = s := by
  induction s with
  | nil => rfl
  | cons c t ih =>
    show lowC c :: low t = c :: t
    rw [lowC_id c (h c List.mem_cons_self), ih (fun x hx => h x (List.mem_cons_of_mem _ hx))]
theorem low_length (s : Str) : (low s).length = s.length := by simp [low]
theorem cutB_none (sep : UInt8) (s : Str) (h : sep ∉ s) : cutB sep s = (s, [], false) := by
  induction s with
  | nil => rfl
  | cons c t ih =>
    have h1 : c ≠ sep := fun e => h (by simp [e])
    simp [cutB, h1, ih (fun e => h (by simp [e]))]
theorem cutB_app (sep : UInt8) (x t : Str) (h : sep ∉ x) : cutB sep (x ++ sep :: t) = (x, t, true) := by
  induction x with
  | nil => simp [cutB]
  | cons c x ih =>
    have h1 : c ≠ sep := fun e => h (by simp [e])
    simp [cutB, h1, ih (fun e => h (by simp [e]))]
theorem cutB_nin (sep : UInt8) (s : Str) : sep ∉ (cutB sep s).1 := by
  induction s with
  | nil => simp [cutB]
  | cons c t ih =>
    unfold cutB
    split
    · simp
    · rename_i h; simp; exact ⟨fun e => h e.symm, ih⟩
theorem cutB_eq (sep : UInt8) (s : Str) : s = (cutB sep s).1 ++ (if (cutB sep s).2.2 then sep :: (cutB sep s).2.1 else []) := by
  induction s with
  | nil => rfl
  | cons c t ih =>
    unfold cutB
    split
    · rename_i h; simp [h]
    · simp; exact ih
theorem cutB_rest (sep : UInt8) (s : Str) (h : (cutB sep s).2.2 = false) : (cutB sep s).2.1 = [] := by
  induction s with
  | nil => rfl
  | cons c t ih =>
    unfold cutB at h ⊢
    split
    · rename_i hc; simp [hc] at h
    · rename_i hc; simp [hc] at h; exact ih h
theorem splitB_cut (sep : UInt8) (s : Str) : splitB sep s = (cutB sep s).1 :: (if (cutB sep s).2.2 then splitB sep (cutB sep s).2.1 else []) := by
  have e := cutB_eq sep s
  cases h : (cutB sep s).2.2 with
  | true =>
    rw [h] at e
    simp only [if_true] at e ⊢
    conv => lhs; rw [e]
    exact splitB_app _ _ _ (cutB_nin _ _)
  | false =>
    rw [h] at e
    simp only [Bool.false_eq_true, if_false, List.append_nil] at e ⊢
    rw [← e]
    exact splitB_none _ _ (by rw [e]; exact cutB_nin _ _)
def resolve : List Str → List Str → Option (List Str)
  | [], out => some out
  | p :: r, out =>
    if p = [46] then resolve r out
    else if p = [46, 46] ∧ out ≠ [] then resolve r out.dropLast
    else if word p then resolve r (out ++ [p]) else none
theorem resolve_words (l out : List Str) (h : ∀ x ∈ l, word x = true) : resolve l out = some (out ++ l) := by
  induction l generalizing out with
  | nil => simp [resolve]
  | cons p r ih =>
    have hp := h p (by simp)
    have h1 : p ≠ [46] := fun e => by rw [e] at hp; exact absurd hp (by decide)
    have h2 : p ≠ [46, 46] := fun e => by rw [e] at hp; exact absurd hp (by decide)
    rw [resolve, if_neg h1, if_neg (fun e => h2 e.1), if_pos hp, ih _ (fun x hx => h x (by simp [hx]))]
    simp
theorem resolve_all (l out r : List Str) (h : resolve l out = some r) (ho : ∀ x ∈ out, word x = true) : ∀ x ∈ r, word x = true := by
  induction l generalizing out with
  | nil => simp [resolve] at h; subst h; exact ho
  | cons p t ih =>
    rw [resolve] at h
    split at h
    · exact ih _ h ho
    · split at h
      · exact ih _ h (fun x hx => ho x (List.dropLast_subset _ hx))
      · split at h
        · rename_i hw
          exact ih _ h (fun x hx => by
            rcases List.mem_append.1 hx with hx | hx
            · exact ho x hx
            · rw [List.mem_singleton.1 hx]; exact hw)
        · cases h
def plen (l : List Str) : Nat := (l.map (fun x => x.length + 1)).sum
theorem plen_append (a b : List Str) : plen (a ++ b) = plen a + plen b := by simp [plen]
theorem plen_dropLast (a : List Str) : plen a.dropLast ≤ plen a := by
  rcases List.eq_nil_or_concat a with rfl | ⟨b, x, rfl⟩
  · simp
  · simp [plen_append]
theorem resolve_len (l out r : List Str) (h : resolve l out = some r) : plen r ≤ plen out + plen l := by
  induction l generalizing out with
  | nil => simp [resolve] at h; subst h; simp [plen]
  | cons p t ih =>
    have hc : plen (p :: t) = p.length + 1 + plen t := by simp [plen]
    rw [resolve] at h
    split at h
    · have := ih _ h; omega
    · split at h
      · have := ih _ h; have := plen_dropLast out; omega
      · split at h
        · have := ih _ h; rw [plen_append] at this; have h1 : plen [p] = p.length + 1 := by simp [plen]
          omega
        · cases h
abbrev Pair := Str × Str
def putP (p : Pair) : List Pair → List Pair
  | [] => [p]
  | x :: r => if blt x.1 p.1 then x :: putP p r else if x.1 = p.1 then p :: r else p :: x :: r
def sortedP : List Pair → Prop
  | [] => True
  | [_] => True
  | x :: y :: r => blt x.1 y.1 = true ∧ sortedP (y :: r)
theorem sortedP_tail {x : Pair} {r : List Pair} (h : sortedP (x :: r)) : sortedP r := by
  cases r with
  | nil => trivial
  | cons y r => exact h.2
theorem sortedP_head {x : Pair} {r : List Pair} (h : sortedP (x :: r)) : ∀ y ∈ r, blt x.1 y.1 = true := by
  induction r generalizing x with
  | nil => simp
  | cons z r ih =>
    intro y hy
    rcases List.mem_cons.1 hy with rfl | hy
    · exact h.1
    · exact blt_trans h.1 (ih h.2 y hy)
theorem sortedP_cons {x : Pair} {r : List Pair} (h : sortedP r) (k : ∀ y ∈ r, blt x.1 y.1 = true) : sortedP (x :: r) := by
  cases r with
  | nil => trivial
  | cons y r => exact ⟨k y (by simp), h⟩
theorem putP_mem {p : Pair} {l : List Pair} {y : Pair} (h : y ∈ putP p l) : y = p ∨ y ∈ l := by
  induction l with
  | nil => simp [putP] at h; exact .inl h
  | cons x r ih =>
    simp only [putP] at h
    split at h
    · rcases List.mem_cons.1 h with rfl | h
      · exact .inr (by simp)
      · rcases ih h with h | h
        · exact .inl h
        · exact .inr (by simp [h])
    · split at h
      · rcases List.mem_cons.1 h with rfl | h
        · exact .inl rfl
        · exact .inr (by simp [h])
      · rcases List.mem_cons.1 h with rfl | h
        · exact .inl rfl
        · exact .inr h
theorem putP_sorted {p : Pair} {l : List Pair} (h : sortedP l) : sortedP (putP p l) := by
  induction l with
  | nil => trivial
  | cons x r ih =>
    simp only [putP]
    split
    · rename_i hx
      refine sortedP_cons (ih (sortedP_tail h)) fun y hy => ?_
      rcases putP_mem hy with rfl | hy
      · exact hx
      · exact sortedP_head h y hy
    · rename_i hx
      split
      · rename_i he
        refine sortedP_cons (sortedP_tail h) fun y hy => ?_
        rw [← he]; exact sortedP_head h y hy
      · rename_i he
        refine sortedP_cons h fun y hy => ?_
        have hp : blt p.1 x.1 = true := by
          rcases blt_tri p.1 x.1 with k | k | k
          · exact k
          · exact absurd k.symm he
          · exact absurd k hx
        rcases List.mem_cons.1 hy with rfl | hy
        · exact hp
        · exact blt_trans hp (sortedP_head h y hy)
theorem putP_last {p : Pair} {l : List Pair} (h : ∀ x ∈ l, blt x.1 p.1 = true) : putP p l = l ++ [p] := by
  induction l with
  | nil => rfl
  | cons x r ih => simp [putP, h x (by simp), ih (fun y hy => h y (by simp [hy]))]
def qlen (l : List Pair) : Nat := (l.map (fun x => x.1.length + x.2.length + 2)).sum
theorem putP_qlen (p : Pair) (l : List Pair) : qlen (putP p l) ≤ qlen l + (p.1.length + p.2.length + 2) := by
  induction l with
  | nil => simp [putP, qlen]
  | cons x r ih =>
    simp only [putP]
    split
    · simp [qlen] at ih ⊢; omega
    · split <;> (simp [qlen] at ih ⊢; omega)
def pairOf (q : Str) : Option Pair := if (cutB 61 q).2.2 && name (cutB 61 q).1 && word (cutB 61 q).2.1 then some ((cutB 61 q).1, (cutB 61 q).2.1) else none
def pairsL : List Str → List Pair → Option (List Pair)
  | [], out => some out
  | q :: r, out => match pairOf q with
    | some p => pairsL r (putP p out)
    | none => none
def pairsOf (s : Str) : Option (List Pair) := if s = [] then some [] else pairsL (splitB 38 s) []
def okP (p : Pair) : Prop := name p.1 = true ∧ word p.2 = true
theorem pairOf_some {q : Str} {p : Pair} (h : pairOf q = some p) : okP p ∧ q = p.1 ++ 61 :: p.2 := by
  unfold pairOf at h
  split at h
  · rename_i hc
    simp only [Bool.and_eq_true] at hc
    have e := cutB_eq 61 q
    rw [hc.1.1] at e
    injection h with h; subst h
    exact ⟨⟨hc.1.2, hc.2⟩, by simpa using e⟩
  · cases h
theorem pairOf_mk {p : Pair} (h : okP p) : pairOf (p.1 ++ 61 :: p.2) = some p := by
  unfold pairOf
  rw [cutB_app _ _ _ (word_nin (name_word h.1)).2.2.2.1]
  simp [h.1, h.2]
theorem pairsL_inv {l : List Str} {out r : List Pair} (h : pairsL l out = some r) (hs : sortedP out) (ho : ∀ p ∈ out, okP p) :
    sortedP r ∧ (∀ p ∈ r, okP p) ∧ qlen r ≤ qlen out + plen l := by
  induction l generalizing out with
  | nil => simp [pairsL] at h; subst h; exact ⟨hs, ho, by simp [plen]⟩
  | cons q t ih =>
    simp only [pairsL] at h
    split at h
    · rename_i p hp
      obtain ⟨hk, hq⟩ := pairOf_some hp
      obtain ⟨h1, h2, h3⟩ := ih h (putP_sorted hs) (fun y hy => by
        rcases putP_mem hy with rfl | hy
        · exact hk
        · exact ho y hy)
      refine ⟨h1, h2, ?_⟩
      have := putP_qlen p out
      have hl : q.length = p.1.length + p.2.length + 1 := by rw [hq]; simp; omega
      have hc : plen (q :: t) = q.length + 1 + plen t := by simp [plen]
      omega
    · cases h
def qtext (p : Pair) : Str := p.1 ++ 61 :: p.2
theorem pairsL_text {l out : List Pair} (h : sortedP (out ++ l)) (ho : ∀ p ∈ l, okP p) : pairsL (l.map qtext) out = some (out ++ l) := by
  induction l generalizing out with
  | nil => simp [pairsL]
  | cons p r ih =>
    have hk := ho p (by simp)
    simp only [List.map_cons, pairsL, qtext, pairOf_mk hk]
    have hlast : ∀ x ∈ out, blt x.1 p.1 = true := by
      clear ih
      induction out with
      | nil => simp
      | cons y t ih2 =>
        intro x hx
        rcases List.mem_cons.1 hx with rfl | hx
        · exact sortedP_head (x := x) (r := t ++ p :: r) h p (by simp)
        · exact ih2 (sortedP_tail h) x hx
    rw [putP_last hlast, ih (by simpa using h) (fun x hx => ho x (by simp [hx]))]
    simp
theorem joinB_len (sep : UInt8) (l : List Str) (h : l ≠ []) : (joinB sep l).length + 1 = plen l := by
  induction l with
  | nil => exact absurd rfl h
  | cons x r ih =>
    cases r with
    | nil => simp [joinB, plen]
    | cons y r =>
      have := ih (by simp)
      simp [joinB, plen] at this ⊢
      omega
theorem splitB_len (sep : UInt8) (s : Str) : plen (splitB sep s) = s.length + 1 := by
  rw [← joinB_len sep _ (splitB_ne sep s), join_splitB]
structure Ad where
  cust : Str
  path : List Str
  query : List Pair
deriving DecidableEq
def pathT (l : List Str) : Str := (l.map (fun x => 47 :: x)).flatten
def queryT (l : List Pair) : Str := if l = [] then [] else 63 :: joinB 38 (l.map qtext)
def write (a : Ad) : Str := a.cust ++ pathT a.path ++ queryT a.query
structure Ok (a : Ad) : Prop where
  cust : name a.cust = true
  path : ∀ x ∈ a.path, word x = true
  plen : a.path.length ≤ 32
  query : ∀ p ∈ a.query, okP p
  qlen : a.query.length ≤ 16
  sorted : sortedP a.query
def trimS (s : Str) : Str := if s.getLast? = some 47 then s.dropLast else s
def parse (s : Str) : Except Nat Ad :=
  if 4096 < s.length then .error 2 else
  match splitB 47 (trimS (cutB 63 (low s)).1), pairsOf (cutB 63 (low s)).2.1 with
  | c :: r, some q => match resolve r [] with
    | some p => if name c then (if 32 < p.length ∨ 16 < q.length then .error 2 else .ok ⟨c, p, q⟩) else .error 3
    | none => .error 3
  | _, _ => .error 3
theorem pathT_join (c : Str) (l : List Str) : c ++ pathT l = joinB 47 (c :: l) := by
  induction l generalizing c with
  | nil => simp [pathT, joinB]
  | cons x r ih => simp [pathT, joinB] at ih ⊢; exact ih x
theorem plen_path (l : List Str) : (pathT l).length = plen l := by
  induction l with
  | nil => rfl
  | cons x r ih => simp [pathT, plen] at ih ⊢; omega
theorem queryT_len (l : List Pair) : (queryT l).length = qlen l := by
  unfold queryT
  split
  · rename_i h; subst h; rfl
  · rename_i h
    have := joinB_len 38 (l.map qtext) (by simpa using h)
    have h2 : plen (l.map qtext) = qlen l := by
      clear this h
      induction l with
      | nil => rfl
      | cons x r ih => simp [plen, qlen, qtext] at ih ⊢; omega
    simp; omega
theorem write_len (a : Ad) : (write a).length = a.cust.length + plen a.path + qlen a.query := by
  simp [write, plen_path, queryT_len]; omega
theorem mem_pathT {c : UInt8} {l : List Str} (h : c ∈ pathT l) : c = 47 ∨ ∃ x ∈ l, c ∈ x := by
  unfold pathT at h
  obtain ⟨l', hl, h⟩ := List.mem_flatten.1 h
  obtain ⟨x, hx, rfl⟩ := List.mem_map.1 hl
  rcases List.mem_cons.1 h with h | h
  · exact .inl h
  · exact .inr ⟨x, hx, h⟩
theorem mem_joinB {c sep : UInt8} {l : List Str} (h : c ∈ joinB sep l) : c = sep ∨ ∃ x ∈ l, c ∈ x := by
  induction l with
  | nil => simp [joinB] at h
  | cons x r ih =>
    cases r with
    | nil => exact .inr ⟨x, by simp, h⟩
    | cons y r =>
      simp [joinB] at h
      rcases h with h | h | h
      · exact .inr ⟨x, by simp, h⟩
      · exact .inl h
      · rcases ih h with h | ⟨z, hz, h⟩
        · exact .inl h
        · exact .inr ⟨z, by simp at hz ⊢; right; exact hz, h⟩
theorem left_nin {a : Ad} (h : Ok a) : (63 : UInt8) ∉ a.cust ++ pathT a.path := by
  intro hm
  rcases List.mem_append.1 hm with hm | hm
  · exact (word_nin (name_word h.cust)).2.1 hm
  · rcases mem_pathT hm with e | ⟨x, hx, hm⟩
    · cases e
    · exact (word_nin (h.path x hx)).2.1 hm
theorem write_small {a : Ad} (h : Ok a) : low (write a) = write a := by
  refine low_id _ fun c hc => ?_
  have wd : ∀ {s : Str}, word s = true → c ∈ s → ¬ (65 ≤ c ∧ c ≤ 90) := fun hw hm => (isL_le c (word_all hw c hm)).2.1
  simp only [write, List.mem_append] at hc
  rcases hc with (hc | hc) | hc
  · exact wd (name_word h.cust) hc
  · rcases mem_pathT hc with rfl | ⟨x, hx, hm⟩
    · decide
    · exact wd (h.path x hx) hm
  · unfold queryT at hc
    split at hc
    · simp at hc
    · rcases List.mem_cons.1 hc with rfl | hc
      · decide
      · rcases mem_joinB hc with rfl | ⟨x, hx, hm⟩
        · decide
        · simp at hx
          obtain ⟨k, v, hp, rfl⟩ := hx
          have ho := h.query _ hp
          simp [qtext] at hm
          rcases hm with hm | rfl | hm
          · exact wd (name_word ho.1) hm
          · decide
          · exact wd ho.2 hm
theorem write_cut {a : Ad} (h : Ok a) : (cutB 63 (write a)).1 = a.cust ++ pathT a.path ∧ pairsOf (cutB 63 (write a)).2.1 = some a.query := by
  have hn := left_nin h
  unfold write queryT
  split
  · rename_i hq
    rw [List.append_nil, cutB_none _ _ hn]
    exact ⟨rfl, by simp [pairsOf, hq]⟩
  · rename_i hq
    rw [cutB_app _ _ _ hn]
    refine ⟨rfl, ?_⟩
    have hne : a.query.map qtext ≠ [] := by simpa using hq
    have hj : joinB 38 (a.query.map qtext) ≠ [] := by
      intro e
      have := joinB_len 38 _ hne
      rw [e] at this
      cases hq2 : a.query with
      | nil => exact hq hq2
      | cons p r => rw [hq2] at this; simp [plen, qtext] at this; omega
    simp only [pairsOf, hj, if_false]
    rw [splitB_join _ _ hne]
    · have := pairsL_text (l := a.query) (out := []) (by simpa using h.sorted) h.query
      simpa using this
    · intro x hx
      simp at hx
      obtain ⟨k, v, hp, rfl⟩ := hx
      have ho := h.query _ hp
      have h1 := (word_nin (name_word ho.1)).2.2.1
      have h2 := (word_nin ho.2).2.2.1
      simp [qtext]
      exact ⟨h1, h2⟩
theorem last_ne {c : Str} {l : List Str} (hc : c ≠ [] ∧ (47 : UInt8) ∉ c) (hl : ∀ x ∈ l, x ≠ [] ∧ (47 : UInt8) ∉ x) : (joinB 47 (c :: l)).getLast? ≠ some 47 := by
  induction l generalizing c with
  | nil =>
    intro e
    exact hc.2 (List.mem_of_getLast? e)
  | cons x r ih =>
    have := ih (c := x) (hl x (by simp)) (fun y hy => hl y (by simp [hy]))
    have hne : joinB 47 (x :: r) ≠ [] := by
      intro e
      have h2 := joinB_len 47 (x :: r) (by simp)
      rw [e] at h2
      have := (hl x (by simp)).1
      have h3 : 0 < x.length := List.length_pos_iff.2 this
      simp [plen] at h2; omega
    simp only [joinB]
    rw [List.getLast?_append, List.getLast?_cons, ]
    cases e : (joinB 47 (x :: r)).getLast? with
    | none => exact absurd (List.getLast?_eq_none_iff.1 e) hne
    | some b => simp; intro e2; exact this (by rw [e, e2])
theorem parse_write {a : Ad} (h : Ok a) (hl : (write a).length ≤ 4096) : parse (write a) = .ok a := by
  have hlow := write_small h
  obtain ⟨h1, h2⟩ := write_cut h
  have hparts : ∀ x ∈ a.cust :: a.path, (47 : UInt8) ∉ x := by
    intro x hx
    rcases List.mem_cons.1 hx with rfl | hx
    · exact (word_nin (name_word h.cust)).1
    · exact (word_nin (h.path x hx)).1
  have hlast : (joinB 47 (a.cust :: a.path)).getLast? ≠ some 47 :=
    last_ne ⟨word_ne (name_word h.cust), (word_nin (name_word h.cust)).1⟩ (fun x hx => ⟨word_ne (h.path x hx), (word_nin (h.path x hx)).1⟩)
  unfold parse
  rw [if_neg (by omega), hlow, h1, h2, pathT_join, trimS, if_neg hlast, splitB_join _ _ (by simp) hparts]
  simp only [resolve_words _ _ h.path, List.nil_append, h.cust, if_true]
  rw [if_neg (by have := h.plen; have := h.qlen; omega)]
theorem parse_ok {s : Str} {a : Ad} (h : parse s = .ok a) : Ok a ∧ (write a).length ≤ s.length ∧ s.length ≤ 4096 := by
  unfold parse at h
  split at h
  · cases h
  rename_i hs
  split at h
  · rename_i c r q hsp hq
    split at h
    · rename_i p hp
      split at h
      · rename_i hc
        split at h
        · cases h
        rename_i hlim
        injection h with h
        subst h
        have hq' : sortedP q ∧ (∀ p ∈ q, okP p) ∧ qlen q ≤ (if (cutB 63 (low s)).2.2 then (cutB 63 (low s)).2.1.length + 1 else 0) := by
          unfold pairsOf at hq
          split at hq
          · injection hq with hq; subst hq; exact ⟨trivial, by simp, by simp [qlen]⟩
          · rename_i hne
            obtain ⟨k1, k2, k3⟩ := pairsL_inv hq trivial (by simp)
            refine ⟨k1, k2, ?_⟩
            rw [splitB_len] at k3
            simp [qlen] at k3
            have hm : (cutB 63 (low s)).2.2 = true := by
              cases e : (cutB 63 (low s)).2.2 with
              | true => rfl
              | false => exact absurd (cutB_rest _ _ e) hne
            rw [hm]; simp [qlen]; omega
        have hpath := resolve_len _ _ _ hp
        refine ⟨⟨hc, resolve_all _ _ _ hp (by simp), by simp; omega, hq'.2.1, by simp; omega, hq'.1⟩, ?_, by omega⟩
        have e := cutB_eq 63 (low s)
        have el := congrArg List.length e
        rw [low_length] at el
        have hsl := splitB_len 47 (trimS (cutB 63 (low s)).1)
        rw [hsp] at hsl
        have ht : (trimS (cutB 63 (low s)).1).length ≤ (cutB 63 (low s)).1.length := by
          unfold trimS
          split
          · simp
          · exact Nat.le_refl _
        have hq3 := hq'.2.2
        rw [write_len]
        simp [plen] at hsl hpath
        simp [plen]
        rw [List.length_append] at el
        cases hm : (cutB 63 (low s)).2.2 with
        | true => rw [hm] at el hq3; simp at el hq3; omega
        | false => rw [hm] at el hq3; simp at el hq3; omega
      · cases h
    · cases h
  · cases h
end Go.Proofs.YtmokgpepeddopaaGreatDoor.Addr
end
section
set_option linter.unusedVariables false
set_option linter.unusedSimpArgs false
namespace Go.Proofs.YtmokgpepeddopaaGreatDoor.Addr
structure Part where
  kind : Int
  text : Str
deriving DecidableEq
def isSuf (e w : Str) : Bool := decide (e.length ≤ w.length) && decide (w.drop (w.length - e.length) = e)
def Part.has (p : Part) (w : Str) : Bool :=
  if p.kind = 0 then decide (p.text = w) else if p.kind = 1 then decide (p.text.length < w.length) && isSuf p.text w else true
def Part.covers (p q : Part) : Bool :=
  if q.kind = 0 then p.has q.text else if q.kind = 1 then decide (p.kind = 2) || (decide (p.kind = 1) && isSuf p.text q.text) else decide (p.kind = 2)
def Part.wth (p : Part) (b : Str) : Str := if p.kind = 0 then p.text else if p.kind = 1 then b ++ p.text else b
def Part.wthout (p q : Part) : Str := if q.has (p.wth [97]) then p.wth [98] else p.wth [97]
def Part.ok (p : Part) : Prop :=
  (p.kind = 0 ∧ word p.text = true) ∨ (p.kind = 1 ∧ ∃ r, p.text = 46 :: r ∧ word r = true ∧ r.length ≤ 32) ∨ (p.kind = 2 ∧ p.text = [])
theorem isSuf_iff {e w : Str} : isSuf e w = true ↔ ∃ b, w = b ++ e := by
  unfold isSuf
  simp only [Bool.and_eq_true, decide_eq_true_eq]
  constructor
  · rintro ⟨_, h⟩
    exact ⟨w.take (w.length - e.length), by conv => lhs; rw [← List.take_append_drop (w.length - e.length) w, h]⟩
  · rintro ⟨b, rfl⟩
    exact ⟨by simp, by simp⟩
theorem isSuf_trans {a b c : Str} (h : isSuf a b = true) (k : isSuf b c = true) : isSuf a c = true := by
  obtain ⟨x, rfl⟩ := isSuf_iff.1 h
  obtain ⟨y, rfl⟩ := isSuf_iff.1 k
  exact isSuf_iff.2 ⟨y ++ x, by simp⟩
theorem isSuf_of {a b w : Str} (h : isSuf a w = true) (k : isSuf b w = true) (hl : a.length ≤ b.length) : isSuf a b = true := by
  obtain ⟨x, rfl⟩ := isSuf_iff.1 h
  obtain ⟨y, e⟩ := isSuf_iff.1 k
  have e2 := congrArg (fun l => l.drop (x.length + a.length - b.length)) e
  have hle := congrArg List.length e
  simp at hle
  refine isSuf_iff.2 ⟨b.take (b.length - a.length), ?_⟩
  have h1 : b = (x ++ a).drop y.length := by rw [e]; simp
  have h2 : a = b.drop (b.length - a.length) := by
    rw [h1, List.drop_drop]
    have : y.length + (List.length (List.drop y.length (x ++ a)) - a.length) = x.length := by simp; omega
    rw [this]; simp
  conv => lhs; rw [← List.take_append_drop (b.length - a.length) b, ← h2]
theorem covers_sound {p q : Part} (hp : p.ok) (hq : q.ok) (h : p.covers q = true) {w : Str} (hw : q.has w = true) : p.has w = true := by
  rcases hq with ⟨k, hq⟩ | ⟨k, r, hq, _⟩ | ⟨k, hq⟩
  · simp [Part.covers, k] at h
    simp [Part.has, k] at hw
    rw [← hw]; exact h
  · simp [Part.covers, k] at h
    simp [Part.has, k] at hw
    rcases h with h | ⟨h, h2⟩
    · simp [Part.has, h]
    · simp [Part.has, h]
      obtain ⟨b, e⟩ := isSuf_iff.1 h2
      refine ⟨?_, isSuf_trans h2 hw.2⟩
      have := congrArg List.length e; simp at this; omega
  · simp [Part.covers, k] at h
    simp [Part.has, h]
theorem ending_word {r : Str} (h : word r = true) (hl : r.length ≤ 32) (c : UInt8) (hc : isL c = true ∧ c ≠ 46) : word (c :: 46 :: r) = true := by
  simp [word] at h ⊢
  refine ⟨⟨by omega, .inl hc.2⟩, hc.1, by decide, h.2⟩
theorem wth_word {p : Part} (hp : p.ok) (c : UInt8) (hc : isL c = true ∧ c ≠ 46) : word (p.wth [c]) = true ∧ p.has (p.wth [c]) = true := by
  rcases hp with ⟨k, hq⟩ | ⟨k, r, hq, hr, hl⟩ | ⟨k, hq⟩
  · simp [Part.wth, Part.has, k, hq]
  · simp only [Part.wth, Part.has, k, hq]
    refine ⟨ending_word hr hl c hc, ?_⟩
    simp
    exact isSuf_iff.2 ⟨[c], rfl⟩
  · simp [Part.wth, Part.has, k, word]
    exact ⟨hc.2, hc.1⟩
theorem wthout_word {p q : Part} (hp : p.ok) (hq : q.ok) (h : q.covers p = false) : word (p.wthout q) = true ∧ p.has (p.wthout q) = true ∧ q.has (p.wthout q) = false := by
  have ha := wth_word hp 97 (by decide)
  have hb := wth_word hp 98 (by decide)
  unfold Part.wthout
  split
  · rename_i hh
    refine ⟨hb.1, hb.2, ?_⟩
    rcases hp with ⟨k, hp⟩ | ⟨k, r, hp, hr, hl⟩ | ⟨k, hp⟩
    · simp [Part.covers, k] at h
      simp [Part.wth, k] at hh
      rw [h] at hh; cases hh
    · simp [Part.covers, k] at h
      simp [Part.wth, k] at hh ⊢
      rcases hq with ⟨k2, hq⟩ | ⟨k2, r2, hq, hr2, hl2⟩ | ⟨k2, hq⟩
      · simp [Part.has, k2] at hh ⊢
        rw [hh]; simp
      · exfalso
        simp [Part.has, k2] at hh
        have h3 := h.2 k2
        have : isSuf q.text p.text = true := isSuf_of hh.2 (isSuf_iff.2 ⟨[97], rfl⟩) (by omega)
        rw [h3] at this; cases this
      · exact absurd k2 h.1
    · simp [Part.covers, k] at h
      simp [Part.wth, k] at hh ⊢
      rcases hq with ⟨k2, hq⟩ | ⟨k2, r2, hq, hr2, hl2⟩ | ⟨k2, hq⟩
      · simp [Part.has, k2] at hh ⊢
        rw [hh]; simp
      · exfalso
        simp [Part.has, k2, hq] at hh
      · exact absurd k2 h
  · rename_i hh
    exact ⟨ha.1, ha.2, by simpa using hh⟩
theorem apart {p q : Part} (hp : p.ok) (hq : q.ok) (h : p.covers q = false) (h' : q.covers p = false) (w : Str) : ¬ (p.has w = true ∧ q.has w = true) := by
  rintro ⟨a, b⟩
  rcases hp with ⟨k, hp⟩ | ⟨k, r, hp, hr, hl⟩ | ⟨k, hp⟩
  · simp [Part.covers, k] at h'
    simp [Part.has, k] at a
    rw [a] at h'; rw [h'] at b; cases b
  · rcases hq with ⟨k2, hq⟩ | ⟨k2, r2, hq, hr2, hl2⟩ | ⟨k2, hq⟩
    · simp [Part.covers, k2] at h
      simp [Part.has, k2] at b
      rw [b] at h; rw [h] at a; cases a
    · simp [Part.covers, k, k2] at h h'
      simp [Part.has, k] at a
      simp [Part.has, k2] at b
      rcases Nat.le_total p.text.length q.text.length with hle | hle
      · rw [isSuf_of a.2 b.2 hle] at h; cases h
      · rw [isSuf_of b.2 a.2 hle] at h'; cases h'
    · simp [Part.covers, k2, k] at h'
  · rcases hq with ⟨k2, hq⟩ | ⟨k2, r2, hq, hr2, hl2⟩ | ⟨k2, hq⟩
    · simp [Part.covers, k2, Part.has, k] at h
    · simp [Part.covers, k2, k] at h
    · simp [Part.covers, k2, k] at h
end Go.Proofs.YtmokgpepeddopaaGreatDoor.Addr
end
section
set_option linter.unusedVariables false
set_option linter.unusedSimpArgs false
namespace Go.Proofs.YtmokgpepeddopaaGreatDoor.Addr
theorem lt_blt (a b : Str) : a < b ↔ blt a b = true := by
  induction a generalizing b with
  | nil =>
    cases b with
    | nil => simp [blt]
    | cons y b => simp [blt]
  | cons x a ih =>
    cases b with
    | nil => simp [blt]
    | cons y b =>
      rw [List.cons_lt_cons_iff, ih]
      simp [blt]
theorem le_blt (a b : Str) : a ≤ b ↔ blt b a = false := by
  show ¬ (b < a) ↔ _
  rw [lt_blt]; simp
theorem le_trans' (a b c : Str) (h : a ≤ b) (k : b ≤ c) : a ≤ c := by
  rw [le_blt] at *
  cases e : blt c a with
  | false => rfl
  | true =>
    rcases blt_tri a b with h1 | rfl | h1
    · rw [blt_trans e h1] at k; exact k.symm ▸ rfl
    · rw [e] at k; exact k
    · rw [h1] at h; cases h
theorem le_total' (a b : Str) : a ≤ b ∨ b ≤ a := by
  rw [le_blt, le_blt]
  rcases blt_tri a b with h | rfl | h
  · exact .inl (blt_asym h)
  · exact .inl (blt_irr _)
  · exact .inr (blt_asym h)
theorem le_anti' (a b : Str) (h : a ≤ b) (k : b ≤ a) : a = b := by
  rw [le_blt] at h k
  rcases blt_tri a b with e | e | e
  · rw [e] at k; cases k
  · exact e
  · rw [e] at h; cases h
def sortS (l : List Str) : List Str := l.mergeSort fun x y => decide (x ≤ y)
theorem sortS_pair (l : List Str) : (sortS l).Pairwise (· ≤ ·) := by
  have := List.pairwise_mergeSort (le := fun x y : Str => decide (x ≤ y)) (fun a b c h k => by simp only [decide_eq_true_eq] at *; exact le_trans' a b c h k) (fun a b => by simp only [Bool.or_eq_true, decide_eq_true_eq]; exact le_total' a b) l
  exact this.imp (fun h => of_decide_eq_true h)
theorem sortS_perm (l : List Str) : (sortS l).Perm l := List.mergeSort_perm l _
theorem sortS_eq {l k : List Str} (hp : l.Perm k) (hs : k.Pairwise (· ≤ ·)) : sortS l = k :=
  List.Perm.eq_of_pairwise (le := (· ≤ ·)) (fun a b _ _ h k => le_anti' a b h k) (sortS_pair l) hs ((sortS_perm l).trans hp)
theorem keys_pair {M : List Pair} (h : sortedP M) : (M.map (·.1)).Pairwise (· ≤ ·) := by
  induction M with
  | nil => exact .nil
  | cons x r ih =>
    rw [List.map_cons]
    refine List.Pairwise.cons (fun y hy => ?_) (ih (sortedP_tail h))
    obtain ⟨p, hp, rfl⟩ := List.mem_map.1 hy
    rw [le_blt]; exact blt_asym (sortedP_head h p hp)
theorem keys_sorted {M : List Pair} (h : sortedP M) {ss : List Str} (hp : ss.Perm (M.map (·.1))) : sortS ss = M.map (·.1) := sortS_eq hp (keys_pair h)
end Go.Proofs.YtmokgpepeddopaaGreatDoor.Addr
end
section
set_option linter.unusedVariables false
set_option linter.unusedSimpArgs false
namespace Go.Proofs.YtmokgpepeddopaaGreatDoor.Addr
structure Pat where
  cust : Part
  parts : List Part
  tail : Bool
deriving DecidableEq
def validP (w : Str) : Bool := decide (w = [42]) || word w || (decide (w.length ≤ 34) && [42, 46].isPrefixOf w && word (w.drop 2))
def mkP (w : Str) : Part := match w with
  | 42 :: [] => ⟨2, []⟩
  | 42 :: x :: r => ⟨1, x :: r⟩
  | w => ⟨0, w⟩
def partsP : List Str → Option (List Part × Bool)
  | [] => some ([], false)
  | w :: r => if w = [42, 42] ∧ r = [] then some ([], true) else if validP w then (partsP r).map (fun t => (mkP w :: t.1, t.2)) else none
def pat (s : Str) : Option Pat := match splitB 47 s with
  | c :: r => if 32 < r.length ∨ (c ≠ [42] ∧ name c = false) then none else (partsP r).map fun t => ⟨mkP c, t.1, t.2⟩
  | [] => none
def hasL : List Part → List Str → Bool
  | [], _ => true
  | p :: ps, w :: ws => p.has w && hasL ps ws
  | _ :: _, [] => false
def matchP (P : Pat) (a : Ad) : Bool := P.cust.has a.cust && (decide (P.parts.length ≤ a.path.length) && (decide (a.path.length ≤ P.parts.length) || P.tail)) && hasL P.parts a.path
def readA (s : Str) : Option Ad := match parse s with
  | .ok a => if write a = s then some a else none
  | .error _ => none
def matchS (p s : Str) : Bool := match pat p, readA s with
  | some P, some a => matchP P a
  | _, _ => false
structure PatOk (P : Pat) : Prop where
  cust : P.cust.ok
  name : P.cust.kind = 0 → name P.cust.text = true
  kind : P.cust.kind ≠ 1
  parts : ∀ p ∈ P.parts, p.ok
  len : P.parts.length + (if P.tail then 1 else 0) ≤ 32
theorem mkP_word {w : Str} (h : word w = true) : mkP w = ⟨0, w⟩ := by
  have h42 := (word_nin h).2.2.2.2.2.1
  unfold mkP
  split
  · exact absurd List.mem_cons_self h42
  · exact absurd List.mem_cons_self h42
  · rfl
theorem validP_cases {w : Str} (h : validP w = true) : w = [42] ∨ word w = true ∨ ∃ r, w = 42 :: 46 :: r ∧ word r = true ∧ r.length ≤ 32 := by
  unfold validP at h
  simp only [Bool.or_eq_true, Bool.and_eq_true, decide_eq_true_eq] at h
  rcases h with (h | h) | ⟨⟨h1, h2⟩, h3⟩
  · exact .inl h
  · exact .inr (.inl h)
  · obtain ⟨r, hr⟩ := List.isPrefixOf_iff_prefix.1 h2
    subst hr
    exact .inr (.inr ⟨r, rfl, by simpa using h3, by simp at h1; omega⟩)
theorem mkP_ok {w : Str} (h : validP w = true) : (mkP w).ok := by
  rcases validP_cases h with rfl | h | ⟨r, rfl, h, hl⟩
  · exact .inr (.inr ⟨rfl, rfl⟩)
  · rw [mkP_word h]; exact .inl ⟨rfl, h⟩
  · exact .inr (.inl ⟨rfl, r, rfl, h, hl⟩)
theorem partsP_ok {l : List Str} {t : List Part × Bool} (h : partsP l = some t) : (∀ p ∈ t.1, p.ok) ∧ t.1.length + (if t.2 then 1 else 0) = l.length := by
  induction l generalizing t with
  | nil => simp [partsP] at h; subst h; simp
  | cons w r ih =>
    rw [partsP] at h
    split at h
    · rename_i hc
      injection h with h; subst h
      simp [hc.2]
    · split at h
      · rename_i hv
        obtain ⟨t2, h2, rfl⟩ := Option.map_eq_some_iff.1 h
        obtain ⟨h3, h4⟩ := ih h2
        refine ⟨fun p hp => ?_, by simp at h4 ⊢; omega⟩
        rcases List.mem_cons.1 hp with rfl | hp
        · exact mkP_ok hv
        · exact h3 p hp
      · cases h
theorem pat_ok {s : Str} {P : Pat} (h : pat s = some P) : PatOk P := by
  unfold pat at h
  split at h
  · rename_i c r hs
    split at h
    · cases h
    · rename_i hc
      obtain ⟨t, ht, rfl⟩ := Option.map_eq_some_iff.1 h
      obtain ⟨h1, h2⟩ := partsP_ok ht
      have hcc : c = [42] ∨ (name c = true) := by
        by_cases h1 : c = [42]
        · exact .inl h1
        · exact .inr (by cases hn : name c with
            | true => rfl
            | false => exact absurd (.inr ⟨h1, hn⟩) hc)
      have hl : r.length ≤ 32 := by
        by_cases h1 : 32 < r.length
        · exact absurd (.inl h1) hc
        · omega
      rcases hcc with rfl | hn
      · exact ⟨.inr (.inr ⟨rfl, rfl⟩), fun h => absurd (show (2 : Int) = 0 from h) (by decide), show (2 : Int) ≠ 1 by decide, h1, by rw [h2]; exact hl⟩
      · rw [mkP_word (name_word hn)]
        exact ⟨.inl ⟨rfl, name_word hn⟩, fun _ => hn, show (0 : Int) ≠ 1 by decide, h1, by rw [h2]; exact hl⟩
  · cases h
def exT (c : Str) (ws : List Str) : Str := joinB 47 (c :: ws)
def wthL (l : List Part) : List Str := l.map fun p => p.wth [97]
theorem wthL_words {l : List Part} (h : ∀ p ∈ l, p.ok) : (∀ w ∈ wthL l, word w = true) ∧ hasL l (wthL l) = true := by
  induction l with
  | nil => simp [wthL, hasL]
  | cons p r ih =>
    obtain ⟨h1, h2⟩ := ih (fun q hq => h q (by simp [hq]))
    have h3 := wth_word (h p (by simp)) 97 (by decide)
    refine ⟨fun w hw => ?_, ?_⟩
    · rcases List.mem_cons.1 hw with rfl | hw
      · exact h3.1
      · exact h1 w hw
    · show (p.has (p.wth [97]) && hasL r (wthL r)) = true
      rw [h3.2, h2]; rfl
theorem wthL_length (l : List Part) : (wthL l).length = l.length := by simp [wthL]
theorem name_wth {P : Pat} (h : PatOk P) (c : UInt8) (hc : isL c = true ∧ c ≠ 46) : name (P.cust.wth [c]) = true := by
  rcases h.cust with ⟨k, hq⟩ | ⟨k, hq⟩ | ⟨k, hq⟩
  · simp only [Part.wth, k, if_true]; exact h.name k
  · exact absurd k h.kind
  · simp only [Part.wth, k]
    have : word [c] = true := by simp [word]; exact ⟨hc.2, hc.1⟩
    simp [name, this]
    exact fun e => hc.2 e.symm
theorem name_wthout {P : Pat} (h : PatOk P) (q : Part) : name (P.cust.wthout q) = true := by
  unfold Part.wthout
  split
  · exact name_wth h 98 (by decide)
  · exact name_wth h 97 (by decide)
def uncovL : List Part → List Part → Option (List Str)
  | a :: xs, b :: ys => if a.covers b = true then (uncovL xs ys).map (b.wth [97] :: ·) else some (b.wthout a :: wthL ys)
  | _, _ => none
def coversR (x y : Pat) : Option Str :=
  if x.cust.covers y.cust = false then some (exT (y.cust.wthout x.cust) (wthL y.parts))
  else if y.parts.length < x.parts.length ∨ (x.parts.length < y.parts.length ∧ x.tail = false) then some (exT (y.cust.wth [97]) (wthL y.parts))
  else if y.tail = true ∧ x.tail = false then some (exT (y.cust.wth [97]) (wthL y.parts ++ [[97]]))
  else (uncovL x.parts y.parts).map (exT (y.cust.wth [97]))
theorem uncovL_some {xs ys : List Part} (hx : ∀ p ∈ xs, p.ok) (hy : ∀ p ∈ ys, p.ok) {ws : List Str} (h : uncovL xs ys = some ws) : ws.length = ys.length ∧ (∀ w ∈ ws, word w = true) ∧ hasL ys ws = true ∧ hasL xs ws = false := by
  induction xs generalizing ys ws with
  | nil => simp [uncovL] at h
  | cons a xs ih =>
    cases ys with
    | nil => simp [uncovL] at h
    | cons b ys =>
      rw [uncovL] at h
      split at h
      · rename_i hc
        obtain ⟨vs, hv, rfl⟩ := Option.map_eq_some_iff.1 h
        obtain ⟨h1, h2, h3, h4⟩ := ih (fun p hp => hx p (by simp [hp])) (fun p hp => hy p (by simp [hp])) hv
        have hb := wth_word (hy b (by simp)) 97 (by decide)
        refine ⟨by simp [h1], fun w hw => ?_, ?_, ?_⟩
        · rcases List.mem_cons.1 hw with rfl | hw
          · exact hb.1
          · exact h2 w hw
        · simp only [hasL, Bool.and_eq_true]; exact ⟨hb.2, h3⟩
        · simp [hasL, h4]
      · rename_i hc
        injection h with h; subst h
        obtain ⟨h1, h2⟩ := wthL_words (l := ys) (fun p hp => hy p (by simp [hp]))
        have hb := wthout_word (hy b (by simp)) (hx a (by simp)) (by simpa using hc)
        refine ⟨by simp [wthL_length], fun w hw => ?_, ?_, ?_⟩
        · rcases List.mem_cons.1 hw with rfl | hw
          · exact hb.1
          · exact h1 w hw
        · simp only [hasL, Bool.and_eq_true]; exact ⟨hb.2.1, h2⟩
        · simp [hasL, hb.2.2]
end Go.Proofs.YtmokgpepeddopaaGreatDoor.Addr
end
section
set_option linter.unusedVariables false
set_option linter.unusedSimpArgs false
namespace Go.Proofs.YtmokgpepeddopaaGreatDoor.Addr
def meetP (p q : Part) : Part × Bool := if p.covers q = true then (q, true) else (p, q.covers p)
def commonLP : List Part → List Part → Option (List Part)
  | [], _ => some []
  | a :: xs, [] => (commonLP xs []).map (a :: ·)
  | a :: xs, b :: ys => if (meetP a b).2 = true then (commonLP xs ys).map ((meetP a b).1 :: ·) else none
def commonX (x y : Pat) : Option Pat :=
  if (meetP x.cust y.cust).2 = false ∨ (y.parts.length < x.parts.length ∧ y.tail = false) then none
  else (commonLP x.parts y.parts).map fun l => ⟨(meetP x.cust y.cust).1, l, x.tail && y.tail⟩
def commonP (x y : Pat) : Option Pat := if x.parts.length < y.parts.length then commonX y x else commonX x y
theorem meetP_some {p q : Part} (hp : p.ok) (hq : q.ok) (h : (meetP p q).2 = true) : ((meetP p q).1 = p ∨ (meetP p q).1 = q) ∧ ∀ w, (meetP p q).1.has w = (p.has w && q.has w) := by
  unfold meetP at h ⊢
  split
  · rename_i hc
    refine ⟨.inr rfl, fun w => ?_⟩
    cases hw : q.has w with
    | false => simp
    | true => rw [covers_sound hp hq hc hw]; rfl
  · rename_i hc
    rw [if_neg hc] at h
    refine ⟨.inl rfl, fun w => ?_⟩
    cases hw : p.has w with
    | false => simp [hw]
    | true => rw [covers_sound hq hp h hw]; simp [hw]
theorem commonLP_some {xs ys l : List Part} (hx : ∀ p ∈ xs, p.ok) (hy : ∀ p ∈ ys, p.ok) (hl : ys.length ≤ xs.length) (h : commonLP xs ys = some l) : l.length = xs.length ∧ (∀ p ∈ l, p.ok) ∧ ∀ ws, hasL l ws = (hasL xs ws && hasL ys ws) := by
  induction xs generalizing ys l with
  | nil =>
    simp [commonLP] at h; subst h
    have : ys = [] := List.eq_nil_of_length_eq_zero (by simpa using hl)
    subst this
    simp [hasL]
  | cons a xs ih =>
    cases ys with
    | nil =>
      rw [commonLP] at h
      obtain ⟨t, ht, rfl⟩ := Option.map_eq_some_iff.1 h
      obtain ⟨h1, h2, h3⟩ := ih (fun p hp => hx p (by simp [hp])) (by simp) (by simp) ht
      refine ⟨by simp [h1], fun p hp => ?_, fun ws => ?_⟩
      · rcases List.mem_cons.1 hp with rfl | hp
        · exact hx _ (by simp)
        · exact h2 p hp
      · cases ws with
        | nil => simp [hasL]
        | cons w ws => simp [hasL, h3]
    | cons b ys =>
      rw [commonLP] at h
      split at h
      · rename_i hm
        obtain ⟨t, ht, rfl⟩ := Option.map_eq_some_iff.1 h
        obtain ⟨h1, h2, h3⟩ := ih (fun p hp => hx p (by simp [hp])) (fun p hp => hy p (by simp [hp])) (by simpa using hl) ht
        obtain ⟨m1, m2⟩ := meetP_some (hx a (by simp)) (hy b (by simp)) hm
        refine ⟨by simp [h1], fun p hp => ?_, fun ws => ?_⟩
        · rcases List.mem_cons.1 hp with rfl | hp
          · rcases m1 with e | e <;> rw [e]
            · exact hx a (by simp)
            · exact hy b (by simp)
          · exact h2 p hp
        · cases ws with
          | nil => simp [hasL]
          | cons w ws =>
            simp only [hasL, h3, m2]
            cases a.has w <;> cases b.has w <;> cases hasL xs ws <;> rfl
      · cases h
theorem commonX_some {x y z : Pat} (hx : PatOk x) (hy : PatOk y) (hl : y.parts.length ≤ x.parts.length) (h : commonX x y = some z) : PatOk z ∧ ∀ a, matchP z a = (matchP x a && matchP y a) := by
  unfold commonX at h
  split at h
  · cases h
  · rename_i hc
    obtain ⟨l, hl2, rfl⟩ := Option.map_eq_some_iff.1 h
    have hm : (meetP x.cust y.cust).2 = true := by
      cases e : (meetP x.cust y.cust).2 with
      | true => rfl
      | false => exact absurd (.inl e) hc
    have ht : y.parts.length < x.parts.length → y.tail = true := fun h1 => by
      cases e : y.tail with
      | true => rfl
      | false => exact absurd (.inr ⟨h1, e⟩) hc
    obtain ⟨m1, m2⟩ := meetP_some hx.cust hy.cust hm
    obtain ⟨l1, l2, l3⟩ := commonLP_some hx.parts hy.parts hl hl2
    refine ⟨⟨?_, ?_, ?_, l2, ?_⟩, fun a => ?_⟩
    · rcases m1 with e | e <;> simp only [e]
      · exact hx.cust
      · exact hy.cust
    · rcases m1 with e | e <;> simp only [e]
      · exact hx.name
      · exact hy.name
    · rcases m1 with e | e <;> simp only [e]
      · exact hx.kind
      · exact hy.kind
    · have := hx.len
      simp only [l1]
      cases hxt : x.tail <;> cases hyt : y.tail <;> rw [hxt] at this <;> simp at this ⊢ <;> omega
    · rw [Bool.eq_iff_iff]
      unfold matchP
      simp only [m2, l1, l3, Bool.and_eq_true, Bool.or_eq_true, decide_eq_true_eq]
      constructor
      · rintro ⟨⟨⟨c1, c2⟩, h1, h2⟩, p1, p2⟩
        refine ⟨⟨⟨c1, h1, ?_⟩, p1⟩, ⟨c2, by omega, ?_⟩, p2⟩
        · rcases h2 with h2 | h2
          · exact .inl h2
          · exact .inr h2.1
        · rcases h2 with h2 | h2
          · by_cases h3 : y.parts.length < x.parts.length
            · exact .inr (ht h3)
            · exact .inl (by omega)
          · exact .inr h2.2
      · rintro ⟨⟨⟨c1, h1, h2⟩, p1⟩, ⟨c2, h3, h4⟩, p2⟩
        refine ⟨⟨⟨c1, c2⟩, h1, ?_⟩, p1, p2⟩
        rcases h2 with h2 | h2
        · exact .inl h2
        · rcases h4 with h4 | h4
          · exact .inl (by omega)
          · exact .inr ⟨h2, h4⟩
theorem commonP_some {x y z : Pat} (hx : PatOk x) (hy : PatOk y) (h : commonP x y = some z) : PatOk z ∧ ∀ a, matchP z a = (matchP x a && matchP y a) := by
  unfold commonP at h
  split at h
  · rename_i hl
    obtain ⟨h1, h2⟩ := commonX_some hy hx (by omega) h
    exact ⟨h1, fun a => by rw [h2, Bool.and_comm]⟩
  · exact commonX_some hx hy (by omega) h
def partT (p : Part) : Str := if p.kind = 0 then p.text else 42 :: p.text
def patT (P : Pat) : Str := joinB 47 ((partT P.cust :: P.parts.map partT) ++ (if P.tail = true then [[42, 42]] else []))
end Go.Proofs.YtmokgpepeddopaaGreatDoor.Addr
end
