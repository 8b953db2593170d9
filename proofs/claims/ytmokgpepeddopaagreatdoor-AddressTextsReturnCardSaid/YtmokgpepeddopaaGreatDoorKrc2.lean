/- Lemmas on the way to the statement: part 2 of 3 (functions as plain Lean functions, and that each call comes to what they say). -/
import Derived.Test.YtmokgpepeddopaaGreatDoorK32
import Derived.Test.YtmokgpepeddopaaGreatDoorK15
import Derived.Test.YtmokgpepeddopaaGreatDoorKrc1
section
namespace Go.Proofs.YtmokgpepeddopaaGreatDoor.P
open Go.RowKit Go.Proofs.YtmokgpepeddopaaGreatDoorW.PrintWords Go.Proofs.YtmokgpepeddopaaGreatDoorW.PrintLast Go.Proofs.YtmokgpepeddopaaGreatDoorW.PrintMore
open Go.Proofs.YtmokgpepeddopaaGreatDoor.Addr
set_option linter.unusedSimpArgs false
set_option linter.unusedVariables false
def fewP (x : ByteArray) : Bool := decide (x.size ≤ 200)
def fewQ (x : S66) : Bool := decide (x.f0.size ≤ 200) && decide (x.f1.size ≤ 200)
def fewB (c : ByteArray) (p : List ByteArray) (q : List S66) : Bool := decide (c.size ≤ 200) && decide (p.length ≤ 40) && decide (q.length ≤ 20) && p.all fewP && q.all fewQ
theorem few_l1 (c : ByteArray) (p : List ByteArray) (q : List S66) (hq : q.length < 1099511627776) : ∀ n, n ≤ q.length → Evt (fun k => weirgatelaw06_few.l1 k (n : Int) c p q) ((q.drop n).all fewQ) := by
  refine drop_ind ?_ fun n x hx hd hlt ih => ?_
  · exact Evt.fin fun k => by simp only [weirgatelaw06_few.l1]; rw [if_neg (by omega), List.drop_length]; rfl
  · rw [hd, List.all_cons]
    by_cases h1 : x.f0.size ≤ 200
    · by_cases h2 : x.f1.size ≤ 200
      · have : fewQ x = true := by simp [fewQ, h1, h2]
        rw [this, Bool.true_and]
        refine Evt.step (fun k => ?_) ih
        simp only [weirgatelaw06_few.l1]
        rw [if_pos (by omega), if_pos (by omega), rd_T_at hx, if_neg (by omega), if_neg (by omega), wrap_nat _ (by omega)]
      · have : fewQ x = false := by simp [fewQ, h2]
        rw [this, Bool.false_and]
        exact Evt.fin fun k => by simp only [weirgatelaw06_few.l1]; rw [if_pos (by omega), if_pos (by omega), rd_T_at hx, if_neg (by omega), if_pos (by omega)]
    · have : fewQ x = false := by simp [fewQ, h1]
      rw [this, Bool.false_and]
      exact Evt.fin fun k => by simp only [weirgatelaw06_few.l1]; rw [if_pos (by omega), if_pos (by omega), rd_T_at hx, if_pos (by omega)]
theorem few_l0 (c : ByteArray) (p : List ByteArray) (q : List S66) (hp : p.length < 1099511627776) (hq : q.length < 1099511627776) : ∀ n, n ≤ p.length → Evt (fun k => weirgatelaw06_few.l0 k (n : Int) c p q) ((p.drop n).all fewP && q.all fewQ) := by
  refine drop_ind ?_ fun n x hx hd hlt ih => ?_
  · rw [List.drop_length]
    refine Evt.step (fun k => ?_) (by simpa using few_l1 c p q hq 0 (Nat.zero_le _))
    simp only [weirgatelaw06_few.l0]
    rw [if_neg (by omega)]
  · rw [hd, List.all_cons]
    by_cases h1 : x.size ≤ 200
    · have : fewP x = true := by simp [fewP, h1]
      rw [this, Bool.true_and]
      refine Evt.step (fun k => ?_) ih
      simp only [weirgatelaw06_few.l0]
      rw [if_pos (by omega), if_pos (by omega), rdOf_at hx, if_neg (by omega), wrap_nat _ (by omega)]
    · have : fewP x = false := by simp [fewP, h1]
      rw [this]
      simp only [Bool.false_and]
      exact Evt.fin fun k => by simp only [weirgatelaw06_few.l0]; rw [if_pos (by omega), if_pos (by omega), rdOf_at hx, if_pos (by omega)]
theorem few_f (c : ByteArray) (p : List ByteArray) (q : List S66) : Evt (fun k => weirgatelaw06_few.f k c p q) (fewB c p q) := by
  have hno : ∀ x, x = true → Evt (fun k => weirgatelaw06_few.j0 k x c p q) false := fun x hx => Evt.fin fun k => by simp only [weirgatelaw06_few.j0]; rw [if_pos hx]
  unfold weirgatelaw06_few.f fewB
  by_cases h1 : c.size ≤ 200
  · refine Evt.same (fun k => if_neg (by omega)) ?_
    rw [decide_eq_true h1, Bool.true_and]
    by_cases h2 : p.length ≤ 40
    · refine Evt.same (fun k => if_neg (by omega)) ?_
      rw [decide_eq_true h2, Bool.true_and]
      by_cases h3 : q.length ≤ 20
      · rw [decide_eq_true h3, Bool.true_and]
        have h3' : decide ((q.length : Int) > 20) = false := decide_eq_false (by omega)
        rw [h3']
        refine Evt.step (fun k => ?_) (by simpa using few_l0 c p q (by omega) (by omega) 0 (Nat.zero_le _))
        simp only [weirgatelaw06_few.j0]
        rw [if_neg (by decide)]
      · rw [decide_eq_false h3]
        have h3' : decide ((q.length : Int) > 20) = true := decide_eq_true (by omega)
        rw [h3']
        simpa using hno _ rfl
    · refine Evt.same (fun k => if_pos (by omega)) ?_
      rw [decide_eq_false h2]
      simpa using hno _ rfl
  · refine Evt.same (fun k => if_pos (by omega)) ?_
    rw [decide_eq_false h1]
    simpa using hno _ rfl
theorem few_sizes {c : ByteArray} {p : List ByteArray} {q : List S66} (h : fewB c p q = true) : c.size < 4611686018427387904 ∧ p.length < 1099511627776 ∧ q.length < 1099511627776 ∧ (∀ x ∈ p, x.size < 4611686018427387904) ∧ (∀ x ∈ q, x.f0.size < 4611686018427387904 ∧ x.f1.size < 4611686018427387904) := by
  unfold fewB at h
  simp only [Bool.and_eq_true, decide_eq_true_eq, List.all_eq_true, fewP, fewQ] at h
  obtain ⟨⟨⟨⟨h1, h2⟩, h3⟩, h4⟩, h5⟩ := h
  exact ⟨by omega, by omega, by omega, fun x hx => by have := h4 x hx; omega, fun x hx => by have := h5 x hx; omega⟩
theorem Same_l1 (c : ByteArray) (p : List ByteArray) (q : List S66) (hq : q.length < 1099511627776) : ∀ n, n ≤ q.length → Evt (fun k => weirgateref06_Same.l1 k (n : Int) c p q c p q) true := by
  refine drop_ind ?_ fun n x hx hd hlt ih => ?_
  · exact Evt.fin fun k => by simp only [weirgateref06_Same.l1]; rw [if_neg (by omega)]
  · refine Evt.step (fun k => ?_) ih
    simp only [weirgateref06_Same.l1]
    rw [if_pos (by omega), if_pos (by omega), if_pos (by omega), if_neg (by simp), wrap_nat _ (by omega)]
theorem Same_l0 (c : ByteArray) (p : List ByteArray) (q : List S66) (hp : p.length < 1099511627776) (hq : q.length < 1099511627776) : ∀ n, n ≤ p.length → Evt (fun k => weirgateref06_Same.l0 k (n : Int) c p q c p q) true := by
  refine drop_ind ?_ fun n x hx hd hlt ih => ?_
  · refine Evt.step (fun k => ?_) (Same_l1 c p q hq 0 (Nat.zero_le _))
    simp only [weirgateref06_Same.l0]
    rw [if_neg (by omega)]
    rfl
  · refine Evt.step (fun k => ?_) ih
    simp only [weirgateref06_Same.l0]
    rw [if_pos (by omega), if_pos (by omega), if_pos (by omega), if_pos trivial, wrap_nat _ (by omega)]
theorem Same_f (c : ByteArray) (p : List ByteArray) (q : List S66) (hp : p.length < 1099511627776) (hq : q.length < 1099511627776) : Evt (fun k => weirgateref06_Same.f k c p q c p q) true := by
  unfold weirgateref06_Same.f
  refine Evt.same (fun k => (if_pos rfl).trans (if_pos rfl)) ?_
  have e : ((q.length : Int) != (q.length : Int)) = false := by simp
  rw [e]
  refine Evt.step (fun k => ?_) (Same_l0 c p q hp hq 0 (Nat.zero_le _))
  simp only [weirgateref06_Same.j0]
  rw [if_neg (by decide)]
  rfl
theorem Parse_small {s : ByteArray} {r : ByteArray × List ByteArray × List S66 × Int} (h : address_Parse.f s = some r) : r.2.1.length < 1099511627776 ∧ r.2.2.1.length < 1099511627776 := by
  unfold address_Parse.f at h
  split at h
  · rename_i a hp
    have hok := (parse_ok hp).1
    injection h with h; subst h
    have h1 := hok.plen
    have h2 := hok.qlen
    simp only [List.length_map]
    omega
  · injection h with h; subst h; simp
theorem ad_back (c : ByteArray) (p : List ByteArray) (q : List S66) : B (toAd c p q).cust = c ∧ (toAd c p q).path.map B = p ∧ (toAd c p q).query.map bp = q := by
  refine ⟨B_L c, ?_, ?_⟩
  · simp only [toAd, List.map_map]
    conv => rhs; rw [← List.map_id p]
    exact List.map_congr_left (fun x _ => by simp [B_L])
  · simp only [toAd, List.map_map]
    conv => rhs; rw [← List.map_id q]
    exact List.map_congr_left (fun x _ => by cases x; simp [toPair, bp, B_L])
theorem Parse_write {a : Ad} (h : Ok a) (hl : (Addr.write a).length ≤ 4096) : address_Parse.f (B (Addr.write a)) = some (B a.cust, a.path.map B, a.query.map bp, 0) := by
  unfold address_Parse.f
  rw [L_B, parse_write h hl]
theorem texts_j1 (c : ByteArray) (p : List ByteArray) (q : List S66) (hf : fewB c p q = true) : Evt (fun k => weirgatelaw06_AddressTextsReturn.j1 k c p q) true := by
  obtain ⟨s1, s2, s3, s4, s5⟩ := few_sizes hf
  refine Evt.step (fun k => by simp only [weirgatelaw06_AddressTextsReturn.j1]; rfl) ?_
  refine Evt.bind (Text_f c p q s2 s3 s5) ?_
  unfold textR
  by_cases h : okB (toAd c p q) = true ∧ (Addr.write (toAd c p q)).length ≤ 4096
  · rw [if_pos h]
    refine Evt.same (fun k => if_pos rfl) ?_
    refine Evt.bind' (Parse_write (okB_iff.1 h.1) h.2) (Evt.bind sanity_f (Evt.same (fun k => if_pos rfl) (Evt.same (fun k => if_pos rfl) ?_)))
    obtain ⟨e1, e2, e3⟩ := ad_back c p q
    simp only [e1, e2, e3]
    exact Evt.bind (Same_f c p q s2 s3) (Evt.of fun _ => rfl)
  · rw [if_neg h]
    refine Evt.same (fun k => if_neg (by decide)) ?_
    exact Evt.bind sanity_f (Evt.of fun k => by rw [if_pos rfl, toList_L]; rfl)
theorem texts_true (a0 a1_0 : ByteArray) (l1_1 : List ByteArray) (l1_2 : List S66) : Evt (fun k => weirgatelaw06_AddressTextsReturn.f k a0 a1_0 l1_1 l1_2) true := by
  have hs : ∀ x, x = true → Evt (fun k => weirgatelaw06_AddressTextsReturn.j0 k a0 x a1_0 l1_1 l1_2) true := fun x hx => by
    subst hx
    refine Evt.step (g := fun k => (weirgatelaw06_sanity.f k).bind fun t => some t) (fun k => ?_) (Evt.bind sanity_f (Evt.of fun _ => rfl))
    simp only [weirgatelaw06_AddressTextsReturn.j0]
    rw [if_pos trivial]
  unfold weirgatelaw06_AddressTextsReturn.f
  by_cases h1 : (a0.size : Int) > 5000
  · exact Evt.same (fun k => if_pos h1) (hs _ rfl)
  · refine Evt.same (fun k => if_neg h1) ?_
    refine Evt.bind (few_f a1_0 l1_1 l1_2) ?_
    by_cases h2 : fewB a1_0 l1_1 l1_2 = true
    · rw [h2]
      refine Evt.step (fun k => by simp only [weirgatelaw06_AddressTextsReturn.j0]; rw [if_neg (by decide)]) ?_
      cases hp : parse (L a0) with
      | error e =>
        refine Evt.bind' (a := (⟨#[]⟩, [], [], (e : Int))) (by unfold address_Parse.f; rw [hp]) ?_
        refine Evt.same (fun k => if_neg ?_) (texts_j1 a1_0 l1_1 l1_2 h2)
        have := parse_err hp
        simp; omega
      | ok a =>
        obtain ⟨p1, p2, p3⟩ := parse_ok hp
        have hsz := ok_sizes p1
        refine Evt.bind' (a := (B a.cust, a.path.map B, a.query.map bp, 0)) (by unfold address_Parse.f; rw [hp]) ?_
        refine Evt.same (fun k => if_pos rfl) ?_
        have c1 := Canonical_f a0
        have c2 := Canonical_f (B (Addr.write a))
        unfold canonR at c1 c2
        rw [hp] at c1
        rw [L_B, parse_write p1 (by omega)] at c2
        refine Evt.bind c1 (Evt.bind c2 (Evt.bind' (Parse_write p1 (by omega)) ?_))
        refine Evt.same (fun k => if_pos rfl) (Evt.same (fun k => if_pos rfl) (Evt.same (fun k => if_pos rfl) (Evt.same (fun k => if_pos rfl) (Evt.same (fun k => if_neg ?_) ?_))))
        · rw [L_length] at p2
          simp only [B_size]; omega
        · exact Evt.bind (Same_f _ _ _ hsz.2.1 hsz.2.2.1) (Evt.same (fun k => if_pos rfl) (texts_j1 a1_0 l1_1 l1_2 h2))
    · have : fewB a1_0 l1_1 l1_2 = false := by simpa using h2
      rw [this]
      exact hs _ rfl
end Go.Proofs.YtmokgpepeddopaaGreatDoor.P
end
