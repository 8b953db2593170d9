/- Lemmas on the way to the statement: part 33 of 34 (functions as plain Lean functions, and that each call comes to what they say). -/
import Derived.Test.YtmokgpepeddopaaGreatDoorL29
import Derived.Test.YtmokgpepeddopaaGreatDoorL2
import Derived.Test.YtmokgpepeddopaaGreatDoorL28
import Derived.Test.YtmokgpepeddopaaGreatDoorL15
import Derived.Test.YtmokgpepeddopaaGreatDoorL31
import Derived.Test.YtmokgpepeddopaaGreatDoorL32
section
namespace Go.Proofs.YtmokgpepeddopaaGreatDoor.P
open Go.RowKit Go.Proofs.YtmokgpepeddopaaGreatDoorW.PrintWords Go.Proofs.YtmokgpepeddopaaGreatDoorW.PrintLast Go.Proofs.YtmokgpepeddopaaGreatDoorW.PrintMore
open Go.Proofs.YtmokgpepeddopaaGreatDoor.Addr
set_option linter.unusedSimpArgs false
set_option linter.unusedVariables false
def tagsR (l : List Str) : ByteArray × Int := match tagsA l with
  | .bad => (⟨#[]⟩, 1)
  | .long => (⟨#[]⟩, 2)
  | .ok t => (B t, 0)
theorem compact_sorted (l : List ByteArray) : (compactF (sortedF l)).map L = tagsL (l.map L) := by
  unfold compactF sortedF
  rw [LB_map, LB_map]
  exact compact_sort (l.map L)
theorem names_len {l : List Str} (h : ∀ x ∈ l, name x = true) : (joinB 44 l).length ≤ l.length * 65 := by
  cases l with
  | nil => simp [joinB]
  | cons x r =>
    have h1 := joinB_len 44 (x :: r) (by simp)
    have h2 : plen (x :: r) ≤ (x :: r).length * 65 := by
      have := sum_le ((x :: r).map (fun x => x.length + 1)) 65 (fun y hy => by
        obtain ⟨z, hz, rfl⟩ := List.mem_map.1 hy
        have := word_le (name_word (h z hz)); omega)
      simpa [plen] using this
    omega
theorem Tags_f (l : List ByteArray) (hl : l.length < 1099511627776) : address_Tags.f l = some (tagsR (l.map L)) := by
  unfold address_Tags.f tagsR tagsA
  have e0 : (l.any fun x => !name (L x)) = !(l.map L).all name := by simp [List.all_map, List.not_all_eq_any_not, Function.comp_def]
  rw [if_pos hl, e0]
  unfold tagsText
  rw [compact_sorted]
  cases hn : (l.map L).all name with
  | false => rfl
  | true =>
    have hnames : ∀ x ∈ tagsL (l.map L), name x = true := fun x hx => List.all_eq_true.1 hn x ((tagsL_mem _ x).1 hx)
    have h1 := names_len hnames
    have h2 := tagsL_len (l.map L)
    rw [List.length_map] at h2
    have h3 : (tagsL (l.map L)).length * 65 ≤ l.length * 65 := Nat.mul_le_mul_right _ h2
    rw [if_neg (by decide), if_pos (by omega), if_pos rfl]
    simp only [B_size]
    by_cases h : 4096 < (joinB 44 (tagsL (l.map L))).length
    · rw [if_pos h, if_pos h]
    · rw [if_neg h, if_neg h]
def splitR (s : Str) : List ByteArray × Int := match splitTags s with
  | some l => (l.map B, 0)
  | none => ([], 3)
theorem split_size {s : ByteArray} (hs : s.size < 4294967281) : (splitB 44 (L s)).length < 1099511627776 ∧ ∀ x ∈ (splitB 44 (L s)).map B, x.size < 4611686018427387904 := by
  have h1 := splitB_length_le 44 (L s)
  rw [L_length] at h1
  refine ⟨by omega, fun x hx => ?_⟩
  obtain ⟨y, hy, rfl⟩ := List.mem_map.1 hx
  have := split_part hy
  rw [L_length] at this
  rw [B_size]; omega
theorem Split_f (s : ByteArray) (hs : s.size < 4294967281) : address_Split.f s = some (splitR (L s)) := by
  unfold address_Split.f splitR splitTags
  rw [toList_L]
  by_cases h : L s = []
  · rw [if_pos h, if_pos h]; rfl
  · rw [if_neg h, if_neg h]
    have e : strings_Split.f s (⟨#[44]⟩ : ByteArray) = some ((splitB 44 (L s)).map B) := by
      show (if s.size < 4294967281 then some ((splitB 44 (L s)).map B) else none) = _
      rw [if_pos hs]
    rw [e]
    simp only [Option.bind_some]
    rw [Tags_f _ (by rw [List.length_map]; exact (split_size hs).1), LB_map]
    simp only [Option.bind_some, tagsR]
    cases tagsA (splitB 44 (L s)) with
    | bad => simp
    | long => simp
    | ok t =>
      simp only [if_true, toList_L, L_B]
      by_cases ht : t = L s
      · rw [if_pos ht, if_pos ht]
      · rw [if_neg ht, if_neg ht]
def hasTagR (s tag : Str) : Bool := ((splitTags s).getD []).contains tag
theorem splitR_1 (s : Str) : (splitR s).1 = ((splitTags s).getD []).map B := by unfold splitR; cases splitTags s <;> rfl
theorem Index_l0 (l : List Str) (t : ByteArray) (hl : l.length < 1099511627776) : ∀ n, n ≤ l.length → ∃ r, Evt (fun k => slices_Index_string_string.l0 k (l.map B) t ((l.map B).length : Int) (n : Int)) r ∧ decide (r ≥ 0) = (l.drop n).contains (L t) := by
  have hml : (l.map B).length = l.length := by simp
  rw [hml]
  refine drop_ind ?_ fun n x hx hd hlt ih => ?_
  · refine ⟨-1, Evt.fin fun k => by simp only [slices_Index_string_string.l0]; rw [if_neg (by omega)], by rw [List.drop_length]; rfl⟩
  · have hx2 : (l.map B)[n]? = some (B x) := by simp [hx]
    rw [hd, List.contains_cons]
    by_cases h : L t = x
    · refine ⟨(n : Int), Evt.fin fun k => ?_, ?_⟩
      · simp only [slices_Index_string_string.l0]
        rw [if_pos (by omega), if_pos (by omega), if_pos (by omega), rdOf_at hx2, toList_L, toList_L, L_B, if_pos h]
      · rw [decide_eq_true (by omega), beq_iff_eq.2 h, Bool.true_or]
    · obtain ⟨r, h1, h2⟩ := ih
      refine ⟨r, Evt.step (fun k => ?_) h1, by rw [beq_eq_false_iff_ne.2 h, Bool.false_or]; exact h2⟩
      simp only [slices_Index_string_string.l0]
      rw [if_pos (by omega), if_pos (by omega), if_pos (by omega), rdOf_at hx2, toList_L, toList_L, L_B, if_neg h, wrap_nat _ (by omega)]
theorem splitTags_len (s : Str) : ((splitTags s).getD []).length ≤ s.length + 1 := by
  unfold splitTags
  split
  · simp
  · have := splitB_length_le 44 s
    split
    · split
      · exact this
      · simp
    · simp
theorem HasTag_f (s t : ByteArray) (hs : s.size < 4294967281) : Evt (fun k => address_HasTag.f k s t) (hasTagR (L s) (L t)) := by
  unfold address_HasTag.f
  refine Evt.bind' (Split_f s hs) ?_
  have hl := splitTags_len (L s)
  rw [L_length] at hl
  obtain ⟨r, h1, h2⟩ := Index_l0 ((splitTags (L s)).getD []) t (by omega) 0 (Nat.zero_le _)
  have h3 : Evt (fun k => slices_Contains_string_string.f k (splitR (L s)).1 t) (hasTagR (L s) (L t)) := by
    unfold slices_Contains_string_string.f slices_Index_string_string.f
    rw [splitR_1]
    refine Evt.bind h1 (Evt.of fun k => ?_)
    rw [h2]; rfl
  exact Evt.bind h3 (Evt.of fun _ => rfl)
def coversS (p q : Str) : Bool × ByteArray × Int := match pat p, pat q with
  | some x, some y => coversA x y
  | _, _ => (false, ⟨#[]⟩, 1)
def meetS (p q : Str) : Bool × ByteArray × Int := match pat p, pat q with
  | some x, some y => meetA x y
  | _, _ => (false, ⟨#[]⟩, 1)
def bothS (p q : Str) : ByteArray × Bool × Int := match pat p, pat q with
  | some x, some y => bothA x y
  | _, _ => (⟨#[]⟩, false, 1)
theorem Covers_f (p q : ByteArray) (hp : p.size < 4294967281) (hq : q.size < 4294967281) : Evt (fun k => address_Covers.f k p q) (coversS (L p) (L q)) := by
  unfold coversS
  cases hx : pat (L p) with
  | none => exact Covers_err p q hp hq (.inl hx)
  | some x => cases hy : pat (L q) with
    | none => exact Covers_err p q hp hq (.inr hy)
    | some y => exact Covers_pats p q hp hq hx hy
theorem Meet_f (p q : ByteArray) (hp : p.size < 4294967281) (hq : q.size < 4294967281) : Evt (fun k => address_Meet.f k p q) (meetS (L p) (L q)) := by
  unfold meetS
  cases hx : pat (L p) with
  | none => exact Meet_err p q hp hq (.inl hx)
  | some x => cases hy : pat (L q) with
    | none => exact Meet_err p q hp hq (.inr hy)
    | some y => exact Meet_pats p q hp hq hx hy
theorem Evt.val {α : Type} {g : Nat → Option α} {r r' : α} (h : Evt g r) (e : r = r') : Evt g r' := e ▸ h
theorem sanity_j1 : Evt (fun k => weirgatelaw06_sanity.j1 k true true) true := by
  have t1 : address_Tags.f (([(⟨#[98]⟩ : ByteArray), (⟨#[97]⟩ : ByteArray), (⟨#[98]⟩ : ByteArray)] : List ByteArray)) = some (⟨#[97, 44, 98]⟩, 0) := by
    rw [Tags_f _ (by decide)]
    exact congrArg some (by decide +kernel)
  have u1 : address_Under.f (⟨#[97, 99, 109, 101, 47, 110, 101, 119, 115]⟩ : ByteArray) (⟨#[97, 99, 109, 101, 47, 110, 101, 119, 115, 47, 97]⟩ : ByteArray) = some true := by
    rw [Under_f]
    exact congrArg some (by decide +kernel)
  have u2 : address_Under.f (⟨#[97, 99, 109, 101, 47, 110, 101, 119]⟩ : ByteArray) (⟨#[97, 99, 109, 101, 47, 110, 101, 119, 115]⟩ : ByteArray) = some false := by
    rw [Under_f]
    exact congrArg some (by decide +kernel)
  have h1 : Evt (fun k => address_HasTag.f k (⟨#[97, 44, 98]⟩ : ByteArray) (⟨#[98]⟩ : ByteArray)) true := (HasTag_f _ _ (by decide)).val (by decide +kernel)
  refine Evt.step (g := fun k => (address_HasTag.f k (⟨#[97, 44, 98]⟩ : ByteArray) (⟨#[98]⟩ : ByteArray)).bind fun t126 => (some t126)) (fun k => ?_) (Evt.bind h1 (Evt.of fun _ => rfl))
  simp only [weirgatelaw06_sanity.j1]
  rw [t1, u1, u2]
  simp only [Option.bind_some, if_true, toList_L]
  rfl
theorem sanity_j0 : Evt (fun k => weirgatelaw06_sanity.j0 k true) true := by
  have c1 : Evt (fun k => address_Covers.f k (⟨#[97, 99, 109, 101, 47, 42, 42]⟩ : ByteArray) (⟨#[97, 99, 109, 101, 47, 42, 46, 99, 115, 115]⟩ : ByteArray)) (true, ⟨#[]⟩, 0) := (Covers_f _ _ (by decide) (by decide)).val (by decide +kernel)
  have c2 : Evt (fun k => address_Covers.f k (⟨#[97, 99, 109, 101, 47, 42, 46, 99, 115, 115]⟩ : ByteArray) (⟨#[97, 99, 109, 101, 47, 42]⟩ : ByteArray)) (false, ⟨#[97, 99, 109, 101, 47, 97]⟩, 0) := (Covers_f _ _ (by decide) (by decide)).val (by decide +kernel)
  have m1 : Evt (fun k => address_Meet.f k (⟨#[97, 99, 109, 101, 47, 42, 47, 98]⟩ : ByteArray) (⟨#[97, 99, 109, 101, 47, 97, 47, 42, 42]⟩ : ByteArray)) (true, ⟨#[97, 99, 109, 101, 47, 97, 47, 98]⟩, 0) := (Meet_f _ _ (by decide) (by decide)).val (by decide +kernel)
  have m2 : Evt (fun k => address_Meet.f k (⟨#[97, 99, 109, 101, 47, 42, 46, 99, 115, 115]⟩ : ByteArray) (⟨#[97, 99, 109, 101, 47, 42, 46, 106, 115]⟩ : ByteArray)) (false, ⟨#[]⟩, 0) := (Meet_f _ _ (by decide) (by decide)).val (by decide +kernel)
  have a1 : Evt (fun k => address_Match.f k (⟨#[97, 99, 109, 101, 47, 42]⟩ : ByteArray) (⟨#[97, 99, 109, 101, 47, 97]⟩ : ByteArray)) true := (Match_f _ _ (by decide)).val (by decide +kernel)
  refine Evt.step (fun k => by simp only [weirgatelaw06_sanity.j0]; rfl) ?_
  refine Evt.bind c1 (Evt.bind c2 (Evt.bind m1 (Evt.bind m2 ?_)))
  simp only [if_true]
  refine Evt.same (fun k => if_neg (by decide)) (Evt.bind a1 ?_)
  refine Evt.same (fun k => (if_pos rfl).trans (if_pos (by rw [toList_L]; rfl))) sanity_j1
theorem sanity_f : Evt (fun k => weirgatelaw06_sanity.f k) true := by
  have c1 : Evt (fun k => address_Canonical.f k (⟨#[65, 99, 109, 101, 47, 78, 101, 119, 115, 47, 46, 47, 50, 48, 50, 54, 47, 46, 46, 47, 97, 46, 72, 84, 77, 76, 47, 63, 98, 61, 50, 38, 97, 61, 49]⟩ : ByteArray)) (⟨#[97, 99, 109, 101, 47, 110, 101, 119, 115, 47, 97, 46, 104, 116, 109, 108, 63, 97, 61, 49, 38, 98, 61, 50]⟩, 0) := (Canonical_f _).val (by decide +kernel)
  have m1 : Evt (fun k => address_Match.f k (⟨#[97, 99, 109, 101, 47, 110, 101, 119, 115, 47, 42, 42]⟩ : ByteArray) (⟨#[97, 99, 109, 101, 47, 110, 101, 119, 115]⟩ : ByteArray)) true := (Match_f _ _ (by decide)).val (by decide +kernel)
  have m2 : Evt (fun k => address_Match.f k (⟨#[97, 99, 109, 101, 47, 42, 47, 42, 46, 104, 116, 109, 108]⟩ : ByteArray) (⟨#[97, 99, 109, 101, 47, 110, 101, 119, 115, 47, 97, 46, 104, 116, 109, 108]⟩ : ByteArray)) true := (Match_f _ _ (by decide)).val (by decide +kernel)
  have m3 : Evt (fun k => address_Match.f k (⟨#[97, 99, 109, 101, 47, 42]⟩ : ByteArray) (⟨#[97, 99, 109, 101, 47, 97, 47, 98]⟩ : ByteArray)) false := (Match_f _ _ (by decide)).val (by decide +kernel)
  unfold weirgatelaw06_sanity.f
  refine Evt.bind c1 ?_
  refine Evt.same (fun k => (if_pos rfl).trans (if_pos (by rw [toList_L]; rfl))) ?_
  refine Evt.bind m1 (Evt.same (fun k => if_pos rfl) (Evt.bind m2 (Evt.same (fun k => if_pos rfl) (Evt.bind m3 sanity_j0))))
def fewP (x : ByteArray) : Bool := decide (x.size ≤ 200)
def fewQ (x : S66) : Bool := decide (x.f0.size ≤ 200) && decide (x.f1.size ≤ 200)
def fewB (c : ByteArray) (p : List ByteArray) (q : List S66) : Bool := decide (c.size ≤ 200) && decide (p.length ≤ 40) && decide (q.length ≤ 20) && p.all fewP && q.all fewQ
def cutA (a : Ad) (n : Nat) : Ad := ⟨a.cust, a.path.take n, []⟩
theorem cutA_ok {a : Ad} (h : Ok a) (n : Nat) : Ok (cutA a n) where
  cust := h.cust
  path := fun x hx => h.path x (List.mem_of_mem_take hx)
  plen := by
    have := h.plen
    simp only [cutA, List.length_take]; omega
  query := fun _ hp => absurd hp (by simp [cutA])
  qlen := by simp [cutA]
  sorted := by simp [cutA, sortedP]
theorem cutA_write (a : Ad) (n : Nat) : Addr.write (cutA a n) = a.cust ++ pathT (a.path.take n) := by simp [Addr.write, cutA, queryT]
theorem write_split {a : Ad} (hq : a.query = []) (n : Nat) : Addr.write a = Addr.write (cutA a n) ++ pathT (a.path.drop n) := by
  rw [cutA_write]
  unfold Addr.write
  rw [hq]
  have : pathT a.path = pathT (a.path.take n) ++ pathT (a.path.drop n) := by
    unfold pathT
    conv => lhs; rw [← List.take_append_drop n a.path]
    rw [List.map_append, List.flatten_append]
  rw [this]
  simp [queryT]
theorem readA_write {a : Ad} (h : Ok a) (hl : (Addr.write a).length ≤ 4096) : readA (Addr.write a) = some a := by
  unfold readA
  rw [parse_write h hl]
  exact if_pos rfl
theorem pathT_head (l : List Str) : pathT l = [] ∧ l = [] ∨ ∃ r, pathT l = 47 :: r := by
  cases l with
  | nil => exact .inl ⟨rfl, rfl⟩
  | cons x r => exact .inr ⟨x ++ pathT r, by simp [pathT]⟩
def endsAt (r : Str) : Bool := match r with | [] => true | c :: _ => decide (c = 47) || decide (c = 63)
theorem underS_write {a : Ad} (h : Ok a) (hq : a.query = []) (hl : (Addr.write a).length ≤ 4096) {s : Str} {b : Ad} (hs : readA s = some b) : underS (Addr.write a) s = true ↔ ∃ r, s = Addr.write a ++ r ∧ endsAt r = true := by
  unfold underS
  rw [readA_write h hl, hs]
  simp only [hq, decide_true, Bool.true_and, Bool.and_eq_true, List.isPrefixOf_iff_prefix]
  constructor
  · rintro ⟨⟨r, rfl⟩, h2⟩
    rw [List.drop_left] at h2
    exact ⟨r, rfl, by unfold endsAt; cases r <;> first | (simp; done) | simpa using h2⟩
  · rintro ⟨r, rfl, h2⟩
    refine ⟨⟨r, rfl⟩, ?_⟩
    rw [List.drop_left]
    unfold endsAt at h2
    cases r <;> first | (simp; done) | simpa using h2
theorem endsAt_path (l : List Str) (r : Str) (h : endsAt r = true) : endsAt (pathT l ++ r) = true := by
  rcases pathT_head l with ⟨h1, -⟩ | ⟨q, h1⟩
  · rw [h1]; exact h
  · rw [h1]; rfl
theorem nest_l0 {a : Ad} (h : Ok a) (hq : a.query = []) (hl : (Addr.write a).length ≤ 4096) (o : ByteArray) :
    ∀ m n, n + m = a.path.length + 1 → Evt (fun k => weirgatelaw06_AddressPrefixesNest.l0 k (B (Addr.write a)) o (n : Int) (B a.cust) (a.path.map B) []) true := by
  have hp := h.plen
  have hlen : (a.path.map B).length = a.path.length := by simp
  intro m
  induction m with
  | zero =>
    intro n hn
    refine Evt.step (fun k => by simp only [weirgatelaw06_AddressPrefixesNest.l0]; rw [if_neg (by omega)]) ?_
    exact Evt.bind sanity_f (Evt.of fun _ => rfl)
  | succ m ih =>
    intro n hn
    have ih' := ih (n + 1) (by omega)
    have okc := cutA_ok h n
    have hw := write_split hq n
    have hlc : (Addr.write (cutA a n)).length ≤ 4096 := by rw [hw, List.length_append] at hl; omega
    have hT := Text_f (B a.cust) ((a.path.map B).take n) [] (by rw [List.length_take]; omega) (by decide) (fun _ hx => by cases hx)
    have e0 : toAd (B a.cust) ((a.path.map B).take n) [] = cutA a n := by
      rw [← List.map_take]
      simp only [toAd, L_B, LB_map, cutA, List.map_nil]
    rw [e0, textR_ok okc hlc] at hT
    have rs := readA_write h hl
    have rt := readA_write okc hlc
    have u1 : underS (Addr.write (cutA a n)) (Addr.write a) = true := (underS_write okc rfl hlc rs).2 ⟨pathT (a.path.drop n), hw, by
      rw [← List.append_nil (pathT _)]; exact endsAt_path _ [] rfl⟩
    have u2 : underS (Addr.write a) (Addr.write (cutA a n)) = ((n : Int) == (a.path.length : Int)) := by
      by_cases hn' : n = a.path.length
      · have e : Addr.write (cutA a n) = Addr.write a := by rw [hw, hn', List.drop_length]; simp [pathT]
        rw [e, hn', beq_self_eq_true]
        exact (underS_write h hq hl rs).2 ⟨[], by simp, rfl⟩
      · rw [beq_eq_false_iff_ne.2 (by omega), ← Bool.not_eq_true]
        intro hu
        obtain ⟨r, hr, -⟩ := (underS_write h hq hl rt).1 hu
        have h1 := congrArg List.length hr
        have h2 := congrArg List.length hw
        rw [List.length_append] at h1 h2
        have h3 : 0 < (pathT (a.path.drop n)).length := by
          rcases pathT_head (a.path.drop n) with ⟨-, hd⟩ | ⟨q, hd⟩
          · have := congrArg List.length hd
            rw [List.length_drop, List.length_nil] at this; omega
          · rw [hd]; simp
        omega
    have u3 : underS (Addr.write a) (L o) = true → underS (Addr.write (cutA a n)) (L o) = true := fun hu => by
      cases hr : readA (L o) with
      | none => unfold underS at hu; rw [hr, rs] at hu; simp at hu
      | some b =>
        obtain ⟨r, e, he⟩ := (underS_write h hq hl hr).1 hu
        refine (underS_write okc rfl hlc hr).2 ⟨pathT (a.path.drop n) ++ r, ?_, endsAt_path _ r he⟩
        rw [e, hw, List.append_assoc]
    refine Evt.step (fun k => by simp only [weirgatelaw06_AddressPrefixesNest.l0]; rw [if_pos (by omega), if_pos (by omega), Int.toNat_natCast]) ?_
    refine Evt.bind hT ?_
    refine Evt.same (fun k => if_pos rfl) ?_
    refine Evt.bind' (by rw [Under_f, L_B, L_B, u1]) ?_
    refine Evt.same (fun k => if_pos rfl) ?_
    refine Evt.bind' (by rw [Under_f, L_B, L_B, u2]) ?_
    refine Evt.same (fun k => if_neg (by rw [hlen]; simp)) ?_
    refine Evt.bind' (by rw [Under_f, L_B]) ?_
    rw [wrap_nat _ (by omega)]
    by_cases hu : underS (Addr.write a) (L o) = true
    · refine Evt.same (fun k => if_pos hu) ?_
      refine Evt.bind' (by rw [Under_f, L_B, u3 hu]) ?_
      exact Evt.same (fun k => if_pos rfl) ih'
    · exact Evt.same (fun k => if_neg hu) ih'
theorem nest_true (a0 a1 : ByteArray) : Evt (fun k => weirgatelaw06_AddressPrefixesNest.f k a0 a1) true := by
  have hs : ∀ x, x = true → Evt (fun k => weirgatelaw06_AddressPrefixesNest.j0 k a0 a1 x) true := fun x hx => by
    subst hx
    refine Evt.step (g := fun k => (weirgatelaw06_sanity.f k).bind fun t => some t) (fun k => ?_) (Evt.bind sanity_f (Evt.of fun _ => rfl))
    simp only [weirgatelaw06_AddressPrefixesNest.j0]
    rw [if_pos trivial]
  have hj : ∀ x, x = true → ∀ c p q, Evt (fun k => weirgatelaw06_AddressPrefixesNest.j1 k a0 a1 x c p q) true := fun x hx c p q => by
    subst hx
    refine Evt.step (g := fun k => (weirgatelaw06_sanity.f k).bind fun t => some t) (fun k => ?_) (Evt.bind sanity_f (Evt.of fun _ => rfl))
    simp only [weirgatelaw06_AddressPrefixesNest.j1]
    rw [if_pos trivial]
  unfold weirgatelaw06_AddressPrefixesNest.f
  by_cases h1 : (a0.size : Int) > 4096
  · exact Evt.same (fun k => if_pos h1) (hs _ rfl)
  · refine Evt.same (fun k => if_neg h1) ?_
    by_cases h3 : (a1.size : Int) > 4096
    · rw [decide_eq_true h3]; exact hs _ rfl
    · rw [decide_eq_false h3]
      refine Evt.step (fun k => by simp only [weirgatelaw06_AddressPrefixesNest.j0]; rw [if_neg (by decide)]) ?_
      have hC := Canonical_f a0
      unfold canonR at hC
      cases hp : parse (L a0) with
      | error e =>
        rw [hp] at hC
        have := parse_err hp
        refine Evt.bind' (a := (⟨#[]⟩, [], [], (e : Int))) (by unfold address_Parse.f; rw [hp]) ?_
        refine Evt.bind hC ?_
        exact Evt.same (fun k => if_neg (by simp; omega)) (hj _ rfl _ _ _)
      | ok a =>
        rw [hp] at hC
        obtain ⟨p1, p2, p3⟩ := parse_ok hp
        refine Evt.bind' (a := (B a.cust, a.path.map B, a.query.map bp, 0)) (by unfold address_Parse.f; rw [hp]) ?_
        refine Evt.bind hC ?_
        refine Evt.same (fun k => if_pos rfl) ?_
        refine Evt.same (fun k => if_pos rfl) ?_
        by_cases he : Addr.write a = L a0
        · refine Evt.same (fun k => if_pos (by rw [toList_L, toList_L, L_B]; exact he)) ?_
          by_cases hq : a.query = []
          · have e0 : a0 = B (Addr.write a) := by rw [he, B_L]
            have h0 := nest_l0 p1 hq (by omega) a1 (a.path.length + 1) 0 (by omega)
            rw [← e0] at h0
            have hd : decide (((a.query.map bp).length : Int) > 0) = false := by rw [hq]; rfl
            rw [hd, hq]
            refine Evt.step (fun k => by simp only [weirgatelaw06_AddressPrefixesNest.j1]; rw [if_neg (by decide)]) ?_
            exact h0
          · have hd : decide (((a.query.map bp).length : Int) > 0) = true := decide_eq_true (by
              have := List.length_pos_iff.2 hq
              rw [List.length_map]; omega)
            rw [hd]
            exact hj _ rfl _ _ _
        · exact Evt.same (fun k => if_neg (by rw [toList_L, toList_L, L_B]; exact he)) (hj _ rfl _ _ _)
end Go.Proofs.YtmokgpepeddopaaGreatDoor.P
end
