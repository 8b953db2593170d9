/- Lemmas on the way to the statement: part 31 of 34 (functions as plain Lean functions, and that each call comes to what they say). -/
import Derived.Test.YtmokgpepeddopaaGreatDoorL30
import Derived.Test.YtmokgpepeddopaaGreatDoorL1
import Derived.Test.YtmokgpepeddopaaGreatDoorL22
import Derived.Test.YtmokgpepeddopaaGreatDoorL15
import Derived.Test.YtmokgpepeddopaaGreatDoorL23
import Derived.Test.YtmokgpepeddopaaGreatDoorL24
import Derived.Test.YtmokgpepeddopaaGreatDoorL18
import Derived.Test.YtmokgpepeddopaaGreatDoorL12
import Derived.Test.YtmokgpepeddopaaGreatDoorL29
import Derived.Test.YtmokgpepeddopaaGreatDoorL28
import Derived.Test.YtmokgpepeddopaaGreatDoorL21
section
namespace Go.Proofs.YtmokgpepeddopaaGreatDoor.P
open Go.RowKit Go.Proofs.YtmokgpepeddopaaGreatDoorW.PrintWords Go.Proofs.YtmokgpepeddopaaGreatDoorW.PrintLast Go.Proofs.YtmokgpepeddopaaGreatDoorW.PrintMore
open Go.Proofs.YtmokgpepeddopaaGreatDoor.Addr
set_option linter.unusedSimpArgs false
set_option linter.unusedVariables false
theorem write_f {a : Ad} (h : Ok a) : address_write.f (B a.cust) (a.path.map B) (a.query.map bp) = some (B (Addr.write a)) := by
  unfold address_write.f
  rw [toAd_bp, if_pos (by have := ok_len h; omega)]
theorem read_f (s : ByteArray) : ∃ r1 r2 r3, address_read.f s = some (r1, r2, r3, (readA (L s)).isSome) ∧ (∀ a, readA (L s) = some a → r1 = B a.cust ∧ r2 = a.path.map B ∧ r3 = a.query.map bp) := by
  unfold address_read.f readA
  cases hp : parse (L s) with
  | ok a =>
    have e : address_Parse.f s = some (B a.cust, a.path.map B, a.query.map bp, 0) := by unfold address_Parse.f; rw [hp]
    have hok := (parse_ok hp).1
    refine ⟨B a.cust, a.path.map B, a.query.map bp, ?_, ?_⟩
    · rw [e]
      simp only [Option.bind_some, if_true]
      rw [write_f hok]
      simp only [Option.bind_some, toList_L, L_B]
      by_cases h : Addr.write a = L s
      · rw [if_pos h, h]; simp
      · rw [if_neg h]; simp [h]
    · intro b hb
      simp only at hb
      split at hb
      · injection hb with hb; subst hb; exact ⟨rfl, rfl, rfl⟩
      · cases hb
  | error e =>
    have e1 : address_Parse.f s = some (⟨#[]⟩, [], [], (e : Int)) := by unfold address_Parse.f; rw [hp]
    refine ⟨⟨#[]⟩, [], [], ?_, fun a ha => by cases ha⟩
    rw [e1]
    simp only [Option.bind_some]
    rw [if_neg (by have := parse_err hp; omega)]
    rfl
theorem readA_ok {s : Str} {a : Ad} (h : readA s = some a) : Ok a ∧ Addr.write a = s ∧ s.length ≤ 4096 := by
  unfold readA at h
  split at h
  · rename_i b hp
    split at h
    · rename_i hw
      injection h with h; subst h
      obtain ⟨h1, h2, h3⟩ := parse_ok hp
      exact ⟨h1, hw, h3⟩
    · cases h
  · cases h
theorem Match_l0 (ps : List Part) (ws : List Str) (c0 : ByteArray) (q0 : List S66) (hw : ∀ w ∈ ws, w.length ≤ 64) (hl : ps.length ≤ ws.length) (hl2 : ws.length < 1099511627776) : ∀ n, n ≤ ps.length →
    Evt (fun k => address_Match.l0 k (ps.map ofPart) ((ps.map ofPart).length : Int) (n : Int) c0 (ws.map B) q0) (hasL (ps.drop n) (ws.drop n)) := by
  have hlen : (ps.map ofPart).length = ps.length := by simp
  have hlen2 : (ws.map B).length = ws.length := by simp
  rw [hlen]
  refine drop_ind ?_ fun n p hp hd hlt ih => ?_
  · rw [List.drop_length, hasL]
    exact Evt.fin fun k => by simp only [address_Match.l0]; rw [if_neg (by omega)]
  · have hnw : n < ws.length := by omega
    obtain ⟨x, hx⟩ : ∃ x, ws[n]? = some x := ⟨_, List.getElem?_eq_getElem hnw⟩
    have hxd : ws.drop n = x :: ws.drop (n + 1) := by rw [List.drop_eq_getElem_cons hnw, ← (List.getElem?_eq_some_iff.1 hx).2]
    have hx2 : (ws.map B)[n]? = some (B x) := by simp [hx]
    rw [hd, hxd, hasL]
    have hsz := hw x (List.mem_of_getElem? hx)
    have eh : address_part_has.f (ofPart p).f0 (ofPart p).f1 (B x) = some (p.has x) := by
      simp only [ofPart]
      rw [has_part _ _ _ (by rw [B_size]; omega), L_B, L_B]
    refine Evt.step (g := fun k => if p.has x = true then address_Match.l0 k (ps.map ofPart) (ps.length : Int) ((n + 1 : Nat) : Int) c0 (ws.map B) q0 else some false) (fun k => ?_) ?_
    · simp only [address_Match.l0]
      rw [if_pos (by omega), if_pos (by omega), if_pos (by omega), if_pos (by omega), rd97_at (ofPart_get hp), rdOf_at hx2, eh, wrap_nat _ (by omega)]
      rfl
    · cases p.has x with
      | true => simpa using ih
      | false => exact Evt.of fun k => by simp
theorem Match_f (p s : ByteArray) (hp : p.size < 4294967281) : Evt (fun k => address_Match.f k p s) (matchS (L p) (L s)) := by
  have hj : ∀ b, b = true → ∀ a1 a2 a3 a4 a5 a6 a7, Evt (fun k => address_Match.j0 k b a1 a2 a3 a4 a5 a6 a7) false := fun b hb a1 a2 a3 a4 a5 a6 a7 => Evt.fin fun k => by simp only [address_Match.j0]; rw [if_pos hb]
  obtain ⟨r1, r2, r3, hr, hra⟩ := read_f s
  unfold address_Match.f matchS
  cases hx : pat (L p) with
  | none =>
    obtain ⟨c1, c2, c3, c4, hc⟩ := compile_none hp hx
    refine Evt.bind' hc (Evt.bind' hr ?_)
    exact Evt.same (fun k => if_neg (by simp)) (hj true rfl _ _ _ _ _ _ _)
  | some x =>
    refine Evt.bind' (compile_some hp hx) (Evt.bind' hr ?_)
    refine Evt.same (fun k => if_pos rfl) ?_
    cases ha : readA (L s) with
    | none => exact Evt.same (fun k => if_neg (by simp)) (hj true rfl _ _ _ _ _ _ _)
    | some a =>
      obtain ⟨e1, e2, e3⟩ := hra a ha
      subst e1 e2 e3
      have hok := (readA_ok ha).1
      have hsz := word_le (name_word hok.cust)
      refine Evt.same (fun k => if_pos rfl) ?_
      refine Evt.bind' (a := x.cust.has a.cust) (by rw [has_part _ _ _ (by rw [B_size]; omega), L_B, L_B]) ?_
      show Evt _ (matchP x a)
      unfold matchP
      have hpl : (x.parts.map ofPart).length = x.parts.length := by simp
      have hal : (a.path.map B).length = a.path.length := by simp
      cases hh : x.cust.has a.cust with
      | false => exact Evt.same (fun k => if_neg (by decide)) (by simpa using hj true rfl _ _ _ _ _ _ _)
      | true =>
        refine Evt.same (fun k => if_pos rfl) ?_
        simp only [Bool.true_and]
        by_cases h1 : a.path.length < x.parts.length
        · have : decide (x.parts.length ≤ a.path.length) = false := decide_eq_false (by omega)
          rw [this]
          exact Evt.same (fun k => if_pos (by omega)) (by simpa using hj true rfl _ _ _ _ _ _ _)
        · have : decide (x.parts.length ≤ a.path.length) = true := decide_eq_true (by omega)
          rw [this, Bool.true_and]
          have hgo : ∀ b, b = false → Evt (fun k => address_Match.j0 k b x.cust.kind (B x.cust.text) (x.parts.map ofPart) x.tail (B a.cust) (a.path.map B) (a.query.map bp)) (hasL x.parts a.path) := fun b hb => by
            subst hb
            have := Match_l0 x.parts a.path (B a.cust) (a.query.map bp) (fun w hw => word_le (hok.path w hw)) (by omega) (by have := hok.plen; omega) 0 (Nat.zero_le _)
            exact Evt.step (fun k => by simp only [address_Match.j0]; rw [if_neg (by decide)]; rfl) this
          refine Evt.same (fun k => if_neg (by omega)) ?_
          by_cases h2 : x.parts.length < a.path.length
          · have : decide (a.path.length ≤ x.parts.length) = false := decide_eq_false (by omega)
            rw [this, Bool.false_or]
            refine Evt.same (fun k => if_pos (by omega)) ?_
            cases ht : x.tail with
            | true => rw [Bool.true_and]; have := hgo _ (show (!true) = false from rfl); rw [ht] at this; exact this
            | false => rw [Bool.false_and]; exact hj _ rfl _ _ _ _ _ _ _
          · have : decide (a.path.length ≤ x.parts.length) = true := decide_eq_true (by omega)
            rw [this, Bool.true_or, Bool.true_and]
            exact Evt.same (fun k => if_neg (by omega)) (hgo _ rfl)
def underS (p s : Str) : Bool := match readA p, readA s with
  | some a, some _ => decide (a.query = []) && p.isPrefixOf s && (match s.drop p.length with | [] => true | c :: _ => decide (c = 47) || decide (c = 63))
  | _, _ => false
theorem Under_f (p s : ByteArray) : address_Under.f p s = some (underS (L p) (L s)) := by
  obtain ⟨r1, r2, r3, hr, hra⟩ := read_f p
  obtain ⟨s1, s2, s3, hs, hsa⟩ := read_f s
  unfold address_Under.f underS
  rw [hr]
  simp only [Option.bind_some]
  rw [hs]
  simp only [Option.bind_some]
  cases ha : readA (L p) with
  | none => simp
  | some a =>
    cases hb : readA (L s) with
    | none => simp
    | some b =>
      obtain ⟨e1, e2, e3⟩ := hra a ha
      subst e1 e2 e3
      simp only [Option.isSome_some, if_true, List.length_map]
      by_cases hq : a.query = []
      · rw [if_neg (by rw [hq]; simp), cutPrefix_f]
        simp only [Option.bind_some, hq, decide_true, Bool.true_and]
        cases hpre : (L p).isPrefixOf (L s) with
        | false => simp
        | true =>
          simp only [if_true, toList_L, L_B]
          cases hd : (L s).drop (L p).length with
          | nil => simp
          | cons c t =>
            have hbt : bt (B (c :: t)) 0 = (c.toNat : Int) := bt_L (s := B (c :: t)) (n := 0) (c := c) (by rw [L_B]; rfl)
            have hsz : (B (c :: t)).size = t.length + 1 := by rw [B_size]; rfl
            rw [if_neg (by simp), if_pos (by rw [hsz]; omega), hbt]
            by_cases h1 : c = 47
            · subst h1; simp
            · have h1' : ¬ ((c.toNat : Int) = 47) := fun e => h1 (UInt8.toNat_inj.1 (by simp; omega))
              rw [if_neg h1']
              show some ((c.toNat : Int) == 63) = some (true && (decide (c = 47) || decide (c = 63)))
              rw [decide_eq_false h1]
              congr 1
              rw [Bool.true_and, Bool.false_or, Bool.eq_iff_iff, beq_iff_eq, decide_eq_true_iff]
              refine ⟨fun e => UInt8.toNat_inj.1 (by simp; omega), fun e => by rw [e]; rfl⟩
      · rw [if_pos (by have : 0 < a.query.length := List.length_pos_iff.2 hq; omega)]
        simp [hq]
theorem meet_part (p q : Part) (hp : p.ok) (hq : q.ok) : address_meet.f p.kind (B p.text) q.kind (B q.text) = some ((meetP p q).1.kind, B (meetP p q).1.text, (meetP p q).2) := by
  have h1 := part_text hp
  have h2 := part_text hq
  unfold address_meet.f meetP
  rw [covers_part _ _ _ _ (by omega), covers_part _ _ _ _ (by omega), L_B, L_B]
  simp only [Option.bind_some]
  by_cases h : p.covers q = true
  · rw [if_pos h, if_pos h]
  · rw [if_neg h, if_neg h]
theorem commonL_parts (xs ys : List Part) (hx : ∀ p ∈ xs, p.ok) (hy : ∀ p ∈ ys, p.ok) : ∀ out : List S97, (∀ l, commonLP xs ys = some l → commonL (xs.map ofPart) (ys.map ofPart) out = some (out ++ l.map ofPart, true)) ∧ (commonLP xs ys = none → ∃ o, commonL (xs.map ofPart) (ys.map ofPart) out = some (o, false)) := by
  induction xs generalizing ys with
  | nil => intro out; simp [commonLP, commonL]
  | cons a xs ih =>
    intro out
    cases ys with
    | nil =>
      obtain ⟨h1, h2⟩ := ih [] (fun p hp => hx p (by simp [hp])) (by simp) (out ++ [ofPart a])
      rw [commonLP]
      refine ⟨fun l hl => ?_, fun hn => ?_⟩
      · obtain ⟨t, ht, rfl⟩ := Option.map_eq_some_iff.1 hl
        show commonL (ofPart a :: xs.map ofPart) [] out = _
        rw [commonL]
        have := h1 t ht
        rw [List.map_nil] at this
        rw [this]; simp
      · show ∃ o, commonL (ofPart a :: xs.map ofPart) [] out = _
        rw [commonL]
        have := h2 (by simpa using hn)
        rwa [List.map_nil] at this
    | cons b ys =>
      have hm := meet_part a b (hx a (by simp)) (hy b (by simp))
      obtain ⟨h1, h2⟩ := ih ys (fun p hp => hx p (by simp [hp])) (fun p hp => hy p (by simp [hp])) (out ++ [ofPart (meetP a b).1])
      rw [commonLP]
      simp only [List.map_cons, commonL]
      have e : address_meet.f (ofPart a).f0 (ofPart a).f1 (ofPart b).f0 (ofPart b).f1 = some ((meetP a b).1.kind, B (meetP a b).1.text, (meetP a b).2) := hm
      rw [e]
      simp only [Option.bind_some]
      by_cases hc : (meetP a b).2 = true
      · rw [if_pos hc, if_pos hc]
        refine ⟨fun l hl => ?_, fun hn => ?_⟩
        · obtain ⟨t, ht, rfl⟩ := Option.map_eq_some_iff.1 hl
          have := h1 t ht
          simp only [ofPart] at this ⊢
          rw [this]; simp [ofPart]
        · have := h2 (by simpa using hn)
          simp only [ofPart] at this ⊢
          exact this
      · rw [if_neg hc, if_neg hc]
        refine ⟨(fun l hl => by cases hl), fun _ => ⟨_, rfl⟩⟩
def ofPat (x : Pat) : S100 := ⟨ofPart x.cust, x.parts.map ofPart, x.tail⟩
theorem commonR_pat (x y : Pat) (hx : PatOk x) (hy : PatOk y) : (∀ z, commonX x y = some z → commonR (ofPat x) (ofPat y) = some (z.cust.kind, B z.cust.text, z.parts.map ofPart, z.tail, true)) ∧ (commonX x y = none → ∃ r1 r2 r3 r4, commonR (ofPat x) (ofPat y) = some (r1, r2, r3, r4, false)) := by
  have hm := meet_part x.cust y.cust hx.cust hy.cust
  have e : address_meet.f (ofPat x).f0.f0 (ofPat x).f0.f1 (ofPat y).f0.f0 (ofPat y).f0.f1 = some ((meetP x.cust y.cust).1.kind, B (meetP x.cust y.cust).1.text, (meetP x.cust y.cust).2) := hm
  have e1 : (ofPat x).f1 = x.parts.map ofPart := rfl
  have e2 : (ofPat y).f1 = y.parts.map ofPart := rfl
  have e3 : (ofPat x).f2 = x.tail := rfl
  have e4 : (ofPat y).f2 = y.tail := rfl
  unfold commonR commonX
  rw [e, e1, e2, e3, e4]
  simp only [Option.bind_some, List.length_map]
  by_cases hc : (meetP x.cust y.cust).2 = false ∨ (y.parts.length < x.parts.length ∧ y.tail = false)
  · rw [if_pos hc, if_pos hc]
    exact ⟨(fun z hz => by cases hz), fun _ => ⟨_, _, _, _, rfl⟩⟩
  · rw [if_neg hc, if_neg hc]
    obtain ⟨h1, h2⟩ := commonL_parts x.parts y.parts hx.parts hy.parts []
    refine ⟨fun z hz => ?_, fun hn => ?_⟩
    · obtain ⟨l, hl, rfl⟩ := Option.map_eq_some_iff.1 hz
      rw [h1 l hl]; simp
    · obtain ⟨o, ho⟩ := h2 (by simpa using hn)
      rw [ho]
      exact ⟨_, _, _, _, rfl⟩
theorem common_pat (x y : Pat) (hx : PatOk x) (hy : PatOk y) :
    (∀ z, commonP x y = some z → address_common.f x.cust.kind (B x.cust.text) (x.parts.map ofPart) x.tail y.cust.kind (B y.cust.text) (y.parts.map ofPart) y.tail = some (z.cust.kind, B z.cust.text, z.parts.map ofPart, z.tail, true)) ∧
    (commonP x y = none → ∃ r1 r2 r3 r4, address_common.f x.cust.kind (B x.cust.text) (x.parts.map ofPart) x.tail y.cust.kind (B y.cust.text) (y.parts.map ofPart) y.tail = some (r1, r2, r3, r4, false)) := by
  have hlx := hx.len
  have hly := hy.len
  have key : address_common.f x.cust.kind (B x.cust.text) (x.parts.map ofPart) x.tail y.cust.kind (B y.cust.text) (y.parts.map ofPart) y.tail = if x.parts.length < y.parts.length then commonR (ofPat y) (ofPat x) else commonR (ofPat x) (ofPat y) := by
    unfold address_common.f
    have e1 : (x.parts.map ofPart).length = x.parts.length := by simp
    have e2 : (y.parts.map ofPart).length = y.parts.length := by simp
    rw [e1, e2, if_pos (by split at hlx <;> split at hly <;> omega)]
    rfl
  rw [key]
  unfold commonP
  by_cases h : x.parts.length < y.parts.length
  · rw [if_pos h, if_pos h]
    exact commonR_pat y x hy hx
  · rw [if_neg h, if_neg h]
    exact commonR_pat x y hx hy
theorem both_err (p q : ByteArray) (hp : p.size < 4294967281) (hq : q.size < 4294967281) (h : pat (L p) = none ∨ pat (L q) = none) : address_both.f p q = some (0, ⟨#[]⟩, [], false, false, 1) := by
  unfold address_both.f
  cases hx : pat (L p) with
  | none =>
    obtain ⟨r1, r2, r3, r4, hr⟩ := compile_none hp hx
    rw [hr]
    simp only [Option.bind_some]
    cases hy : pat (L q) with
    | none => obtain ⟨s1, s2, s3, s4, hs⟩ := compile_none hq hy; rw [hs]; simp
    | some y => rw [compile_some hq hy]; simp
  | some x =>
    rw [compile_some hp hx]
    simp only [Option.bind_some]
    cases hy : pat (L q) with
    | none => obtain ⟨s1, s2, s3, s4, hs⟩ := compile_none hq hy; rw [hs]; simp
    | some y => rcases h with h | h
                · rw [h] at hx; cases hx
                · rw [h] at hy; cases hy
theorem both_some (p q : ByteArray) (hp : p.size < 4294967281) (hq : q.size < 4294967281) {x y z : Pat} (hx : pat (L p) = some x) (hy : pat (L q) = some y) (hz : commonP x y = some z) : address_both.f p q = some (z.cust.kind, B z.cust.text, z.parts.map ofPart, z.tail, true, 0) := by
  unfold address_both.f
  rw [compile_some hp hx]
  simp only [Option.bind_some]
  rw [compile_some hq hy]
  simp only [Option.bind_some, if_true]
  rw [(common_pat x y (pat_ok hx) (pat_ok hy)).1 z hz]
  rfl
theorem both_none (p q : ByteArray) (hp : p.size < 4294967281) (hq : q.size < 4294967281) {x y : Pat} (hx : pat (L p) = some x) (hy : pat (L q) = some y) (hz : commonP x y = none) : ∃ r1 r2 r3 r4, address_both.f p q = some (r1, r2, r3, r4, false, 0) := by
  unfold address_both.f
  rw [compile_some hp hx]
  simp only [Option.bind_some]
  rw [compile_some hq hy]
  simp only [Option.bind_some, if_true]
  obtain ⟨r1, r2, r3, r4, hr⟩ := (common_pat x y (pat_ok hx) (pat_ok hy)).2 hz
  rw [hr]
  exact ⟨_, _, _, _, rfl⟩
def meetA (x y : Pat) : Bool × ByteArray × Int := match commonP x y with
  | some z => (true, B (exT (z.cust.wth [97]) (wthL z.parts)), 0)
  | none => (false, ⟨#[]⟩, 0)
theorem Meet_err (p q : ByteArray) (hp : p.size < 4294967281) (hq : q.size < 4294967281) (h : pat (L p) = none ∨ pat (L q) = none) : Evt (fun k => address_Meet.f k p q) (false, ⟨#[]⟩, 1) := by
  unfold address_Meet.f
  exact Evt.bind' (both_err p q hp hq h) (Evt.of fun k => by simp)
theorem Meet_pats (p q : ByteArray) (hp : p.size < 4294967281) (hq : q.size < 4294967281) {x y : Pat} (hx : pat (L p) = some x) (hy : pat (L q) = some y) : Evt (fun k => address_Meet.f k p q) (meetA x y) := by
  unfold address_Meet.f meetA
  cases hz : commonP x y with
  | none =>
    obtain ⟨r1, r2, r3, r4, hr⟩ := both_none p q hp hq hx hy hz
    exact Evt.bind' hr (Evt.of fun k => by simp)
  | some z =>
    have oz := (commonP_some (pat_ok hx) (pat_ok hy) hz).1
    have h97 : (⟨#[97]⟩ : ByteArray).size = 1 := rfl
    have l97 : L (⟨#[97]⟩ : ByteArray) = [97] := rfl
    have hcz := part_text oz.cust
    have hlz : z.parts.length ≤ 32 := by have := oz.len; split at this <;> omega
    refine Evt.bind' (both_some p q hp hq hx hy hz) ?_
    refine Evt.same (fun k => if_pos rfl) ?_
    refine Evt.bind' (a := B (z.cust.wth [97])) (by show address_part_with.f z.cust.kind (B z.cust.text) _ = _; rw [with_part _ _ _ (by rw [h97]; omega), L_B, l97]) ?_
    refine Evt.bind (words_f z.cust.kind (B z.cust.text) z.tail z.parts oz.parts (by omega)) ?_
    refine Evt.bind' (example_f _ _ (by rw [wthL_length]; omega) (by
      have := exT_len (word_le (name_word (name_wth oz 97 (by decide)))) (fun w hw => word_le ((wthL_words oz.parts).1 w hw)) (by rw [wthL_length]; omega)
      omega)) ?_
    exact Evt.of fun _ => rfl
def bothA (x y : Pat) : ByteArray × Bool × Int := match commonP x y with
  | some z => (B (patT z), true, 0)
  | none => (⟨#[]⟩, false, 0)
end Go.Proofs.YtmokgpepeddopaaGreatDoor.P
end
section
namespace Go.Proofs.YtmokgpepeddopaaGreatDoor.P
open Go.RowKit Go.Proofs.YtmokgpepeddopaaGreatDoorW.PrintWords Go.Proofs.YtmokgpepeddopaaGreatDoorW.PrintLast Go.Proofs.YtmokgpepeddopaaGreatDoorW.PrintMore
attribute [local go_sem] max2_int min2_int max_two min_two max_three min_three max_four min_four
attribute [local go_sem high] binOp_string_leq2 binOp_string_gtr2
set_option linter.unusedVariables false
set_option linter.unusedSimpArgs false
mutual
def weirgatelaw06_sanity.j0 : Nat → Bool → Option (Bool)
 | 0, _ => none
 | k + 1, x3 => (address_Covers.f k (⟨#[97, 99, 109, 101, 47, 42, 42]⟩ : ByteArray) (⟨#[97, 99, 109, 101, 47, 42, 46, 99, 115, 115]⟩ : ByteArray)).bind fun bt106 => ((address_Covers.f k (⟨#[97, 99, 109, 101, 47, 42, 46, 99, 115, 115]⟩ : ByteArray) (⟨#[97, 99, 109, 101, 47, 42]⟩ : ByteArray)).bind fun bt109 => ((address_Meet.f k (⟨#[97, 99, 109, 101, 47, 42, 47, 98]⟩ : ByteArray) (⟨#[97, 99, 109, 101, 47, 97, 47, 42, 42]⟩ : ByteArray)).bind fun bt112 => ((address_Meet.f k (⟨#[97, 99, 109, 101, 47, 42, 46, 99, 115, 115]⟩ : ByteArray) (⟨#[97, 99, 109, 101, 47, 42, 46, 106, 115]⟩ : ByteArray)).bind fun bt115 => (if bt106.2.2 = 0 then (if bt109.2.2 = 0 then (if bt112.2.2 = 0 then (if bt115.2.2 = 0 then (if bt106.1 = true then (if bt109.1 = true then (weirgatelaw06_sanity.j1 k x3 false) else ((address_Match.f k (⟨#[97, 99, 109, 101, 47, 42]⟩ : ByteArray) bt109.2.1).bind fun t118 => (if t118 = true then (if bt112.1 = true then (if bt112.2.1.toList = ([97, 99, 109, 101, 47, 97, 47, 98] : List UInt8) then (weirgatelaw06_sanity.j1 k x3 (!bt115.1)) else (weirgatelaw06_sanity.j1 k x3 false)) else (weirgatelaw06_sanity.j1 k x3 false)) else (weirgatelaw06_sanity.j1 k x3 false)))) else (weirgatelaw06_sanity.j1 k x3 false)) else (weirgatelaw06_sanity.j1 k x3 false)) else (weirgatelaw06_sanity.j1 k x3 false)) else (weirgatelaw06_sanity.j1 k x3 false)) else (weirgatelaw06_sanity.j1 k x3 false)))))
def weirgatelaw06_sanity.j1 : Nat → Bool → Bool → Option (Bool)
 | 0, _, _ => none
 | k + 1, x3, x16 => (address_Tags.f (([(⟨#[98]⟩ : ByteArray), (⟨#[97]⟩ : ByteArray), (⟨#[98]⟩ : ByteArray)] : List ByteArray))).bind fun bt122 => (if x3 = true then (if x16 = true then ((address_Under.f (⟨#[97, 99, 109, 101, 47, 110, 101, 119, 115]⟩ : ByteArray) (⟨#[97, 99, 109, 101, 47, 110, 101, 119, 115, 47, 97]⟩ : ByteArray)).bind fun t124 => (if t124 = true then ((address_Under.f (⟨#[97, 99, 109, 101, 47, 110, 101, 119]⟩ : ByteArray) (⟨#[97, 99, 109, 101, 47, 110, 101, 119, 115]⟩ : ByteArray)).bind fun t125 => (if t125 = true then (some false) else (if bt122.2 = 0 then (if bt122.1.toList = ([97, 44, 98] : List UInt8) then ((address_HasTag.f k (⟨#[97, 44, 98]⟩ : ByteArray) (⟨#[98]⟩ : ByteArray)).bind fun t126 => (some t126)) else (some false)) else (some false)))) else (some false))) else (some false)) else (some false))
end
def weirgatelaw06_sanity.f (k : Nat)  : Option (Bool) := (address_Canonical.f k (⟨#[65, 99, 109, 101, 47, 78, 101, 119, 115, 47, 46, 47, 50, 48, 50, 54, 47, 46, 46, 47, 97, 46, 72, 84, 77, 76, 47, 63, 98, 61, 50, 38, 97, 61, 49]⟩ : ByteArray)).bind fun bt101 => (if bt101.2 = 0 then (if bt101.1.toList = ([97, 99, 109, 101, 47, 110, 101, 119, 115, 47, 97, 46, 104, 116, 109, 108, 63, 97, 61, 49, 38, 98, 61, 50] : List UInt8) then ((address_Match.f k (⟨#[97, 99, 109, 101, 47, 110, 101, 119, 115, 47, 42, 42]⟩ : ByteArray) (⟨#[97, 99, 109, 101, 47, 110, 101, 119, 115]⟩ : ByteArray)).bind fun t103 => (if t103 = true then ((address_Match.f k (⟨#[97, 99, 109, 101, 47, 42, 47, 42, 46, 104, 116, 109, 108]⟩ : ByteArray) (⟨#[97, 99, 109, 101, 47, 110, 101, 119, 115, 47, 97, 46, 104, 116, 109, 108]⟩ : ByteArray)).bind fun t104 => (if t104 = true then ((address_Match.f k (⟨#[97, 99, 109, 101, 47, 42]⟩ : ByteArray) (⟨#[97, 99, 109, 101, 47, 97, 47, 98]⟩ : ByteArray)).bind fun t105 => (weirgatelaw06_sanity.j0 k (!t105))) else (weirgatelaw06_sanity.j0 k false))) else (weirgatelaw06_sanity.j0 k false))) else (weirgatelaw06_sanity.j0 k false)) else (weirgatelaw06_sanity.j0 k false))
set_option maxRecDepth 100000 in
theorem weirgatelaw06_sanity.lf {p : Prop} (h : p := by
 go_wp2_with (first
 | ((with_reducible refine gate_dst (N := 96) rfl ?_); refine Kd.R_lit Kd.string _ 9 ?hg (N := 96) ?hd (xs := ([(⟨#[98]⟩ : ByteArray), (⟨#[97]⟩ : ByteArray), (⟨#[98]⟩ : ByteArray)] : List ByteArray)) (inner := [.string (⟨#[98]⟩ : ByteArray), .string (⟨#[97]⟩ : ByteArray), .string (⟨#[98]⟩ : ByteArray)]) (ok := fun _ => True) (okp := fun _ => True) ?hr ?hp (fun _ hk => hk) trivial (Below.refl _ _) (Nat.le_refl _) (by simp) ?_; (case hd => rfl); (case hg => rfl); (case hr => first | (go_simp; done) | (go_simp; rfl)); (case hp => exact (Reps.one (show Kd.M Kd.string _ _ _ (⟨#[98]⟩ : ByteArray) [.string (⟨#[98]⟩ : ByteArray)] from rfl) (Reps.one (show Kd.M Kd.string _ _ _ (⟨#[97]⟩ : ByteArray) [.string (⟨#[97]⟩ : ByteArray)] from rfl) (Reps.one (show Kd.M Kd.string _ _ _ (⟨#[98]⟩ : ByteArray) [.string (⟨#[98]⟩ : ByteArray)] from rfl) (Reps.none _ _))))); intro v120 w22 ho23 hb hg_ hnew_; clear hg_ hnew_; (first | rw [← Ny119.out] at ho23 | (simp only [Int.reduceToNat] at ho23; rw [← Ny119.out] at ho23)); have HO121 := Aside0.mk (Kd.R_lower ho23 (below_size zB)); replace HB := sb w hb; clear hb ho23; obtain ⟨Aoz0, coz0, eoz0⟩ := Kd.R_slice HO121.out; subst eoz0)
 | ((with_reducible refine gate_callee (f := 19) rfl ?_); refine goesL_ (some 97) rfl rfl Tryz.func19 (by kernel_rfl) rfl #[.slice Aoz0 y119.length coz0] rfl zl ?_; (with_reducible refine (address_Tags.calls _ _ _ _ _ _ ?side1 ?side2 A15.out).mono ?_); (case side1 => repeat (first | exact (Kd.R_reads' HO121.out).2.2 | (with_reducible refine Kd.C_alloc ?_ _) | (with_reducible refine Kd.C_drewN ?_ _) | (with_reducible refine Kd.C_drew ?_))); (case side2 => exact (Kd.R_reads' HO121.out).2.1); rintro e wz1 ⟨rfl, hb⟩; refine ⟨_, rfl, ?_⟩; replace HO121 := rb HO121 hb; replace HB := sb w hb; clear hb)
 | (go_at_call 26; (with_reducible refine (address_Under.calls _ _ _ _ A18.out).mono ?_); rintro e wz2 ⟨rfl, hb⟩; replace HO121 := rb HO121 hb; replace HB := sb w hb; clear hb)
 | (go_at_call 26; (with_reducible refine (address_Under.calls _ _ _ _ A20.out).mono ?_); rintro e wz3 ⟨rfl, hb⟩; replace HO121 := rb HO121 hb; replace HB := sb w hb; clear hb)
 | ((with_reducible refine gate_dst (N := 96) rfl ?_); refine Kd.R_lit Kd.string _ 9 ?hg (N := 96) ?hd (xs := ([(⟨#[98]⟩ : ByteArray), (⟨#[97]⟩ : ByteArray), (⟨#[98]⟩ : ByteArray)] : List ByteArray)) (inner := [.string (⟨#[98]⟩ : ByteArray), .string (⟨#[97]⟩ : ByteArray), .string (⟨#[98]⟩ : ByteArray)]) (ok := fun _ => True) (okp := fun _ => True) ?hr ?hp (fun _ hk => hk) trivial (Below.refl _ _) (Nat.le_refl _) (by simp) ?_; (case hd => rfl); (case hg => rfl); (case hr => first | (go_simp; done) | (go_simp; rfl)); (case hp => exact (Reps.one (show Kd.M Kd.string _ _ _ (⟨#[98]⟩ : ByteArray) [.string (⟨#[98]⟩ : ByteArray)] from rfl) (Reps.one (show Kd.M Kd.string _ _ _ (⟨#[97]⟩ : ByteArray) [.string (⟨#[97]⟩ : ByteArray)] from rfl) (Reps.one (show Kd.M Kd.string _ _ _ (⟨#[98]⟩ : ByteArray) [.string (⟨#[98]⟩ : ByteArray)] from rfl) (Reps.none _ _))))); intro v120 w25 ho26 hb hg_ hnew_; clear hg_ hnew_; (first | rw [← Ny119.out] at ho26 | (simp only [Int.reduceToNat] at ho26; rw [← Ny119.out] at ho26)); have HO121 := Aside0.mk (Kd.R_lower ho26 (below_size zB)); replace HB := sb w hb; clear hb ho26; obtain ⟨Aoz0, coz0, eoz0⟩ := Kd.R_slice HO121.out; subst eoz0)
 | (go_at_call 24; (with_reducible refine (address_HasTag.calls _ _ _ _ _ A24.out).mono ?_); rintro e wz4 ⟨rfl, hb⟩; replace HO121 := rb HO121 hb; replace HB := sb w hb; clear hb)
 | ((with_reducible refine gate_dst (N := 96) rfl ?_); refine Kd.R_lit Kd.string _ 9 ?hg (N := 96) ?hd (xs := ([(⟨#[98]⟩ : ByteArray), (⟨#[97]⟩ : ByteArray), (⟨#[98]⟩ : ByteArray)] : List ByteArray)) (inner := [.string (⟨#[98]⟩ : ByteArray), .string (⟨#[97]⟩ : ByteArray), .string (⟨#[98]⟩ : ByteArray)]) (ok := fun _ => True) (okp := fun _ => True) ?hr ?hp (fun _ hk => hk) trivial (Below.refl _ _) (Nat.le_refl _) (by simp) ?_; (case hd => rfl); (case hg => rfl); (case hr => first | (go_simp; done) | (go_simp; rfl)); (case hp => exact (Reps.one (show Kd.M Kd.string _ _ _ (⟨#[98]⟩ : ByteArray) [.string (⟨#[98]⟩ : ByteArray)] from rfl) (Reps.one (show Kd.M Kd.string _ _ _ (⟨#[97]⟩ : ByteArray) [.string (⟨#[97]⟩ : ByteArray)] from rfl) (Reps.one (show Kd.M Kd.string _ _ _ (⟨#[98]⟩ : ByteArray) [.string (⟨#[98]⟩ : ByteArray)] from rfl) (Reps.none _ _))))); intro v120 w24 ho25 hb hg_ hnew_; clear hg_ hnew_; (first | rw [← Ny119.out] at ho25 | (simp only [Int.reduceToNat] at ho25; rw [← Ny119.out] at ho25)); have HO121 := Aside0.mk (Kd.R_lower ho25 (below_size zB)); replace HB := sb w hb; clear hb ho25; obtain ⟨Aoz0, coz0, eoz0⟩ := Kd.R_slice HO121.out; subst eoz0)
 | ((with_reducible refine gate_dst (N := 96) rfl ?_); refine Kd.R_lit Kd.string _ 9 ?hg (N := 96) ?hd (xs := ([(⟨#[98]⟩ : ByteArray), (⟨#[97]⟩ : ByteArray), (⟨#[98]⟩ : ByteArray)] : List ByteArray)) (inner := [.string (⟨#[98]⟩ : ByteArray), .string (⟨#[97]⟩ : ByteArray), .string (⟨#[98]⟩ : ByteArray)]) (ok := fun _ => True) (okp := fun _ => True) ?hr ?hp (fun _ hk => hk) trivial (Below.refl _ _) (Nat.le_refl _) (by simp) ?_; (case hd => rfl); (case hg => rfl); (case hr => first | (go_simp; done) | (go_simp; rfl)); (case hp => exact (Reps.one (show Kd.M Kd.string _ _ _ (⟨#[98]⟩ : ByteArray) [.string (⟨#[98]⟩ : ByteArray)] from rfl) (Reps.one (show Kd.M Kd.string _ _ _ (⟨#[97]⟩ : ByteArray) [.string (⟨#[97]⟩ : ByteArray)] from rfl) (Reps.one (show Kd.M Kd.string _ _ _ (⟨#[98]⟩ : ByteArray) [.string (⟨#[98]⟩ : ByteArray)] from rfl) (Reps.none _ _))))); intro v120 w23 ho24 hb hg_ hnew_; clear hg_ hnew_; (first | rw [← Ny119.out] at ho24 | (simp only [Int.reduceToNat] at ho24; rw [← Ny119.out] at ho24)); have HO121 := Aside0.mk (Kd.R_lower ho24 (below_size zB)); replace HB := sb w hb; clear hb ho24; obtain ⟨Aoz0, coz0, eoz0⟩ := Kd.R_slice HO121.out; subst eoz0)
 | ((with_reducible refine gate_dst (N := 96) rfl ?_); refine Kd.R_lit Kd.string _ 9 ?hg (N := 96) ?hd (xs := ([(⟨#[98]⟩ : ByteArray), (⟨#[97]⟩ : ByteArray), (⟨#[98]⟩ : ByteArray)] : List ByteArray)) (inner := [.string (⟨#[98]⟩ : ByteArray), .string (⟨#[97]⟩ : ByteArray), .string (⟨#[98]⟩ : ByteArray)]) (ok := fun _ => True) (okp := fun _ => True) ?hr ?hp (fun _ hk => hk) trivial (Below.refl _ _) (Nat.le_refl _) (by simp) ?_; (case hd => rfl); (case hg => rfl); (case hr => first | (go_simp; done) | (go_simp; rfl)); (case hp => exact (Reps.one (show Kd.M Kd.string _ _ _ (⟨#[98]⟩ : ByteArray) [.string (⟨#[98]⟩ : ByteArray)] from rfl) (Reps.one (show Kd.M Kd.string _ _ _ (⟨#[97]⟩ : ByteArray) [.string (⟨#[97]⟩ : ByteArray)] from rfl) (Reps.one (show Kd.M Kd.string _ _ _ (⟨#[98]⟩ : ByteArray) [.string (⟨#[98]⟩ : ByteArray)] from rfl) (Reps.none _ _))))); intro v120 w20 ho21 hb hg_ hnew_; clear hg_ hnew_; (first | rw [← Ny119.out] at ho21 | (simp only [Int.reduceToNat] at ho21; rw [← Ny119.out] at ho21)); have HO121 := Aside0.mk (Kd.R_lower ho21 (below_size zB)); replace HB := sb w hb; clear hb ho21; obtain ⟨Aoz0, coz0, eoz0⟩ := Kd.R_slice HO121.out; subst eoz0)
 | ((with_reducible refine gate_dst (N := 96) rfl ?_); refine Kd.R_lit Kd.string _ 9 ?hg (N := 96) ?hd (xs := ([(⟨#[98]⟩ : ByteArray), (⟨#[97]⟩ : ByteArray), (⟨#[98]⟩ : ByteArray)] : List ByteArray)) (inner := [.string (⟨#[98]⟩ : ByteArray), .string (⟨#[97]⟩ : ByteArray), .string (⟨#[98]⟩ : ByteArray)]) (ok := fun _ => True) (okp := fun _ => True) ?hr ?hp (fun _ hk => hk) trivial (Below.refl _ _) (Nat.le_refl _) (by simp) ?_; (case hd => rfl); (case hg => rfl); (case hr => first | (go_simp; done) | (go_simp; rfl)); (case hp => exact (Reps.one (show Kd.M Kd.string _ _ _ (⟨#[98]⟩ : ByteArray) [.string (⟨#[98]⟩ : ByteArray)] from rfl) (Reps.one (show Kd.M Kd.string _ _ _ (⟨#[97]⟩ : ByteArray) [.string (⟨#[97]⟩ : ByteArray)] from rfl) (Reps.one (show Kd.M Kd.string _ _ _ (⟨#[98]⟩ : ByteArray) [.string (⟨#[98]⟩ : ByteArray)] from rfl) (Reps.none _ _))))); intro v120 w18 ho19 hb hg_ hnew_; clear hg_ hnew_; (first | rw [← Ny119.out] at ho19 | (simp only [Int.reduceToNat] at ho19; rw [← Ny119.out] at ho19)); have HO121 := Aside0.mk (Kd.R_lower ho19 (below_size zB)); replace HB := sb w hb; clear hb ho19; obtain ⟨Aoz0, coz0, eoz0⟩ := Kd.R_slice HO121.out; subst eoz0)
 | ((with_reducible refine gate_dst (N := 96) rfl ?_); refine Kd.R_lit Kd.string _ 9 ?hg (N := 96) ?hd (xs := ([(⟨#[98]⟩ : ByteArray), (⟨#[97]⟩ : ByteArray), (⟨#[98]⟩ : ByteArray)] : List ByteArray)) (inner := [.string (⟨#[98]⟩ : ByteArray), .string (⟨#[97]⟩ : ByteArray), .string (⟨#[98]⟩ : ByteArray)]) (ok := fun _ => True) (okp := fun _ => True) ?hr ?hp (fun _ hk => hk) trivial (Below.refl _ _) (Nat.le_refl _) (by simp) ?_; (case hd => rfl); (case hg => rfl); (case hr => first | (go_simp; done) | (go_simp; rfl)); (case hp => exact (Reps.one (show Kd.M Kd.string _ _ _ (⟨#[98]⟩ : ByteArray) [.string (⟨#[98]⟩ : ByteArray)] from rfl) (Reps.one (show Kd.M Kd.string _ _ _ (⟨#[97]⟩ : ByteArray) [.string (⟨#[97]⟩ : ByteArray)] from rfl) (Reps.one (show Kd.M Kd.string _ _ _ (⟨#[98]⟩ : ByteArray) [.string (⟨#[98]⟩ : ByteArray)] from rfl) (Reps.none _ _))))); intro v120 w17 ho18 hb hg_ hnew_; clear hg_ hnew_; (first | rw [← Ny119.out] at ho18 | (simp only [Int.reduceToNat] at ho18; rw [← Ny119.out] at ho18)); have HO121 := Aside0.mk (Kd.R_lower ho18 (below_size zB)); replace HB := sb w hb; clear hb ho18; obtain ⟨Aoz0, coz0, eoz0⟩ := Kd.R_slice HO121.out; subst eoz0))
 go_ret; exact ⟨zE, zB⟩) : p := h
set_option maxHeartbeats 8000000 in
set_option maxRecDepth 100000 in
theorem weirgatelaw06_sanity.calls (k : Nat)  (r : Bool) (w : World) (h : weirgatelaw06_sanity.f k  = some r) :
  Calls Tryz.prog 11 #[] w fun e w' => e = .returned (.bool r) ∧ Below w.heap.size w w' := by
 have HB := Aside0.mk (Below.refl w.heap.size w)
 have H : ((address_Canonical.f k (⟨#[65, 99, 109, 101, 47, 78, 101, 119, 115, 47, 46, 47, 50, 48, 50, 54, 47, 46, 46, 47, 97, 46, 72, 84, 77, 76, 47, 63, 98, 61, 50, 38, 97, 61, 49]⟩ : ByteArray)).bind fun bt101 => (if bt101.2 = 0 then (if bt101.1.toList = ([97, 99, 109, 101, 47, 110, 101, 119, 115, 47, 97, 46, 104, 116, 109, 108, 63, 97, 61, 49, 38, 98, 61, 50] : List UInt8) then ((address_Match.f k (⟨#[97, 99, 109, 101, 47, 110, 101, 119, 115, 47, 42, 42]⟩ : ByteArray) (⟨#[97, 99, 109, 101, 47, 110, 101, 119, 115]⟩ : ByteArray)).bind fun t103 => (if t103 = true then ((address_Match.f k (⟨#[97, 99, 109, 101, 47, 42, 47, 42, 46, 104, 116, 109, 108]⟩ : ByteArray) (⟨#[97, 99, 109, 101, 47, 110, 101, 119, 115, 47, 97, 46, 104, 116, 109, 108]⟩ : ByteArray)).bind fun t104 => (if t104 = true then ((address_Match.f k (⟨#[97, 99, 109, 101, 47, 42]⟩ : ByteArray) (⟨#[97, 99, 109, 101, 47, 97, 47, 98]⟩ : ByteArray)).bind fun t105 => (weirgatelaw06_sanity.j0 k (!t105))) else (weirgatelaw06_sanity.j0 k false))) else (weirgatelaw06_sanity.j0 k false))) else (weirgatelaw06_sanity.j0 k false)) else (weirgatelaw06_sanity.j0 k false))) = some r := h
 clear h
 obtain ⟨⟨t101, t102⟩, A1, H⟩ := bd H
 dsimp only at H
 have HC2 := Aside0.mk H
 clear H
 go_enter Tryz.func11, Tryz.ntmps11
 go_upto_region 2 with (first | ((with_reducible refine gate_callee (f := 13) rfl ?_); refine goesL_ (some 20) rfl rfl Tryz.func13 (by kernel_rfl) rfl #[.string (⟨#[65, 99, 109, 101, 47, 78, 101, 119, 115, 47, 46, 47, 50, 48, 50, 54, 47, 46, 46, 47, 97, 46, 72, 84, 77, 76, 47, 63, 98, 61, 50, 38, 97, 61, 49]⟩ : ByteArray)] rfl zl ?_; (with_reducible refine (address_Canonical.calls k (⟨#[65, 99, 109, 101, 47, 78, 101, 119, 115, 47, 46, 47, 50, 48, 50, 54, 47, 46, 46, 47, 97, 46, 72, 84, 77, 76, 47, 63, 98, 61, 50, 38, 97, 61, 49]⟩ : ByteArray) t101 t102 _ A1.out).mono ?_); rintro e w3 ⟨rfl, hb⟩; refine ⟨_, rfl, ?_⟩; replace HB := sb w hb; clear hb))
 (try simp only [Act.put, List.setIfInBounds_toArray, List.set_cons_zero, List.set_cons_succ])
 go_cut [3] (fun v3 wc => ∃ (kq : Nat) (x3_1 : Bool), v3 = .bool x3_1 ∧ Aside0 (weirgatelaw06_sanity.j0 kq x3_1 = some r) ∧ Aside0 (kq ≤ k) ∧ Aside0 (Below w.heap.size w wc))
 case first =>
  have H := HC2.out
  clear HC2
  by_cases c4 : t102 = 0
  ·rw [if_pos c4] at H
   have c4b0 : (t102 == 0) = true := beq_iff_eq.mpr c4
   have c4b1 : (t102 != 0) = false := bne_eq_false_iff_eq.mpr c4
   clear c4
   (first | rw [c4b0] | (simp only [i64_w, i32_w]; rw [c4b0]) | skip)
   by_cases c5 : t101.toList = ([97, 99, 109, 101, 47, 110, 101, 119, 115, 47, 97, 46, 104, 116, 109, 108, 63, 97, 61, 49, 38, 98, 61, 50] : List UInt8)
   ·rw [if_pos c5] at H
    have c5b0 : (t101.toList == ([97, 99, 109, 101, 47, 110, 101, 119, 115, 47, 97, 46, 104, 116, 109, 108, 63, 97, 61, 49, 38, 98, 61, 50] : List UInt8)) = true := beq_iff_eq.mpr c5
    have c5b1 : (t101.toList != ([97, 99, 109, 101, 47, 110, 101, 119, 115, 47, 97, 46, 104, 116, 109, 108, 63, 97, 61, 49, 38, 98, 61, 50] : List UInt8)) = false := bne_eq_false_iff_eq.mpr c5
    clear c5
    obtain ⟨t103, A6, H⟩ := bd H
    by_cases c7 : t103 = true
    ·subst c7
     rw [if_pos rfl] at H
     obtain ⟨t104, A8, H⟩ := bd H
     by_cases c9 : t104 = true
     ·subst c9
      rw [if_pos rfl] at H
      obtain ⟨t105, A10, H⟩ := bd H
      have H' := Aside0.mk H
      clear H
      go_wp2_with (first | (go_at_call 29; (with_reducible refine (address_Match.calls k (⟨#[97, 99, 109, 101, 47, 110, 101, 119, 115, 47, 42, 42]⟩ : ByteArray) (⟨#[97, 99, 109, 101, 47, 110, 101, 119, 115]⟩ : ByteArray) true _ A6.out).mono ?_); rintro e w11 ⟨rfl, hb⟩; replace HB := sb w hb; clear hb) | (go_at_call 29; (with_reducible refine (address_Match.calls k (⟨#[97, 99, 109, 101, 47, 42, 47, 42, 46, 104, 116, 109, 108]⟩ : ByteArray) (⟨#[97, 99, 109, 101, 47, 110, 101, 119, 115, 47, 97, 46, 104, 116, 109, 108]⟩ : ByteArray) true _ A8.out).mono ?_); rintro e w12 ⟨rfl, hb⟩; replace HB := sb w hb; clear hb) | (go_at_call 29; (with_reducible refine (address_Match.calls k (⟨#[97, 99, 109, 101, 47, 42]⟩ : ByteArray) (⟨#[97, 99, 109, 101, 47, 97, 47, 98]⟩ : ByteArray) t105 _ A10.out).mono ?_); rintro e w13 ⟨rfl, hb⟩; replace HB := sb w hb; clear hb))
      go_meet
      case rel => exact ⟨_, (!t105), zS, H', ⟨zo⟩, ⟨zB⟩⟩
     ·replace c9 := Bool.eq_false_iff.mpr c9
      subst c9
      rw [if_neg Bool.false_ne_true] at H
      have H' := Aside0.mk H
      clear H
      go_wp2_with (first | (go_at_call 29; (with_reducible refine (address_Match.calls k (⟨#[97, 99, 109, 101, 47, 110, 101, 119, 115, 47, 42, 42]⟩ : ByteArray) (⟨#[97, 99, 109, 101, 47, 110, 101, 119, 115]⟩ : ByteArray) true _ A6.out).mono ?_); rintro e w10 ⟨rfl, hb⟩; replace HB := sb w hb; clear hb) | (go_at_call 29; (with_reducible refine (address_Match.calls k (⟨#[97, 99, 109, 101, 47, 42, 47, 42, 46, 104, 116, 109, 108]⟩ : ByteArray) (⟨#[97, 99, 109, 101, 47, 110, 101, 119, 115, 47, 97, 46, 104, 116, 109, 108]⟩ : ByteArray) false _ A8.out).mono ?_); rintro e w11 ⟨rfl, hb⟩; replace HB := sb w hb; clear hb))
      go_meet
      case rel => exact ⟨_, (false), zS, H', ⟨zo⟩, ⟨zB⟩⟩
    ·replace c7 := Bool.eq_false_iff.mpr c7
     subst c7
     rw [if_neg Bool.false_ne_true] at H
     have H' := Aside0.mk H
     clear H
     go_wp2_with (first | (go_at_call 29; (with_reducible refine (address_Match.calls k (⟨#[97, 99, 109, 101, 47, 110, 101, 119, 115, 47, 42, 42]⟩ : ByteArray) (⟨#[97, 99, 109, 101, 47, 110, 101, 119, 115]⟩ : ByteArray) false _ A6.out).mono ?_); rintro e w8 ⟨rfl, hb⟩; replace HB := sb w hb; clear hb))
     go_meet
     case rel => exact ⟨_, (false), zS, H', ⟨zo⟩, ⟨zB⟩⟩
   ·rw [if_neg c5] at H
    have c5b0 : (t101.toList == ([97, 99, 109, 101, 47, 110, 101, 119, 115, 47, 97, 46, 104, 116, 109, 108, 63, 97, 61, 49, 38, 98, 61, 50] : List UInt8)) = false := beq_eq_false_iff_ne.mpr c5
    have c5b1 : (t101.toList != ([97, 99, 109, 101, 47, 110, 101, 119, 115, 47, 97, 46, 104, 116, 109, 108, 63, 97, 61, 49, 38, 98, 61, 50] : List UInt8)) = true := bne_iff_ne.mpr c5
    have H' := Aside0.mk H
    clear H
    go_wp2
    go_meet
    case rel => exact ⟨_, (false), zS, H', ⟨zo⟩, ⟨zB⟩⟩
  ·rw [if_neg c4] at H
   have c4b0 : (t102 == 0) = false := beq_eq_false_iff_ne.mpr c4
   have c4b1 : (t102 != 0) = true := bne_iff_ne.mpr c4
   (first | rw [c4b0] | (simp only [i64_w, i32_w]; rw [c4b0]) | skip)
   have H' := Aside0.mk H
   clear H
   go_wp2
   go_meet
   case rel => exact ⟨_, (false), zS, H', ⟨zo⟩, ⟨zB⟩⟩
 case rest =>
  clear HC2
  obtain ⟨kq, x3_1, rfl, HA, HJ1, HB⟩ := hcut
  cases kq with
  | zero => exact absurd HA.out (by simp [weirgatelaw06_sanity.j0])
  | succ kj1 =>
   have H := HA.out
   clear HA
   simp only [weirgatelaw06_sanity.j0] at H
   obtain ⟨⟨t106, t107, t108⟩, A5, H⟩ := bd H
   dsimp only at H
   obtain ⟨⟨t109, t110, t111⟩, A6, H⟩ := bd H
   dsimp only at H
   obtain ⟨⟨t112, t113, t114⟩, A7, H⟩ := bd H
   dsimp only at H
   obtain ⟨⟨t115, t116, t117⟩, A8, H⟩ := bd H
   dsimp only at H
   have HC9 := Aside0.mk H
   clear H
   go_upto_region 7 with (first | ((with_reducible refine gate_callee (f := 27) rfl ?_); refine goesL_ (some 40) rfl rfl Tryz.func27 (by kernel_rfl) rfl #[.string (⟨#[97, 99, 109, 101, 47, 42, 42]⟩ : ByteArray), .string (⟨#[97, 99, 109, 101, 47, 42, 46, 99, 115, 115]⟩ : ByteArray)] rfl zl ?_; (with_reducible refine (address_Covers.calls kj1 (⟨#[97, 99, 109, 101, 47, 42, 42]⟩ : ByteArray) (⟨#[97, 99, 109, 101, 47, 42, 46, 99, 115, 115]⟩ : ByteArray) t106 t107 t108 _ A5.out).mono ?_); rintro e w10 ⟨rfl, hb⟩; refine ⟨_, rfl, ?_⟩; replace HB := sb w hb; clear hb) | ((with_reducible refine gate_callee (f := 27) rfl ?_); refine goesL_ (some 45) rfl rfl Tryz.func27 (by kernel_rfl) rfl #[.string (⟨#[97, 99, 109, 101, 47, 42, 46, 99, 115, 115]⟩ : ByteArray), .string (⟨#[97, 99, 109, 101, 47, 42]⟩ : ByteArray)] rfl zl ?_; (with_reducible refine (address_Covers.calls kj1 (⟨#[97, 99, 109, 101, 47, 42, 46, 99, 115, 115]⟩ : ByteArray) (⟨#[97, 99, 109, 101, 47, 42]⟩ : ByteArray) t109 t110 t111 _ A6.out).mono ?_); rintro e w11 ⟨rfl, hb⟩; refine ⟨_, rfl, ?_⟩; replace HB := sb w hb; clear hb) | ((with_reducible refine gate_callee (f := 30) rfl ?_); refine goesL_ (some 50) rfl rfl Tryz.func30 (by kernel_rfl) rfl #[.string (⟨#[97, 99, 109, 101, 47, 42, 47, 98]⟩ : ByteArray), .string (⟨#[97, 99, 109, 101, 47, 97, 47, 42, 42]⟩ : ByteArray)] rfl zl ?_; (with_reducible refine (address_Meet.calls kj1 (⟨#[97, 99, 109, 101, 47, 42, 47, 98]⟩ : ByteArray) (⟨#[97, 99, 109, 101, 47, 97, 47, 42, 42]⟩ : ByteArray) t112 t113 t114 _ A7.out).mono ?_); rintro e w12 ⟨rfl, hb⟩; refine ⟨_, rfl, ?_⟩; replace HB := sb w hb; clear hb) | ((with_reducible refine gate_callee (f := 30) rfl ?_); refine goesL_ (some 55) rfl rfl Tryz.func30 (by kernel_rfl) rfl #[.string (⟨#[97, 99, 109, 101, 47, 42, 46, 99, 115, 115]⟩ : ByteArray), .string (⟨#[97, 99, 109, 101, 47, 42, 46, 106, 115]⟩ : ByteArray)] rfl zl ?_; (with_reducible refine (address_Meet.calls kj1 (⟨#[97, 99, 109, 101, 47, 42, 46, 99, 115, 115]⟩ : ByteArray) (⟨#[97, 99, 109, 101, 47, 42, 46, 106, 115]⟩ : ByteArray) t115 t116 t117 _ A8.out).mono ?_); rintro e w13 ⟨rfl, hb⟩; refine ⟨_, rfl, ?_⟩; replace HB := sb w hb; clear hb))
   (try simp only [Act.put, List.setIfInBounds_toArray, List.set_cons_zero, List.set_cons_succ])
   go_cut [16] (fun v16 wc => ∃ (kq : Nat) (x16_8 : Bool), v16 = .bool x16_8 ∧ Aside0 (weirgatelaw06_sanity.j1 kq x3_1 x16_8 = some r) ∧ Aside0 (kq ≤ kj1) ∧ Aside0 (Below w.heap.size w wc))
   case first =>
    have H := HC9.out
    clear HC9
    by_cases c14 : t108 = 0
    ·rw [if_pos c14] at H
     have c14b0 : (t108 == 0) = true := beq_iff_eq.mpr c14
     have c14b1 : (t108 != 0) = false := bne_eq_false_iff_eq.mpr c14
     clear c14
     (first | rw [c14b0] | (simp only [i64_w, i32_w]; rw [c14b0]) | skip)
     by_cases c15 : t111 = 0
     ·rw [if_pos c15] at H
      have c15b0 : (t111 == 0) = true := beq_iff_eq.mpr c15
      have c15b1 : (t111 != 0) = false := bne_eq_false_iff_eq.mpr c15
      clear c15
      by_cases c16 : t114 = 0
      ·rw [if_pos c16] at H
       have c16b0 : (t114 == 0) = true := beq_iff_eq.mpr c16
       have c16b1 : (t114 != 0) = false := bne_eq_false_iff_eq.mpr c16
       clear c16
       by_cases c17 : t117 = 0
       ·rw [if_pos c17] at H
        have c17b0 : (t117 == 0) = true := beq_iff_eq.mpr c17
        have c17b1 : (t117 != 0) = false := bne_eq_false_iff_eq.mpr c17
        clear c17
        by_cases c18 : t106 = true
        ·subst c18
         rw [if_pos rfl] at H
         by_cases c19 : t109 = true
         ·subst c19
          rw [if_pos rfl] at H
          have H' := Aside0.mk H
          clear H
          go_wp2
          go_meet
          case rel => exact ⟨_, (false), zS, H', ⟨by have := HJ1.out; first | omega | exact Nat.le_refl _⟩, ⟨zB⟩⟩
         ·replace c19 := Bool.eq_false_iff.mpr c19
          subst c19
          rw [if_neg Bool.false_ne_true] at H
          obtain ⟨t118, A20, H⟩ := bd H
          by_cases c21 : t118 = true
          ·subst c21
           rw [if_pos rfl] at H
           by_cases c22 : t112 = true
           ·subst c22
            rw [if_pos rfl] at H
            by_cases c23 : t113.toList = ([97, 99, 109, 101, 47, 97, 47, 98] : List UInt8)
            ·rw [if_pos c23] at H
             have c23b0 : (t113.toList == ([97, 99, 109, 101, 47, 97, 47, 98] : List UInt8)) = true := beq_iff_eq.mpr c23
             have c23b1 : (t113.toList != ([97, 99, 109, 101, 47, 97, 47, 98] : List UInt8)) = false := bne_eq_false_iff_eq.mpr c23
             clear c23
             have H' := Aside0.mk H
             clear H
             go_wp2_with (first | (go_at_call 29; (with_reducible refine (address_Match.calls kj1 (⟨#[97, 99, 109, 101, 47, 42]⟩ : ByteArray) t110 true _ A20.out).mono ?_); rintro e w24 ⟨rfl, hb⟩; replace HB := sb w hb; clear hb))
             go_meet
             case rel => exact ⟨_, (!t115), zS, H', ⟨by have := HJ1.out; first | omega | exact Nat.le_refl _⟩, ⟨zB⟩⟩
            ·rw [if_neg c23] at H
             have c23b0 : (t113.toList == ([97, 99, 109, 101, 47, 97, 47, 98] : List UInt8)) = false := beq_eq_false_iff_ne.mpr c23
             have c23b1 : (t113.toList != ([97, 99, 109, 101, 47, 97, 47, 98] : List UInt8)) = true := bne_iff_ne.mpr c23
             have H' := Aside0.mk H
             clear H
             go_wp2_with (first | (go_at_call 29; (with_reducible refine (address_Match.calls kj1 (⟨#[97, 99, 109, 101, 47, 42]⟩ : ByteArray) t110 true _ A20.out).mono ?_); rintro e w24 ⟨rfl, hb⟩; replace HB := sb w hb; clear hb))
             go_meet
             case rel => exact ⟨_, (false), zS, H', ⟨by have := HJ1.out; first | omega | exact Nat.le_refl _⟩, ⟨zB⟩⟩
           ·replace c22 := Bool.eq_false_iff.mpr c22
            subst c22
            rw [if_neg Bool.false_ne_true] at H
            have H' := Aside0.mk H
            clear H
            go_wp2_with (first | (go_at_call 29; (with_reducible refine (address_Match.calls kj1 (⟨#[97, 99, 109, 101, 47, 42]⟩ : ByteArray) t110 true _ A20.out).mono ?_); rintro e w23 ⟨rfl, hb⟩; replace HB := sb w hb; clear hb))
            go_meet
            case rel => exact ⟨_, (false), zS, H', ⟨by have := HJ1.out; first | omega | exact Nat.le_refl _⟩, ⟨zB⟩⟩
          ·replace c21 := Bool.eq_false_iff.mpr c21
           subst c21
           rw [if_neg Bool.false_ne_true] at H
           have H' := Aside0.mk H
           clear H
           go_wp2_with (first | (go_at_call 29; (with_reducible refine (address_Match.calls kj1 (⟨#[97, 99, 109, 101, 47, 42]⟩ : ByteArray) t110 false _ A20.out).mono ?_); rintro e w22 ⟨rfl, hb⟩; replace HB := sb w hb; clear hb))
           go_meet
           case rel => exact ⟨_, (false), zS, H', ⟨by have := HJ1.out; first | omega | exact Nat.le_refl _⟩, ⟨zB⟩⟩
        ·replace c18 := Bool.eq_false_iff.mpr c18
         subst c18
         rw [if_neg Bool.false_ne_true] at H
         have H' := Aside0.mk H
         clear H
         go_wp2
         go_meet
         case rel => exact ⟨_, (false), zS, H', ⟨by have := HJ1.out; first | omega | exact Nat.le_refl _⟩, ⟨zB⟩⟩
       ·rw [if_neg c17] at H
        have c17b0 : (t117 == 0) = false := beq_eq_false_iff_ne.mpr c17
        have c17b1 : (t117 != 0) = true := bne_iff_ne.mpr c17
        have H' := Aside0.mk H
        clear H
        go_wp2
        go_meet
        case rel => exact ⟨_, (false), zS, H', ⟨by have := HJ1.out; first | omega | exact Nat.le_refl _⟩, ⟨zB⟩⟩
      ·rw [if_neg c16] at H
       have c16b0 : (t114 == 0) = false := beq_eq_false_iff_ne.mpr c16
       have c16b1 : (t114 != 0) = true := bne_iff_ne.mpr c16
       have H' := Aside0.mk H
       clear H
       go_wp2
       go_meet
       case rel => exact ⟨_, (false), zS, H', ⟨by have := HJ1.out; first | omega | exact Nat.le_refl _⟩, ⟨zB⟩⟩
     ·rw [if_neg c15] at H
      have c15b0 : (t111 == 0) = false := beq_eq_false_iff_ne.mpr c15
      have c15b1 : (t111 != 0) = true := bne_iff_ne.mpr c15
      have H' := Aside0.mk H
      clear H
      go_wp2
      go_meet
      case rel => exact ⟨_, (false), zS, H', ⟨by have := HJ1.out; first | omega | exact Nat.le_refl _⟩, ⟨zB⟩⟩
    ·rw [if_neg c14] at H
     have c14b0 : (t108 == 0) = false := beq_eq_false_iff_ne.mpr c14
     have c14b1 : (t108 != 0) = true := bne_iff_ne.mpr c14
     (first | rw [c14b0] | (simp only [i64_w, i32_w]; rw [c14b0]) | skip)
     have H' := Aside0.mk H
     clear H
     go_wp2
     go_meet
     case rel => exact ⟨_, (false), zS, H', ⟨by have := HJ1.out; first | omega | exact Nat.le_refl _⟩, ⟨zB⟩⟩
   case rest =>
    clear HC9
    obtain ⟨kq, x16_8, rfl, HA, HJ8, HB⟩ := hcut
    cases kq with
    | zero => exact absurd HA.out (by simp [weirgatelaw06_sanity.j1])
    | succ kj8 =>
     have H := HA.out
     clear HA
     simp only [weirgatelaw06_sanity.j1] at H
     obtain ⟨y119, hy119⟩ : ∃ y_ : List ByteArray, y_ = (([(⟨#[98]⟩ : ByteArray), (⟨#[97]⟩ : ByteArray), (⟨#[98]⟩ : ByteArray)] : List ByteArray)) := ⟨_, rfl⟩
     replace H : ((address_Tags.f y119).bind fun bt122 => (if x3_1 = true then (if x16_8 = true then ((address_Under.f (⟨#[97, 99, 109, 101, 47, 110, 101, 119, 115]⟩ : ByteArray) (⟨#[97, 99, 109, 101, 47, 110, 101, 119, 115, 47, 97]⟩ : ByteArray)).bind fun t124 => (if t124 = true then ((address_Under.f (⟨#[97, 99, 109, 101, 47, 110, 101, 119]⟩ : ByteArray) (⟨#[97, 99, 109, 101, 47, 110, 101, 119, 115]⟩ : ByteArray)).bind fun t125 => (if t125 = true then (some false) else (if bt122.2 = 0 then (if bt122.1.toList = ([97, 44, 98] : List UInt8) then ((address_HasTag.f kj8 (⟨#[97, 44, 98]⟩ : ByteArray) (⟨#[98]⟩ : ByteArray)).bind fun t126 => (some t126)) else (some false)) else (some false)))) else (some false))) else (some false)) else (some false))) = some r := by first | (rw [hy119]; with_reducible exact H) | (have H2_ := (Option.bind_some _ _).symm.trans H; rw [hy119]; with_reducible exact H2_) | (have H2_ := (Option.bind_some _ _).symm.trans H; with_reducible exact H2_) | with_reducible exact H | (rw [hy119]; exact H) | exact H
     have Ny119 := Aside0.mk hy119
     clear hy119
     obtain ⟨⟨t122, t123⟩, A15, H⟩ := bd H
     dsimp only at H
     by_cases c16 : x3_1 = true
     ·subst c16
      rw [if_pos rfl] at H
      by_cases c17 : x16_8 = true
      ·subst c17
       rw [if_pos rfl] at H
       obtain ⟨t124, A18, H⟩ := bd H
       by_cases c19 : t124 = true
       ·subst c19
        rw [if_pos rfl] at H
        obtain ⟨t125, A20, H⟩ := bd H
        by_cases c21 : t125 = true
        ·subst c21
         rw [if_pos rfl] at H
         obtain rfl := Option.some.inj H
         exact weirgatelaw06_sanity.lf
        ·replace c21 := Bool.eq_false_iff.mpr c21
         subst c21
         rw [if_neg Bool.false_ne_true] at H
         by_cases c22 : t123 = 0
         ·rw [if_pos c22] at H
          have c22b0 : (t123 == 0) = true := beq_iff_eq.mpr c22
          have c22b1 : (t123 != 0) = false := bne_eq_false_iff_eq.mpr c22
          clear c22
          by_cases c23 : t122.toList = ([97, 44, 98] : List UInt8)
          ·rw [if_pos c23] at H
           have c23b0 : (t122.toList == ([97, 44, 98] : List UInt8)) = true := beq_iff_eq.mpr c23
           have c23b1 : (t122.toList != ([97, 44, 98] : List UInt8)) = false := bne_eq_false_iff_eq.mpr c23
           clear c23
           obtain ⟨t126, A24, H⟩ := bd H
           obtain rfl := Option.some.inj H
           exact weirgatelaw06_sanity.lf
          ·rw [if_neg c23] at H
           have c23b0 : (t122.toList == ([97, 44, 98] : List UInt8)) = false := beq_eq_false_iff_ne.mpr c23
           have c23b1 : (t122.toList != ([97, 44, 98] : List UInt8)) = true := bne_iff_ne.mpr c23
           obtain rfl := Option.some.inj H
           exact weirgatelaw06_sanity.lf
         ·rw [if_neg c22] at H
          have c22b0 : (t123 == 0) = false := beq_eq_false_iff_ne.mpr c22
          have c22b1 : (t123 != 0) = true := bne_iff_ne.mpr c22
          obtain rfl := Option.some.inj H
          exact weirgatelaw06_sanity.lf
       ·replace c19 := Bool.eq_false_iff.mpr c19
        subst c19
        rw [if_neg Bool.false_ne_true] at H
        obtain rfl := Option.some.inj H
        exact weirgatelaw06_sanity.lf
      ·replace c17 := Bool.eq_false_iff.mpr c17
       subst c17
       rw [if_neg Bool.false_ne_true] at H
       obtain rfl := Option.some.inj H
       exact weirgatelaw06_sanity.lf
     ·replace c16 := Bool.eq_false_iff.mpr c16
      subst c16
      rw [if_neg Bool.false_ne_true] at H
      obtain rfl := Option.some.inj H
      exact weirgatelaw06_sanity.lf
end Go.Proofs.YtmokgpepeddopaaGreatDoor.P
end
