/- Lemmas on the way to the statement: part 19 of 34 (functions as plain Lean functions, and that each call comes to what they say). -/
import Derived.Test.YtmokgpepeddopaaGreatDoorL17
import Derived.Test.YtmokgpepeddopaaGreatDoorL12
import Derived.Handy
section
namespace Go.Proofs.YtmokgpepeddopaaGreatDoor.P
open Go.RowKit Go.Proofs.YtmokgpepeddopaaGreatDoorW.PrintWords Go.Proofs.YtmokgpepeddopaaGreatDoorW.PrintLast Go.Proofs.YtmokgpepeddopaaGreatDoorW.PrintMore
open Go.Proofs.YtmokgpepeddopaaGreatDoor.Addr
set_option linter.unusedSimpArgs false
set_option linter.unusedVariables false
theorem strings_HasPrefix_f (a b : ByteArray) : strings_HasPrefix.f a b = some ((L b).isPrefixOf (L a)) := by
  unfold strings_HasPrefix.f
  rw [hasPrefix_f]
  rfl
def SRow (W : World) (b o : Nat) (ls : List ByteArray) : Prop := ∀ j x, ls[j]? = some x → W.cell? ⟨b, o + j, none⟩ = some (.string x)
theorem SRow.below {W W' : World} {b o : Nat} {ls : List ByteArray} (h : SRow W b o ls) (hb : Below W.heap.size W W') : SRow W' b o ls := fun j x hj => pw_cell_below hb (h j x hj)
theorem SRow.set_ {W : World} {b o : Nat} {ls : List ByteArray} (h : SRow W b o ls) {p : Addr} (hp : p.block ≠ b) (u : Value) : SRow (W.setCell p u) b o ls := fun j x hj => by
  rw [World.cell?_setCell_other _ _ _ _ (fun e => hp (by rw [e]))]; exact h j x hj
theorem SRow.grown {W W' : World} {b o : Nat} {ls : List ByteArray} (h : SRow W b o ls) {row : Option Nat} (hg : W.grownBy W' row) (hr : row ≠ some b) : SRow W' b o ls := fun j x hj => by
  have hc := h j x hj
  have hlt := World.block_lt_of_cell? W _ hc
  rw [World.cell?_of_block (w := W) (hg.block b hlt (fun e => hr e.symm))]
  exact hc
theorem srow_of {w : World} {base : Nat} {ok : Nat → Prop} {v : Value} {ls : List ByteArray} {e : Nat} (h : Kd.R Kd.string e w base ok v ls) (hne : ls ≠ []) :
    ∃ b c, v = .slice (some ⟨b, 0, none⟩) ls.length c ∧ SRow w b 0 ls ∧ base ≤ b ∧ b < w.heap.size ∧ ls.length ≤ c := by
  have ho := Kd.own_of_R h
  obtain ⟨g, cap, hv, hb, hg⟩ := ho.form (List.length_pos_iff.2 hne)
  refine ⟨g, cap, hv, fun j x hj => ?_, hb, hg, ?_⟩
  · obtain ⟨hl, he⟩ := List.getElem?_eq_some_iff.1 hj
    have := ho.cells (g := g) (by rw [hv]; rfl) j (.string x) (by simp [encs, hj])
    rwa [add_plain, Nat.zero_add] at *
  · obtain ⟨A, c, e1, e2, _⟩ := Kd.R_reads h
    rw [hv] at e1
    injection e1 with _ _ e1
    omega
theorem splitB_length_le (c : UInt8) (l : List UInt8) : (splitB c l).length ≤ l.length + 1 := by
  induction l with
  | nil => simp [splitB]
  | cons x r ih =>
    simp only [splitB]
    split
    · simp; omega
    · cases h : splitB c r with
      | nil => simp
      | cons y t => rw [h] at ih; simp at ih ⊢; omega
structure St (w W : World) (b : Nat) (ls : List ByteArray) (k : Int) (s : ByteArray) (v : Value) (t : Bool) (out : List S97) : Prop where
  blk : W.heap[w.heap.size]? = some (.cells #[.int .i64 k, .string s, v, .bool t] 100 (0, 0))
  row : SRow W b 0 ls
  own : Kd.R k97 97 W w.heap.size (fun k => k ≠ b) v out
  bel : Below w.heap.size w W
  ne : w.heap.size + 1 ≤ b
  lt : b < W.heap.size
theorem St.facts {w W : World} {b : Nat} {ls : List ByteArray} {k : Int} {s : ByteArray} {v : Value} {t : Bool} {out : List S97} (h : St w W b ls k s v t out) :
    W.cell? ⟨w.heap.size, 0, none⟩ = some (.int .i64 k) ∧ W.cell? ⟨w.heap.size, 1, none⟩ = some (.string s) ∧ W.cell? ⟨w.heap.size, 2, none⟩ = some v ∧ W.cell? ⟨w.heap.size, 3, none⟩ = some (.bool t)
    ∧ W.frozen? ⟨w.heap.size, 0, none⟩ = false ∧ W.frozen? ⟨w.heap.size, 1, none⟩ = false ∧ W.frozen? ⟨w.heap.size, 2, none⟩ = false ∧ W.frozen? ⟨w.heap.size, 3, none⟩ = false :=
  ⟨(blk_cell h.blk 0).trans rfl, (blk_cell h.blk 1).trans rfl, (blk_cell h.blk 2).trans rfl, (blk_cell h.blk 3).trans rfl, blk_frozen h.blk 0, blk_frozen h.blk 1, blk_frozen h.blk 2, blk_frozen h.blk 3⟩
theorem St.next {w W W' : World} {b : Nat} {ls : List ByteArray} {k : Int} {s : ByteArray} {v : Value} {t : Bool} {out : List S97} (h : St w W b ls k s v t out) (hb : Below W.heap.size W W') : St w W' b ls k s v t out :=
  ⟨(hb.block _ (blk_lt h.blk)).trans h.blk, h.row.below hb, Kd.R_below h.own hb, h.bel.trans (hb.mono (below_size h.bel)), h.ne, Nat.lt_of_lt_of_le h.lt (below_size hb)⟩
theorem St.set {w W : World} {b : Nat} {ls : List ByteArray} {k k' : Int} {s s' : ByteArray} {v : Value} {t t' : Bool} {out : List S97} (h : St w W b ls k s v t out) (j : Nat) (u : Value)
    (e : (#[.int .i64 k, .string s, v, .bool t] : Array Value).setIfInBounds j u = #[.int .i64 k', .string s', v, .bool t']) : St w (W.setCell ⟨w.heap.size, j, none⟩ u) b ls k' s' v t' out :=
  ⟨blk_put h.blk j u e, h.row.set_ (by have := h.ne; show w.heap.size ≠ b; omega) u, Kd.R_mono (Kd.R_far (Kd.R_types h.own h.blk (by decide)) (fun _ hk => hk.2) u) (fun _ hk => hk.1), h.bel.setCell (Nat.le_refl _) u, h.ne, by simpa [World.setCell] using h.lt⟩
theorem St.set0 {w W : World} {b : Nat} {ls : List ByteArray} {k : Int} {s : ByteArray} {v : Value} {t : Bool} {out : List S97} (h : St w W b ls k s v t out) (k' : Int) :
    St w (W.setCell ⟨w.heap.size, 0, none⟩ (.int .i64 k')) b ls k' s v t out := h.set 0 _ rfl
theorem St.set1 {w W : World} {b : Nat} {ls : List ByteArray} {k : Int} {s : ByteArray} {v : Value} {t : Bool} {out : List S97} (h : St w W b ls k s v t out) (s' : ByteArray) :
    St w (W.setCell ⟨w.heap.size, 1, none⟩ (.string s')) b ls k s' v t out := h.set 1 _ rfl
theorem St.set3 {w W : World} {b : Nat} {ls : List ByteArray} {k : Int} {s : ByteArray} {v : Value} {t : Bool} {out : List S97} (h : St w W b ls k s v t out) (t' : Bool) :
    St w (W.setCell ⟨w.heap.size, 3, none⟩ (.bool t')) b ls k s v t' out := h.set 3 _ rfl
theorem St.again {w W : World} {b : Nat} {ls : List ByteArray} {k : Int} {s : ByteArray} {v : Value} {t : Bool} {out : List S97} (h : St w W b ls k s v t out) :
    St w ((((W.setCell ⟨w.heap.size, 0, none⟩ (.int .i64 k)).setCell ⟨w.heap.size, 1, none⟩ (.string s)).setCell ⟨w.heap.size, 2, none⟩ v).setCell ⟨w.heap.size, 3, none⟩ (.bool t)) b ls k s v t out :=
  (((h.set 0 _ rfl).set 1 _ rfl).set 2 _ rfl).set 3 _ rfl
theorem St.setv {w W W' : World} {b : Nat} {ls : List ByteArray} {k : Int} {s : ByteArray} {v v' : Value} {t : Bool} {out out' : List S97} (h : St w W b ls k s v t out)
    (hb : Below w.heap.size w W') (hg : W.grownBy W' v.ownBlock) (ho : Kd.R k97 97 W' w.heap.size (fun k => k ≠ b) v' out') :
    St w (W'.setCell ⟨w.heap.size, 2, none⟩ v') b ls k s v' t out' := by
  have hk := blk_grown h.blk hg (Kd.R_ne h.own h.blk (by decide))
  have hr : v.ownBlock ≠ some b := fun e => h.own.1 b e rfl
  exact ⟨blk_put hk 2 v' rfl, (h.row.grown hg hr).set_ (by have := h.ne; show w.heap.size ≠ b; omega) _, Kd.R_mono (Kd.R_far (Kd.R_types ho hk (by decide)) (fun _ hk => hk.2) v') (fun _ hk => hk.1), hb.setCell (Nat.le_refl _) _, h.ne, by have := hg.size; have := h.lt; simp [World.setCell]; omega⟩
theorem valid_cases {x : ByteArray} (hv : validPart (L x) = true) : (x.toList = [42] ∧ ¬ x.toList = [42, 42]) ∨ (¬ x.toList = [42] ∧ ¬ x.toList = [42, 42] ∧ (x.toList == [42]) = false ∧ Hid (address_isWord.f x = some true)) ∨
    (¬ x.toList = [42] ∧ ¬ x.toList = [42, 42] ∧ (x.toList == [42]) = false ∧ Hid (address_isWord.f x = some false) ∧ (x.size : Int) ≤ 34 ∧ (2 : Int) ≤ (x.size : Int) ∧ Hid (strings_HasPrefix.f x (⟨#[42, 46]⟩ : ByteArray) = some true) ∧ Hid (address_isWord.f (x.extract 2 x.size) = some true)) := by
  rw [toList_L]
  by_cases h1 : L x = [42]
  · exact .inl ⟨h1, by rw [h1]; decide⟩
  · cases hw : word (L x) with
    | true => exact .inr (.inl ⟨h1, fun e => by rw [e] at hw; exact absurd hw (by decide), by simpa using h1, Lib.hid (by simp [address_isWord.f, hw])⟩)
    | false =>
      simp only [validPart, hw, h1, decide_false, Bool.false_or, Bool.and_eq_true, decide_eq_true_eq] at hv
      obtain ⟨⟨ha, hb⟩, hc⟩ := hv
      have hp := (List.isPrefixOf_iff_prefix.1 hb).length_le
      rw [L_length] at ha hp
      have h2 : (2 : Int) ≤ (x.size : Int) := by simp at hp; omega
      refine .inr (.inr ⟨h1, fun e => by rw [e] at hb; exact absurd hb (by decide), by simpa using h1, Lib.hid (by simp [address_isWord.f, hw]), by omega, h2, Lib.hid ?_, Lib.hid ?_⟩)
      · rw [strings_HasPrefix_f]; exact congrArg some hb
      · have he : L (x.extract 2 x.size) = (L x).drop 2 := by
          rw [drop_extract, L_B]
        simp [address_isWord.f, he, hc]
theorem invalid_cases {x : ByteArray} (hv : validPart (L x) = false) : ¬ x.toList = [42] ∧ (x.toList == [42]) = false ∧ Hid (address_isWord.f x = some false) ∧
    (34 < (x.size : Int) ∨ ((x.size : Int) ≤ 34 ∧ Hid (strings_HasPrefix.f x (⟨#[42, 46]⟩ : ByteArray) = some false)) ∨
      ((x.size : Int) ≤ 34 ∧ (2 : Int) ≤ (x.size : Int) ∧ Hid (strings_HasPrefix.f x (⟨#[42, 46]⟩ : ByteArray) = some true) ∧ Hid (address_isWord.f (x.extract 2 x.size) = some false))) := by
  rw [toList_L]
  have h1 : ¬ L x = [42] := fun e => by rw [e] at hv; exact absurd hv (by decide)
  have hw : word (L x) = false := by
    cases h : word (L x) with
    | false => rfl
    | true => simp [validPart, h] at hv
  refine ⟨h1, by simpa using h1, Lib.hid (by simp [address_isWord.f, hw]), ?_⟩
  by_cases hs : x.size ≤ 34
  · rw [strings_HasPrefix_f]
    have h42 : L (⟨#[42, 46]⟩ : ByteArray) = [42, 46] := rfl
    rw [h42]
    cases hb : ([42, 46] : List UInt8).isPrefixOf (L x) with
    | false => exact .inr (.inl ⟨by omega, Lib.hid rfl⟩)
    | true =>
      have hp := (List.isPrefixOf_iff_prefix.1 hb).length_le
      rw [L_length] at hp
      refine .inr (.inr ⟨by omega, by simp at hp; omega, Lib.hid rfl, Lib.hid ?_⟩)
      have he : L (x.extract 2 x.size) = (L x).drop 2 := by rw [drop_extract, L_B]
      have hl : (L x).length ≤ 34 := by rw [L_length]; exact hs
      simp [validPart, hw, h1, hb, hl] at hv
      simp [address_isWord.f, he, hv]
  · exact .inl (by omega)
def T14 : Bool × List (List Nat × List Nat) := (true, [([], []), ([0], [0]), ([], []), ([2], [2]), ([3], [3]), ([1, 4, 3], [1, 4]), ([0, 1, 2, 3, 4, 5], []), ([6, 5, 5, 0, 1, 2, 3, 4, 5], [5, 6])])
def B14 : List Nat := [0, 1, 0, 4, 12, 31, 63, 127]
theorem tab14 : rtab .any (opsOf Tryz.f69 14) = T14 := by kernel_rfl
theorem bits14 : waitsOk T14.2 B14 = true := by kernel_rfl
theorem infoPart : (Tryz.prog.info? 97).map (fun i => (i.zero, i.size, i.bytes)) = some (some (.agg #[.int .i64 0, .string ⟨#[]⟩]), 2, 24) := by kernel_rfl
set_option maxRecDepth 100000 in
set_option maxHeartbeats 4000000 in
theorem address_compile.calls (a0 : ByteArray) (r1 : Int) (r2 : ByteArray) (r3 : List S97) (r4 r5 : Bool) (w : World) (h : address_compile.f a0 = some (r1, r2, r3, r4, r5)) :
    Calls Tryz.prog 69 #[.string a0] w fun e w' => ∃ v0_ : Value, e = .returned (.tuple #[.agg #[.int .i64 r1, .string r2, v0_, .bool r4], .bool r5]) ∧ Kd.R k97 97 w' w.heap.size (fun _ => True) v0_ r3 ∧ Below w.heap.size w w' := by
  unfold address_compile.f at h
  split at h
  · rename_i hs
    injection h with h
    obtain ⟨ls, hls⟩ : ∃ ls, (splitB 47 (L a0)).map B = ls := ⟨_, rfl⟩
    have hsp : strings_Split.f a0 (⟨#[47]⟩ : ByteArray) = some ls := by
      rw [← hls]
      show (if a0.size < 4294967281 then some ((splitB 47 (L a0)).map B) else none) = _
      rw [if_pos hs]
    have hm : ls.length ≤ 4294967281 := by
      rw [← hls, List.length_map]
      have := splitB_length_le 47 (L a0)
      rw [L_length] at this
      omega
    have hne : ls ≠ [] := by
      rw [← hls]; simpa using splitB_ne 47 (L a0)
    rw [hls] at h
    clear hls
    have HS := Lib.hid hsp
    have HF := Lib.hid h
    clear hsp h
    have hu := Tryz.underlying100
    go_enter Tryz.func69, Tryz.ntmps69
    go_wp2_with fail
    refine (strings_Split.calls a0 _ ls _ HS.out).mono ?_
    rintro e w1 ⟨v, rfl, hv, hb⟩
    obtain ⟨b, c, rfl, hS, hbl, hlt, hle⟩ := srow_of hv hne
    have hz : w.heap.size + 1 ≤ b := by simpa using hbl
    have hp : w1.heap[w.heap.size]? = some (.cells #[.int .i64 0, .string ⟨#[]⟩, .slice none 0 0, .bool false] 100 (0, 0)) :=
      (hb.block w.heap.size (by simp)).trans (heap_alloc_new w _)
    have hB1 : Below w.heap.size w w1 := ((Below.refl w.heap.size w).alloc (Nat.le_refl _) _).trans (hb.mono (by simp))
    have HST : Hid (St w w1 b ls 0 ⟨#[]⟩ (.slice none 0 0) false []) := Lib.hid ⟨hp, hS, Kd.R_nil _ _ _ _ _, hB1, hz, hlt⟩
    clear hv hb hbl HS hp hB1 hS
    have h0 : 0 < ls.length := List.length_pos_iff.2 hne
    obtain ⟨x0, rest, rfl⟩ : ∃ x r, ls = x :: r := by
      cases ls with
      | nil => exact absurd rfl hne
      | cons x r => exact ⟨x, r, rfl⟩
    clear hne h0
    have c0 : w1.cell? ⟨b, 0, none⟩ = some (.string x0) := HST.out.row 0 x0 rfl
    obtain ⟨p0, p1, p2, p3, f0, f1, f2, f3⟩ := HST.out.facts
    simp only [List.length_cons] at hm hle ⊢
    by_cases hl : 33 < rest.length + 1
    · have e : compileF (x0 :: rest) = (0, ⟨#[]⟩, [], false, false) := by
        unfold compileF; rw [if_pos (.inl (by simpa using hl))]
      have HE := Lib.hid (e.symm.trans HF.out)
      clear e HF
      go_wp2_with fail
      clear c0 p0 p1 p2 p3 f0 f1 f2 f3
      have hs2 := HST.out.again
      obtain ⟨p0, p1, p2, p3, f0, f1, f2, f3⟩ := hs2.facts
      have he := HE.out
      injection he with h1 he; injection he with h2 he; injection he with h3 he; injection he with h4 h5
      subst h1 h2 h3 h4 h5
      refine bodyPost_ret (v := .tuple #[.agg #[.int .i64 0, .string ⟨#[]⟩, .slice none 0 0, .bool false], .bool false]) (by simp [results, Tryz.results69, go_sem, p0, p1, p2, p3]) rfl ⟨_, rfl, Kd.R_mono hs2.own (fun _ _ => trivial), hs2.bel⟩
    · have hl2 : ¬ (33 < (x0 :: rest).length) := by simpa using hl
      have hst : ∀ x : ByteArray, (x.toList == [42]) = decide (L x = [42]) := fun x => by
        rw [toList_L, Bool.eq_iff_iff, beq_iff_eq, decide_eq_true_iff]
      have hst' : ∀ x : ByteArray, (x.toList = [42]) = (L x = [42]) := fun x => by rw [toList_L]
      have HIN : Hid (address_isName.f x0 = some (name (L x0))) := Lib.hid (isName_f x0)
      by_cases hbad : L x0 ≠ [42] ∧ name (L x0) = false
      · have hq1 : (x0.toList == [42]) = false := (hst x0).trans (decide_eq_false hbad.1)
        have hq2 : ¬ (x0.toList = [42]) := by rw [hst']; exact hbad.1
        have e : compileF (x0 :: rest) = (0, ⟨#[]⟩, [], false, false) := by
          unfold compileF; rw [if_pos (.inr hbad)]
        have HE := Lib.hid (e.symm.trans HF.out)
        rw [hbad.2] at HIN
        clear e HF
        go_wp2_with (go_at_call 45; refine (address_isName.calls x0 false _ HIN.out).mono ?_; rintro e w2 ⟨rfl, hd⟩; have HST2 := Lib.hid (HST.out.next hd); clear HST hd c0 p0 p1 p2 p3 f0 f1 f2 f3; obtain ⟨p0, p1, p2, p3, f0, f1, f2, f3⟩ := HST2.out.facts)
        clear p0 p1 p2 p3 f0 f1 f2 f3
        have hs2 := HST2.out.again
        obtain ⟨p0, p1, p2, p3, f0, f1, f2, f3⟩ := hs2.facts
        have he := HE.out
        injection he with h1 he; injection he with h2 he; injection he with h3 he; injection he with h4 h5
        subst h1 h2 h3 h4 h5
        refine bodyPost_ret (v := .tuple #[.agg #[.int .i64 0, .string ⟨#[]⟩, .slice none 0 0, .bool false], .bool false]) (by simp [results, Tryz.results69, go_sem, p0, p1, p2, p3]) rfl ⟨_, rfl, Kd.R_mono hs2.own (fun _ _ => trivial), hs2.bel⟩
      · obtain ⟨k, s, hks⟩ : ∃ k s, partOfI x0 = (k, s) := ⟨_, _, rfl⟩
        have HPO : Hid (address_partOf.f x0 = some (k, s)) := Lib.hid (hks ▸ partOf_f x0)
        have e : compileF (x0 :: rest) = (k, s, compL [] rest) := by
          unfold compileF
          rw [if_neg (by intro e; rcases e with e | e; exact hl2 e; exact hbad e)]
          simp only [List.getD_cons_zero, hks, List.drop_succ_cons, List.drop_zero]
        have HE := Lib.hid (e.symm.trans HF.out)
        clear e HF hks
        have hcase : (x0.toList = [42] ∧ (x0.toList == [42]) = true) ∨ (¬ (x0.toList = [42]) ∧ (x0.toList == [42]) = false ∧ name (L x0) = true) := by
          by_cases h : L x0 = [42]
          · exact .inl ⟨by rw [hst']; exact h, (hst x0).trans (decide_eq_true h)⟩
          · refine .inr ⟨by rw [hst']; exact h, (hst x0).trans (decide_eq_false h), ?_⟩
            cases hn : name (L x0) with
            | true => rfl
            | false => exact absurd ⟨h, hn⟩ hbad
        clear hbad hst hst'
        have hc1 : c = 1 → rest = [] := fun e => List.length_eq_zero_iff.1 (by omega)
        by_cases hcc : c = 1
        · have := hc1 hcc
          subst this hcc
          clear hc1
          have he := HE.out
          injection he with h1 he; injection he with h2 he; injection he with h3 he; injection he with h4 h5
          subst h1 h2 h3 h4 h5
          rcases hcase with ⟨hq2, hq1⟩ | ⟨hq2, hq1, hnm⟩
          · clear HIN
            go_wp2_with (go_at_call 104; refine (address_partOf.calls x0 k s _ HPO.out).mono ?_; rintro e w3 ⟨rfl, hd⟩; have HST3 := Lib.hid (HST.out.next hd); clear HST hd c0 p0 p1 p2 p3 f0 f1 f2 f3; obtain ⟨p0, p1, p2, p3, f0, f1, f2, f3⟩ := HST3.out.facts)
            go_rounds 1
            clear p0 p1 p2 p3 f0 f1 f2 f3
            have hs2 := ((HST3.out.set0 k).set1 s).again
            obtain ⟨p0, p1, p2, p3, f0, f1, f2, f3⟩ := hs2.facts
            refine bodyPost_ret (v := .tuple #[.agg #[.int .i64 k, .string s, .slice none 0 0, .bool false], .bool true]) (by simp [results, Tryz.results69, go_sem, p0, p1, p2, p3]) rfl ⟨_, rfl, Kd.R_mono hs2.own (fun _ _ => trivial), hs2.bel⟩
          · rw [hnm] at HIN
            go_wp2_with (first
              | (go_at_call 45; refine (address_isName.calls x0 true _ HIN.out).mono ?_; rintro e w2 ⟨rfl, hd⟩; have HST2 := Lib.hid (HST.out.next hd); clear HST hd c0 p0 p1 p2 p3 f0 f1 f2 f3; have c0 := HST2.out.row 0 x0 rfl; obtain ⟨p0, p1, p2, p3, f0, f1, f2, f3⟩ := HST2.out.facts)
              | (go_at_call 104; refine (address_partOf.calls x0 k s _ HPO.out).mono ?_; rintro e w3 ⟨rfl, hd⟩; have HST3 := Lib.hid (HST2.out.next hd); clear HST2 hd c0 p0 p1 p2 p3 f0 f1 f2 f3; obtain ⟨p0, p1, p2, p3, f0, f1, f2, f3⟩ := HST3.out.facts))
            go_rounds 1
            clear p0 p1 p2 p3 f0 f1 f2 f3
            have hs2 := ((HST3.out.set0 k).set1 s).again
            obtain ⟨p0, p1, p2, p3, f0, f1, f2, f3⟩ := hs2.facts
            refine bodyPost_ret (v := .tuple #[.agg #[.int .i64 k, .string s, .slice none 0 0, .bool false], .bool true]) (by simp [results, Tryz.results69, go_sem, p0, p1, p2, p3]) rfl ⟨_, rfl, Kd.R_mono hs2.own (fun _ _ => trivial), hs2.bel⟩
        · go_upto_region 2 with fail
          go_cut [24] (fun s24 wx => s24 = .bool false ∧ Hid (St w wx b (x0 :: rest) 0 ⟨#[]⟩ (.slice none 0 0) false []))
          case first =>
            rcases hcase with ⟨hq2, hq1⟩ | ⟨hq2, hq1, hnm⟩
            · go_wp2_with fail
              go_meet
              exact ⟨congrArg Value.bool (decide_eq_false (by omega)), HST⟩
            · rw [hnm] at HIN
              go_wp2_with (go_at_call 45; refine (address_isName.calls x0 true _ HIN.out).mono ?_; rintro e w2 ⟨rfl, hd⟩; have HSTn := Lib.hid (HST.out.next hd); clear HST hd)
              go_meet
              exact ⟨congrArg Value.bool (decide_eq_false (by omega)), HSTn⟩
          case rest =>
            clear HST hcase c0 p0 p1 p2 p3 f0 f1 f2 f3
            obtain ⟨rfl, HST⟩ := hcut
            have c0 := HST.out.row 0 x0 rfl
            obtain ⟨p0, p1, p2, p3, f0, f1, f2, f3⟩ := HST.out.facts
            go_wp2_with (go_at_call 104; refine (address_partOf.calls x0 k s _ HPO.out).mono ?_; rintro e w3 ⟨rfl, hd⟩; have HST3 := Lib.hid (HST.out.next hd); clear HST hd c0 p0 p1 p2 p3 f0 f1 f2 f3; obtain ⟨p0, p1, p2, p3, f0, f1, f2, f3⟩ := HST3.out.facts)
            have HST4 := Lib.hid ((HST3.out.set0 k).set1 s)
            clear HST3 p0 p1 p2 p3 f0 f1 f2 f3
            go_loopg [34] rest.length (fun kq v34 W => ∃ (i : Nat) (v : Value) (t : Bool) (out : List S97), v34 = .int .i64 (i : Int) ∧ kq + i = rest.length ∧ Hid ((t = false ∧ compL [] rest = compL out (rest.drop i)) ∨ (t = true ∧ i = rest.length ∧ compL [] rest = (out, true, true))) ∧ Hid (out.length ≤ i) ∧ Hid (St w W b (x0 :: rest) k s v t out))
            case atStart => exact ⟨0, _, false, [], rfl, rfl, Lib.hid (.inl ⟨rfl, rfl⟩), Lib.hid (Nat.le_refl _), HST4⟩
            case round =>
              clear HST4 HPO
              obtain ⟨i, v, t, out, rfl, hki, HCL, HOL, HSW⟩ := hrel
              obtain ⟨A, cv, rfl, -⟩ := Kd.R_reads HSW.out.own
              obtain ⟨p0, p1, p2, p3, f0, f1, f2, f3⟩ := HSW.out.facts
              by_cases hi : i < rest.length
              · obtain ⟨x, hx⟩ : ∃ x, rest[i]? = some x := ⟨_, List.getElem?_eq_getElem hi⟩
                have ht : t = false ∧ compL [] rest = compL out (rest.drop i) := by
                  rcases HCL.out with h | ⟨_, h, _⟩
                  · exact h
                  · omega
                obtain ⟨rfl, hcl⟩ := ht
                clear HCL
                have hdr : rest.drop i = x :: rest.drop (i + 1) := by
                  rw [List.drop_eq_getElem_cons hi, ← List.getElem?_eq_some_iff.1 hx |>.2]
                have cx : wr.cell? ⟨b, 1 + i, none⟩ = some (.string x) := by
                  have := HSW.out.row (i + 1) x (by simpa using hx)
                  rwa [Nat.zero_add, Nat.add_comm] at this
                have hi3 : ((i : Int) < (rest.length : Int)) := by omega
                have hi4 : decide ((i : Int) < (rest.length : Int)) = true := decide_eq_true hi3
                rw [hdr] at hcl
                have HCL2 := Lib.hid hcl
                clear hcl hdr hx
                obtain ⟨g, rfl⟩ : ∃ g, gk = g + 1 := ⟨gk - 1, by omega⟩
                by_cases hA : L x = [42, 42] ∧ i + 1 = rest.length
                · have hq1 : x.toList = [42, 42] := by rw [toList_L]; exact hA.1
                  have hq2 : ((i : Int) = (rest.length : Int) + 1 - 2) = True := eq_true (by omega)
                  have hcl : compL [] rest = (out, true, true) := by
                    rw [HCL2.out, compL, if_pos ⟨hA.1, List.drop_eq_nil_iff.2 (by omega)⟩]
                  go_wp2_with fail
                  go_roundg g
                  case measure => omega
                  case rel => exact ⟨i + 1, _, true, out, by simp, by omega, Lib.hid (.inr ⟨rfl, by omega, hcl⟩), Lib.hid (by have := HOL.out; omega), Lib.hid (HSW.out.set3 true)⟩
                · by_cases hv : validPart (L x) = true
                  · have hcl : compL [] rest = compL (out ++ [mkPart (partOfI x)]) (rest.drop (i + 1)) := by
                      rw [HCL2.out, compL, if_neg (by rw [List.drop_eq_nil_iff]; intro h; exact hA ⟨h.1, by omega⟩), if_pos hv]
                    obtain ⟨k2, s2, hks⟩ : ∃ k s, partOfI x = (k, s) := ⟨_, _, rfl⟩
                    have HPO : Hid (address_partOf.f x = some (k2, s2)) := Lib.hid (hks ▸ partOf_f x)
                    rw [hks] at hcl
                    have HCL3 := Lib.hid hcl
                    clear HCL2 hcl hks
                    have hsz : L x = x.toList := (toList_L x).symm
                    have hcases : (x.toList = [42] ∧ ¬ x.toList = [42, 42]) ∨ (¬ x.toList = [42] ∧ ¬ x.toList = [42, 42] ∧ (x.toList == [42]) = false ∧ Hid (address_isWord.f x = some true)) ∨
                        (¬ x.toList = [42] ∧ ¬ x.toList = [42, 42] ∧ (x.toList == [42]) = false ∧ Hid (address_isWord.f x = some false) ∧ (x.size : Int) ≤ 34 ∧ (2 : Int) ≤ (x.size : Int) ∧ Hid (strings_HasPrefix.f x (⟨#[42, 46]⟩ : ByteArray) = some true) ∧ Hid (address_isWord.f (x.extract 2 x.size) = some true)) := valid_cases hv
                    rcases hcases with ⟨hq1, hq3⟩ | ⟨hq1, hq3, hq4, HW⟩ | ⟨hq1, hq3, hq4, HW, hs1, hs2, HHP, HW2⟩
                    all_goals go_wp2_with (first
                      | (go_at_call 48; (with_reducible refine (address_isWord.calls _ _ _ HW.out).mono ?_); rintro e w4 ⟨rfl, hd⟩; have HSn := Lib.hid (HSW.out.next hd); clear HSW hd p0 p1 p2 p3 f0 f1 f2 f3; have HSW := HSn; clear HSn; obtain ⟨p0, p1, p2, p3, f0, f1, f2, f3⟩ := HSW.out.facts)
                      | (go_at_call 105; (with_reducible refine (strings_HasPrefix.calls _ _ _ _ HHP.out).mono ?_); rintro e w4 ⟨rfl, hd⟩; have HSn := Lib.hid (HSW.out.next hd.below); clear HSW hd p0 p1 p2 p3 f0 f1 f2 f3; have HSW := HSn; clear HSn; obtain ⟨p0, p1, p2, p3, f0, f1, f2, f3⟩ := HSW.out.facts)
                      | (go_at_call 48; (with_reducible refine (address_isWord.calls _ _ _ HW2.out).mono ?_); rintro e w4 ⟨rfl, hd⟩; have HSn := Lib.hid (HSW.out.next hd); clear HSW hd p0 p1 p2 p3 f0 f1 f2 f3; have HSW := HSn; clear HSn; obtain ⟨p0, p1, p2, p3, f0, f1, f2, f3⟩ := HSW.out.facts))
                    all_goals (
                    refine start_ (n := 8) (S := fun w' => w'.cell? ⟨w.heap.size, 2, none⟩ = some (.slice A out.length cv)) (ds := [5, 7]) #[false, false, false, false, false, false, false, false] (by kernel_rfl) rfl rfl (HSW.out.next ((Below.refl _ _).drew)).facts.2.2.1 (fun hHeld => ?_); refine with_tabW tab14 bits14 (fun HT_ HW_ => ?_)
                    have HS1 := Lib.hid (HSW.out.next ((Below.refl _ _).drew))
                    clear HSW
                    generalize wr.drew = w4 at HS1 hHeld ⊢
                    refine pure_ (i := 0) (N := some 68) (v := ?_) (a' := ?_) #[true, false, false, false, false, false, false, false] rfl rfl (any_of HT_.out (by kernel_rfl)) (fun _ _ _ h => h) (Or.inl ⟨by rfl, ?_⟩) ?_ ?_
                    rotate_left
                    · intro w'
                      go_simp
                      with_reducible rfl
                    rotate_left
                    · simp only [Act.put, List.setIfInBounds_toArray, List.set_cons_zero, List.set_cons_succ, i64_w, i32_w]
                      rfl
                    refine pure_ (i := 2) (N := some 70) (v := ?_) (a' := ?_) #[true, false, true, false, false, false, false, false] rfl rfl (any_of HT_.out (by kernel_rfl)) (fun _ _ _ h => h) (Or.inl ⟨by rfl, ?_⟩) ?_ ?_
                    rotate_left
                    · intro w'
                      go_simp
                      with_reducible rfl
                    rotate_left
                    · simp only [Act.put, List.setIfInBounds_toArray, List.set_cons_zero, List.set_cons_succ, i64_w, i32_w]
                      rfl
                    refine take_ (i := 1) (N := some 69) (v := ?_) (a' := ?_) #[true, true, true, false, false, false, false, false] rfl rfl (take_ofW HT_.out HW_.out (by kernel_rfl)) (fun _ _ _ h => h) (Or.inl ⟨by rfl, ?_⟩) hHeld ?_ ?_
                    rotate_left
                    · rintro w' s0
                      go_simp
                      with_reducible rfl
                    rotate_left
                    · simp only [Act.put, List.setIfInBounds_toArray, List.set_cons_zero, List.set_cons_succ, i64_w, i32_w]
                      rfl
                    refine one_ (i := 3) (N := some 71) #[true, true, true, true, false, false, false, false] rfl rfl (one_of HT_.out (by kernel_rfl)) (by decide) (fun K hK => ?_)
                    refine goes_ Tryz.func104 (by kernel_rfl) rfl #[.string x] (by rfl) rfl rfl (by (try simp only [List.map_toArray, List.map_cons, List.map_nil]); first | done | rfl) ?_
                    refine (address_partOf.calls x k2 s2 _ HPO.out).mono ?_
                    rintro e w5 ⟨rfl, hd⟩
                    have HS2 := Lib.hid (HS1.out.next hd)
                    clear HS1 hd
                    refine ⟨_, rfl, ?_⟩
                    refine hK.out _ _ HS2.out.facts.2.2.1 (fun hHeld => ?_)
                    clear hK K
                    refine norm_ (a' := ?_) ?_ ?_
                    rotate_left
                    · show Act.put _ (some 71) _ = _
                      simp only [Act.put, List.setIfInBounds_toArray, List.set_cons_zero, List.set_cons_succ, i64_w, i32_w]
                      rfl
                    refine one_ (i := 4) (N := some 72) #[true, true, true, true, true, false, false, false] rfl rfl (one_of HT_.out (by kernel_rfl)) (by decide) (fun K hK => ?_)
                    refine value_ (w1 := ?_) (v := ?_) (by rfl) rfl ?_ ?_
                    rotate_left 2
                    · go_simp
                      constructor
                      · rfl
                      · rfl
                    refine hK.out _ _ ((World.cell?_alloc_lt _ _ _ (World.block_lt_of_cell? _ _ hHeld)).trans hHeld) (fun hHeld => ?_)
                    clear hK K
                    refine norm_ (a' := ?_) ?_ ?_
                    rotate_left
                    · show Act.put _ (some 72) _ = _
                      simp only [Act.put, List.setIfInBounds_toArray, List.set_cons_zero, List.set_cons_succ, i64_w, i32_w]
                      rfl
                    refine last_ (i := 5) (N := some 73) #[true, true, true, true, true, true, false, false] rfl rfl (one_of HT_.out (by kernel_rfl)) (by decide) (fun K hK => ?_)
                    refine Kd.R_append_step k97 (w0 := w) w.heap.size (by rfl) (.tmp 69) (.tmp 72) 98 97 (.agg #[.int .i64 0, .string ⟨#[]⟩]) 24 rfl Tryz.underlying98 infoPart rfl (by decide) (by omega) (.slice A out.length cv) out (mkPart (k2, s2)) [.int .i64 k2, .string s2] (fun k => k ≠ b) (fun _ => False) rfl rfl ?aP (fun _ hk => hk.elim) (fun k hk => by have := HS2.out.lt; omega) ?aO ?aB ?aS ?aL ?_
                    (case aP => exact k97_mkM _ _ _ (mkPart (k2, s2)))
                    (case aB => exact HS2.out.bel)
                    (case aO => exact HS2.out.own)
                    (case aS => exact below_size HS2.out.bel)
                    (case aL => have := HOL.out; omega)
                    intro v7 w7 ho hb hg hat
                    have HS3 := Lib.hid (HS2.out.setv hb hg ho)
                    have HS2b := blk_grown HS2.out.blk hg (Kd.R_ne HS2.out.own HS2.out.blk (by decide))
                    obtain ⟨A7, c7, e7⟩ := Kd.R_slice ho
                    subst e7
                    refine hK.out _ _ ?_
                    clear hK K
                    refine norm_ (a' := ?_) ?_ ?_
                    rotate_left
                    · show Act.put _ (some 73) _ = _
                      simp only [Act.put, List.setIfInBounds_toArray, List.set_cons_zero, List.set_cons_succ, i64_w, i32_w]
                      rfl
                    refine pure_ (i := 6) (N := some 74) (v := ?_) (a' := ?_) #[true, true, true, true, true, true, true, false] rfl rfl (any_of HT_.out (by kernel_rfl)) (fun _ _ _ h => h) (Or.inl ⟨by rfl, ?_⟩) ?_ ?_
                    rotate_left
                    · intro w'
                      go_simp
                      with_reducible rfl
                    rotate_left
                    · simp only [Act.put, List.setIfInBounds_toArray, List.set_cons_zero, List.set_cons_succ, i64_w, i32_w]
                      rfl
                    refine last_ (i := 7) (N := none) #[true, true, true, true, true, true, true, true] rfl rfl (one_of HT_.out (by kernel_rfl)) (by decide) (fun K hK => ?_)
                    have hs7 : w7.cell? ⟨w.heap.size, 2, none⟩ = some (.slice A out.length cv) := (blk_cell HS2b 2).trans rfl
                    have hf7 := blk_frozen HS2b 2
                    refine skip_ (w1 := ?_) (by rfl) rfl ?_ ?_
                    rotate_left
                    · go_simp
                      rfl
                    refine hK.out _ _ ?_
                    clear hK K
                    refine done_ (done_of HT_.out (by kernel_rfl)) ?_
                    try go_wp2
                    go_roundg g
                    case measure => omega
                    have hlen : (out ++ [mkPart (k2, s2)]).length = out.length + 1 := by simp
                    rw [hlen] at HS3
                    case rel => exact ⟨i + 1, _, false, out ++ [mkPart (k2, s2)], by simp, by omega, Lib.hid (.inl ⟨rfl, HCL3.out⟩), Lib.hid (by have := HOL.out; simp; omega), HS3⟩)
                  · have hcl : compL [] rest = (out, false, false) := by
                      rw [HCL2.out, compL, if_neg (by rw [List.drop_eq_nil_iff]; intro h; exact hA ⟨h.1, by omega⟩), if_neg hv]
                    have he := HE.out
                    rw [hcl] at he
                    injection he with h1 he; injection he with h2 he; injection he with h3 he; injection he with h4 h5
                    subst h1 h2 h3 h4 h5
                    clear hcl HCL2 HE
                    obtain ⟨hq1, hq4, HW, hrest⟩ := invalid_cases (Bool.eq_false_iff.2 hv)
                    have h22 : (x.toList = [42, 42] ∧ (((i : Int) = (rest.length : Int) + 1 - 2) = False) ∧ ((i : Int) == (rest.length : Int) + 1 - 2) = false ∧ (x.size : Int) ≤ 34 ∧ Hid (strings_HasPrefix.f x (⟨#[42, 46]⟩ : ByteArray) = some false)) ∨
                        (¬ x.toList = [42, 42] ∧ (34 < (x.size : Int) ∨ ((x.size : Int) ≤ 34 ∧ Hid (strings_HasPrefix.f x (⟨#[42, 46]⟩ : ByteArray) = some false)) ∨
                          ((x.size : Int) ≤ 34 ∧ (2 : Int) ≤ (x.size : Int) ∧ Hid (strings_HasPrefix.f x (⟨#[42, 46]⟩ : ByteArray) = some true) ∧ Hid (address_isWord.f (x.extract 2 x.size) = some false)))) := by
                      by_cases h : x.toList = [42, 42]
                      · have hn : ¬ (i : Int) = (rest.length : Int) + 1 - 2 := fun e => hA ⟨by rw [← toList_L]; exact h, by omega⟩
                        refine .inl ⟨h, eq_false hn, beq_eq_false_iff_ne.2 hn, ?_, Lib.hid ?_⟩
                        · have := congrArg List.length h
                          rw [toList_L, L_length] at this
                          simp at this; omega
                        · rw [strings_HasPrefix_f, ← toList_L x, h]; rfl
                      · exact .inr ⟨h, hrest⟩
                    clear hA hv hrest
                    rcases h22 with ⟨hq3, hq2, hq5, hs1, HHP⟩ | ⟨hq3, hs1 | ⟨hs1, HHP⟩ | ⟨hs1, hs2, HHP, HW2⟩⟩
                    all_goals go_wp2_with (first
                      | (go_at_call 48; (with_reducible refine (address_isWord.calls _ _ _ HW.out).mono ?_); rintro e w4 ⟨rfl, hd⟩; have HSn := Lib.hid (HSW.out.next hd); clear HSW hd p0 p1 p2 p3 f0 f1 f2 f3; have HSW := HSn; clear HSn; obtain ⟨p0, p1, p2, p3, f0, f1, f2, f3⟩ := HSW.out.facts)
                      | (go_at_call 105; (with_reducible refine (strings_HasPrefix.calls _ _ _ _ HHP.out).mono ?_); rintro e w4 ⟨rfl, hd⟩; have HSn := Lib.hid (HSW.out.next hd.below); clear HSW hd p0 p1 p2 p3 f0 f1 f2 f3; have HSW := HSn; clear HSn; obtain ⟨p0, p1, p2, p3, f0, f1, f2, f3⟩ := HSW.out.facts)
                      | (go_at_call 48; (with_reducible refine (address_isWord.calls _ _ _ HW2.out).mono ?_); rintro e w4 ⟨rfl, hd⟩; have HSn := Lib.hid (HSW.out.next hd); clear HSW hd p0 p1 p2 p3 f0 f1 f2 f3; have HSW := HSn; clear HSn; obtain ⟨p0, p1, p2, p3, f0, f1, f2, f3⟩ := HSW.out.facts))
                    all_goals (
                      clear p0 p1 p2 p3 f0 f1 f2 f3
                      have hs2 := HSW.out.again
                      obtain ⟨p0, p1, p2, p3, f0, f1, f2, f3⟩ := hs2.facts
                      show bodyPost _ _ _ _ _ _
                      refine bodyPost_ret (v := .tuple #[.agg #[.int .i64 k, .string s, .slice A out.length cv, .bool false], .bool false]) (by simp [results, Tryz.results69, go_sem, p0, p1, p2, p3]) rfl ⟨_, rfl, Kd.R_mono hs2.own (fun _ _ => trivial), hs2.bel⟩)
              · have hi2 : i = rest.length := by omega
                have hi3 : ¬ ((i : Int) < (rest.length : Int)) := by omega
                have hi4 : decide ((i : Int) < (rest.length : Int)) = false := decide_eq_false hi3
                have hcl : compL [] rest = (out, t, true) := by
                  rcases HCL.out with ⟨rfl, e⟩ | ⟨rfl, _, e⟩
                  · rw [e, hi2, List.drop_length, compL]
                  · exact e
                have he := HE.out
                rw [hcl] at he
                injection he with h1 he; injection he with h2 he; injection he with h3 he; injection he with h4 h5
                subst h1 h2 h3 h4 h5
                clear hcl
                go_wp2_with fail
                clear p0 p1 p2 p3 f0 f1 f2 f3
                have hs2 := HSW.out.again
                obtain ⟨p0, p1, p2, p3, f0, f1, f2, f3⟩ := hs2.facts
                show bodyPost _ _ _ _ _ _
                refine bodyPost_ret (v := .tuple #[.agg #[.int .i64 k, .string s, .slice A out.length cv, .bool t], .bool true]) (by simp [results, Tryz.results69, go_sem, p0, p1, p2, p3]) rfl ⟨_, rfl, Kd.R_mono hs2.own (fun _ _ => trivial), hs2.bel⟩
  · cases h
end Go.Proofs.YtmokgpepeddopaaGreatDoor.P
end
