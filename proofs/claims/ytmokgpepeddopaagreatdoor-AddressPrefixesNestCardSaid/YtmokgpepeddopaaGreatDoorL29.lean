/- Lemmas on the way to the statement: part 29 of 34 (functions as plain Lean functions, and that each call comes to what they say). -/
import Derived.Test.YtmokgpepeddopaaGreatDoorL4
import Derived.Test.YtmokgpepeddopaaGreatDoorL1
import Derived.Test.YtmokgpepeddopaaGreatDoorL26
import Derived.Test.YtmokgpepeddopaaGreatDoorL27
import Derived.Test.YtmokgpepeddopaaGreatDoorL17
import Derived.Test.YtmokgpepeddopaaGreatDoorL19
import Derived.Deep.DeepMust
import Derived.ChangeKeys
import Derived.StringKeys
import Derived.Maps.StringElems
import Derived.Test.YtmokgpepeddopaaGreatDoorL13
import Derived.Lib.Hide
import Derived.Test.YtmokgpepeddopaaGreatDoorL18
import Derived.Test.YtmokgpepeddopaaGreatDoorL12
import Derived.Test.YtmokgpepeddopaaGreatDoorL20
import Derived.Test.YtmokgpepeddopaaGreatDoorL14
section
namespace Go.Proofs.YtmokgpepeddopaaGreatDoor.P
open Go.RowKit Go.Shelf Go.Maps Go.Proofs.YtmokgpepeddopaaGreatDoorW.PrintWords Go.Proofs.YtmokgpepeddopaaGreatDoorW.PrintLast Go.Proofs.YtmokgpepeddopaaGreatDoorW.PrintMore
open Go.Proofs.YtmokgpepeddopaaGreatDoor.Addr
set_option linter.unusedSimpArgs false
set_option linter.unusedVariables false
attribute [local go_sem] Oper.semAt_some
theorem mapT : Tryz.prog.underlying 117 = some (.map 9 9) := Tryz.underlying117
theorem ownsMap_size {H : Type} {P : Program} {k : TypeId} {R : Value → Option (DataW H × List MemPlace)} {w : World} {b n : Nat} {D : DataW H} (h : w.ownsMap P k R b n D) : Go.Maps.size D ≤ n := by
  obtain ⟨es, clock, hb, F, hs, rfl⟩ := h
  simp [Go.Maps.size, length_sorted]
  exact hs
theorem word_size {l : Str} (h : word l = true) : l.length ≤ 64 := by
  simp [word] at h
  omega
theorem B_size (l : Str) : (B l).size = l.length := by simp [B, ByteArray.size]
structure Ps (B0 : Nat) (w W : World) (nn : Nat) (M : List Addr.Pair) : Prop where
  b0 : W.heap[w.heap.size]? = some (.cells #[.slice none 0 0] 23 (0, 0))
  b1 : W.heap[w.heap.size + 1]? = some (.cells #[.bool false] 4 (0, 0))
  mp : W.ownsMap Tryz.prog 9 (plainElem Tryz.prog 9) (w.heap.size + 2) nn (toD M)
  b3 : W.heap[w.heap.size + 3]? = some (.cells #[.map (some (w.heap.size + 2))] 117 (0, 0))
  bel : Below B0 w W
theorem Ps.grown {B0 : Nat} {w W W' : World} {nn : Nat} {M : List Addr.Pair} (h : Ps B0 w W nn M) (hB : B0 ≤ w.heap.size) {row : Option Nat} (hg : W.grownBy W' row) (hr : ∀ k, row = some k → B0 ≤ k ∧ (k < w.heap.size ∨ w.heap.size + 3 < k)) : Ps B0 w W' nn M :=
  ⟨blk_grown h.b0 hg (fun e => by have := hr _ e.symm; omega), blk_grown h.b1 hg (fun e => by have := hr _ e.symm; omega), h.mp.kept hg (fun e => by have := hr _ e.symm; omega), blk_grown h.b3 hg (fun e => by have := hr _ e.symm; omega),
    h.bel.grown hg (Nat.le_trans hB h.bel.size) (fun k e => (hr _ e).1)⟩
theorem Ps.next {B0 : Nat} {w W W' : World} {nn : Nat} {M : List Addr.Pair} (h : Ps B0 w W nn M) (hB : B0 ≤ w.heap.size) (hb : Below W.heap.size W W') : Ps B0 w W' nn M :=
  h.grown hB (grown_of_below hb none) (fun k e => by cases e)
theorem grownBy_set (W : World) (p : Addr) (u : Value) : W.grownBy (W.setCell p u) (some p.block) :=
  ⟨rfl, rfl, rfl, by simp [World.setCell], fun k _ hk => Below.heap_setCell _ _ _ _ (fun e => hk (by rw [e]))⟩
theorem Ps.same {B0 : Nat} {w W : World} {nn : Nat} {M : List Addr.Pair} (h : Ps B0 w W nn M) (hB : B0 ≤ w.heap.size) :
    Ps B0 w ((W.setCell ⟨w.heap.size, 0, none⟩ (.slice none 0 0)).setCell ⟨w.heap.size + 1, 0, none⟩ (.bool false)) nn M :=
  ⟨blk_far (blk_put h.b0 0 _ rfl) (by show w.heap.size ≠ w.heap.size + 1; omega) _, blk_put (blk_far h.b1 (by show w.heap.size + 1 ≠ w.heap.size; omega) _) 0 _ rfl,
    (h.mp.kept (grownBy_set W ⟨w.heap.size, 0, none⟩ (.slice none 0 0)) (fun e => by injection e with e; simp at e)).kept (grownBy_set _ ⟨w.heap.size + 1, 0, none⟩ (.bool false)) (fun e => by injection e with e; simp at e),
    blk_far (blk_far h.b3 (by show w.heap.size + 3 ≠ w.heap.size; omega) _) (by show w.heap.size + 3 ≠ w.heap.size + 1; omega) _, (h.bel.setCell (by show B0 ≤ w.heap.size; omega) _).setCell (by show B0 ≤ w.heap.size + 1; omega) _⟩
theorem two_sets {w W W2 : World} {u1 u2 : Value} (hd : Below W.heap.size W W2) (j : Nat) (h1 : w.heap.size + 3 < j) (h2 : j < W.heap.size) :
    ((W2.setCell ⟨w.heap.size, 0, none⟩ u1).setCell ⟨w.heap.size + 1, 0, none⟩ u2).heap[j]? = W.heap[j]? := by
  rw [Below.heap_setCell _ _ _ _ (by show j ≠ w.heap.size + 1; omega), Below.heap_setCell _ _ _ _ (by show j ≠ w.heap.size; omega)]
  exact hd.block j h2
def bp (p : Addr.Pair) : S66 := ⟨B p.1, B p.2⟩
def pairs_post (B0 : Nat) (s : ByteArray) (w : World) (e : Ending) (w' : World) : Prop :=
  Below B0 w w' ∧ match pairsOf (L s) with
    | some M => ∃ v, e = .returned (.tuple #[v, .bool true]) ∧ Kd.R k66 66 w' w.heap.size (fun _ => True) v (M.map bp)
    | none => e = .returned (.tuple #[.slice none 0 0, .bool false])
theorem sortsG (m : Nat) : AnyZ.SortsIn Tryz.prog Tryz.sortedG_ren Fence.wide m :=
  ⟨fun blk off cap ss W hH hblk hsz => callsIn_wide.2 (AnyM.slices_Sort_string Tryz.sortG blk off cap ss W hH hblk hsz),
   fun p cap W => callsIn_wide.2 (AnyM.slices_Sort_string_none Tryz.sortG p cap W)⟩
theorem zero_string (w : World) : (zeroValue 9).run Tryz.prog w = .ok (.string ⟨#[]⟩) w := by kernel_rfl
theorem keys_row {M : List Addr.Pair} {ss : List (List UInt8)} {v : Value} {W : World} {base : Nat} (h1 : sortedP M) (hS : ss.Perm (strKeys (toD M)))
    (hrow : W.ownsRow base 9 1 v ss.length ((ss.mergeSort fun x y => decide (x ≤ y)).map encStr)) : Kd.R Kd.string 9 W base (fun _ => True) v (M.map fun p => B p.1) := by
  rw [strKeys_toD] at hS
  have hs : (ss.mergeSort fun x y => decide (x ≤ y)) = M.map (·.1) := keys_sorted h1 hS
  have hl : ss.length = (M.map fun p => B p.1).length := by rw [hS.length_eq]; simp
  rw [hs, encStr_B, hl, List.map_map] at hrow
  exact Kd.R_of_own (h1 := fun _ => rfl) hrow (fun _ _ => trivial)
theorem splitSeq_eg : ∀ args W, (callFunc 114 args).run Tryz.prog W = .ok (.enter 114 args) W :=
  fun args W => enters_ Tryz.func114 (by kernel_rfl) rfl args W
set_option maxRecDepth 100000 in
set_option maxHeartbeats 8000000 in
theorem pairs_calls (s : ByteArray) (w : World) (hs : s.size < 4294967296) :
    Calls Tryz.prog 44 #[.string s] w (pairs_post w.heap.size s w) := by
  refine (callsIn_wide (n := 0)).1 ?_
  refine callsIn_of_wp_marks Tryz.func44 rfl trivial ?_ rfl
  simp only [Tryz.ntmps44, List.size_toArray, List.length_cons, List.length_nil, Nat.reduceAdd, Nat.reduceSub, Array.replicate_succ, Array.replicate_zero, List.push_toArray, List.append_toArray, List.nil_append, List.cons_append]
  by_cases hem : s.toList = []
  · have hp : pairsOf (L s) = some [] := by
      unfold pairsOf
      rw [if_pos (by rw [← toList_L]; exact hem)]
    have HP := Lib.hid hp
    clear hp
    gi_wp2
    have q0 : ((w.alloc (.cells #[.slice none 0 0] 23)).alloc (.cells #[.bool true] 4)).cell? ⟨w.heap.size, 0, none⟩ = some (.slice none 0 0) := (blk_cell (blk_alloc (blk_new w _) _) 0).trans rfl
    have q1 : ((w.alloc (.cells #[.slice none 0 0] 23)).alloc (.cells #[.bool true] 4)).cell? ⟨w.heap.size + 1, 0, none⟩ = some (.bool true) := by
      have := blk_new (w.alloc (.cells #[.slice none 0 0] 23)) (.cells #[.bool true] 4)
      rw [World.size_alloc] at this
      exact (blk_cell this 0).trans rfl
    refine ⟨.tuple #[.slice none 0 0, .bool true], by simp [results, Tryz.results44, go_sem, q0, q1], below_alloc (below_alloc (Below.refl _ _) _) _, ?_⟩
    rw [HP.out]
    exact ⟨_, rfl, Kd.R_nil _ _ _ _ _⟩
  · have hem2 : (s.toList == []) = false := by simpa using hem
    have hmm := @run_makeMap Tryz.prog
    gi_wp2_with (first
      | (refine ⟨trivial, rfl, ?_⟩; gi_at_call 41; refine (callsIn_wide.2 (splitSeq_calls _ _ _)).mono ?_; rintro e w' ⟨rfl, rfl⟩))
    obtain ⟨W3, hW3⟩ : ∃ W3, (((w.alloc (.cells #[.slice none 0 0] 23)).alloc (.cells #[.bool false] 4)).alloc (.map #[] 0)).alloc (.cells #[.map (some (w.heap.size + 1 + 1))] 117) = W3 := ⟨_, rfl⟩
    have hPs : Ps w.heap.size w W3 0 [] := by
      rw [← hW3]
      refine ⟨blk_alloc (blk_alloc (blk_alloc (blk_new w _) _) _) _, ?_, ?_, ?_, below_alloc (below_alloc (below_alloc (below_alloc (Below.refl _ _) _) _) _) _⟩
      · have := blk_new (w.alloc (.cells #[.slice none 0 0] 23)) (.cells #[.bool false] 4)
        rw [World.size_alloc] at this
        exact blk_alloc (blk_alloc this _) _
      · have := World.ownsMap_made (H := Unit) ((w.alloc (.cells #[.slice none 0 0] 23)).alloc (.cells #[.bool false] 4)) Tryz.prog 9 (plainElem Tryz.prog 9)
        simp only [World.size_alloc] at this
        exact World.ownsMap.alloc this _
      · have := blk_new (((w.alloc (.cells #[.slice none 0 0] 23)).alloc (.cells #[.bool false] 4)).alloc (.map #[] 0)) (.cells #[.map (some (w.heap.size + 2))] 117)
        simpa using this
    have hsz3 : W3.heap.size = w.heap.size + 4 := by rw [← hW3]; simp
    rw [hW3]
    clear hW3
    obtain ⟨W0, hW0⟩ : ∃ W0, seqW W3 s 38 = W0 := ⟨_, rfl⟩
    rw [hW0]
    have hsz : W0.heap.size = w.heap.size + 7 := by rw [← hW0]; simp [seqW, hsz3]
    have hbl3 : Below W3.heap.size W3 W0 := by rw [← hW0]; exact below_alloc (below_alloc (below_alloc (Below.refl _ _) _) _) _
    have hPs0 := hPs.next (Nat.le_refl _) hbl3
    have e0 : W0.heap[W3.heap.size]? = some (.cells #[.string s] 9 (0, 0)) := by rw [← hW0]; exact blk_alloc (blk_alloc (blk_new _ _) _) _
    have e1 : W0.heap[W3.heap.size + 1]? = some (.cells #[.string ⟨#[38]⟩] 9 (0, 0)) := by
      rw [← hW0]
      have := blk_new (W3.alloc (.cells #[.string s] 9)) (.cells #[.string ⟨#[38]⟩] 9)
      rw [World.size_alloc] at this
      exact blk_alloc this _
    have e2 : W0.heap[W3.heap.size + 2]? = some (.cells #[.int .i64 0] 3 (0, 0)) := by
      rw [← hW0]
      have := blk_new ((W3.alloc (.cells #[.string s] 9)).alloc (.cells #[.string ⟨#[38]⟩] 9)) (.cells #[.int .i64 0] 3)
      simpa [seqW] using this
    have hsq := splitSeq_seq s 38 W3.heap.size (W3.heap.size + 3) (Nat.le_refl _) (by omega) W0 ((blk_cell e0 0).trans rfl) (blk_frozen e0 0) ((blk_cell e1 0).trans rfl) ((blk_cell e2 0).trans rfl)
    clear hW0 hPs hbl3 e0 e1 e2
    have HPS := Lib.hid hPs0
    have HSQ := Lib.hid hsq
    clear hPs0 hsq
    refine range_cell (gf := 114) (lb := #[.pointer (some ⟨W3.heap.size + 1, 0, none⟩), .pointer (some ⟨W3.heap.size, 0, none⟩), .pointer (some ⟨W3.heap.size + 2, 0, none⟩)]) ?hg splitSeq_eg (C := W3.heap.size) (m0 := W3.heap.size) (n0 := W3.heap.size + 3) (xs := (splitB 38 (L s)).map B) (by omega) (by omega) HSQ.out (Below.refl _ _) rfl
      (fun pre W => ∃ (M : List Addr.Pair), Ps w.heap.size w W pre.length M ∧ Hid (sortedP M) ∧ Hid (∀ p ∈ M, okP p) ∧ Hid (∀ rest : List ByteArray, pairsL ((pre ++ rest).map L) [] = pairsL (rest.map L) M))
      (fun W => ∃ (nn : Nat) (M : List Addr.Pair), Ps w.heap.size w W nn M ∧ Hid (pairsL (((splitB 38 (L s)).map B).map L) [] = none))
      ?i1 ?i2 ?i3 ?x2 ?x3 ⟨[], HPS.out, Lib.hid trivial, Lib.hid (by simp), Lib.hid (fun rest => rfl)⟩
      (fun x => { tmps := #[.string s, undef, .pointer (some ⟨w.heap.size, 0, none⟩), .pointer (some ⟨w.heap.size + 1, 0, none⟩), .pointer (some ⟨w.heap.size + 1 + 1 + 1, 0, none⟩), .string x, undef, undef, undef, undef, undef, undef, .string s, .bool false, .map (some (w.heap.size + 1 + 1)), .string s, seqV (w.heap.size + 1 + 1 + 1 + 1), .string x, undef, undef, undef, undef, undef, undef, undef, undef, undef, undef, undef, undef, undef, undef, undef, undef, undef, undef, undef, undef, undef, undef, undef, undef, undef, undef, undef, undef, undef, undef, undef, undef, undef, undef, undef, undef, undef, undef, undef], defers := [] }) ?assign ?body ?done ?stop
    case hg =>
      show seqV (w.heap.size + 1 + 1 + 1 + 1) = _
      rw [hsz3]; rfl
    case i1 =>
      rintro pre W o ⟨M, h, h1, h2, h3⟩
      exact ⟨M, h.next (Nat.le_refl _) (below_alloc (Below.refl _ _) o), h1, h2, h3⟩
    case i2 =>
      rintro pre W k o ⟨M, h, h1, h2, h3⟩ hk1 hk2
      exact ⟨M, h.grown (Nat.le_refl _) (grownBy_putObj' W k o) (fun j e => by cases e; omega), h1, h2, h3⟩
    case i3 =>
      rintro pre W u ⟨M, h, h1, h2, h3⟩
      exact ⟨M, h.grown (Nat.le_refl _) (row := some W3.heap.size) ⟨rfl, rfl, rfl, by simp [World.setCell], fun k _ hk => Below.heap_setCell _ _ _ _ (fun e => hk (by rw [e]))⟩ (fun j e => by cases e; omega), h1, h2, h3⟩
    case x2 =>
      rintro W k o ⟨nn, M, h, h1⟩ hk1 hk2
      exact ⟨nn, M, h.grown (Nat.le_refl _) (grownBy_putObj' W k o) (fun j e => by cases e; omega), h1⟩
    case x3 =>
      rintro W u ⟨nn, M, h, h1⟩
      exact ⟨nn, M, h.grown (Nat.le_refl _) (row := some W3.heap.size) ⟨rfl, rfl, rfl, by simp [World.setCell], fun k _ hk => Below.heap_setCell _ _ _ _ (fun e => hk (by rw [e]))⟩ (fun j e => by cases e; omega), h1⟩
    case assign =>
      intro l x W K hK
      gi_wp2
      exact hK
    case body =>
      rintro l pre x W ⟨M, h, h1, h2, h3⟩ hpre hW
      have HP := Lib.hid h
      clear h
      have hxm : L x ∈ splitB 38 (L s) := by
        have hm : x ∈ (splitB 38 (L s)).map B := by
          obtain ⟨t, ht⟩ := hpre
          rw [← ht]; simp
        obtain ⟨y, hy, rfl⟩ := List.mem_map.1 hm
        rw [L_B]; exact hy
      have hxs : x.size < 4294967296 := by
        have e1 := splitB_len 38 (L s)
        have e2 : (L x).length + 1 ≤ plen (splitB 38 (L s)) := by
          obtain ⟨a, b, hab⟩ := List.append_of_mem hxm
          rw [hab, plen_append]
          simp [plen]; omega
        rw [L_length] at e1 e2
        omega
      clear hxm
      obtain ⟨k, v, b, hcut⟩ : ∃ k v b, cutB 61 (L x) = (k, v, b) := ⟨_, _, _, rfl⟩
      have HCUT : Hid (strings_Cut.f x (⟨#[61]⟩ : ByteArray) = some (B k, B v, b)) := Lib.hid (by
        show (if x.size ≤ 9223372036854775806 then some (B (cutB 61 (L x)).1, B (cutB 61 (L x)).2.1, (cutB 61 (L x)).2.2) else none) = _
        rw [if_pos (by omega), hcut])
      have HNM : Hid (address_isName.f (B k) = some (name k)) := Lib.hid (by rw [isName_f, L_B])
      have HWD : Hid (address_isWord.f (B v) = some (word v)) := Lib.hid (by simp [address_isWord.f, L_B])
      have hpo : pairOf (L x) = if (b && name k && word v) = true then some (k, v) else none := by unfold pairOf; rw [hcut]
      have H3 : ∀ rest : List ByteArray, pairsL ((pre ++ [x] ++ rest).map L) [] = (match pairOf (L x) with | some p => pairsL (rest.map L) (putP p M) | none => none) := fun rest => by
        rw [List.append_assoc]; exact h3.out ([x] ++ rest)
      clear hcut
      by_cases hok : (b && name k && word v) = true
      · rw [if_pos hok] at hpo
        simp only [Bool.and_eq_true] at hok
        obtain ⟨⟨rfl, hn⟩, hw⟩ := hok
        rw [hn] at HNM
        rw [hw] at HWD
        have HH3 := Lib.hid H3
        clear H3
        have hpl : pre.length < maxLen := by
          have h1 := hpre.length_le
          have h2 := splitB_length_le 38 (L s)
          rw [L_length] at h2
          simp at h1
          unfold maxLen
          omega
        have hkey : keyOf Tryz.prog 9 (.string (B k)) = some (.string k) := by
          have := Go.WideMaps.keyOf_string_mk Tryz.underlying9 (s := B k) (by have := word_size (name_word hn); rw [B_size]; unfold maxLen; omega)
          simpa [B] using this
        have hval : plainElem (H := Unit) Tryz.prog 9 (.string (B v)) = some (.lit (.string v), []) := by
          have := plainElem_string (H := Unit) (P := Tryz.prog) (e := 9) Tryz.underlying9 (s := B v) (by have := word_size hw; rw [B_size]; unfold maxLen; omega)
          simpa [B] using this
        gi_wp2_with (first
          | (refine ⟨trivial, rfl, ?_⟩; gi_at_call 38; (with_reducible refine (CallsIn.inRound l (callsIn_wide.2 (strings_Cut.calls _ _ _ _ _ _ HCUT.out))).mono ?_); rintro e W2 ⟨rfl, hd⟩; have HP2 := Lib.hid (HP.out.next (Nat.le_refl _) hd.below); have hd2 := Lib.hid hd.below; clear hd)
          | (refine ⟨trivial, rfl, ?_⟩; gi_at_call 45; (with_reducible refine (CallsIn.inRound l (callsIn_wide.2 (address_isName.calls _ _ _ HNM.out))).mono ?_); rintro e W3' ⟨rfl, hd⟩; have HP3 := Lib.hid (HP2.out.next (Nat.le_refl _) hd); have hd3 := Lib.hid (hd2.out.trans (hd.mono (below_size hd2.out))); clear hd)
          | (refine ⟨trivial, rfl, ?_⟩; gi_at_call 48; (with_reducible refine (CallsIn.inRound l (callsIn_wide.2 (address_isWord.calls _ _ _ HWD.out))).mono ?_); rintro e W4 ⟨rfl, hd⟩; have HP4 := Lib.hid (HP3.out.next (Nat.le_refl _) hd); have hd4 := Lib.hid (hd3.out.trans (hd.mono (below_size hd3.out))); clear hd; have q3 : W4.cell? ⟨w.heap.size + 3, 0, none⟩ = some (.map (some (w.heap.size + 2))) := (blk_cell HP4.out.b3 0).trans rfl)
          | (gi_at_mapUpdate; go_must (refine wpListIn_mapUpdate_own _ rfl _ _ _ 117 rfl 9 9 (Go.Maps.string_keyed Tryz.underlying9) mapT _ (w.heap.size + 2) pre.length (toD M) rfl HP4.out.mp hpl (.string (B k)) (.string (B v)) (.string k) rfl rfl hkey (.lit (.string v)) [] hval ?_); intro w5 hown5 hg5))
        have hput := toD_put k v M h1.out
        rw [hput] at hown5
        have hPs5 : Ps w.heap.size w w5 (pre ++ [x]).length (putP (k, v) M) := by
          have hne : ∀ j, j ≠ w.heap.size + 2 → some j ≠ some (w.heap.size + 2) := fun j h e => by injection e with e; exact h e
          refine ⟨blk_grown HP4.out.b0 hg5 (hne _ (by omega)), blk_grown HP4.out.b1 hg5 (hne _ (by omega)), ?_, blk_grown HP4.out.b3 hg5 (hne _ (by omega)), HP4.out.bel.grown hg5 HP4.out.bel.size (fun j e => by injection e with e; omega)⟩
          simpa using hown5
        have hk5 : ∀ j, w.heap.size + 3 < j → j < W.heap.size → w5.heap[j]? = W.heap[j]? := fun j hj1 hj2 => by
          rw [hg5.block j (Nat.lt_of_lt_of_le hj2 (below_size hd4.out)) (fun e => by injection e with e; omega)]
          exact hd4.out.block j hj2
        refine ⟨hk5 _ (by omega) (by omega), hk5 _ (by omega) (by omega), fun j hj1 hj2 => hk5 _ (by omega) (by omega), putP (k, v) M, hPs5, Lib.hid (putP_sorted h1.out), Lib.hid (fun p hp => ?_), Lib.hid (fun rest => ?_)⟩
        · rcases putP_mem hp with rfl | hp
          · exact ⟨hn, hw⟩
          · exact h2.out p hp
        · rw [HH3.out, hpo]
      · rw [if_neg hok] at hpo
        have hnone : pairsL (((splitB 38 (L s)).map B).map L) [] = none := by
          obtain ⟨t, ht⟩ := hpre
          rw [← ht, H3, hpo]
        have HNN := Lib.hid hnone
        clear hnone H3
        have hways : (b = false) ∨ (b = true ∧ name k = false) ∨ (b = true ∧ name k = true ∧ word v = false) := by
          cases b with
          | false => exact .inl rfl
          | true =>
            cases hn : name k with
            | false => exact .inr (.inl ⟨rfl, rfl⟩)
            | true =>
              cases hw : word v with
              | false => exact .inr (.inr ⟨rfl, rfl, rfl⟩)
              | true => rw [hn, hw] at hok; exact absurd rfl hok
        clear hok hpo
        rcases hways with rfl | ⟨rfl, hn⟩ | ⟨rfl, hn, hw⟩
        all_goals (try (rw [hn] at HNM))
        all_goals (try (rw [hw] at HWD))
        all_goals gi_wp2_with (first
          | (refine ⟨trivial, rfl, ?_⟩; gi_at_call 38; (with_reducible refine (CallsIn.inRound l (callsIn_wide.2 (strings_Cut.calls _ _ _ _ _ _ HCUT.out))).mono ?_); rintro e W2 ⟨rfl, hd⟩; have HP2 := Lib.hid (HP.out.next (Nat.le_refl _) hd.below); have hd2 := Lib.hid hd.below; clear hd HP; have q0 : W2.cell? ⟨w.heap.size, 0, none⟩ = some (.slice none 0 0) := (blk_cell HP2.out.b0 0).trans rfl; have q1 : W2.cell? ⟨w.heap.size + 1, 0, none⟩ = some (.bool false) := (blk_cell HP2.out.b1 0).trans rfl; have g0 := blk_frozen HP2.out.b0 0; have g1 := blk_frozen HP2.out.b1 0)
          | (refine ⟨trivial, rfl, ?_⟩; gi_at_call 45; (with_reducible refine (CallsIn.inRound l (callsIn_wide.2 (address_isName.calls _ _ _ HNM.out))).mono ?_); rintro e W3' ⟨rfl, hd⟩; have HPn := Lib.hid (HP2.out.next (Nat.le_refl _) hd); have hdn := Lib.hid (hd2.out.trans (hd.mono (below_size hd2.out))); clear hd HP2 hd2 q0 q1 g0 g1; have HP2 := HPn; have hd2 := hdn; clear HPn hdn; have q0 : W3'.cell? ⟨w.heap.size, 0, none⟩ = some (.slice none 0 0) := (blk_cell HP2.out.b0 0).trans rfl; have q1 : W3'.cell? ⟨w.heap.size + 1, 0, none⟩ = some (.bool false) := (blk_cell HP2.out.b1 0).trans rfl; have g0 := blk_frozen HP2.out.b0 0; have g1 := blk_frozen HP2.out.b1 0)
          | (refine ⟨trivial, rfl, ?_⟩; gi_at_call 48; (with_reducible refine (CallsIn.inRound l (callsIn_wide.2 (address_isWord.calls _ _ _ HWD.out))).mono ?_); rintro e W4 ⟨rfl, hd⟩; have HPn := Lib.hid (HP2.out.next (Nat.le_refl _) hd); have hdn := Lib.hid (hd2.out.trans (hd.mono (below_size hd2.out))); clear hd HP2 hd2 q0 q1 g0 g1; have HP2 := HPn; have hd2 := hdn; clear HPn hdn; have q0 : W4.cell? ⟨w.heap.size, 0, none⟩ = some (.slice none 0 0) := (blk_cell HP2.out.b0 0).trans rfl; have q1 : W4.cell? ⟨w.heap.size + 1, 0, none⟩ = some (.bool false) := (blk_cell HP2.out.b1 0).trans rfl; have g0 := blk_frozen HP2.out.b0 0; have g1 := blk_frozen HP2.out.b1 0)
          | (refine ⟨(trivial : Fence.wide.fn 45), ?_⟩)
          | (refine ⟨(trivial : Fence.wide.fn 48), ?_⟩))
        all_goals (
          have hkk := fun j h1 h2 => two_sets (w := w) (u1 := .slice none 0 0) (u2 := .bool false) hd2.out j h1 h2
          exact ⟨hkk _ (by omega) (by omega), hkk _ (by omega) (by omega), _, M, HP2.out.same (Nat.le_refl _), HNN⟩)
    case done =>
      rename_i Kx hKx
      rintro W ⟨M, h, h1, h2, h3⟩ hK
      have hpn : pairsOf (L s) = some M := by
        unfold pairsOf
        rw [if_neg (by rw [← toList_L]; exact hem)]
        have := h3.out []
        rw [List.append_nil, List.map_map] at this
        have e2 : (splitB 38 (L s)).map (L ∘ B) = splitB 38 (L s) := by
          conv => rhs; rw [← List.map_id (splitB 38 (L s))]
          exact List.map_congr_left (fun x _ => L_B x)
        rw [e2] at this
        rw [this]; rfl
      have hxl : ((splitB 38 (L s)).map B).length ≤ 4294967296 := by
        have h2 := splitB_length_le 38 (L s)
        rw [L_length] at h2
        rw [List.length_map]; omega
      have hMl : Go.Maps.size (toD M) ≤ ((splitB 38 (L s)).map B).length := ownsMap_size h.mp
      have hM2 : M.length ≤ 4294967296 := by
        have : Go.Maps.size (toD M) = M.length := by simp [Go.Maps.size, toD]
        omega
      have q4 : W.cell? ⟨w.heap.size + 3, 0, none⟩ = some (.map (some (w.heap.size + 2))) := (blk_cell h.b3 0).trans rfl
      have hWl : W0.heap.size < W.heap.size := (Array.getElem?_eq_some_iff.1 hK).1
      have cK := callsIn_wide.1 (AnyZ.keys_in Tryz.keysG Fence.wide 5 trivial rfl (some (w.heap.size + 2)) W)
      change Calls Tryz.prog 87 #[.map (some (w.heap.size + 2))] W (fun e w' => e = .returned (.func (.func 117) #[] #[.pointer (some ⟨W.heap.size, 0, none⟩)]) ∧ w' = W.alloc (.cells #[.map (some (w.heap.size + 2))] 117)) at cK
      obtain ⟨WA, hWA⟩ : ∃ WA, W.alloc (.cells #[.map (some (w.heap.size + 2))] 117) = WA := ⟨_, rfl⟩
      have hbA : Below W.heap.size W WA := by rw [← hWA]; exact below_alloc (Below.refl _ _) _
      have hPA := h.next (Nat.le_refl _) hbA
      have hseq : SeqGives Fence.wide 2 Tryz.prog 117 #[.pointer (some ⟨W.heap.size, 0, none⟩)] encStr (fun ss => ss.Perm (strKeys (toD M))) (Go.Maps.size (toD M)) WA := by
        refine AnyZ.keys_gives (ρ := Tryz.keysG_ren) { Tryz.keysG with } Fence.wide _ trivial rfl (by omega) W.heap.size (w.heap.size + 2) _ (toD M) WA ?_ ?_ hPA.mp
        · rw [← hWA]; simp
        · rw [← hWA]; exact (blk_cell (blk_new W _) 0).trans rfl
      have cS := callsIn_wide.1 (AnyZ.sorted_in Tryz.sortedG Fence.wide 5 trivial trivial trivial trivial rfl (by omega) (sortsG _) (enters_of Tryz.func99 (by kernel_rfl) rfl) 117 #[.pointer (some ⟨W.heap.size, 0, none⟩)] trivial (enters_of Tryz.func117 (by kernel_rfl) rfl) _ _ (by unfold maxLen; omega) (by omega) _ hseq)
      change Calls Tryz.prog 61 _ _ _ at cS
      rw [hWA] at cK
      show Kx _ W
      refine hKx _ _ (wpIn_wide.2 ?_)
      clear hKx
      have HK := Lib.hid hK
      clear hK hWA hseq hxl hMl
      have HPA := Lib.hid hPA
      have HKEEP := Lib.hid hbA
      have HPN := Lib.hid hpn
      clear hPA hbA h h3 hpn
      go_wp2_with (first
        | (go_at_call 87; refine cK.mono ?_; rintro e w' ⟨rfl, rfl⟩)
        | (go_at_call 61; refine cS.mono ?_; rintro e W5 ⟨v, ss, rfl, hS, hrow, -, hb⟩; have hrow2 := keys_row h1.out hS hrow; clear hrow hS; obtain ⟨A1, cv1, rfl, hle, hC⟩ := Kd.R_reads hrow2; clear hrow2))
      have HC := Lib.hid hC
      have HB5 := Lib.hid (HKEEP.out.trans (hb.mono HKEEP.out.size))
      have HP5 := Lib.hid (HPA.out.next (Nat.le_refl _) hb)
      clear hC hb HPA HKEEP cK cS hle q4
      have HM := Lib.hid h1
      clear h1
      go_loopg [9, 43] M.length (fun kq v9 v43 WL => ∃ (i : Nat) (out : List S66), v43 = .int .i64 (i : Int) ∧ kq + i = M.length ∧ Hid (out = (M.take i).map bp) ∧ Hid (Below W5.heap.size W5 WL) ∧ Hid (Kd.R k66 66 WL W5.heap.size (fun k => W5.heap.size ≤ k) v9 out))
      case atStart => exact ⟨0, [], rfl, rfl, Lib.hid rfl, Lib.hid (Below.refl _ _), Lib.hid (Kd.R_nil _ _ _ _ _)⟩
      case round =>
        obtain ⟨i, out, rfl, hki, HO, HBL, HRL⟩ := hrel
        obtain ⟨A9, cv9, rfl, -⟩ := Kd.R_reads HRL.out
        have HPL := Lib.hid (HP5.out.next (Nat.le_refl _) HBL.out)
        have q4 : wr.cell? ⟨w.heap.size + 3, 0, none⟩ = some (.map (some (w.heap.size + 2))) := (blk_cell HPL.out.b3 0).trans rfl
        by_cases hi : i < M.length
        · obtain ⟨g, rfl⟩ : ∃ g, gk = g + 1 := ⟨gk - 1, by omega⟩
          obtain ⟨ad, rfl, hx⟩ := Kd.at_string (Kd.C_below HC.out HBL.out) (i : Int) (by omega) (by simp; omega)
          obtain ⟨p, hp⟩ : ∃ p, M[i]? = some p := ⟨_, List.getElem?_eq_getElem hi⟩
          have hx2 : rdOf ByteArray.empty (M.map fun p => B p.1) (i : Int) = B p.1 := by simp [rdOf, hp]
          rw [hx2, Int.toNat_natCast] at hx
          clear hx2
          have hmem : p ∈ M := List.mem_of_getElem? hp
          have hok := h2.out p hmem
          have hkey : keyOf Tryz.prog 9 (.string (B p.1)) = some (.string p.1) := by
            have := Go.WideMaps.keyOf_string_mk Tryz.underlying9 (s := B p.1) (by have := word_size (name_word hok.1); rw [B_size]; unfold maxLen; omega)
            simpa [B] using this
          obtain ⟨vv, ps, hrun, hRv⟩ := HPL.out.mp.lookup (Go.Maps.string_keyed Tryz.underlying9) mapT (zero_string wr) (plainElem_string Tryz.underlying9 (by unfold maxLen; simp [ByteArray.size])) hkey
          rw [toD_at HM.out (v := p.2) hmem] at hRv
          obtain ⟨sv, rfl, hsv, -⟩ := plainElem_string_inv Tryz.underlying9 hRv
          have hsv2 : sv = B p.2 := by
            injection hsv with hsv _
            injection hsv with hsv
            injection hsv with hsv
            rw [hsv, B]
          subst hsv2
          have hi3 : ((i : Int) < (M.length : Int)) := by omega
          have hol : out.length ≤ 4294967296 := by rw [HO.out]; simp; omega
          have hout : (M.take (i + 1)).map bp = out ++ [bp p] := by rw [HO.out, List.take_add_one, hp]; simp
          have HO2 := Lib.hid hout
          have HOL := Lib.hid hol
          clear HO hout hol hsv hRv hkey hok hmem hp
          go_wp2_with (first
            | ((with_reducible refine gate_builtin (b := .append) (xs := #[.tmp 47, .tmp 53]) rfl ?_); at_builtin; refine Kd.R_append k66 (w0 := W5) W5.heap.size rfl (.tmp 47) (.tmp 53) 23 66 (.agg #[.string ⟨#[]⟩, .string ⟨#[]⟩]) 32 rfl Tryz.underlying23 info66 rfl (by decide) (by omega) (.slice A9 out.length cv9) out (bp p) [.string (B p.1), .string (B p.2)] (fun k => W5.heap.size ≤ k) (fun _ => False) rfl rfl ?aP (fun _ hk => hk.elim) (fun _ hk => Nat.le_trans (below_size HBL.out) hk) ?aO ?aB ?aS ?aL ?_; (case aP => exact k66_mkM _ _ _ (bp p)); (case aB => exact HBL.out); (case aO => exact HRL.out); (case aS => exact below_size HBL.out); (case aL => have := HOL.out; omega); intro v7 w7 ho hb7 hg7 hat7; obtain ⟨A7, c7, e7⟩ := Kd.R_slice ho; subst e7))
          go_roundg g
          case measure => omega
          rw [show (out ++ [bp p]).length = out.length + 1 from by simp] at ho
          case rel => exact ⟨i + 1, out ++ [bp p], by simp, by omega, Lib.hid HO2.out.symm, Lib.hid hb7, Lib.hid ho⟩
        · have hi2 : i = M.length := by omega
          have hi3 : ¬ ((i : Int) < (M.length : Int)) := by omega
          have q0 : wr.cell? ⟨w.heap.size, 0, none⟩ = some (.slice none 0 0) := (blk_cell HPL.out.b0 0).trans rfl
          have q1 : wr.cell? ⟨w.heap.size + 1, 0, none⟩ = some (.bool false) := (blk_cell HPL.out.b1 0).trans rfl
          have f0 := blk_frozen HPL.out.b0 0
          have f1 := blk_frozen HPL.out.b1 0
          go_wp2_with fail
          obtain ⟨W', hW'⟩ : ∃ W', (wr.setCell ⟨w.heap.size, 0, none⟩ (.slice A9 out.length cv9)).setCell ⟨w.heap.size + 1, 0, none⟩ (.bool true) = W' := ⟨_, rfl⟩
          rw [hW']
          have hwr : W5.heap.size ≤ wr.heap.size := below_size HBL.out
          have hw5 : W.heap.size ≤ W5.heap.size := below_size HB5.out
          have hK' : W'.heap[w.heap.size + 7]? = some (.deferred (some [])) := by
            rw [← hW', Below.heap_setCell _ _ _ _ (by show w.heap.size + 7 ≠ w.heap.size + 1; omega), Below.heap_setCell _ _ _ _ (by show w.heap.size + 7 ≠ w.heap.size; omega), HBL.out.block _ (by omega), HB5.out.block _ (by omega), ← hsz]
            exact HK.out
          have d0 : W'.heap[w.heap.size]? = some (.cells #[.slice A9 out.length cv9] 23 (0, 0)) := by
            rw [← hW']; exact blk_far (blk_put HPL.out.b0 0 _ rfl) (by show w.heap.size ≠ w.heap.size + 1; omega) _
          have d1 : W'.heap[w.heap.size + 1]? = some (.cells #[.bool true] 4 (0, 0)) := by
            rw [← hW']; exact blk_put (blk_far HPL.out.b1 (by show w.heap.size + 1 ≠ w.heap.size; omega) _) 0 _ rfl
          have ho : Kd.R k66 66 W' W5.heap.size (fun k => W5.heap.size ≤ k) (.slice A9 out.length cv9) out := by
            rw [← hW']; exact Kd.R_far (Kd.R_far HRL.out (fun k hk => by show k ≠ w.heap.size; omega) _) (fun k hk => by show k ≠ w.heap.size + 1; omega) _
          have hb : Below w.heap.size w W' := by rw [← hW']; exact (HPL.out.bel.setCell (by show w.heap.size ≤ w.heap.size; omega) _).setCell (by show w.heap.size ≤ w.heap.size + 1; omega) _
          have hg := grownBy_putObj' W' (w.heap.size + 7) (.deferred none)
          have q0 := (blk_cell (blk_grown d0 hg (fun e => by injection e with e; omega)) 0).trans rfl
          have q1 := (blk_cell (blk_grown d1 hg (fun e => by injection e with e; omega)) 0).trans rfl
          have hout : out = M.map bp := by rw [HO.out, hi2, List.take_length]
          refine ⟨by simp, .inl ⟨_, _, rfl, run_takeDeferred hK', ?_⟩⟩
          refine ⟨.tuple #[.slice A9 out.length cv9, .bool true], by simp [results, Tryz.results44, go_sem, q0, q1], hb.grown hg hb.size (fun k e => by injection e with e; omega), ?_⟩
          rw [HPN.out]
          refine ⟨_, rfl, ?_⟩
          rw [← hout]
          exact Kd.R_mono (Kd.R_lower (Kd.R_grown ho hg (fun k hk e => by injection e with e; omega)) (by omega)) (fun _ _ => trivial)
    case stop =>
      rintro W ⟨nn, M, h, h1⟩ hK
      have hpn : pairsOf (L s) = none := by
        unfold pairsOf
        rw [if_neg (by rw [← toList_L]; exact hem)]
        have := h1.out
        rw [List.map_map] at this
        rw [← this]
        congr 1
        conv => lhs; rw [← List.map_id (splitB 38 (L s))]
        exact List.map_congr_left (fun x _ => (L_B x).symm)
      gi_wp2
      have hg := grownBy_putObj' W W0.heap.size (.deferred none)
      have q0 := (blk_cell (blk_grown h.b0 hg (fun e => by injection e with e; omega)) 0).trans rfl
      have q1 := (blk_cell (blk_grown h.b1 hg (fun e => by injection e with e; omega)) 0).trans rfl
      refine ⟨by simp, .inl ⟨_, _, rfl, run_takeDeferred hK, ?_⟩⟩
      refine ⟨.tuple #[.slice none 0 0, .bool false], by simp [results, Tryz.results44, go_sem, q0, q1], h.bel.grown hg h.bel.size (fun k e => by injection e with e; omega), ?_⟩
      rw [hpn]
end Go.Proofs.YtmokgpepeddopaaGreatDoor.P
end
section
namespace Go.Proofs.YtmokgpepeddopaaGreatDoor.P
open Go.RowKit Go.Shelf Go.Proofs.YtmokgpepeddopaaGreatDoorW.PrintWords Go.Proofs.YtmokgpepeddopaaGreatDoorW.PrintLast Go.Proofs.YtmokgpepeddopaaGreatDoorW.PrintMore
open Go.Proofs.YtmokgpepeddopaaGreatDoor.Addr
set_option linter.unusedSimpArgs false
set_option linter.unusedVariables false
attribute [local go_sem] Oper.semAt_some
theorem wrap_in {x : Int} (h0 : 0 ≤ x) (h1 : x ≤ 9223372036854775807) : wrap64 x = x := by unfold wrap64; omega
theorem hasSuffix_f (a b : ByteArray) (ha : a.size ≤ 9223372036854775807) : stringslite_HasSuffix.f a b = some (isSuf (L b) (L a)) := by
  unfold stringslite_HasSuffix.f isSuf
  by_cases h : b.size ≤ a.size
  · have e : wrap64 ((a.size : Int) - (b.size : Int)) = (a.size : Int) - (b.size : Int) := wrap_in (by omega) (by omega)
    rw [if_pos (by omega), e, if_pos (by omega), if_pos (by omega)]
    have e2 : ((a.size : Int) - (b.size : Int)).toNat = a.size - b.size := by omega
    rw [e2, toList_L, toList_L, drop_extract, L_B, L_length, L_length, decide_eq_true h, Bool.true_and]
    congr 1
    rw [Bool.eq_iff_iff, beq_iff_eq, decide_eq_true_iff]
  · rw [if_neg (by omega)]
    simp [L_length, h]
theorem trimSuffix_f (s : ByteArray) (hs : s.size ≤ 9223372036854775807) : strings_TrimSuffix.f s (⟨#[47]⟩ : ByteArray) = some (B (trimS (L s))) := by
  unfold strings_TrimSuffix.f stringslite_TrimSuffix.f
  have h47 : L (⟨#[47]⟩ : ByteArray) = [47] := rfl
  have hsz : ((⟨#[47]⟩ : ByteArray).size : Int) = 1 := rfl
  rw [hasSuffix_f s _ hs, h47, hsz]
  simp only [Option.bind_some]
  unfold trimS
  by_cases h : (L s).getLast? = some 47
  · have hsuf : isSuf [47] (L s) = true := by
      rw [isSuf_iff]
      exact List.getLast?_eq_some_iff.1 h
    have hpos : 1 ≤ s.size := by
      rw [← L_length]
      cases e : L s with
      | nil => rw [e] at h; cases h
      | cons a b => simp
    have e : wrap64 ((s.size : Int) - 1) = (s.size : Int) - 1 := wrap_in (by omega) (by omega)
    rw [hsuf, if_pos rfl, e, if_pos (by omega), if_pos (by omega), if_pos h]
    have e2 : ((s.size : Int) - 1).toNat = s.size - 1 := by omega
    simp only [Option.bind_some]
    rw [e2, take_extract, List.dropLast_eq_take, L_length]
  · have hsuf : isSuf [47] (L s) = false := by
      rw [Bool.eq_false_iff]
      intro hh
      obtain ⟨b, e⟩ := isSuf_iff.1 hh
      exact h (by rw [e]; simp)
    rw [hsuf, if_neg h, B_L]
    simp
theorem nothing_seq (C m0 n0 : Nat) (w : World) : SeqC Tryz.prog 42 #[] C m0 n0 [] w := by
  intro l J Jx W hb hJ hX hY hJ0
  have HJ0 := Lib.hid hJ0
  clear hJ hX hY hJ0 hb
  refine callsIn_of_wp Tryz.func42 rfl trivial ?_ rfl
  simp only [Tryz.ntmps42, List.size_toArray, List.length_cons, List.length_nil, Nat.reduceAdd, Nat.reduceSub, Array.replicate_succ, Array.replicate_zero, List.push_toArray, List.append_toArray, List.nil_append, List.cons_append]
  gi_wp2
  go_end0
  exact ⟨⟨_, rfl⟩, .inl HJ0.out⟩
def address_Parse.f (s : ByteArray) : Option (ByteArray × List ByteArray × List S66 × Int) :=
  match parse (L s) with
  | .ok a => some (B a.cust, a.path.map B, a.query.map bp, 0)
  | .error e => some (⟨#[]⟩, [], [], (e : Int))
def parseR (cust : Str) (path : Option (List Str)) (q : Option (List Addr.Pair)) : ByteArray × List ByteArray × List S66 × Int :=
  if name cust = true ∧ path.isSome = true ∧ q.isSome = true then (if 32 < (path.getD []).length ∨ 16 < (q.getD []).length then (⟨#[]⟩, [], [], 2) else (B cust, (path.getD []).map B, (q.getD []).map bp, 0)) else (⟨#[]⟩, [], [], 3)
theorem parse_f {s : ByteArray} {left query cust : Str} {parts : List Str} {b0 : Bool} (hs : ¬ 4096 < s.size) (hc1 : cutB 63 (low (L s)) = (left, query, b0)) (hsp : splitB 47 (trimS left) = cust :: parts) :
    address_Parse.f s = some (parseR cust (Addr.resolve parts []) (pairsOf query)) := by
  unfold address_Parse.f parse parseR
  rw [if_neg (by rw [L_length]; exact hs), hc1]
  simp only [hsp]
  cases hq : pairsOf query with
  | none => simp
  | some q =>
    cases hr : Addr.resolve parts [] with
    | none => simp [hr]
    | some p =>
      cases hn : name cust with
      | false => simp [hr, hn]
      | true =>
        by_cases hl : 32 < p.length ∨ 16 < q.length <;> simp [hr, hn, hl]
theorem resolve_uni {B0 : Nat} {xs : List ByteArray} {w w' : World} {e : Ending} (h : resolve_post B0 xs w e w') :
    ∃ v, e = .returned (.tuple #[v, .bool (Addr.resolve (xs.map L) []).isSome]) ∧ Kd.R Kd.string 9 w' w.heap.size (fun _ => True) v (((Addr.resolve (xs.map L) []).getD []).map B) ∧ Below B0 w w' := by
  obtain ⟨hb, h⟩ := h
  cases hr : Addr.resolve (xs.map L) [] with
  | none => rw [hr] at h; exact ⟨_, h, Kd.R_nil _ _ _ _ _, hb⟩
  | some l => rw [hr] at h; obtain ⟨v, he, hR⟩ := h; exact ⟨v, he, hR, hb⟩
theorem pairs_uni {B0 : Nat} {s : ByteArray} {w w' : World} {e : Ending} (h : pairs_post B0 s w e w') :
    ∃ v, e = .returned (.tuple #[v, .bool (pairsOf (L s)).isSome]) ∧ Kd.R k66 66 w' w.heap.size (fun _ => True) v (((pairsOf (L s)).getD []).map bp) ∧ Below B0 w w' := by
  obtain ⟨hb, h⟩ := h
  cases hr : pairsOf (L s) with
  | none => rw [hr] at h; exact ⟨_, h, Kd.R_nil _ _ _ _ _, hb⟩
  | some l => rw [hr] at h; obtain ⟨v, he, hR⟩ := h; exact ⟨v, he, hR, hb⟩
theorem seqW_seq (W : World) (s : ByteArray) (c : UInt8) (hs : s.size ≤ 9223372036854775806) :
    SeqC Tryz.prog 114 #[.pointer (some ⟨W.heap.size + 1, 0, none⟩), .pointer (some ⟨W.heap.size, 0, none⟩), .pointer (some ⟨W.heap.size + 2, 0, none⟩)] W.heap.size W.heap.size (W.heap.size + 3) ((splitB c (L s)).map B) (seqW W s c)
    ∧ (seqW W s c).heap.size = W.heap.size + 3 ∧ Below W.heap.size W (seqW W s c) := by
  have e0 : (seqW W s c).heap[W.heap.size]? = some (.cells #[.string s] 9 (0, 0)) := blk_alloc (blk_alloc (blk_new _ _) _) _
  have e1 : (seqW W s c).heap[W.heap.size + 1]? = some (.cells #[.string ⟨#[c]⟩] 9 (0, 0)) := by
    have := blk_new (W.alloc (.cells #[.string s] 9)) (.cells #[.string ⟨#[c]⟩] 9)
    rw [World.size_alloc] at this
    exact blk_alloc this _
  have e2 : (seqW W s c).heap[W.heap.size + 2]? = some (.cells #[.int .i64 0] 3 (0, 0)) := by
    have := blk_new ((W.alloc (.cells #[.string s] 9)).alloc (.cells #[.string ⟨#[c]⟩] 9)) (.cells #[.int .i64 0] 3)
    simpa [seqW] using this
  exact ⟨splitSeq_seq s c W.heap.size (W.heap.size + 3) (Nat.le_refl _) hs _ ((blk_cell e0 0).trans rfl) (blk_frozen e0 0) ((blk_cell e1 0).trans rfl) ((blk_cell e2 0).trans rfl), by simp [seqW], below_alloc (below_alloc (below_alloc (Below.refl _ _) _) _) _⟩
theorem parse1_eg : ∀ args W, (callFunc 42 args).run Tryz.prog W = .ok (.enter 42 args) W :=
  fun args W => enters_ Tryz.func42 (by kernel_rfl) rfl args W
theorem resolve_split (W : World) (rest : Str) (hr : rest.length ≤ 4096) :
    Calls Tryz.prog 43 #[seqV W.heap.size] (seqW W (B rest) 47) fun e W6 => ∃ v, e = .returned (.tuple #[v, .bool (Addr.resolve (splitB 47 rest) []).isSome]) ∧ Kd.R Kd.string 9 W6 W.heap.size (fun _ => True) v (((Addr.resolve (splitB 47 rest) []).getD []).map B) ∧ Below W.heap.size W W6 := by
  obtain ⟨h1, h2, h3⟩ := seqW_seq W (B rest) 47 (by rw [B_size]; omega)
  have hl := splitB_length_le 47 rest
  rw [L_B] at h1
  have hrv := resolve_calls 114 _ splitSeq_eg W.heap.size W.heap.size (W.heap.size + 3) W.heap.size _ _ (by rw [List.length_map]; omega) (by omega) (by omega) (Nat.le_refl _) h1
  refine Calls.mono (show Calls Tryz.prog 43 #[seqV W.heap.size] _ _ from hrv) ?_
  intro e W6 hp
  obtain ⟨v, he, hR, hb⟩ := resolve_uni hp
  have e2 : ((splitB 47 rest).map B).map L = splitB 47 rest := by
    rw [List.map_map]
    conv => rhs; rw [← List.map_id (splitB 47 rest)]
    exact List.map_congr_left (fun x _ => L_B x)
  rw [e2] at he hR
  exact ⟨v, he, Kd.R_lower hR (by omega), h3.trans hb⟩
theorem resolve_nothing (W : World) (rest : Str) (hr : rest.length ≤ 4096) :
    Calls Tryz.prog 43 #[.func (.func 42) #[] #[]] (seqW W (B rest) 47) fun e W6 => ∃ v, e = .returned (.tuple #[v, .bool (Addr.resolve [] []).isSome]) ∧ Kd.R Kd.string 9 W6 W.heap.size (fun _ => True) v (((Addr.resolve [] []).getD []).map B) ∧ Below W.heap.size W W6 := by
  obtain ⟨h1, h2, h3⟩ := seqW_seq W (B rest) 47 (by rw [B_size]; omega)
  have hrv := resolve_calls 42 _ parse1_eg W.heap.size W.heap.size (W.heap.size + 3) W.heap.size [] (seqW W (B rest) 47) (by simp) (by omega) (by omega) (Nat.le_refl _) (nothing_seq _ _ _ _)
  refine hrv.mono ?_
  intro e W6 hp
  obtain ⟨v, he, hR, hb⟩ := resolve_uni hp
  exact ⟨v, he, Kd.R_lower hR (by omega), h3.trans hb⟩
theorem far3 {α : Type} {d : Kd α} {e base h : Nat} {ok : Nat → Prop} {v : Value} {xs : List α} {W : World} (hb : h < base) (hR : d.R e W base ok v xs) (a b c : Value) :
    d.R e (((W.setCell ⟨h, 0, none⟩ a).setCell ⟨h, 1, none⟩ b).setCell ⟨h, 2, none⟩ c) base (fun _ => True) v xs :=
  Kd.R_mono (Kd.R_far (Kd.R_far (Kd.R_far (Kd.R_bound hR) (fun k hk => by have := hk.2.1; show k ≠ h; omega) a) (fun k hk => by have := hk.2.1; show k ≠ h; omega) b) (fun k hk => by have := hk.2.1; show k ≠ h; omega) c) (fun _ _ => trivial)
theorem parse_end {w W8 : World} {c0 c1 c2 v1 v2 : Value} {r1 : ByteArray} {r2 : List ByteArray} {r3 : List S66} {r4 : Int}
    (hk : W8.heap[w.heap.size]? = some (.cells #[c0, c1, c2] 25 (0, 0))) (hb : Below w.heap.size w W8)
    (h1 : Kd.R Kd.string 9 (((W8.setCell ⟨w.heap.size, 0, none⟩ (.string r1)).setCell ⟨w.heap.size, 1, none⟩ v1).setCell ⟨w.heap.size, 2, none⟩ v2) (w.heap.size + 1) (fun _ => True) v1 r2)
    (h2 : Kd.R k66 66 (((W8.setCell ⟨w.heap.size, 0, none⟩ (.string r1)).setCell ⟨w.heap.size, 1, none⟩ v1).setCell ⟨w.heap.size, 2, none⟩ v2) (w.heap.size + 1) (fun _ => True) v2 r3)
    (tm : Array Value) (ds : List Deferred) (hd : ds = []) (ht : (tm[2]?, tm[3]?) = (some (.pointer (some ⟨w.heap.size, 0, none⟩)), some (.int .i64 r4))) :
    bodyPost Tryz.prog Tryz.f12 (fun e w' => ∃ v1_ v2_ : Value, e = .returned (.tuple #[.agg #[.string r1, v1_, v2_], .int .i64 r4]) ∧ Kd.R Kd.string 9 w' w.heap.size (fun _ => True) v1_ r2 ∧ Kd.R k66 66 w' w.heap.size (fun _ => True) v2_ r3 ∧ Below w.heap.size w w') Exit.ret { tmps := tm, defers := ds }
      (((W8.setCell ⟨w.heap.size, 0, none⟩ (.string r1)).setCell ⟨w.heap.size, 1, none⟩ v1).setCell ⟨w.heap.size, 2, none⟩ v2) := by
  have hb9 := blk_put (blk_put (blk_put hk 0 (.string r1) rfl) 1 v1 rfl) 2 v2 rfl
  have p0 := (blk_cell hb9 0).trans rfl
  have p1 := (blk_cell hb9 1).trans rfl
  have p2 := (blk_cell hb9 2).trans rfl
  injection ht with t2 t3
  subst hd
  refine bodyPost_ret (v := .tuple #[.agg #[.string r1, v1, v2], .int .i64 r4]) (by simp [results, Tryz.results12, go_sem, p0, p1, p2, t2, t3]) rfl ⟨_, _, rfl, Kd.R_lower h1 (by omega), Kd.R_lower h2 (by omega), ((hb.setCell (Nat.le_refl _) _).setCell (Nat.le_refl _) _).setCell (Nat.le_refl _) _⟩
set_option maxRecDepth 100000 in
set_option maxHeartbeats 4000000 in
theorem address_Parse.calls (a0 : ByteArray) (r1 : ByteArray) (r2 : List ByteArray) (r3 : List S66) (r4 : Int) (w : World) (h : address_Parse.f a0 = some (r1, r2, r3, r4)) :
    Calls Tryz.prog 12 #[.string a0] w fun e w' => ∃ v1_ v2_ : Value, e = .returned (.tuple #[.agg #[.string r1, v1_, v2_], .int .i64 r4]) ∧ Kd.R Kd.string 9 w' w.heap.size (fun _ => True) v1_ r2 ∧ Kd.R k66 66 w' w.heap.size (fun _ => True) v2_ r3 ∧ Below w.heap.size w w' := by
  have hu := Tryz.underlying25
  by_cases hs : 4096 < a0.size
  · have hf : address_Parse.f a0 = some (⟨#[]⟩, [], [], 2) := by
      unfold address_Parse.f parse
      rw [if_pos (by rw [L_length]; exact hs)]
      rfl
    have HF := Lib.hid (hf.symm.trans h)
    clear hf h
    have hs2 : (4096 : Int) < (a0.size : Int) := by omega
    go_enter Tryz.func12, Tryz.ntmps12
    go_wp2_with fail
    have hf := HF.out
    injection hf with hf; injection hf with h1 hf; injection hf with h2 hf; injection hf with h3 h4
    subst h1 h2 h3 h4
    have hk := blk_new w (.cells #[.string ⟨#[]⟩, .slice none 0 0, .slice none 0 0] 25)
    have p0 := (blk_cell hk 0).trans rfl
    have p1 := (blk_cell hk 1).trans rfl
    have p2 := (blk_cell hk 2).trans rfl
    refine bodyPost_ret (v := .tuple #[.agg #[.string ⟨#[]⟩, .slice none 0 0, .slice none 0 0], .int .i64 2]) (by simp [results, Tryz.results12, go_sem, p0, p1, p2]) rfl ⟨_, _, rfl, Kd.R_nil _ _ _ _ _, Kd.R_nil _ _ _ _ _, below_alloc (Below.refl _ _) _⟩
  · have hs2 : ¬ (4096 : Int) < (a0.size : Int) := by omega
    obtain ⟨left, query, b0, hc1⟩ : ∃ x y z, cutB 63 (low (L a0)) = (x, y, z) := ⟨_, _, _, rfl⟩
    obtain ⟨cust, rest, more, hc2⟩ : ∃ x y z, cutB 47 (trimS left) = (x, y, z) := ⟨_, _, _, rfl⟩
    have hsp : splitB 47 (trimS left) = cust :: (if more then splitB 47 rest else []) := by rw [splitB_cut, hc2]
    have hl1 : left.length ≤ 4096 ∧ query.length ≤ 4096 := by
      have e := congrArg List.length (cutB_eq 63 (low (L a0)))
      have e2 := cutB_rest 63 (low (L a0))
      rw [hc1, low_length, L_length, List.length_append] at e
      rw [hc1] at e2
      cases b0 with
      | true => simp at e; omega
      | false => have := e2 rfl; simp at e this; subst this; simp; omega
    have hl2 : (trimS left).length ≤ 4096 := by
      unfold trimS; split
      · simp; omega
      · exact hl1.1
    have hl3 : rest.length ≤ 4096 := by
      have e := congrArg List.length (cutB_eq 47 (trimS left))
      have e2 := cutB_rest 47 (trimS left)
      rw [hc2, List.length_append] at e
      rw [hc2] at e2
      cases more with
      | true => simp at e; omega
      | false => have := e2 rfl; simp at this; subst this; simp
    have HL : Hid (address_lower.f a0 = some (B (low (L a0)))) := Lib.hid (by unfold address_lower.f; rw [if_pos (by omega)])
    have HC1 : Hid (strings_Cut.f (B (low (L a0))) (⟨#[63]⟩ : ByteArray) = some (B left, B query, b0)) := Lib.hid (by
      show (if (B (low (L a0))).size ≤ 9223372036854775806 then some (B (cutB 63 (L (B (low (L a0))))).1, B (cutB 63 (L (B (low (L a0))))).2.1, (cutB 63 (L (B (low (L a0))))).2.2) else none) = _
      rw [if_pos (by rw [B_size, low_length, L_length]; omega), L_B, hc1])
    have HT : Hid (strings_TrimSuffix.f (B left) (⟨#[47]⟩ : ByteArray) = some (B (trimS left))) := Lib.hid (by rw [trimSuffix_f _ (by rw [B_size]; omega), L_B])
    have HC2 : Hid (strings_Cut.f (B (trimS left)) (⟨#[47]⟩ : ByteArray) = some (B cust, B rest, more)) := Lib.hid (by
      show (if (B (trimS left)).size ≤ 9223372036854775806 then some (B (cutB 47 (L (B (trimS left)))).1, B (cutB 47 (L (B (trimS left)))).2.1, (cutB 47 (L (B (trimS left)))).2.2) else none) = _
      rw [if_pos (by rw [B_size]; omega), L_B, hc2])
    have HN : Hid (address_isName.f (B cust) = some (name cust)) := Lib.hid (by rw [isName_f, L_B])
    have hqs : (B query).size < 4294967296 := by rw [B_size]; omega
    have hrs : (B rest).size ≤ 9223372036854775806 := by rw [B_size]; omega
    have HF := Lib.hid ((parse_f hs hc1 hsp).symm.trans h)
    have hpl : (splitB 47 rest).length ≤ 4097 := by have := splitB_length_le 47 rest; omega
    have hR : ∀ W : World, Calls Tryz.prog 43 #[if more = true then seqV W.heap.size else .func (.func 42) #[] #[]] (seqW W (B rest) 47) fun e W6 => ∃ v, e = .returned (.tuple #[v, .bool (Addr.resolve (if more = true then splitB 47 rest else []) []).isSome]) ∧ Kd.R Kd.string 9 W6 W.heap.size (fun _ => True) v (((Addr.resolve (if more = true then splitB 47 rest else []) []).getD []).map B) ∧ Below W.heap.size W W6 := fun W => by
      cases more with
      | true => exact resolve_split W rest hl3
      | false => exact resolve_nothing W rest hl3
    have HR := Lib.hid hR
    clear h hsp hc1 hc2 hl1 hl2 hR
    generalize Addr.resolve (if more = true then splitB 47 rest else []) [] = path at HF HR
    generalize hqs2 : pairsOf query = qs at HF
    have HQ : Hid (∀ W : World, Calls Tryz.prog 44 #[.string (B query)] W fun e W7 => ∃ v, e = .returned (.tuple #[v, .bool qs.isSome]) ∧ Kd.R k66 66 W7 W.heap.size (fun _ => True) v ((qs.getD []).map bp) ∧ Below W.heap.size W W7) := Lib.hid fun W => (pairs_calls _ W hqs).mono fun e W7 hp => by
      have := pairs_uni hp
      rwa [L_B, hqs2] at this
    clear hqs2 hqs hrs hpl hl3
    generalize B (low (L a0)) = lo at HL HC1
    generalize trimS left = tr at HT HC2
    cases more
    all_goals simp only [Bool.false_eq_true, if_false, if_true] at HR
    all_goals go_enter Tryz.func12, Tryz.ntmps12
    all_goals go_wp2_with (first
      | (go_at_call 39; (with_reducible refine (address_lower.calls _ _ _ HL.out).mono ?_); rintro e W1 ⟨rfl, hd⟩; have HB1 := Lib.hid hd; clear hd)
      | (go_at_call 38; (with_reducible refine (strings_Cut.calls _ _ _ _ _ _ HC1.out).mono ?_); rintro e W2 ⟨rfl, hd⟩; have HB2 := Lib.hid (HB1.out.trans (hd.below.mono (below_size HB1.out))); clear hd)
      | (go_at_call 40; (with_reducible refine (strings_TrimSuffix.calls _ _ _ _ HT.out).mono ?_); rintro e W3 ⟨rfl, hd⟩; have HB3 := Lib.hid (HB2.out.trans (hd.below.mono (below_size HB2.out))); clear hd)
      | (go_at_call 38; (with_reducible refine (strings_Cut.calls _ _ _ _ _ _ HC2.out).mono ?_); rintro e W4 ⟨rfl, hd⟩; have HB4 := Lib.hid (HB3.out.trans (hd.below.mono (below_size HB3.out))); clear hd)
      | (go_at_call 41; (with_reducible refine (splitSeq_calls _ _ _).mono ?_); rintro e W5 ⟨rfl, rfl⟩)
      | (go_at_call 43; (with_reducible refine (HR.out _).mono ?_); rintro e W6 ⟨v6, rfl, ho6, hb6⟩; have HB6 := Lib.hid (HB4.out.trans (hb6.mono (below_size HB4.out))); have HO6 := Lib.hid (Kd.R_lower ho6 (below_size HB4.out)); clear ho6 hb6)
      | (go_at_call 44; (with_reducible refine (HQ.out _).mono ?_); rintro e W7 ⟨v7, rfl, ho7, hb7⟩; have HB7 := Lib.hid (HB6.out.trans (hb7.mono (below_size HB6.out))); have HO7 := Lib.hid (Kd.R_lower ho7 (below_size HB6.out)); have HO6' := Lib.hid (Kd.R_below HO6.out hb7); clear ho7 hb7 HO6))
    all_goals (
      clear HB1 HB2 HB3 HB4 HB6 HL HC1 HT HC2 HR HQ hs
      have hk8 : ∀ W8, Below W7.heap.size W7 W8 → Hid (W8.heap[w.heap.size]? = some (.cells #[.string ⟨#[]⟩, .slice none 0 0, .slice none 0 0] 25 (0, 0)) ∧ Below w.heap.size w W8 ∧ Kd.R Kd.string 9 W8 (w.heap.size + 1) (fun _ => True) v6 ((path.getD []).map B) ∧ Kd.R k66 66 W8 (w.heap.size + 1) (fun _ => True) v7 ((qs.getD []).map bp)) := fun W8 h8 => Lib.hid (by
        have h7 := HB7.out.trans (h8.mono (below_size HB7.out))
        refine ⟨(h7.block w.heap.size (by simp)).trans (blk_new w _), (below_alloc (Below.refl w.heap.size w) _).trans (h7.mono (by simp)), Kd.R_below (Kd.R_lower HO6'.out (by simp)) h8, Kd.R_below (Kd.R_lower HO7.out (by simp)) h8⟩)
      have HK8 := Lib.hid hk8
      clear hk8 HO6' HO7 HB7
      obtain ⟨A6, c6, e6⟩ := Kd.R_slice (HK8.out W7 (Below.refl _ _)).out.2.2.1
      obtain ⟨A7, c7, e7⟩ := Kd.R_slice (HK8.out W7 (Below.refl _ _)).out.2.2.2
      rw [List.length_map] at e6 e7
      subst e6 e7
      by_cases hall : name cust = true ∧ path.isSome = true ∧ qs.isSome = true
      · have hf : (if 32 < (path.getD []).length ∨ 16 < (qs.getD []).length then (⟨#[]⟩, [], [], 2) else (B cust, (path.getD []).map B, (qs.getD []).map bp, 0)) = (r1, r2, r3, r4) := by
          have := Option.some.inj HF.out
          unfold parseR at this
          rwa [if_pos hall] at this
        have HF3 := Lib.hid hf
        obtain ⟨hn1, hn2, hn3⟩ := hall
        rw [hn1] at HN
        rw [hn2, hn3]
        clear hn1 hn2 hn3 hf
        go_wp2_with (go_at_call 45; (with_reducible refine (address_isName.calls _ _ _ HN.out).mono ?_); rintro e W8 ⟨rfl, hd⟩; have HK9 := HK8.out _ hd; clear hd; have p0 := (blk_cell HK9.out.1 0).trans rfl; have p1 := (blk_cell HK9.out.1 1).trans rfl; have p2 := (blk_cell HK9.out.1 2).trans rfl; have f0 := blk_frozen HK9.out.1 0; have f1 := blk_frozen HK9.out.1 1; have f2 := blk_frozen HK9.out.1 2)
        all_goals clear p0 p1 p2 f0 f1 f2
        all_goals first
          | (have hf := HF3.out; rw [if_neg (by omega)] at hf; injection hf with h1 hf; injection hf with h2 hf; injection hf with h3 h4; subst h1 h2 h3 h4
             exact parse_end HK9.out.1 HK9.out.2.1 (far3 (by omega) HK9.out.2.2.1 _ _ _) (far3 (by omega) HK9.out.2.2.2 _ _ _) _ _ (by rfl) (by rfl))
          | (have hf := HF3.out; rw [if_pos (by omega)] at hf; injection hf with h1 hf; injection hf with h2 hf; injection hf with h3 h4; subst h1 h2 h3 h4
             exact parse_end HK9.out.1 HK9.out.2.1 (Kd.R_nil _ _ _ _ _) (Kd.R_nil _ _ _ _ _) _ _ (by rfl) (by rfl))
      · have hf : ((⟨#[]⟩, [], [], 3) : ByteArray × List ByteArray × List S66 × Int) = (r1, r2, r3, r4) := by
          have := Option.some.inj HF.out
          unfold parseR at this
          rwa [if_neg hall] at this
        have hways : name cust = false ∨ (name cust = true ∧ path.isSome = false) ∨ (name cust = true ∧ path.isSome = true ∧ qs.isSome = false) := by
          cases hn1 : name cust
          · exact .inl rfl
          · cases hn2 : path.isSome
            · exact .inr (.inl ⟨rfl, rfl⟩)
            · cases hn3 : qs.isSome
              · exact .inr (.inr ⟨rfl, rfl, rfl⟩)
              · exact absurd ⟨hn1, hn2, hn3⟩ hall
        injection hf with h1 hf; injection hf with h2 hf; injection hf with h3 h4
        subst h1 h2 h3 h4
        clear hall HF
        rcases hways with hn1 | ⟨hn1, hn2⟩ | ⟨hn1, hn2, hn3⟩
        all_goals rw [hn1] at HN
        all_goals (try rw [hn2])
        all_goals (try rw [hn3])
        all_goals (try clear hn1)
        all_goals (try clear hn2)
        all_goals (try clear hn3)
        all_goals go_wp2_with (go_at_call 45; (with_reducible refine (address_isName.calls _ _ _ HN.out).mono ?_); rintro e W8 ⟨rfl, hd⟩; have HK9 := HK8.out _ hd; clear hd; have p0 := (blk_cell HK9.out.1 0).trans rfl; have p1 := (blk_cell HK9.out.1 1).trans rfl; have p2 := (blk_cell HK9.out.1 2).trans rfl; have f0 := blk_frozen HK9.out.1 0; have f1 := blk_frozen HK9.out.1 1; have f2 := blk_frozen HK9.out.1 2)
        all_goals clear p0 p1 p2 f0 f1 f2
        all_goals exact parse_end HK9.out.1 HK9.out.2.1 (Kd.R_nil _ _ _ _ _) (Kd.R_nil _ _ _ _ _) _ _ (by rfl) (by rfl))
end Go.Proofs.YtmokgpepeddopaaGreatDoor.P
end
section
namespace Go.Proofs.YtmokgpepeddopaaGreatDoor.P
open Go.RowKit Go.Proofs.YtmokgpepeddopaaGreatDoorW.PrintWords Go.Proofs.YtmokgpepeddopaaGreatDoorW.PrintLast Go.Proofs.YtmokgpepeddopaaGreatDoorW.PrintMore
open Go.Proofs.YtmokgpepeddopaaGreatDoor.Addr
set_option linter.unusedSimpArgs false
set_option linter.unusedVariables false
theorem rdOf_at {xs : List ByteArray} {n : Nat} {x : ByteArray} (h : xs[n]? = some x) : rdOf ByteArray.empty xs (n : Int) = x := by simp [rdOf, h]
theorem LB_map (l : List Str) : (l.map B).map L = l := by
  rw [List.map_map]
  conv => rhs; rw [← List.map_id l]
  exact List.map_congr_left (fun x _ => L_B x)
theorem split_part {c : UInt8} {s x : Str} (h : x ∈ splitB c s) : x.length ≤ s.length := by
  have e1 := splitB_len c s
  obtain ⟨a, b, hab⟩ := List.append_of_mem h
  rw [hab, plen_append] at e1
  have : plen (x :: b) = x.length + 1 + plen b := by simp [plen]
  omega
theorem less_blt (a b : List UInt8) : Op.bytesLess a b = blt a b := by
  induction a generalizing b with
  | nil => cases b <;> rfl
  | cons x l ih =>
    cases b with
    | nil => rfl
    | cons y m => simp [Op.bytesLess, blt, ih]
theorem rd_T_at {xs : List S66} {n : Nat} {x : S66} (h : xs[n]? = some x) : rd_T66 xs (n : Int) = x := by simp [rd_T66, h]
def pairsR : Option (List Addr.Pair) → List S66 × Bool
  | some r => (r.map bp, true)
  | none => ([], false)
end Go.Proofs.YtmokgpepeddopaaGreatDoor.P
end
section
namespace Go.Proofs.YtmokgpepeddopaaGreatDoor.P
open Go.RowKit Go.Proofs.YtmokgpepeddopaaGreatDoorW.PrintWords Go.Proofs.YtmokgpepeddopaaGreatDoorW.PrintLast Go.Proofs.YtmokgpepeddopaaGreatDoorW.PrintMore
attribute [local go_sem] max2_int min2_int max_two min_two max_three min_three max_four min_four
attribute [local go_sem high] binOp_string_leq2 binOp_string_gtr2
set_option linter.unusedVariables false
set_option linter.unusedSimpArgs false
def address_Canonical.f (k : Nat) (a0 : ByteArray) : Option (ByteArray × Int) := (address_Parse.f a0).bind fun bt101 => (if bt101.2.2.2 = 0 then ((address_Text.f k bt101.1 bt101.2.1 bt101.2.2.1).bind fun bt110 => (some (bt110.1, bt110.2))) else (some ((⟨#[]⟩ : ByteArray), bt101.2.2.2)))
set_option maxRecDepth 100000 in
theorem address_Canonical.lf {p : Prop} (h : p := by
 go_wp2_with (first
 | ((with_reducible refine gate_callee (f := 12) rfl ?_); refine goesL_ (some 8) rfl rfl Tryz.func12 (by kernel_rfl) rfl #[.string a0] rfl zl ?_; (with_reducible refine (address_Parse.calls _ _ _ _ _ _ A2.out).mono ?_); rintro e wz0 ⟨v103, v106, rfl, ho0, ho1, hb⟩; refine ⟨_, rfl, ?_⟩; have HO104 := Aside0.mk (Kd.R_lower ho0 (below_size zB)); have HO107 := Aside0.mk (Kd.R_lower ho1 (below_size zB)); replace HB := sb w hb; clear hb ho0 ho1)
 | ((with_reducible refine gate_dst (N := 4) rfl ?_); refine bx 4 #[.string (⟨#[]⟩ : ByteArray), .slice none 0 0, .slice none 0 0] 25 fun gb109 hg wz1 hbox hb => ?_; replace HO104 := rb HO104 hb; replace HO107 := rb HO107 hb; have BK109 := Aside0.mk (hbox); have GW109 := gw w hg; have GE109 := gw w hg; replace HB := sb w hb; clear hb hbox hg; obtain ⟨hczz2_0, hczz2_1, hczz2_2, hfzz2_0, hfzz2_1, hfzz2_2⟩ := cf3 BK109; obtain ⟨Aoz3, coz3, eoz3⟩ := Kd.R_slice HO104.out; subst eoz3; obtain ⟨Aoz4, coz4, eoz4⟩ := Kd.R_slice HO107.out; subst eoz4)
 | ((with_reducible refine gate_callee (f := 14) rfl ?_); refine goesL_ (some 15) rfl rfl Tryz.func14 (by kernel_rfl) rfl #[.agg #[.string t101, .slice Aoz3 t102.length coz3, .slice Aoz4 t105.length coz4]] rfl zl ?_; (with_reducible refine (address_Text.calls _ _ _ _ _ _ _ _ _ _ _ ?side1 ?side2 ?side3 ?side4 A4.out).mono ?_); (case side1 => refine (Kd.R_reads' (e := 9) (base := w.heap.size) (ok := fun k_ => True) (n := t102.length) (c := coz3) ?_).2.2; exact (kt HO104 BK109)); (case side2 => exact (Kd.R_reads' HO104.out).2.1); (case side3 => refine (Kd.R_reads' (e := 66) (base := w.heap.size) (ok := fun k_ => True) (n := t105.length) (c := coz4) ?_).2.2; exact (kt HO107 BK109)); (case side4 => exact (Kd.R_reads' HO107.out).2.1); rintro e wz5 ⟨rfl, hb⟩; refine ⟨_, rfl, ?_⟩; replace HO104 := rt HO104 BK109 hb; replace HO107 := rt HO107 BK109 hb; replace BK109 := bw #[.string t101, .slice Aoz3 t102.length coz3, .slice Aoz4 t105.length coz4] BK109 hb; replace HB := sb w hb; clear hb))
 go_ret2; exact ⟨zE, zB⟩) : p := h
set_option maxHeartbeats 8000000 in
set_option maxRecDepth 100000 in
theorem address_Canonical.calls (k : Nat) (a0 : ByteArray) (r1 : ByteArray) (r2 : Int) (w : World) (h : address_Canonical.f k a0 = some (r1, r2)) :
  Calls Tryz.prog 13 #[.string a0] w fun e w' => e = .returned (.tuple #[.string r1, .int .i64 r2]) ∧ Below w.heap.size w w' := by
 have hu25 := Tryz.underlying25
 have HB := Aside0.mk (Below.refl w.heap.size w)
 have H : ((address_Parse.f a0).bind fun bt101 => (if bt101.2.2.2 = 0 then ((address_Text.f k bt101.1 bt101.2.1 bt101.2.2.1).bind fun bt110 => (some (bt110.1, bt110.2))) else (some ((⟨#[]⟩ : ByteArray), bt101.2.2.2)))) = some (r1, r2) := h
 clear h
 obtain ⟨⟨t101, t102, t105, t108⟩, A2, H⟩ := bd H
 dsimp only at H
 by_cases c3 : t108 = 0
 ·rw [if_pos c3] at H
  have c3b0 : (t108 == 0) = true := beq_iff_eq.mpr c3
  have c3b1 : (t108 != 0) = false := bne_eq_false_iff_eq.mpr c3
  clear c3
  obtain ⟨⟨t110, t111⟩, A4, H⟩ := bd H
  dsimp only at H
  simp only [Option.some.injEq, Prod.mk.injEq] at H
  obtain ⟨rfl, rfl⟩ := H
  go_enter Tryz.func13, Tryz.ntmps13
  exact address_Canonical.lf
 ·rw [if_neg c3] at H
  have c3b0 : (t108 == 0) = false := beq_eq_false_iff_ne.mpr c3
  have c3b1 : (t108 != 0) = true := bne_iff_ne.mpr c3
  simp only [Option.some.injEq, Prod.mk.injEq] at H
  obtain ⟨rfl, rfl⟩ := H
  go_enter Tryz.func13, Tryz.ntmps13
  exact address_Canonical.lf
end Go.Proofs.YtmokgpepeddopaaGreatDoor.P
end
section
namespace Go.Proofs.YtmokgpepeddopaaGreatDoor.P
open Go.RowKit Go.Proofs.YtmokgpepeddopaaGreatDoorW.PrintWords Go.Proofs.YtmokgpepeddopaaGreatDoorW.PrintLast Go.Proofs.YtmokgpepeddopaaGreatDoorW.PrintMore
open Go.Proofs.YtmokgpepeddopaaGreatDoor.Addr
set_option linter.unusedSimpArgs false
set_option linter.unusedVariables false
def qsOk : Option Str → List Addr.Pair → Bool
  | _, [] => true
  | prev, p :: r => name p.1 && word p.2 && (match prev with | none => true | some k => blt k p.1) && qsOk (some p.1) r
def okB (a : Ad) : Bool := name a.cust && decide (a.path.length ≤ 32) && decide (a.query.length ≤ 16) && a.path.all word && qsOk none a.query
theorem qsOk_some {k : Str} {M : List Addr.Pair} : qsOk (some k) M = true ↔ (∀ p ∈ M, okP p) ∧ sortedP M ∧ (∀ p ∈ M, blt k p.1 = true) := by
  induction M generalizing k with
  | nil => simp [qsOk, sortedP]
  | cons x r ih =>
    simp only [qsOk, Bool.and_eq_true, ih, List.mem_cons, forall_eq_or_imp]
    constructor
    · rintro ⟨⟨⟨h1, h2⟩, h3⟩, h4, h5, h6⟩
      exact ⟨⟨⟨h1, h2⟩, h4⟩, sortedP_cons h5 h6, h3, fun p hp => blt_trans h3 (h6 p hp)⟩
    · rintro ⟨⟨⟨h1, h2⟩, h4⟩, h5, h3, h6⟩
      exact ⟨⟨⟨h1, h2⟩, h3⟩, h4, sortedP_tail h5, sortedP_head h5⟩
theorem qsOk_none {M : List Addr.Pair} : qsOk none M = true ↔ (∀ p ∈ M, okP p) ∧ sortedP M := by
  cases M with
  | nil => simp [qsOk, sortedP]
  | cons x r =>
    simp only [qsOk, Bool.and_eq_true, qsOk_some, List.mem_cons, forall_eq_or_imp]
    constructor
    · rintro ⟨⟨⟨h1, h2⟩, -⟩, h4, h5, h6⟩
      exact ⟨⟨⟨h1, h2⟩, h4⟩, sortedP_cons h5 h6⟩
    · rintro ⟨⟨⟨h1, h2⟩, h4⟩, h5⟩
      exact ⟨⟨⟨h1, h2⟩, trivial⟩, h4, sortedP_tail h5, sortedP_head h5⟩
theorem okB_iff {a : Ad} : okB a = true ↔ Ok a := by
  unfold okB
  simp only [Bool.and_eq_true, decide_eq_true_eq, List.all_eq_true, qsOk_none]
  constructor
  · rintro ⟨⟨⟨⟨h1, h2⟩, h3⟩, h4⟩, h5, h6⟩
    exact ⟨h1, h4, h2, h5, h3, h6⟩
  · rintro ⟨h1, h4, h2, h5, h3, h6⟩
    exact ⟨⟨⟨⟨h1, h2⟩, h3⟩, h4⟩, h5, h6⟩
theorem sum_le (l : List Nat) (m : Nat) (h : ∀ x ∈ l, x ≤ m) : l.sum ≤ l.length * m := by
  induction l with
  | nil => simp
  | cons x r ih =>
    have := ih (fun y hy => h y (by simp [hy]))
    have := h x (by simp)
    rw [List.sum_cons, List.length_cons, Nat.succ_mul]; omega
theorem ok_len {a : Ad} (h : Ok a) : (Addr.write a).length ≤ 4224 := by
  rw [write_len]
  have h1 := word_le (name_word h.cust)
  have h2 : plen a.path ≤ a.path.length * 65 := by
    have := sum_le (a.path.map (fun x => x.length + 1)) 65 (fun x hx => by
      obtain ⟨y, hy, rfl⟩ := List.mem_map.1 hx
      have := word_le (h.path y hy); omega)
    simpa [plen] using this
  have h3 : Addr.qlen a.query ≤ a.query.length * 130 := by
    have := sum_le (a.query.map (fun x => x.1.length + x.2.length + 2)) 130 (fun x hx => by
      obtain ⟨y, hy, rfl⟩ := List.mem_map.1 hx
      have := word_le (name_word (h.query y hy).1); have := word_le (h.query y hy).2; omega)
    simpa [Addr.qlen] using this
  have h4 := h.plen
  have h5 := h.qlen
  have : a.path.length * 65 ≤ 32 * 65 := Nat.mul_le_mul_right _ h4
  have : a.query.length * 130 ≤ 16 * 130 := Nat.mul_le_mul_right _ h5
  omega
def textR (a : Ad) : ByteArray × Int := if okB a = true ∧ (Addr.write a).length ≤ 4096 then (B (Addr.write a), 0) else (⟨#[]⟩, 1)
def prevAt (M : List Addr.Pair) : Nat → Option Str
  | 0 => none
  | n + 1 => (M[n]?).map (·.1)
theorem toPair_at {q : List S66} {n : Nat} {x : S66} (h : q[n]? = some x) : (q.map toPair)[n]? = some (toPair x) := by simp [h]
theorem qsOk_step {M : List Addr.Pair} {n : Nat} {p : Addr.Pair} (h : M[n]? = some p) (hd : M.drop n = p :: M.drop (n + 1)) :
    qsOk (prevAt M n) (M.drop n) = (name p.1 && word p.2 && (match prevAt M n with | none => true | some k => blt k p.1) && qsOk (prevAt M (n + 1)) (M.drop (n + 1))) := by
  have e : prevAt M (n + 1) = some p.1 := by simp [prevAt, h]
  rw [hd, e]
  cases prevAt M n <;> rfl
theorem Text_l0 (c : ByteArray) (p : List ByteArray) (q : List S66) (hq : q.length < 1099511627776) (hb : qsOk none (q.map toPair) = true → (Addr.write (toAd c p q)).length ≤ 140737488355328) (hw : ∀ x ∈ q, x.f0.size < 4611686018427387904 ∧ x.f1.size < 4611686018427387904) :
    ∀ n, n ≤ q.length → (qsOk none (q.map toPair) = qsOk (prevAt (q.map toPair) n) ((q.map toPair).drop n)) →
    Evt (fun k => address_Text.l0 k q (q.length : Int) (n : Int) c p q) (if qsOk none (q.map toPair) = true ∧ (Addr.write (toAd c p q)).length ≤ 4096 then (B (Addr.write (toAd c p q)), 0) else (⟨#[]⟩, 1)) := by
  refine drop_ind ?_ fun n x hx hd hlt ih => ?_
  · intro he
    rw [show q.length = (q.map toPair).length from by simp, List.drop_length, qsOk] at he
    rw [he]
    simp only [true_and]
    refine Evt.step (g := fun k => some (if (Addr.write (toAd c p q)).length ≤ 4096 then (B (Addr.write (toAd c p q)), (0 : Int)) else (⟨#[]⟩, 1))) (fun k => ?_) (Evt.of fun _ => rfl)
    simp only [address_Text.l0]
    rw [if_neg (by omega)]
    unfold address_write.f
    rw [if_pos (hb he)]
    simp only [Option.bind_some, B_size]
    by_cases h : (Addr.write (toAd c p q)).length ≤ 4096
    · rw [if_neg (by omega), if_pos h]
    · rw [if_pos (by omega), if_neg h]
  · intro he
    have hxp := toPair_at hx
    have hdp : (q.map toPair).drop n = toPair x :: (q.map toPair).drop (n + 1) := by rw [← List.map_drop, hd, List.map_cons, List.map_drop]
    rw [qsOk_step hxp hdp] at he
    have hsz := hw x (List.mem_of_getElem? hx)
    have e1 : address_isName.f x.f0 = some (name (toPair x).1) := isName_f x.f0
    have e2 : address_isWord.f x.f1 = some (word (toPair x).2) := rfl
    have hkey : (fun k => address_Text.l0 (k + 1) q (q.length : Int) (n : Int) c p q) = fun k => (if name (toPair x).1 = true then (if word (toPair x).2 = true then (if (n : Int) > 0 then (if blt ((prevAt (q.map toPair) n).getD []) (toPair x).1 = true then address_Text.l0 k q (q.length : Int) ((n + 1 : Nat) : Int) c p q else some (⟨#[]⟩, 1)) else address_Text.l0 k q (q.length : Int) ((n + 1 : Nat) : Int) c p q) else some (⟨#[]⟩, 1)) else some (⟨#[]⟩, 1)) := by
      funext k
      simp only [address_Text.l0]
      rw [if_pos (by omega), if_pos (by omega), if_pos (by omega), rd_T_at hx, e1]
      simp only [Option.bind_some]
      rw [e2]
      simp only [Option.bind_some]
      rw [wrap_nat _ (by omega)]
      by_cases h0 : n = 0
      · subst h0; rfl
      · obtain ⟨m, rfl⟩ : ∃ m, n = m + 1 := ⟨n - 1, by omega⟩
        have hm : q[m]? = some q[m] := List.getElem?_eq_getElem (by omega)
        have hwm : wrap64 (((m + 1 : Nat) : Int) - 1) = (m : Int) := by unfold wrap64; omega
        rw [if_pos (show (((m + 1 : Nat) : Int) > 0) by omega), hwm, if_pos (show (0 : Int) ≤ (m : Int) by omega), if_pos (show (m : Int) < (q.length : Int) by omega), rd_T_at hm, less_blt, toList_L, toList_L]
        have : (prevAt (q.map toPair) (m + 1)).getD [] = L q[m].f0 := by simp [prevAt, hm, toPair]
        rw [this, if_pos (show (((m + 1 : Nat) : Int) > 0) by omega)]
        rfl
    refine Evt.step (fun k => congrFun hkey k) ?_
    cases h1 : name (toPair x).1 with
    | false =>
      rw [h1] at he; simp only [Bool.false_and] at he
      rw [he]; exact Evt.of fun k => by simp
    | true =>
      cases h2 : word (toPair x).2 with
      | false =>
        rw [h1, h2] at he; simp only [Bool.false_and, Bool.and_false] at he
        rw [he]; exact Evt.of fun k => by simp
      | true =>
        rw [h1, h2] at he
        simp only [if_true]
        by_cases h0 : n = 0
        · subst h0
          simp only [prevAt, Bool.and_self, Bool.true_and] at he
          exact Evt.same (fun k => if_neg (by simp)) (ih he)
        · obtain ⟨m, rfl⟩ : ∃ m, n = m + 1 := ⟨n - 1, by omega⟩
          have hm : q[m]? = some q[m] := List.getElem?_eq_getElem (by omega)
          have hpv : prevAt (q.map toPair) (m + 1) = some (L q[m].f0) := by simp [prevAt, hm, toPair]
          rw [hpv] at he
          refine Evt.same (fun k => if_pos (by omega)) ?_
          rw [hpv]
          simp only [Option.getD_some, Bool.and_self, Bool.true_and] at he ⊢
          by_cases h3 : blt (L q[m].f0) (toPair x).1 = true
          · rw [h3, Bool.true_and] at he
            exact Evt.same (fun k => if_pos h3) (ih he)
          · rw [Bool.eq_false_iff.2 h3, Bool.false_and] at he
            rw [he]
            exact Evt.of fun k => by rw [if_neg h3]; simp
theorem Text_f (c : ByteArray) (p : List ByteArray) (q : List S66) (hp : p.length < 1099511627776) (hq : q.length < 1099511627776) (hw : ∀ x ∈ q, x.f0.size < 4611686018427387904 ∧ x.f1.size < 4611686018427387904) :
    Evt (fun k => address_Text.f k c p q) (textR (toAd c p q)) := by
  have hno : ∀ x, x = true → Evt (fun k => address_Text.j0 k x c p q) (⟨#[]⟩, 1) := fun x hx => Evt.fin fun k => by simp only [address_Text.j0]; rw [if_pos hx]
  unfold address_Text.f textR okB
  refine Evt.bind' (isName_f c) ?_
  have e0 : name (toAd c p q).cust = name (L c) := rfl
  have e1 : (toAd c p q).path.length = p.length := by simp [toAd]
  have e2 : (toAd c p q).query.length = q.length := by simp [toAd]
  have e3 : (toAd c p q).path.all word = !(p.any fun x => !word (L x)) := by simp [toAd, List.all_map, List.not_any_eq_all_not, Function.comp_def]
  rw [e0, e1, e2, e3]
  cases hn : name (L c) with
  | false => simpa using hno _ rfl
  | true =>
    simp only [if_true, Bool.true_and]
    by_cases h1 : p.length ≤ 32
    · rw [decide_eq_true h1]
      refine Evt.same (fun k => if_neg (by omega)) ?_
      by_cases h2 : q.length ≤ 16
      · rw [decide_eq_true h2]
        refine Evt.same (fun k => if_neg (by omega)) ?_
        refine Evt.bind' (a := p.any fun x => !word (L x)) (by unfold any_notWord.f; rw [if_pos (by omega)]) ?_
        cases h3 : (p.any fun x => !word (L x)) with
        | true => simpa using hno _ rfl
        | false =>
          have hb : qsOk none (q.map toPair) = true → (Addr.write (toAd c p q)).length ≤ 140737488355328 := fun h => by
            have hok : Ok (toAd c p q) := okB_iff.1 (by unfold okB; rw [e0, e1, e2, e3, hn, h3, decide_eq_true h1, decide_eq_true h2]; exact h)
            have := ok_len hok; omega
          have := Text_l0 c p q hq hb hw 0 (Nat.zero_le _) (by simp [prevAt])
          simp only [Bool.not_false, Bool.and_self, Bool.true_and]
          exact Evt.step (fun k => by simp [address_Text.j0]) this
      · rw [decide_eq_false h2]
        refine Evt.same (fun k => if_pos (by omega)) ?_
        simpa using hno _ rfl
    · rw [decide_eq_false h1]
      refine Evt.same (fun k => if_pos (by omega)) ?_
      simpa using hno _ rfl
def formedR (a : Ad) : Bool := okB a && decide ((Addr.write a).length ≤ 4096)
theorem toAd_bp (a : Ad) : toAd (B a.cust) (a.path.map B) (a.query.map bp) = a := by
  cases a with | mk c p q =>
  simp only [toAd, L_B, LB_map]
  congr 1
  rw [List.map_map]
  conv => rhs; rw [← List.map_id q]
  exact List.map_congr_left (fun x _ => by simp [toPair, bp, L_B])
theorem parse_err {s : Str} {e : Nat} (h : parse s = .error e) : e = 2 ∨ e = 3 := by
  unfold parse at h
  split at h
  · injection h with h; exact .inl h.symm
  · split at h
    · split at h
      · split at h
        · split at h
          · injection h with h; exact .inl h.symm
          · cases h
        · injection h with h; exact .inr h.symm
      · injection h with h; exact .inr h.symm
    · injection h with h; exact .inr h.symm
def canonR (s : ByteArray) : ByteArray × Int := match parse (L s) with
  | .ok a => (B (Addr.write a), 0)
  | .error e => (⟨#[]⟩, (e : Int))
theorem textR_ok {a : Ad} (h : Ok a) (hl : (Addr.write a).length ≤ 4096) : textR a = (B (Addr.write a), 0) := if_pos ⟨okB_iff.2 h, hl⟩
theorem ok_sizes {a : Ad} (h : Ok a) : (B a.cust).size < 4611686018427387904 ∧ (a.path.map B).length < 1099511627776 ∧ (a.query.map bp).length < 1099511627776 ∧ (∀ x ∈ a.path.map B, x.size < 4611686018427387904) ∧ (∀ x ∈ a.query.map bp, x.f0.size < 4611686018427387904 ∧ x.f1.size < 4611686018427387904) := by
  refine ⟨?_, ?_, ?_, ?_, ?_⟩
  · have := word_le (name_word h.cust); rw [B_size]; omega
  · have := h.plen; rw [List.length_map]; omega
  · have := h.qlen; rw [List.length_map]; omega
  · intro x hx
    obtain ⟨y, hy, rfl⟩ := List.mem_map.1 hx
    have := word_le (h.path y hy); rw [B_size]; omega
  · intro x hx
    obtain ⟨y, hy, rfl⟩ := List.mem_map.1 hx
    have h1 := word_le (name_word (h.query y hy).1)
    have h2 := word_le (h.query y hy).2
    simp only [bp, B_size]; omega
theorem Canonical_f (s : ByteArray) : Evt (fun k => address_Canonical.f k s) (canonR s) := by
  unfold address_Canonical.f canonR
  cases hp : parse (L s) with
  | ok a =>
    obtain ⟨h1, h2, h3⟩ := parse_ok hp
    have hs := ok_sizes h1
    refine Evt.bind' (a := (B a.cust, a.path.map B, a.query.map bp, 0)) (by unfold address_Parse.f; rw [hp]) ?_
    have := Text_f (B a.cust) (a.path.map B) (a.query.map bp) hs.2.1 hs.2.2.1 hs.2.2.2.2
    rw [toAd_bp, textR_ok h1 (by omega)] at this
    exact Evt.same (fun k => if_pos rfl) (Evt.bind this (Evt.of fun _ => rfl))
  | error e =>
    refine Evt.bind' (a := (⟨#[]⟩, [], [], (e : Int))) (by unfold address_Parse.f; rw [hp]) ?_
    refine Evt.of fun k => if_neg ?_
    have := parse_err hp
    simp; omega
end Go.Proofs.YtmokgpepeddopaaGreatDoor.P
end
section
namespace Go.Proofs.YtmokgpepeddopaaGreatDoor.P
open Go.RowKit Go.Proofs.YtmokgpepeddopaaGreatDoorW.PrintWords Go.Proofs.YtmokgpepeddopaaGreatDoorW.PrintLast Go.Proofs.YtmokgpepeddopaaGreatDoorW.PrintMore
attribute [local go_sem] max2_int min2_int max_two min_two max_three min_three max_four min_four
attribute [local go_sem high] binOp_string_leq2 binOp_string_gtr2
set_option linter.unusedVariables false
set_option linter.unusedSimpArgs false
def address_read.f (a0 : ByteArray) : Option (ByteArray × List ByteArray × (List (S66)) × Bool) := (address_Parse.f a0).bind fun bt102 => (if bt102.2.2.2 = 0 then ((address_write.f bt102.1 bt102.2.1 bt102.2.2.1).bind fun t111 => (some (bt102.1, bt102.2.1, bt102.2.2.1, (t111.toList == a0.toList)))) else (some (bt102.1, bt102.2.1, bt102.2.2.1, false)))
def address_read.T2 : Bool × List (List Nat × List Nat) := (true, [([], []), ([], []), ([1], [1]), ([2], [2]), ([3], [3]), ([4, 3, 3], [3, 4]), ([3], [3]), ([5, 6, 3], [3, 5, 6]), ([3, 7], [3, 7]), ([0, 5, 0], [0]), ([8, 9, 0, 1, 2, 3, 4, 5, 6, 7, 8, 9], [8])])
def address_read.B2 : List Nat := [0, 0, 2, 6, 14, 30, 14, 126, 254, 63, 1023]
theorem address_read.tab2 : rtab .any (opsOf Tryz.f67 2) = address_read.T2 := by kernel_rfl
theorem address_read.bits2 : waitsOk address_read.T2.2 address_read.B2 = true := by kernel_rfl
set_option maxHeartbeats 8000000 in
set_option maxRecDepth 100000 in
theorem address_read.calls (a0 : ByteArray) (r1 : ByteArray) (r2 : List ByteArray) (r3 : List (S66)) (r4 : Bool) (w : World) (h : address_read.f a0 = some (r1, r2, r3, r4)) :
  Calls Tryz.prog 67 #[.string a0] w fun e w' => ∃ v1_ v2_ : Value, e = .returned (.tuple #[.agg #[.string r1, v1_, v2_], .bool r4]) ∧ Kd.R Kd.string 9 w' w.heap.size (fun _ => True) v1_ r2 ∧ Kd.R k66 66 w' w.heap.size (fun _ => True) v2_ r3 ∧ Below w.heap.size w w' := by
 have hu25 := Tryz.underlying25
 have HB := Aside0.mk (Below.refl w.heap.size w)
 have H : ((address_Parse.f a0).bind fun bt102 => (if bt102.2.2.2 = 0 then ((address_write.f bt102.1 bt102.2.1 bt102.2.2.1).bind fun t111 => (some (bt102.1, bt102.2.1, bt102.2.2.1, (t111.toList == a0.toList)))) else (some (bt102.1, bt102.2.1, bt102.2.2.1, false)))) = some (r1, r2, r3, r4) := h
 clear h
 obtain ⟨⟨t102, t103, t106, t109⟩, A2, H⟩ := bd H
 dsimp only at H
 by_cases c3 : t109 = 0
 ·rw [if_pos c3] at H
  have c3b0 : (t109 == 0) = true := beq_iff_eq.mpr c3
  have c3b1 : (t109 != 0) = false := bne_eq_false_iff_eq.mpr c3
  clear c3
  obtain ⟨t111, A4, H⟩ := bd H
  simp only [Option.some.injEq, Prod.mk.injEq] at H
  obtain ⟨rfl, rfl, rfl, rfl⟩ := H
  go_enter Tryz.func67, Tryz.ntmps67
  try go_wp2_with (first | ((with_reducible refine gate_dst (N := 2) rfl ?_); refine bx 2 #[.string (⟨#[]⟩ : ByteArray), .slice none 0 0, .slice none 0 0] 25 fun gb101 hg w5 hbox hb => ?_; have BK101 := Aside0.mk (hbox); have GW101 := gw w hg; have GE101 := gw w hg; replace HB := sb w hb; clear hb hbox hg) | ((with_reducible refine gate_callee (f := 12) rfl ?_); refine goesL_ (some 8) rfl rfl Tryz.func12 (by kernel_rfl) rfl #[.string a0] rfl zl ?_; (with_reducible refine (address_Parse.calls a0 t102 t103 t106 t109 _ A2.out).mono ?_); rintro e w6 ⟨v104, v107, rfl, ho0, ho1, hb⟩; refine ⟨_, rfl, ?_⟩; have HO105 := Aside0.mk (Kd.R_lower ho0 (below_size zB)); have HO108 := Aside0.mk (Kd.R_lower ho1 (below_size zB)); replace BK101 := bb BK101 hb; replace HB := sb w hb; clear hb ho0 ho1) | ((with_reducible refine gate_dst (N := 4) rfl ?_); refine bx 4 #[.string (⟨#[]⟩ : ByteArray), .slice none 0 0, .slice none 0 0] 25 fun gb110 hg w7 hbox hb => ?_; replace HO105 := rb HO105 hb; replace HO108 := rb HO108 hb; have BK110 := Aside0.mk (hbox); have GW110 := gw w hg; have GE110 := gw w hg; replace HB := sb w hb; have NB101_110 := nl hg BK101; have NB110_101 := ng hg BK101; replace BK101 := bb BK101 hb; clear hb hbox hg; have hnb8 := NB110_101.out; have hnc8 := NB101_110.out; obtain ⟨hcz9_0, hcz9_1, hcz9_2, hfz9_0, hfz9_1, hfz9_2⟩ := cf3 BK110; obtain ⟨Ao10, co10, eo10⟩ := Kd.R_slice HO105.out; subst eo10; obtain ⟨Ao11, co11, eo11⟩ := Kd.R_slice HO108.out; subst eo11))
  have n0_ : Aside0 (Kd.R Kd.string 9 (((w7.setCell ⟨gb110, 0, none⟩ (.string t102)).setCell ⟨gb110, 1, none⟩ (.slice Ao10 t103.length co10)).setCell ⟨gb110, 2, none⟩ (.slice Ao11 t106.length co11)) w.heap.size (fun _ => True) (.slice Ao10 t103.length co10) t103) := ⟨by (with_reducible repeat (first | apply Kd.R_alloc | apply Kd.R_drewN | apply Kd.R_drew)); exact Kd.R_mono (Kd.R_far (p := ⟨gb110, 2, none⟩) (Kd.R_far (p := ⟨gb110, 1, none⟩) (Kd.R_far (p := ⟨gb110, 0, none⟩) (Kd.R_types HO105.out BK110.out (by decide)) (fun _ hk => hk.2) (.string t102)) (fun _ hk => hk.2) (.slice Ao10 t103.length co10)) (fun _ hk => hk.2) (.slice Ao11 t106.length co11)) (fun _ hk => trivial)⟩
  have n1_ : Aside0 (Kd.R k66 66 (((w7.setCell ⟨gb110, 0, none⟩ (.string t102)).setCell ⟨gb110, 1, none⟩ (.slice Ao10 t103.length co10)).setCell ⟨gb110, 2, none⟩ (.slice Ao11 t106.length co11)) w.heap.size (fun _ => True) (.slice Ao11 t106.length co11) t106) := ⟨by (with_reducible repeat (first | apply Kd.R_alloc | apply Kd.R_drewN | apply Kd.R_drew)); exact Kd.R_mono (Kd.R_far (p := ⟨gb110, 2, none⟩) (Kd.R_far (p := ⟨gb110, 1, none⟩) (Kd.R_far (p := ⟨gb110, 0, none⟩) (Kd.R_types HO108.out BK110.out (by decide)) (fun _ hk => hk.2) (.string t102)) (fun _ hk => hk.2) (.slice Ao10 t103.length co10)) (fun _ hk => hk.2) (.slice Ao11 t106.length co11)) (fun _ hk => trivial)⟩
  have n2_ : Aside0 ((((w7.setCell ⟨gb110, 0, none⟩ (.string t102)).setCell ⟨gb110, 1, none⟩ (.slice Ao10 t103.length co10)).setCell ⟨gb110, 2, none⟩ (.slice Ao11 t106.length co11)).heap[gb101]? = some (.cells #[.string (⟨#[]⟩ : ByteArray), .slice none 0 0, .slice none 0 0] 25 (0, 0))) := ⟨kf BK101⟩
  have n3_ : Aside0 ((((w7.setCell ⟨gb110, 0, none⟩ (.string t102)).setCell ⟨gb110, 1, none⟩ (.slice Ao10 t103.length co10)).setCell ⟨gb110, 2, none⟩ (.slice Ao11 t106.length co11)).heap[gb110]? = some (.cells #[.string t102, .slice Ao10 t103.length co10, .slice Ao11 t106.length co11] 25 (0, 0))) := ⟨kp _ BK110⟩
  have n4_ : Aside0 (Below w.heap.size w (((w7.setCell ⟨gb110, 0, none⟩ (.string t102)).setCell ⟨gb110, 1, none⟩ (.slice Ao10 t103.length co10)).setCell ⟨gb110, 2, none⟩ (.slice Ao11 t106.length co11))) := ⟨zB⟩
  (try clear HO105)
  (try clear HO108)
  (try clear BK101)
  (try clear BK110)
  (try clear HB)
  generalize (((w7.setCell ⟨gb110, 0, none⟩ (.string t102)).setCell ⟨gb110, 1, none⟩ (.slice Ao10 t103.length co10)).setCell ⟨gb110, 2, none⟩ (.slice Ao11 t106.length co11)) = w12 at n0_ n1_ n2_ n3_ n4_ ⊢
  have HO105 := n0_
  have HO108 := n1_
  have BK101 := n2_
  have BK110 := n3_
  have HB := n4_
  clear n0_ n1_ n2_ n3_ n4_
  replace HO105 := Aside0.mk (Kd.R_drew HO105.out)
  replace HO108 := Aside0.mk (Kd.R_drew HO108.out)
  replace BK101 := Aside0.mk (blk_drew BK101.out)
  replace BK110 := Aside0.mk (blk_drew BK110.out)
  replace HB := Aside0.mk (below_drew1 HB.out)
  refine start_ (n := 11) (S := fun w' => w'.cell? ⟨gb110, 0, none⟩ = some (.string t102) ∧ w'.cell? ⟨gb110, 1, none⟩ = some (.slice Ao10 t103.length co10) ∧ w'.cell? ⟨gb110, 2, none⟩ = some (.slice Ao11 t106.length co11)) (ds := []) #[false, false, false, false, false, false, false, false, false, false, false] (by kernel_rfl) rfl rfl zh (fun hHeld => ?_); refine with_tabW address_read.tab2 address_read.bits2 (fun HT_ HW_ => ?_)
  generalize w12.drew = w13 at HO105 HO108 BK101 BK110 HB hHeld ⊢
  refine pu 1 12 ?_
  refine pu 2 13 ?_
  refine pu 3 14 ?_
  refine pu 6 17 ?_
  refine tk 0 11 ?_
  refine tk 4 15 ?_
  refine on 5 (some 16) fun K hK => ?_
  refine goes_ Tryz.func49 (by kernel_rfl) rfl #[.agg #[.string t102, .slice Ao10 t103.length co10, .slice Ao11 t106.length co11]] (by rfl) rfl rfl zl ?_
  with_reducible refine (address_write.calls t102 _ _ t103 _ _ t106 t111 _ ?side1 ?side2 ?side3 ?side4 A4.out).mono ?_
  (case side1 => repeat (first | exact (Kd.R_reads' HO105.out).2.2 | (with_reducible refine Kd.C_alloc ?_ _) | (with_reducible refine Kd.C_drewN ?_ _) | (with_reducible refine Kd.C_drew ?_)))
  (case side2 => exact (Kd.R_reads' HO105.out).2.1)
  (case side3 => repeat (first | exact (Kd.R_reads' HO108.out).2.2 | (with_reducible refine Kd.C_alloc ?_ _) | (with_reducible refine Kd.C_drewN ?_ _) | (with_reducible refine Kd.C_drew ?_)))
  (case side4 => exact (Kd.R_reads' HO108.out).2.1)
  rintro e w14 ⟨rfl, hb⟩
  refine ⟨_, rfl, ?_⟩
  replace HO105 := rb HO105 hb
  replace HO108 := rb HO108 hb
  replace BK101 := bb BK101 hb
  replace BK110 := bb BK110 hb
  replace HB := sb w hb
  clear hb
  refine hK.out _ _ zh (fun hHeld => ?_)
  clear hK K
  refine nm 16 ?_
  refine pu 7 18 ?_
  refine pu 8 19 ?_
  refine on 9 none fun K hK => ?_
  have hs15 : w14.cell? ⟨gb101, 0, none⟩ = some (.string (⟨#[]⟩ : ByteArray)) := (blk_cell BK101.out 0).trans rfl
  have hfs15 := blk_frozen BK101.out 0
  have hns15_1 := NB110_101.out
  have hms15_1 := NB101_110.out
  have hs16 : w14.cell? ⟨gb101, 1, none⟩ = some (.slice none 0 0) := (blk_cell BK101.out 1).trans rfl
  have hfs16 := blk_frozen BK101.out 1
  have hns16_1 := NB110_101.out
  have hms16_1 := NB101_110.out
  have hs17 : w14.cell? ⟨gb101, 2, none⟩ = some (.slice none 0 0) := (blk_cell BK101.out 2).trans rfl
  have hfs17 := blk_frozen BK101.out 2
  have hns17_1 := NB110_101.out
  have hms17_1 := NB101_110.out
  refine skip_ (w1 := ?_) (by rfl) rfl ?_ ?_
  rotate_left
  ·go_simp
   rfl
  refine hK.out _ _ ⟨((cell_far (p := ⟨gb101, _, none⟩) NB110_101.out _).trans (((cell_far (p := ⟨gb101, _, none⟩) NB110_101.out _).trans (((cell_far (p := ⟨gb101, _, none⟩) NB110_101.out _).trans (hHeld.1)))))), ((cell_far (p := ⟨gb101, _, none⟩) NB110_101.out _).trans (((cell_far (p := ⟨gb101, _, none⟩) NB110_101.out _).trans (((cell_far (p := ⟨gb101, _, none⟩) NB110_101.out _).trans (hHeld.2.1)))))), ((cell_far (p := ⟨gb101, _, none⟩) NB110_101.out _).trans (((cell_far (p := ⟨gb101, _, none⟩) NB110_101.out _).trans (((cell_far (p := ⟨gb101, _, none⟩) NB110_101.out _).trans (hHeld.2.2))))))⟩ (fun hHeld => ?_)
  clear hK K
  refine pu 10 3 ?_
  refine dn ?_
  try go_wp2
  refine bodyPost_ret (results_ct rfl _ _ gb101 25 #[.string t102, .slice Ao10 t103.length co10, .slice Ao11 t106.length co11] (0, 0) _ rfl (kp _ BK101) Tryz.underlying25 rfl (by kernel_rfl)) rfl ?_
  exact ⟨_, _, zE, by (with_reducible repeat (first | apply Kd.R_alloc | apply Kd.R_drewN | apply Kd.R_drew)); exact Kd.R_mono (Kd.R_far (p := ⟨gb101, 2, none⟩) (Kd.R_far (p := ⟨gb101, 1, none⟩) (Kd.R_far (p := ⟨gb101, 0, none⟩) (Kd.R_types HO105.out BK101.out (by decide)) (fun _ hk => hk.2) (.string t102)) (fun _ hk => hk.2) (.slice Ao10 t103.length co10)) (fun _ hk => hk.2) (.slice Ao11 t106.length co11)) (fun _ hk => trivial), by (with_reducible repeat (first | apply Kd.R_alloc | apply Kd.R_drewN | apply Kd.R_drew)); exact Kd.R_mono (Kd.R_far (p := ⟨gb101, 2, none⟩) (Kd.R_far (p := ⟨gb101, 1, none⟩) (Kd.R_far (p := ⟨gb101, 0, none⟩) (Kd.R_types HO108.out BK101.out (by decide)) (fun _ hk => hk.2) (.string t102)) (fun _ hk => hk.2) (.slice Ao10 t103.length co10)) (fun _ hk => hk.2) (.slice Ao11 t106.length co11)) (fun _ hk => trivial), zB⟩
 ·rw [if_neg c3] at H
  have c3b0 : (t109 == 0) = false := beq_eq_false_iff_ne.mpr c3
  have c3b1 : (t109 != 0) = true := bne_iff_ne.mpr c3
  simp only [Option.some.injEq, Prod.mk.injEq] at H
  obtain ⟨rfl, rfl, rfl, rfl⟩ := H
  go_enter Tryz.func67, Tryz.ntmps67
  try go_wp2_with (first | ((with_reducible refine gate_dst (N := 2) rfl ?_); refine bx 2 #[.string (⟨#[]⟩ : ByteArray), .slice none 0 0, .slice none 0 0] 25 fun gb101 hg w4 hbox hb => ?_; have BK101 := Aside0.mk (hbox); have GW101 := gw w hg; have GE101 := gw w hg; replace HB := sb w hb; clear hb hbox hg) | ((with_reducible refine gate_callee (f := 12) rfl ?_); refine goesL_ (some 8) rfl rfl Tryz.func12 (by kernel_rfl) rfl #[.string a0] rfl zl ?_; (with_reducible refine (address_Parse.calls a0 t102 t103 t106 t109 _ A2.out).mono ?_); rintro e w5 ⟨v104, v107, rfl, ho0, ho1, hb⟩; refine ⟨_, rfl, ?_⟩; have HO105 := Aside0.mk (Kd.R_lower ho0 (below_size zB)); have HO108 := Aside0.mk (Kd.R_lower ho1 (below_size zB)); replace BK101 := bb BK101 hb; replace HB := sb w hb; clear hb ho0 ho1) | ((with_reducible refine gate_dst (N := 4) rfl ?_); refine bx 4 #[.string (⟨#[]⟩ : ByteArray), .slice none 0 0, .slice none 0 0] 25 fun gb110 hg w6 hbox hb => ?_; replace HO105 := rb HO105 hb; replace HO108 := rb HO108 hb; have BK110 := Aside0.mk (hbox); have GW110 := gw w hg; have GE110 := gw w hg; replace HB := sb w hb; have NB101_110 := nl hg BK101; have NB110_101 := ng hg BK101; replace BK101 := bb BK101 hb; clear hb hbox hg; have hnb7 := NB110_101.out; have hnc7 := NB101_110.out; obtain ⟨hcz8_0, hcz8_1, hcz8_2, hfz8_0, hfz8_1, hfz8_2⟩ := cf3 BK110; obtain ⟨Ao9, co9, eo9⟩ := Kd.R_slice HO105.out; subst eo9; obtain ⟨Ao10, co10, eo10⟩ := Kd.R_slice HO108.out; subst eo10))
  have n0_ : Aside0 (Kd.R Kd.string 9 (((w6.setCell ⟨gb110, 0, none⟩ (.string t102)).setCell ⟨gb110, 1, none⟩ (.slice Ao9 t103.length co9)).setCell ⟨gb110, 2, none⟩ (.slice Ao10 t106.length co10)) w.heap.size (fun _ => True) (.slice Ao9 t103.length co9) t103) := ⟨by (with_reducible repeat (first | apply Kd.R_alloc | apply Kd.R_drewN | apply Kd.R_drew)); exact Kd.R_mono (Kd.R_far (p := ⟨gb110, 2, none⟩) (Kd.R_far (p := ⟨gb110, 1, none⟩) (Kd.R_far (p := ⟨gb110, 0, none⟩) (Kd.R_types HO105.out BK110.out (by decide)) (fun _ hk => hk.2) (.string t102)) (fun _ hk => hk.2) (.slice Ao9 t103.length co9)) (fun _ hk => hk.2) (.slice Ao10 t106.length co10)) (fun _ hk => trivial)⟩
  have n1_ : Aside0 (Kd.R k66 66 (((w6.setCell ⟨gb110, 0, none⟩ (.string t102)).setCell ⟨gb110, 1, none⟩ (.slice Ao9 t103.length co9)).setCell ⟨gb110, 2, none⟩ (.slice Ao10 t106.length co10)) w.heap.size (fun _ => True) (.slice Ao10 t106.length co10) t106) := ⟨by (with_reducible repeat (first | apply Kd.R_alloc | apply Kd.R_drewN | apply Kd.R_drew)); exact Kd.R_mono (Kd.R_far (p := ⟨gb110, 2, none⟩) (Kd.R_far (p := ⟨gb110, 1, none⟩) (Kd.R_far (p := ⟨gb110, 0, none⟩) (Kd.R_types HO108.out BK110.out (by decide)) (fun _ hk => hk.2) (.string t102)) (fun _ hk => hk.2) (.slice Ao9 t103.length co9)) (fun _ hk => hk.2) (.slice Ao10 t106.length co10)) (fun _ hk => trivial)⟩
  have n2_ : Aside0 ((((w6.setCell ⟨gb110, 0, none⟩ (.string t102)).setCell ⟨gb110, 1, none⟩ (.slice Ao9 t103.length co9)).setCell ⟨gb110, 2, none⟩ (.slice Ao10 t106.length co10)).heap[gb101]? = some (.cells #[.string (⟨#[]⟩ : ByteArray), .slice none 0 0, .slice none 0 0] 25 (0, 0))) := ⟨kf BK101⟩
  have n3_ : Aside0 ((((w6.setCell ⟨gb110, 0, none⟩ (.string t102)).setCell ⟨gb110, 1, none⟩ (.slice Ao9 t103.length co9)).setCell ⟨gb110, 2, none⟩ (.slice Ao10 t106.length co10)).heap[gb110]? = some (.cells #[.string t102, .slice Ao9 t103.length co9, .slice Ao10 t106.length co10] 25 (0, 0))) := ⟨kp _ BK110⟩
  have n4_ : Aside0 (Below w.heap.size w (((w6.setCell ⟨gb110, 0, none⟩ (.string t102)).setCell ⟨gb110, 1, none⟩ (.slice Ao9 t103.length co9)).setCell ⟨gb110, 2, none⟩ (.slice Ao10 t106.length co10))) := ⟨zB⟩
  (try clear HO105)
  (try clear HO108)
  (try clear BK101)
  (try clear BK110)
  (try clear HB)
  generalize (((w6.setCell ⟨gb110, 0, none⟩ (.string t102)).setCell ⟨gb110, 1, none⟩ (.slice Ao9 t103.length co9)).setCell ⟨gb110, 2, none⟩ (.slice Ao10 t106.length co10)) = w11 at n0_ n1_ n2_ n3_ n4_ ⊢
  have HO105 := n0_
  have HO108 := n1_
  have BK101 := n2_
  have BK110 := n3_
  have HB := n4_
  clear n0_ n1_ n2_ n3_ n4_
  replace HO105 := Aside0.mk (Kd.R_drew HO105.out)
  replace HO108 := Aside0.mk (Kd.R_drew HO108.out)
  replace BK101 := Aside0.mk (blk_drew BK101.out)
  replace BK110 := Aside0.mk (blk_drew BK110.out)
  replace HB := Aside0.mk (below_drew1 HB.out)
  refine start_ (n := 11) (S := fun w' => w'.cell? ⟨gb110, 0, none⟩ = some (.string t102) ∧ w'.cell? ⟨gb110, 1, none⟩ = some (.slice Ao9 t103.length co9) ∧ w'.cell? ⟨gb110, 2, none⟩ = some (.slice Ao10 t106.length co10)) (ds := []) #[false, false, false, false, false, false, false, false, false, false, false] (by kernel_rfl) rfl rfl zh (fun hHeld => ?_); refine with_tabW address_read.tab2 address_read.bits2 (fun HT_ HW_ => ?_)
  generalize w11.drew = w12 at HO105 HO108 BK101 BK110 HB hHeld ⊢
  refine pu 1 12 ?_
  refine pu 2 13 ?_
  refine pu 3 14 ?_
  refine pn 4 15 ?_
  refine pn 5 16 ?_
  refine pn 6 17 ?_
  refine pn 7 18 ?_
  refine pu 8 19 ?_
  refine tk 0 11 ?_
  refine on 9 none fun K hK => ?_
  have hs13 : w12.cell? ⟨gb101, 0, none⟩ = some (.string (⟨#[]⟩ : ByteArray)) := (blk_cell BK101.out 0).trans rfl
  have hfs13 := blk_frozen BK101.out 0
  have hns13_1 := NB110_101.out
  have hms13_1 := NB101_110.out
  have hs14 : w12.cell? ⟨gb101, 1, none⟩ = some (.slice none 0 0) := (blk_cell BK101.out 1).trans rfl
  have hfs14 := blk_frozen BK101.out 1
  have hns14_1 := NB110_101.out
  have hms14_1 := NB101_110.out
  have hs15 : w12.cell? ⟨gb101, 2, none⟩ = some (.slice none 0 0) := (blk_cell BK101.out 2).trans rfl
  have hfs15 := blk_frozen BK101.out 2
  have hns15_1 := NB110_101.out
  have hms15_1 := NB101_110.out
  refine skip_ (w1 := ?_) (by rfl) rfl ?_ ?_
  rotate_left
  ·go_simp
   rfl
  refine hK.out _ _ ⟨((cell_far (p := ⟨gb101, _, none⟩) NB110_101.out _).trans (((cell_far (p := ⟨gb101, _, none⟩) NB110_101.out _).trans (((cell_far (p := ⟨gb101, _, none⟩) NB110_101.out _).trans (hHeld.1)))))), ((cell_far (p := ⟨gb101, _, none⟩) NB110_101.out _).trans (((cell_far (p := ⟨gb101, _, none⟩) NB110_101.out _).trans (((cell_far (p := ⟨gb101, _, none⟩) NB110_101.out _).trans (hHeld.2.1)))))), ((cell_far (p := ⟨gb101, _, none⟩) NB110_101.out _).trans (((cell_far (p := ⟨gb101, _, none⟩) NB110_101.out _).trans (((cell_far (p := ⟨gb101, _, none⟩) NB110_101.out _).trans (hHeld.2.2))))))⟩ (fun hHeld => ?_)
  clear hK K
  refine pu 10 3 ?_
  refine dn ?_
  try go_wp2
  refine bodyPost_ret (results_ct rfl _ _ gb101 25 #[.string t102, .slice Ao9 t103.length co9, .slice Ao10 t106.length co10] (0, 0) _ rfl (kp _ BK101) Tryz.underlying25 rfl (by kernel_rfl)) rfl ?_
  exact ⟨_, _, zE, by (with_reducible repeat (first | apply Kd.R_alloc | apply Kd.R_drewN | apply Kd.R_drew)); exact Kd.R_mono (Kd.R_far (p := ⟨gb101, 2, none⟩) (Kd.R_far (p := ⟨gb101, 1, none⟩) (Kd.R_far (p := ⟨gb101, 0, none⟩) (Kd.R_types HO105.out BK101.out (by decide)) (fun _ hk => hk.2) (.string t102)) (fun _ hk => hk.2) (.slice Ao9 t103.length co9)) (fun _ hk => hk.2) (.slice Ao10 t106.length co10)) (fun _ hk => trivial), by (with_reducible repeat (first | apply Kd.R_alloc | apply Kd.R_drewN | apply Kd.R_drew)); exact Kd.R_mono (Kd.R_far (p := ⟨gb101, 2, none⟩) (Kd.R_far (p := ⟨gb101, 1, none⟩) (Kd.R_far (p := ⟨gb101, 0, none⟩) (Kd.R_types HO108.out BK101.out (by decide)) (fun _ hk => hk.2) (.string t102)) (fun _ hk => hk.2) (.slice Ao9 t103.length co9)) (fun _ hk => hk.2) (.slice Ao10 t106.length co10)) (fun _ hk => trivial), zB⟩
end Go.Proofs.YtmokgpepeddopaaGreatDoor.P
end
