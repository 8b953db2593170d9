/- Lemmas on the way to the statement: part 26 of 34 (functions as plain Lean functions, and that each call comes to what they say). -/
import Derived.Test.YtmokgpepeddopaaGreatDoorL25
import Derived.Test.YtmokgpepeddopaaGreatDoorL17
import Derived.Maps.OwnIn
import Derived.Maps.AppendAt
import Derived.Deep.DeepMust
section
namespace Go.Proofs.YtmokgpepeddopaaGreatDoor.P
open Go.RowKit Go.Shelf Go.Proofs.YtmokgpepeddopaaGreatDoorW.PrintWords Go.Proofs.YtmokgpepeddopaaGreatDoorW.PrintLast Go.Proofs.YtmokgpepeddopaaGreatDoorW.PrintMore
open Go.Proofs.YtmokgpepeddopaaGreatDoor.Addr
set_option linter.unusedSimpArgs false
set_option linter.unusedVariables false
attribute [local go_sem] Oper.semAt_some
structure Rs (B0 : Nat) (w W : World) (v : Value) (out : List ByteArray) : Prop where
  b0 : W.heap[w.heap.size]? = some (.cells #[.slice none 0 0] 22 (0, 0))
  b1 : W.heap[w.heap.size + 1]? = some (.cells #[.bool false] 4 (0, 0))
  b2 : W.heap[w.heap.size + 2]? = some (.cells #[v] 22 (0, 0))
  own : Kd.R Kd.string 9 W w.heap.size (fun k => w.heap.size + 5 ≤ k) v out
  bel : Below B0 w W
theorem Rs.grown {B0 : Nat} {w W W' : World} {v : Value} {out : List ByteArray} (h : Rs B0 w W v out) (hB : B0 ≤ w.heap.size) {row : Option Nat} (hg : W.grownBy W' row) (hr : ∀ k, row = some k → B0 ≤ k ∧ (k < w.heap.size ∨ k = w.heap.size + 3 ∨ k = w.heap.size + 4)) : Rs B0 w W' v out :=
  ⟨blk_grown h.b0 hg (fun e => by have := hr _ e.symm; omega), blk_grown h.b1 hg (fun e => by have := hr _ e.symm; omega), blk_grown h.b2 hg (fun e => by have := hr _ e.symm; omega),
    Kd.R_grown h.own hg (fun k hk e => by have := hr _ e.symm; omega), h.bel.grown hg (Nat.le_trans hB h.bel.size) (fun k e => (hr _ e).1)⟩
theorem Rs.next {B0 : Nat} {w W W' : World} {v : Value} {out : List ByteArray} (h : Rs B0 w W v out) (hB : B0 ≤ w.heap.size) (hb : Below W.heap.size W W') : Rs B0 w W' v out :=
  h.grown hB (grown_of_below hb none) (fun k e => by cases e)
theorem Rs.put {B0 : Nat} {w W : World} {v v' : Value} {out out' : List ByteArray} (h : Rs B0 w W v out) (hB : B0 ≤ w.heap.size) (ho : Kd.R Kd.string 9 W w.heap.size (fun k => w.heap.size + 5 ≤ k) v' out') :
    Rs B0 w (W.setCell ⟨w.heap.size + 2, 0, none⟩ v') v' out' :=
  ⟨blk_far h.b0 (by show w.heap.size ≠ w.heap.size + 2; omega) _, blk_far h.b1 (by show w.heap.size + 1 ≠ w.heap.size + 2; omega) _, blk_put h.b2 0 _ rfl, Kd.R_far ho (fun k hk => by show k ≠ w.heap.size + 2; omega) _, h.bel.setCell (by show B0 ≤ w.heap.size + 2; omega) _⟩
theorem Rs.same {B0 : Nat} {w W : World} {v : Value} {out : List ByteArray} (h : Rs B0 w W v out) (hB : B0 ≤ w.heap.size) :
    Rs B0 w ((W.setCell ⟨w.heap.size, 0, none⟩ (.slice none 0 0)).setCell ⟨w.heap.size + 1, 0, none⟩ (.bool false)) v out :=
  ⟨blk_far (blk_put h.b0 0 _ rfl) (by show w.heap.size ≠ w.heap.size + 1; omega) _, blk_put (blk_far h.b1 (by show w.heap.size + 1 ≠ w.heap.size; omega) _) 0 _ rfl, blk_far (blk_far h.b2 (by show w.heap.size + 2 ≠ w.heap.size; omega) _) (by show w.heap.size + 2 ≠ w.heap.size + 1; omega) _,
    Kd.R_far (Kd.R_far h.own (fun k hk => by show k ≠ w.heap.size; omega) _) (fun k hk => by show k ≠ w.heap.size + 1; omega) _, (h.bel.setCell (by show B0 ≤ w.heap.size; omega) _).setCell (by show B0 ≤ w.heap.size + 1; omega) _⟩
theorem info_string : (Tryz.prog.info? 9).map (fun i => (i.zero, i.size, i.bytes)) = some (some (.string ⟨#[]⟩), 1, 16) := by kernel_rfl
theorem Rs.appended {B0 n0 : Nat} {w W : World} {v v' : Value} {out : List ByteArray} {x : ByteArray} {o : Obj} {w1 : World} (h : Rs B0 w W v out) (hB : B0 ≤ w.heap.size) (hn : n0 ≤ w.heap.size) (hW : w.heap.size + 5 ≤ W.heap.size)
    (hg : (W.alloc o).grownBy w1 v.ownBlock) (hown : w1.ownsRow w.heap.size 9 1 v' (out.length + 1) (encs Value.string out ++ [Value.string x])) (hat : v'.ownBlock = v.ownBlock ∨ v'.ownBlock = some (W.alloc o).heap.size) :
    Rs B0 w (w1.setCell ⟨w.heap.size + 2, 0, none⟩ v') v' (out ++ [x]) ∧ (∀ k, k < w.heap.size + 5 → k ≠ w.heap.size + 2 → (w1.setCell ⟨w.heap.size + 2, 0, none⟩ v').heap[k]? = W.heap[k]?) ∧ Below n0 W (w1.setCell ⟨w.heap.size + 2, 0, none⟩ v') := by
  have hal : Below W.heap.size W (W.alloc o) := below_alloc (Below.refl _ _) o
  have h' := h.next hB hal
  have hne : ∀ k, v.ownBlock = some k → w.heap.size + 5 ≤ k := fun k e => h.own.1 k e
  have hok' : ∀ k, v'.ownBlock = some k → w.heap.size + 5 ≤ k := fun k e => by
    rcases hat with e2 | e2
    · exact hne k (e2.symm.trans e)
    · rw [e2] at e; injection e with e; subst e; simp; omega
  have ho : Kd.R Kd.string 9 w1 w.heap.size (fun k => w.heap.size + 5 ≤ k) v' (out ++ [x]) := Kd.R_of_own (by simpa [encs] using hown) hok'
  have hz : (W.alloc o).heap.size = W.heap.size + 1 := by simp
  have h1 : Rs B0 w w1 v out ∨ True := .inr trivial
  have c0 := blk_grown h'.b0 hg (fun e => by have := hne _ e.symm; omega)
  have c1 := blk_grown h'.b1 hg (fun e => by have := hne _ e.symm; omega)
  have c2 := blk_grown h'.b2 hg (fun e => by have := hne _ e.symm; omega)
  have hb1 : Below B0 w w1 := h'.bel.grown hg (Nat.le_trans hB h'.bel.size) (fun k e => by have := hne k e; omega)
  refine ⟨⟨blk_far c0 (by show w.heap.size ≠ w.heap.size + 2; omega) _, blk_far c1 (by show w.heap.size + 1 ≠ w.heap.size + 2; omega) _, blk_put c2 0 _ rfl, Kd.R_far ho (fun k hk => by show k ≠ w.heap.size + 2; omega) _, hb1.setCell (by show B0 ≤ w.heap.size + 2; omega) _⟩, fun k hk1 hk2 => ?_, ?_⟩
  · rw [Below.heap_setCell _ _ _ _ hk2, hg.block k (by omega) (fun e => by have := hne _ e.symm; omega)]
    exact hal.block k (by omega)
  · exact ((hal.mono (by omega)).grown hg (by omega) (fun k e => by have := hne k e; omega)).setCell (by show n0 ≤ w.heap.size + 2; omega) _
def resolve_post (B0 : Nat) (xs : List ByteArray) (w : World) (e : Ending) (w' : World) : Prop :=
  Below B0 w w' ∧ match Go.Proofs.YtmokgpepeddopaaGreatDoor.Addr.resolve (xs.map L) [] with
    | some l => ∃ v, e = .returned (.tuple #[v, .bool true]) ∧ Kd.R Kd.string 9 w' w.heap.size (fun _ => True) v (l.map B)
    | none => e = .returned (.tuple #[.slice none 0 0, .bool false])
set_option maxRecDepth 100000 in
set_option maxHeartbeats 8000000 in
theorem resolve_calls (gf : Nat) (lb : Array Value) (eg : ∀ args W, (callFunc gf args).run Tryz.prog W = .ok (.enter gf args) W) (C m0 n0 B0 : Nat) (xs : List ByteArray) (w : World) (hm : xs.length < 1099511627776)
    (hC : C < w.heap.size) (hn : n0 ≤ w.heap.size) (hB : B0 ≤ C) (hseq : SeqC Tryz.prog gf lb C m0 n0 xs w) :
    Calls Tryz.prog 43 #[.func (.func gf) #[] lb] w (resolve_post B0 xs w) := by
  have HSQ := Lib.hid hseq
  have HE := Lib.hid eg
  clear hseq eg
  refine (callsIn_wide (n := 0)).1 ?_
  refine callsIn_of_wp_marks Tryz.func43 rfl trivial ?_ rfl
  simp only [Tryz.ntmps43, List.size_toArray, List.length_cons, List.length_nil, Nat.reduceAdd, Nat.reduceSub, Array.replicate_succ, Array.replicate_zero, List.push_toArray, List.append_toArray, List.nil_append, List.cons_append]
  gi_wp2
  obtain ⟨W0, hW0⟩ : ∃ W0, ((w.alloc (.cells #[.slice none 0 0] 22)).alloc (.cells #[.bool false] 4)).alloc (.cells #[.slice none 0 0] 22) = W0 := ⟨_, rfl⟩
  have hsz : W0.heap.size = w.heap.size + 3 := by rw [← hW0]; simp
  have hRs : Rs B0 w W0 (.slice none 0 0) [] := by
    rw [← hW0]
    refine ⟨blk_alloc (blk_alloc (blk_new w _) _) _, ?_, ?_, Kd.R_nil _ _ _ _ _, ?_⟩
    · have := blk_new (w.alloc (.cells #[.slice none 0 0] 22)) (.cells #[.bool false] 4)
      rw [World.size_alloc] at this
      exact blk_alloc this _
    · have := blk_new ((w.alloc (.cells #[.slice none 0 0] 22)).alloc (.cells #[.bool false] 4)) (.cells #[.slice none 0 0] 22)
      simpa using this
    · exact (below_alloc (below_alloc (below_alloc (Below.refl _ _) _) _) _).mono (by omega)
  have hbel : Below w.heap.size w W0 := by rw [← hW0]; exact below_alloc (below_alloc (below_alloc (Below.refl _ _) _) _) _
  rw [hW0]
  clear hW0
  have HRS := Lib.hid hRs
  clear hRs
  refine range_cell (gf := gf) (lb := lb) rfl HE.out (C := C) (m0 := m0) (n0 := n0) (xs := xs) (by omega) (by omega) HSQ.out hbel rfl
    (fun pre W => ∃ (v : Value) (out : List ByteArray), Rs B0 w W v out ∧ Hid (∀ rest : List ByteArray, Go.Proofs.YtmokgpepeddopaaGreatDoor.Addr.resolve ((pre ++ rest).map L) [] = Go.Proofs.YtmokgpepeddopaaGreatDoor.Addr.resolve (rest.map L) (out.map L)) ∧ Hid (out.length ≤ pre.length))
    (fun W => ∃ (v : Value) (out : List ByteArray), Rs B0 w W v out ∧ Hid (Go.Proofs.YtmokgpepeddopaaGreatDoor.Addr.resolve (xs.map L) [] = none))
    ?i1 ?i2 ?i3 ?x2 ?x3 ⟨_, [], HRS.out, Lib.hid (fun rest => rfl), Lib.hid (Nat.le_refl _)⟩
    (fun x => { tmps := #[.func (.func gf) #[] lb, undef, .pointer (some ⟨w.heap.size, 0, none⟩), .pointer (some ⟨w.heap.size + 1, 0, none⟩), .pointer (some ⟨w.heap.size + 2, 0, none⟩), .string x, .func (.func gf) #[] lb, .string x, undef, undef, undef, undef, undef, undef, undef, undef, undef, undef, undef, undef, undef, undef, undef, undef, undef, undef, undef, undef, undef, undef, undef, undef], defers := [] }) ?assign ?body ?done ?stop
  case i1 =>
    rintro pre W o ⟨v, out, h, h1, h2⟩
    exact ⟨v, out, h.next (by omega) (below_alloc (Below.refl _ _) o), h1, h2⟩
  case i2 =>
    rintro pre W k o ⟨v, out, h, h1, h2⟩ hk1 hk2
    exact ⟨v, out, h.grown (by omega) (grownBy_putObj' W k o) (fun j e => by cases e; omega), h1, h2⟩
  case i3 =>
    rintro pre W u ⟨v, out, h, h1, h2⟩
    exact ⟨v, out, h.grown (by omega) (row := some C) ⟨rfl, rfl, rfl, by simp [World.setCell], fun k _ hk => Below.heap_setCell _ _ _ _ (fun e => hk (by rw [e]))⟩ (fun j e => by cases e; omega), h1, h2⟩
  case x2 =>
    rintro W k o ⟨v, out, h, h1⟩ hk1 hk2
    exact ⟨v, out, h.grown (by omega) (grownBy_putObj' W k o) (fun j e => by cases e; omega), h1⟩
  case x3 =>
    rintro W u ⟨v, out, h, h1⟩
    exact ⟨v, out, h.grown (by omega) (row := some C) ⟨rfl, rfl, rfl, by simp [World.setCell], fun k _ hk => Below.heap_setCell _ _ _ _ (fun e => hk (by rw [e]))⟩ (fun j e => by cases e; omega), h1⟩
  case assign =>
    intro l x W K hK
    gi_wp2
    exact hK
  case body =>
    rintro l pre x W ⟨v, out, h, h1, h2⟩ hpre hW
    have HR := Lib.hid h
    clear h
    obtain ⟨A, cv, rfl, -⟩ := Kd.R_reads HR.out.own
    have p2 : W.cell? ⟨w.heap.size + 2, 0, none⟩ = some (.slice A out.length cv) := (blk_cell HR.out.b2 0).trans rfl
    have f2 := blk_frozen HR.out.b2 0
    have h3 : ∀ rest : List ByteArray, Go.Proofs.YtmokgpepeddopaaGreatDoor.Addr.resolve ((pre ++ [x] ++ rest).map L) [] = Go.Proofs.YtmokgpepeddopaaGreatDoor.Addr.resolve (L x :: rest.map L) (out.map L) := fun rest => by
      rw [List.append_assoc]; exact h1.out ([x] ++ rest)
    have H3 := Lib.hid h3
    clear h3 h1
    have hlen := h2.out
    have hlen2 : pre.length + 1 ≤ xs.length := by have := hpre.length_le; simpa using this
    by_cases hq1 : x.toList = [46]
    · gi_wp2
      refine ⟨rfl, rfl, Kept.of_below (Below.refl _ _), _, out, HR.out, Lib.hid (fun rest => ?_), Lib.hid (by simp; omega)⟩
      rw [H3.out, Go.Proofs.YtmokgpepeddopaaGreatDoor.Addr.resolve, if_pos (by rw [← toList_L]; exact hq1)]
    · have hq1b : (x.toList == [46]) = false := by simpa using hq1
      by_cases hq2 : x.toList = [46, 46] ∧ out ≠ []
      · obtain ⟨hq3, hne⟩ := hq2
        have hpos : 0 < out.length := List.length_pos_iff.2 hne
        have hposi : (0 : Int) < (out.length : Int) := by omega
        have hcv := (Kd.R_reads' HR.out.own).2.1
        have HT := Lib.hid (Kd.R_take HR.out.own (m := out.length - 1) (by omega))
        have hsl := cut_to (P := Tryz.prog) 22 9 .i64 Tryz.underlying22 (info_parts info_string).choose_spec.1 A out.length cv ((out.length : Int) - 1) (by omega) (by omega) hcv
        have hto : ((out.length : Int) - 1).toNat = out.length - 1 := by omega
        rw [hto] at hsl
        gi_wp2
        refine ⟨Below.heap_setCell _ _ _ _ (by show W0.heap.size ≠ w.heap.size + 2; omega), Below.heap_setCell _ _ _ _ (by show W0.heap.size + 1 ≠ w.heap.size + 2; omega), Kept.of_below ((Below.refl _ _).setCell (by show n0 ≤ w.heap.size + 2; omega) _),
          _, out.take (out.length - 1), HR.out.put (by omega) HT.out, Lib.hid (fun rest => ?_), Lib.hid (by simp; omega)⟩
        rw [H3.out, Go.Proofs.YtmokgpepeddopaaGreatDoor.Addr.resolve, if_neg (by rw [← toList_L]; exact hq1), if_pos ⟨by rw [← toList_L]; exact hq3, by simpa using hne⟩]
        rw [List.dropLast_eq_take, List.length_map, List.map_take]
      · have hq2' : ¬ (L x = [46, 46] ∧ out.map L ≠ []) := by rw [← toList_L]; simpa using hq2
        have hways : (x.toList = [46, 46] ∧ ¬ ((0 : Int) < (out.length : Int))) ∨ (¬ x.toList = [46, 46] ∧ (x.toList == [46, 46]) = false) := by
          by_cases h : x.toList = [46, 46]
          · refine .inl ⟨h, ?_⟩
            have : out = [] := by
              cases out with
              | nil => rfl
              | cons a b => exact absurd ⟨h, by simp⟩ hq2
            rw [this]; simp
          · exact .inr ⟨h, by simpa using h⟩
        cases hw : word (L x) with
        | true =>
          have HW : Hid (address_isWord.f x = some true) := Lib.hid (by simp [address_isWord.f, hw])
          obtain ⟨i0, hi, hz0, hz1, hz2⟩ := info_parts info_string
          rcases hways with ⟨hq3, -⟩ | ⟨hq3, hq4⟩
          · rw [hq3.symm.trans (toList_L x) |>.symm] at hw
            exact absurd hw (by decide)
          · gi_wp2_with (first
              | (refine ⟨trivial, rfl, ?_⟩; gi_at_call 48; refine (callsIn_wide.2 (address_isWord.calls _ _ _ HW.out)).mono ?_; rintro e W2 ⟨rfl, hd⟩; have HR2 := Lib.hid (HR.out.next (by omega) hd); have p3 : W2.cell? ⟨w.heap.size + 2, 0, none⟩ = some (.slice A out.length cv) := (blk_cell HR2.out.b2 0).trans rfl; have hown := Kd.own_of_R HR2.out.own; have hsz2 : W.heap.size ≤ W2.heap.size := below_size hd)
              | (gi_at_builtin; go_must (refine wpListIn_append_own_at _ rfl _ _ 22 rfl w.heap.size 9 i0 (.string ⟨#[]⟩) 1 16 Tryz.underlying22 hi hz0 hz1 hz2 rfl (by decide) _ _ _ rfl (hown.alloc _) ⟨W2.heap.size, 0, none⟩ 1 1 [.string x] rfl rfl (cell_one_new _ _ _) (by simp [Value.oneCell']) (by unfold maxLen; omega) (by omega) (by simp; omega) ?_); go_must (intro v' w1 hown' hg _ hat; obtain ⟨g', cap', hv'⟩ := ownsRow_succ hown'; have q3 : w1.cell? ⟨w.heap.size + 2, 0, none⟩ = some (.slice A out.length cv) := (blk_cell (blk_grown (blk_alloc HR2.out.b2 _) hg (fun e => by have := HR2.out.own.1 _ e.symm; omega)) 0).trans rfl; have f3 := blk_frozen (blk_grown (blk_alloc HR2.out.b2 (.cells #[.string x] 9)) hg (fun e => by have := HR2.out.own.1 _ e.symm; omega)) 0; subst hv')))
            obtain ⟨hrs, hk, hbn⟩ := HR2.out.appended (n0 := n0) (x := x) (by omega) (by omega) (by omega) hg hown' hat
            refine ⟨(hk _ (by omega) (by omega)).trans (hd.block _ (by omega)), (hk _ (by omega) (by omega)).trans (hd.block _ (by omega)), Kept.of_below ((hd.mono (by omega)).trans hbn), _, out ++ [x], hrs, Lib.hid (fun rest => ?_), Lib.hid (by simp; omega)⟩
            · rw [H3.out, Go.Proofs.YtmokgpepeddopaaGreatDoor.Addr.resolve, if_neg (by rw [← toList_L]; exact hq1), if_neg hq2', if_pos hw, List.map_append]
              rfl
        | false =>
          have HW : Hid (address_isWord.f x = some false) := Lib.hid (by simp [address_isWord.f, hw])
          have hnone : Go.Proofs.YtmokgpepeddopaaGreatDoor.Addr.resolve (xs.map L) [] = none := by
            obtain ⟨rest, rfl⟩ := hpre
            rw [H3.out, Go.Proofs.YtmokgpepeddopaaGreatDoor.Addr.resolve, if_neg (by rw [← toList_L]; exact hq1), if_neg hq2', hw]
            simp
          have HNN := Lib.hid hnone
          clear hnone
          have a0 : W.cell? ⟨w.heap.size, 0, none⟩ = some (.slice none 0 0) := (blk_cell HR.out.b0 0).trans rfl
          rcases hways with ⟨hq3, hq5⟩ | ⟨hq3, hq4⟩
          all_goals gi_wp2_with (first
              | (refine ⟨trivial, rfl, ?_⟩; gi_at_call 48; refine (callsIn_wide.2 (address_isWord.calls _ _ _ HW.out)).mono ?_; rintro e W2 ⟨rfl, hd⟩; have HR2 := Lib.hid (HR.out.next (by omega) hd); have p3 : W2.cell? ⟨w.heap.size, 0, none⟩ = some (.slice none 0 0) := (blk_cell HR2.out.b0 0).trans rfl; have p4 : W2.cell? ⟨w.heap.size + 1, 0, none⟩ = some (.bool false) := (blk_cell HR2.out.b1 0).trans rfl; have f3 := blk_frozen HR2.out.b0 0; have f4 := blk_frozen HR2.out.b1 0; have hsz2 : W.heap.size ≤ W2.heap.size := below_size hd))
          all_goals (
            have hk : ∀ k, w.heap.size + 3 ≤ k → k < W.heap.size → ((W2.setCell ⟨w.heap.size, 0, none⟩ (.slice none 0 0)).setCell ⟨w.heap.size + 1, 0, none⟩ (.bool false)).heap[k]? = W.heap[k]? := fun k h1 h2 => by
              rw [Below.heap_setCell _ _ _ _ (by show k ≠ w.heap.size + 1; omega), Below.heap_setCell _ _ _ _ (by show k ≠ w.heap.size; omega)]
              exact hd.block k h2
            exact ⟨hk _ (by omega) (by omega), hk _ (by omega) (by omega), _, out, HR2.out.same (by omega), HNN⟩)
  case done =>
    rintro W ⟨v, out, h, h1, h2⟩ hK
    have HR := Lib.hid h
    clear h
    obtain ⟨A, cv, rfl, -⟩ := Kd.R_reads HR.out.own
    have p0 : W.cell? ⟨w.heap.size, 0, none⟩ = some (.slice none 0 0) := (blk_cell HR.out.b0 0).trans rfl
    have p1 : W.cell? ⟨w.heap.size + 1, 0, none⟩ = some (.bool false) := (blk_cell HR.out.b1 0).trans rfl
    have p2 : W.cell? ⟨w.heap.size + 2, 0, none⟩ = some (.slice A out.length cv) := (blk_cell HR.out.b2 0).trans rfl
    have f0 := blk_frozen HR.out.b0 0
    have f1 := blk_frozen HR.out.b1 0
    gi_wp2
    obtain ⟨W', hW'⟩ : ∃ W', (W.setCell ⟨w.heap.size, 0, none⟩ (.slice A out.length cv)).setCell ⟨w.heap.size + 1, 0, none⟩ (.bool true) = W' := ⟨_, rfl⟩
    rw [hW']
    have hK' : W'.heap[W0.heap.size]? = some (.deferred (some [])) := by
      rw [← hW', Below.heap_setCell _ _ _ _ (by show W0.heap.size ≠ w.heap.size + 1; omega), Below.heap_setCell _ _ _ _ (by show W0.heap.size ≠ w.heap.size; omega)]; exact hK
    have d0 : W'.heap[w.heap.size]? = some (.cells #[.slice A out.length cv] 22 (0, 0)) := by
      rw [← hW']; exact blk_far (blk_put HR.out.b0 0 _ rfl) (by show w.heap.size ≠ w.heap.size + 1; omega) _
    have d1 : W'.heap[w.heap.size + 1]? = some (.cells #[.bool true] 4 (0, 0)) := by
      rw [← hW']; exact blk_put (blk_far HR.out.b1 (by show w.heap.size + 1 ≠ w.heap.size; omega) _) 0 _ rfl
    have ho : Kd.R Kd.string 9 W' w.heap.size (fun k => w.heap.size + 5 ≤ k) (.slice A out.length cv) out := by
      rw [← hW']; exact Kd.R_far (Kd.R_far HR.out.own (fun k hk => by show k ≠ w.heap.size; omega) _) (fun k hk => by show k ≠ w.heap.size + 1; omega) _
    have hb : Below B0 w W' := by rw [← hW']; exact (HR.out.bel.setCell (by show B0 ≤ w.heap.size; omega) _).setCell (by show B0 ≤ w.heap.size + 1; omega) _
    have hg := grownBy_putObj' W' W0.heap.size (.deferred none)
    have q0 := (blk_cell (blk_grown d0 hg (fun e => by injection e with e; omega)) 0).trans rfl
    have q1 := (blk_cell (blk_grown d1 hg (fun e => by injection e with e; omega)) 0).trans rfl
    have hres : Go.Proofs.YtmokgpepeddopaaGreatDoor.Addr.resolve (xs.map L) [] = some (out.map L) := by
      have := h1.out []
      simpa [Go.Proofs.YtmokgpepeddopaaGreatDoor.Addr.resolve] using this
    refine ⟨by simp, .inl ⟨_, _, rfl, run_takeDeferred hK', ?_⟩⟩
    refine ⟨.tuple #[.slice A out.length cv, .bool true], by simp [results, Tryz.results43, go_sem, q0, q1], hb.grown hg (by have := hb.size; omega) (fun k e => by injection e with e; omega), ?_⟩
    rw [hres]
    have e1 : (out.map L).map B = out := by rw [List.map_map]; conv => rhs; rw [← List.map_id out]
                                            exact List.map_congr_left (fun x _ => B_L x)
    refine ⟨_, rfl, ?_⟩
    rw [e1]
    exact Kd.R_mono (Kd.R_grown ho hg (fun k hk e => by injection e with e; omega)) (fun _ _ => trivial)
  case stop =>
    rintro W ⟨v, out, h, h1⟩ hK
    have HR := Lib.hid h
    clear h
    have p0 : W.cell? ⟨w.heap.size, 0, none⟩ = some (.slice none 0 0) := (blk_cell HR.out.b0 0).trans rfl
    have p1 : W.cell? ⟨w.heap.size + 1, 0, none⟩ = some (.bool false) := (blk_cell HR.out.b1 0).trans rfl
    gi_wp2
    have hg := grownBy_putObj' W W0.heap.size (.deferred none)
    have q0 := (blk_cell (blk_grown HR.out.b0 hg (fun e => by injection e with e; omega)) 0).trans rfl
    have q1 := (blk_cell (blk_grown HR.out.b1 hg (fun e => by injection e with e; omega)) 0).trans rfl
    refine ⟨by simp, .inl ⟨_, _, rfl, run_takeDeferred hK, ?_⟩⟩
    refine ⟨.tuple #[.slice none 0 0, .bool false], by simp [results, Tryz.results43, go_sem, q0, q1], HR.out.bel.grown hg (by have := HR.out.bel.size; omega) (fun k e => by injection e with e; omega), ?_⟩
    rw [h1.out]
structure As (B0 : Nat) (w W : World) (v : Value) (out : List ByteArray) : Prop where
  b2 : W.heap[w.heap.size]? = some (.cells #[v] 22 (0, 0))
  own : Kd.R Kd.string 9 W w.heap.size (fun k => w.heap.size + 3 ≤ k) v out
  bel : Below B0 w W
theorem As.grown {B0 : Nat} {w W W' : World} {v : Value} {out : List ByteArray} (h : As B0 w W v out) (hB : B0 ≤ w.heap.size) {row : Option Nat} (hg : W.grownBy W' row) (hr : ∀ k, row = some k → B0 ≤ k ∧ (k < w.heap.size ∨ k = w.heap.size + 1 ∨ k = w.heap.size + 2)) : As B0 w W' v out :=
  ⟨blk_grown h.b2 hg (fun e => by have := hr _ e.symm; omega), Kd.R_grown h.own hg (fun k hk e => by have := hr _ e.symm; omega), h.bel.grown hg (Nat.le_trans hB h.bel.size) (fun k e => (hr _ e).1)⟩
theorem As.next {B0 : Nat} {w W W' : World} {v : Value} {out : List ByteArray} (h : As B0 w W v out) (hB : B0 ≤ w.heap.size) (hb : Below W.heap.size W W') : As B0 w W' v out :=
  h.grown hB (grown_of_below hb none) (fun k e => by cases e)
theorem As.appended {B0 n0 : Nat} {w W : World} {v v' : Value} {out : List ByteArray} {x : ByteArray} {o : Obj} {w1 : World} (h : As B0 w W v out) (hB : B0 ≤ w.heap.size) (hn : n0 ≤ w.heap.size) (hW : w.heap.size + 3 ≤ W.heap.size)
    (hg : (W.alloc o).grownBy w1 v.ownBlock) (hown : w1.ownsRow w.heap.size 9 1 v' (out.length + 1) (encs Value.string out ++ [Value.string x])) (hat : v'.ownBlock = v.ownBlock ∨ v'.ownBlock = some (W.alloc o).heap.size) :
    As B0 w (w1.setCell ⟨w.heap.size, 0, none⟩ v') v' (out ++ [x]) ∧ (∀ k, k < w.heap.size + 3 → k ≠ w.heap.size → (w1.setCell ⟨w.heap.size, 0, none⟩ v').heap[k]? = W.heap[k]?) ∧ Below n0 W (w1.setCell ⟨w.heap.size, 0, none⟩ v') := by
  have hal : Below W.heap.size W (W.alloc o) := below_alloc (Below.refl _ _) o
  have h' := h.next hB hal
  have hne : ∀ k, v.ownBlock = some k → w.heap.size + 3 ≤ k := fun k e => h.own.1 k e
  have hok' : ∀ k, v'.ownBlock = some k → w.heap.size + 3 ≤ k := fun k e => by
    rcases hat with e2 | e2
    · exact hne k (e2.symm.trans e)
    · rw [e2] at e; injection e with e; subst e; simp; omega
  have ho : Kd.R Kd.string 9 w1 w.heap.size (fun k => w.heap.size + 3 ≤ k) v' (out ++ [x]) := Kd.R_of_own (by simpa [encs] using hown) hok'
  have c2 := blk_grown h'.b2 hg (fun e => by have := hne _ e.symm; omega)
  have hb1 : Below B0 w w1 := h'.bel.grown hg (Nat.le_trans hB h'.bel.size) (fun k e => by have := hne k e; omega)
  have hz : (W.alloc o).heap.size = W.heap.size + 1 := by simp
  refine ⟨⟨blk_put c2 0 _ rfl, Kd.R_far ho (fun k hk => by show k ≠ w.heap.size; omega) _, hb1.setCell (by show B0 ≤ w.heap.size; omega) _⟩, fun k hk1 hk2 => ?_, ?_⟩
  · rw [Below.heap_setCell _ _ _ _ hk2, hg.block k (by omega) (fun e => by have := hne _ e.symm; omega)]
    exact hal.block k (by omega)
  · exact ((hal.mono (by omega)).grown hg (by omega) (fun k e => by have := hne k e; omega)).setCell (by show n0 ≤ w.heap.size; omega) _
set_option maxRecDepth 100000 in
set_option maxHeartbeats 8000000 in
theorem appendSeq_calls (gf : Nat) (lb : Array Value) (eg : ∀ args W, (callFunc gf args).run Tryz.prog W = .ok (.enter gf args) W) (C m0 n0 B0 : Nat) (xs : List ByteArray) (w : World) (hm : xs.length < 1099511627776)
    (hC : C < w.heap.size) (hn : n0 ≤ w.heap.size) (hB : B0 ≤ C) (hseq : SeqC Tryz.prog gf lb C m0 n0 xs w) :
    Calls Tryz.prog 122 #[.slice none 0 0, .func (.func gf) #[] lb] w fun e w' => ∃ v, e = .returned v ∧ Kd.R Kd.string 9 w' w.heap.size (fun _ => True) v xs ∧ Below B0 w w' := by
  have HSQ := Lib.hid hseq
  have HE := Lib.hid eg
  clear hseq eg
  refine (callsIn_wide (n := 0)).1 ?_
  refine callsIn_of_wp_marks Tryz.func122 rfl trivial ?_ rfl
  simp only [Tryz.ntmps122, List.size_toArray, List.length_cons, List.length_nil, Nat.reduceAdd, Nat.reduceSub, Array.replicate_succ, Array.replicate_zero, List.push_toArray, List.append_toArray, List.nil_append, List.cons_append]
  gi_wp2
  obtain ⟨W0, hW0⟩ : ∃ W0, w.alloc (.cells #[.slice none 0 0] 22) = W0 := ⟨_, rfl⟩
  have hsz : W0.heap.size = w.heap.size + 1 := by rw [← hW0]; simp
  have hAs : As B0 w W0 (.slice none 0 0) [] := by
    rw [← hW0]
    exact ⟨blk_new w _, Kd.R_nil _ _ _ _ _, (below_alloc (Below.refl _ _) _).mono (by omega)⟩
  have hbel : Below w.heap.size w W0 := by rw [← hW0]; exact below_alloc (Below.refl _ _) _
  rw [hW0]
  clear hW0
  have HAS := Lib.hid hAs
  clear hAs
  refine range_cell (gf := gf) (lb := lb) rfl HE.out (C := C) (m0 := m0) (n0 := n0) (xs := xs) (by omega) (by omega) HSQ.out hbel rfl
    (fun pre W => ∃ (v : Value), As B0 w W v pre) (fun W => False)
    ?i1 ?i2 ?i3 (fun _ _ _ h => h.elim) (fun _ _ h => h.elim) ⟨_, HAS.out⟩
    (fun x => { tmps := #[.slice none 0 0, .func (.func gf) #[] lb, .pointer (some ⟨w.heap.size, 0, none⟩), undef, .slice none 0 0, .string x, .func (.func gf) #[] lb, .string x, undef, undef, undef, undef, undef], defers := [] }) ?assign ?body ?done (fun _ h => h.elim)
  case i1 =>
    rintro pre W o ⟨v, h⟩
    exact ⟨v, h.next (by omega) (below_alloc (Below.refl _ _) o)⟩
  case i2 =>
    rintro pre W k o ⟨v, h⟩ hk1 hk2
    exact ⟨v, h.grown (by omega) (grownBy_putObj' W k o) (fun j e => by cases e; omega)⟩
  case i3 =>
    rintro pre W u ⟨v, h⟩
    exact ⟨v, h.grown (by omega) (row := some C) ⟨rfl, rfl, rfl, by simp [World.setCell], fun k _ hk => Below.heap_setCell _ _ _ _ (fun e => hk (by rw [e]))⟩ (fun j e => by cases e; omega)⟩
  case assign =>
    intro l x W K hK
    gi_wp2
    exact hK
  case body =>
    rintro l pre x W ⟨v, h⟩ hpre hW
    have HR := Lib.hid h
    clear h
    obtain ⟨A, cv, rfl, -⟩ := Kd.R_reads HR.out.own
    have p2 : W.cell? ⟨w.heap.size, 0, none⟩ = some (.slice A pre.length cv) := (blk_cell HR.out.b2 0).trans rfl
    have hown := Kd.own_of_R HR.out.own
    have hlen2 : pre.length + 1 ≤ xs.length := by have := hpre.length_le; simpa using this
    obtain ⟨i0, hi, hz0, hz1, hz2⟩ := info_parts info_string
    gi_wp2_with (first
      | (gi_at_builtin; refine wpListIn_append_own_at _ rfl _ _ 22 rfl w.heap.size 9 i0 (.string ⟨#[]⟩) 1 16 Tryz.underlying22 hi hz0 hz1 hz2 rfl (by decide) _ _ _ rfl (hown.alloc _) ⟨W.heap.size, 0, none⟩ 1 1 [.string x] rfl rfl (cell_one_new _ _ _) (by simp [Value.oneCell']) (by unfold maxLen; omega) (by omega) (by simp; omega) ?_; intro v' w1 hown' hg _ hat; obtain ⟨g', cap', hv'⟩ := ownsRow_succ hown'; have q3 : w1.cell? ⟨w.heap.size, 0, none⟩ = some (.slice A pre.length cv) := (blk_cell (blk_grown (blk_alloc HR.out.b2 _) hg (fun e => by have := HR.out.own.1 _ e.symm; omega)) 0).trans rfl; have f3 := blk_frozen (blk_grown (blk_alloc HR.out.b2 (.cells #[.string x] 9)) hg (fun e => by have := HR.out.own.1 _ e.symm; omega)) 0; subst hv'))
    obtain ⟨hrs, hk, hbn⟩ := HR.out.appended (n0 := n0) (x := x) (by omega) (by omega) (by omega) hg hown' hat
    exact ⟨hk _ (by omega) (by omega), hk _ (by omega) (by omega), Kept.of_below hbn, _, hrs⟩
  case done =>
    rintro W ⟨v, h⟩ hK
    have HR := Lib.hid h
    clear h
    obtain ⟨A, cv, rfl, -⟩ := Kd.R_reads HR.out.own
    have p2 : W.cell? ⟨w.heap.size, 0, none⟩ = some (.slice A xs.length cv) := (blk_cell HR.out.b2 0).trans rfl
    gi_wp2
    have hg := grownBy_putObj' W W0.heap.size (.deferred none)
    refine ⟨by simp, .inl ⟨_, _, rfl, run_takeDeferred hK, ?_⟩⟩
    exact ⟨_, results_tmp rfl _ _ _, _, rfl, Kd.R_mono (Kd.R_grown HR.out.own hg (fun k hk e => by injection e with e; omega)) (fun _ _ => trivial), HR.out.bel.grown hg (by have := HR.out.bel.size; omega) (fun k e => by injection e with e; omega)⟩
theorem collect_calls (gf : Nat) (lb : Array Value) (eg : ∀ args W, (callFunc gf args).run Tryz.prog W = .ok (.enter gf args) W) (C m0 n0 B0 : Nat) (xs : List ByteArray) (w : World) (hm : xs.length < 1099511627776)
    (hC : C < w.heap.size) (hn : n0 ≤ w.heap.size) (hB : B0 ≤ C) (hseq : SeqC Tryz.prog gf lb C m0 n0 xs w) :
    Calls Tryz.prog 98 #[.func (.func gf) #[] lb] w fun e w' => ∃ v, e = .returned v ∧ Kd.R Kd.string 9 w' w.heap.size (fun _ => True) v xs ∧ Below B0 w w' := by
  have hq := appendSeq_calls gf lb eg C m0 n0 B0 xs w hm hC hn hB hseq
  clear hseq eg
  go_enter Tryz.func98, Tryz.ntmps98
  go_wp2_with fail
  (with_reducible refine hq.mono ?_)
  rintro e w2 ⟨v, rfl, ho, hb⟩
  go_wp2_with fail
  go_ret
  exact ⟨_, rfl, ho, hb⟩
end Go.Proofs.YtmokgpepeddopaaGreatDoor.P
end
