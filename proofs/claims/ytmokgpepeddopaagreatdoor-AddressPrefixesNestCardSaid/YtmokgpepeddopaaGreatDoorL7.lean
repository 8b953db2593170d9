/- Lemmas on the way to the statement: part 7 of 34 (functions as plain Lean functions, and that each call comes to what they say). -/
import Derived.RangeFuncNested
import Derived.RangeFuncBound
import Derived.RangeFuncCalls
import Derived.RangeFuncLeaves
import Derived.Shelf.Abstract
import Derived.Shelf.RegionOpen
import Derived.WalkKit
import Derived.OwnWalkIn
import Derived.TacticsInMore
import Derived.LoopNIn
import Derived.LoopIn
section
namespace Go.Proofs.YtmokgpepeddopaaGreatDoor.P
open Go.RowKit Go.Shelf
set_option linter.unusedVariables false
def Kept (m0 n0 : Nat) (W W' : World) : Prop := ∀ k, m0 ≤ k → k < n0 → W'.heap[k]? = W.heap[k]?
theorem Kept.trans {m0 n0 : Nat} {A B C : World} (h : Kept m0 n0 A B) (k : Kept m0 n0 B C) : Kept m0 n0 A C := fun j h1 h2 => (k j h1 h2).trans (h j h1 h2)
theorem Kept.of_below {m0 n0 : Nat} {A B : World} (h : Below n0 A B) : Kept m0 n0 A B := fun j _ h2 => h.block j h2
theorem Kept.putObj {m0 n0 k : Nat} (W : World) (o : Obj) (h : n0 ≤ k) : Kept m0 n0 W (W.putObj k o) := fun j _ h2 => World.putObj_heap_other (by omega)
theorem Kept.cell {m0 n0 : Nat} {A B : World} (h : Kept m0 n0 A B) {p : Addr} (h1 : m0 ≤ p.block) (h2 : p.block < n0) : B.cell? p = A.cell? p := World.cell?_of_block (w := A) (h p.block h1 h2)
theorem Kept.frozen {m0 n0 : Nat} {A B : World} (h : Kept m0 n0 A B) {p : Addr} (h1 : m0 ≤ p.block) (h2 : p.block < n0) : B.frozen? p = A.frozen? p := World.frozen?_of_block (w := A) (h p.block h1 h2)
def SeqC (P : Program) (gf : Nat) (lb : Array Value) (C m0 n0 : Nat) (xs : List ByteArray) (w : World) : Prop :=
  ∀ (l : Nat) (J : List ByteArray → World → Prop) (Jx : World → Prop) (W : World), Below w.heap.size w W →
    (∀ pre W u, J pre W → J pre (W.setCell ⟨C, 0, none⟩ u)) → (∀ W u, Jx W → Jx (W.setCell ⟨C, 0, none⟩ u)) →
    (∀ pre x W1, J pre W1 → pre ++ [x] <+: xs → YieldAt Fence.wide 0 P l #[.string x] W1 fun e W' =>
      (e = .returned (.bool true) ∧ J (pre ++ [x]) W' ∧ Kept m0 n0 W1 W') ∨ (e = .returned (.bool false) ∧ Jx W')) →
    J [] W → CallsIn Fence.wide 0 P gf (#[.func (.yield l) #[] #[]] ++ lb) W fun e W' => (∃ v, e = .returned v) ∧ (J xs W' ∨ Jx W')
def bodyC (b m0 n0 : Nat) (I : World → Prop) (Ix : World → Prop) (W : World) : Exit → Act → World → Prop
  | .normal, _, W' => W'.heap[b]? = W.heap[b]? ∧ W'.heap[b + 1]? = W.heap[b + 1]? ∧ Kept m0 n0 W W' ∧ I W'
  | .ret, _, W' => W'.heap[b]? = W.heap[b]? ∧ W'.heap[b + 1]? = W.heap[b + 1]? ∧ Ix W'
  | _, _, _ => False
theorem range_cell {P : Program} {g : Operand} {ps : Array Tmp} {assign body : Code} {Q : Exit → Act → World → Prop} {a : Act} {w : World} {gf : Nat} {lb : Array Value}
    (hg : a.eval g = .func (.func gf) #[] lb) (eg : ∀ args w, (callFunc gf args).run P w = .ok (.enter gf args) w) {C m0 n0 : Nat} {xs : List ByteArray} {w0 : World} (hC : C < w.heap.size) (hn : n0 ≤ w.heap.size)
    (hseq : SeqC P gf lb C m0 n0 xs w0) (hb0 : Below w0.heap.size w0 w) (hps : ps.size = 1)
    (I : List ByteArray → World → Prop) (Ix : World → Prop)
    (hI1 : ∀ pre W o, I pre W → I pre (W.alloc o)) (hI2 : ∀ pre W k o, I pre W → w.heap.size ≤ k → k ≤ w.heap.size + 1 → I pre (W.putObj k o)) (hI3 : ∀ pre W u, I pre W → I pre (W.setCell ⟨C, 0, none⟩ u))
    (hX2 : ∀ W k o, Ix W → w.heap.size ≤ k → k ≤ w.heap.size + 1 → Ix (W.putObj k o)) (hX3 : ∀ W u, Ix W → Ix (W.setCell ⟨C, 0, none⟩ u))
    (h0 : I [] w) (a₁ : ByteArray → Act)
    (hassign : ∀ (l : Nat) (x : ByteArray) (W : World) (K : Act → World → Prop), K (a₁ x) W →
      assign.wpIn (Fence.wide.inRound l) 0 P (Exit.then K (fun _ _ _ => False)) { tmps := (ps.zip #[.string x]).foldl (fun t (p, v) => t.setIfInBounds p v) a.tmps, defers := [] } W)
    (hbody : ∀ (l : Nat) (pre : List ByteArray) (x : ByteArray) (W : World), I pre W → pre ++ [x] <+: xs → w.heap.size + 2 ≤ W.heap.size →
      body.wpIn (Fence.wide.inRound l) 0 P (bodyC w.heap.size m0 n0 (I (pre ++ [x])) Ix W) (a₁ x) W)
    (hdone : ∀ (W : World), I xs W → W.heap[w.heap.size]? = some (.deferred (some [])) → Q .normal { a with defers := { target := .collected w.heap.size, args := #[] } :: a.defers } W)
    (hstop : ∀ (W : World), Ix W → W.heap[w.heap.size]? = some (.deferred (some [])) → Code.ret.wpIn Fence.wide 0 P Q { a with defers := { target := .collected w.heap.size, args := #[] } :: a.defers } W) :
    (Code.rangeFunc g ps assign body).wpIn Fence.wide 0 P Q a w := by
  refine wpIn_rangeFunc fun fn hfn => ?_
  obtain ⟨rec, hrec⟩ : ∃ rec : LoopState → Option Code → Loop, rec = fun st pe => { state := st, pending := pe, fn, tmps := a.tmps, params := ps, assign, body, defers := w.heap.size } := ⟨_, rfl⟩
  have hR : ∀ st pe, (rec st pe).state = st ∧ (rec st pe).pending = pe := fun st pe => by rw [hrec]; exact ⟨rfl, rfl⟩
  obtain ⟨W1, hW1⟩ : ∃ W1, (w.alloc (.deferred (some []))).alloc (.loop (rec .ready none)) = W1 := ⟨_, rfl⟩
  have hL1 : W1.heap[w.heap.size + 1]? = some (.loop (rec .ready none)) := by
    have := World.alloc_heap_new (w.alloc (.deferred (some []))) (.loop (rec .ready none))
    rw [World.size_alloc] at this
    rw [← hW1]; exact this
  have hK1 : W1.heap[w.heap.size]? = some (.deferred (some [])) := by
    rw [← hW1]; exact (Below.heap_alloc _ _ _ (by simp)).trans (World.alloc_heap_new w _)
  have hb1 : Below w0.heap.size w0 W1 := by
    rw [← hW1]; exact hb0.trans ((((Below.refl _ w).alloc (Nat.le_refl _) _).alloc (by simp) _).mono hb0.size)
  have hset : ∀ (W : World) (u : Value) (k : Nat), w.heap.size ≤ k → (W.setCell ⟨C, 0, none⟩ u).heap[k]? = W.heap[k]? := fun W u k hk => Below.heap_setCell W ⟨C, 0, none⟩ u k (by show k ≠ C; omega)
  refine ⟨w.heap.size + 1, [{ target := .collected w.heap.size, args := #[] }], W1, { target := .fn (.func gf) lb, args := #[.func (.yield (w.heap.size + 1)) #[] #[]] }, W1, gf,
    #[.func (.yield (w.heap.size + 1)) #[] #[]] ++ lb, W1, ?_, ?_, fun _ _ => trivial, ?_, fun h => by simp [Fence.wide] at h, ?_⟩
  · rw [← hW1, hrec]; exact run_enterLoop_outer _ _ _ _ _
  · simp only [resolve, hg]
    simp [go_sem]
  · simp [invoke, go_sem, eg]
  · refine (hseq (w.heap.size + 1)
      (fun pre W => I pre W ∧ W.heap[w.heap.size + 1]? = some (.loop (rec .ready none)) ∧ W.heap[w.heap.size]? = some (.deferred (some [])))
      (fun W => Ix W ∧ W.heap[w.heap.size + 1]? = some (.loop (rec .done (some .ret))) ∧ W.heap[w.heap.size]? = some (.deferred (some []))) W1 hb1
      (fun pre W u h => ⟨hI3 _ _ _ h.1, (hset W u _ (by omega)).trans h.2.1, (hset W u _ (by omega)).trans h.2.2⟩)
      (fun W u h => ⟨hX3 _ _ h.1, (hset W u _ (by omega)).trans h.2.1, (hset W u _ (by omega)).trans h.2.2⟩)
      ?_ ⟨by rw [← hW1]; exact hI1 _ _ _ (hI1 _ _ _ h0), hL1, hK1⟩).mono ?_
    · rintro pre x W ⟨hi, hl, hk⟩ hpre
      have hlt : w.heap.size + 1 < W.heap.size := (Array.getElem?_eq_some_iff.1 hl).1
      have hy := run_yield (P := P) (args := #[.string x]) hl (by rw [hrec]; exact hps.symm)
      rw [hrec] at hy
      have hbr := run_beginRound (P := P) hl (hR _ _).1
      obtain ⟨W2, hW2⟩ : ∃ W2, W.putObj (w.heap.size + 1) (.loop { rec .ready none with state := .busy }) = W2 := ⟨_, rfl⟩
      rw [hW2] at hbr
      refine ⟨fn, _, assign, body, hy, roundIn_of_wpIn hfn (hassign _ x W _ ⟨W2, hbr, ?_⟩)⟩
      have hl2 : W2.heap[w.heap.size + 1]? = some (.loop { rec .ready none with state := .busy }) := by rw [← hW2]; exact World.putObj_heap_same hlt
      have hk2 : W2.heap[w.heap.size]? = some (.deferred (some [])) := by rw [← hW2]; exact (World.putObj_heap_other (by omega)).trans hk
      have hi2 : I pre W2 := by rw [← hW2]; exact hI2 _ _ _ _ hi (by omega) (Nat.le_refl _)
      have hb2 : Kept m0 n0 W W2 := by rw [← hW2]; exact Kept.putObj _ _ (by omega)
      have hlt2 : w.heap.size + 2 ≤ W2.heap.size := by rw [← hW2, World.putObj_size]; omega
      refine wpIn_mono (hbody _ pre x W2 hi2 hpre hlt2) ?_
      rintro e a3 W3 hp
      cases e with
      | normal =>
        obtain ⟨e1, e2, hb3, hi3⟩ := hp
        have hl3 := e2.trans hl2
        have hend := run_endRound (P := P) none hl3
        refine ⟨_, _, hend, .inl ⟨rfl, ⟨hI2 _ _ _ _ hi3 (by omega) (Nat.le_refl _), ?_, ?_⟩, ?_⟩⟩
        · rw [World.putObj_heap_same (Array.getElem?_eq_some_iff.1 hl3).1, hrec]; rfl
        · exact (World.putObj_heap_other (by omega)).trans (e1.trans hk2)
        · exact (hb2.trans hb3).trans (Kept.putObj _ _ (by omega))
      | ret =>
        obtain ⟨e1, e2, hi3⟩ := hp
        have hl3 := e2.trans hl2
        have hend := run_endRound (P := P) (some .ret) hl3
        refine ⟨_, _, hend, .inr ⟨rfl, hX2 _ _ _ hi3 (by omega) (Nat.le_refl _), ?_, ?_⟩⟩
        · rw [World.putObj_heap_same (Array.getElem?_eq_some_iff.1 hl3).1, hrec]; rfl
        · exact (World.putObj_heap_other (by omega)).trans (e1.trans hk2)
      | exit id => exact hp.elim
      | goto t => exact hp.elim
      | panic ch => exact hp.elim
      | outgrown => exact hp.elim
    · rintro e W2 ⟨⟨v, rfl⟩, (⟨hi, hl, hk⟩ | ⟨hi, hl, hk⟩)⟩
      · have he := run_endLoop (P := P) hl (by rw [(hR _ _).1]; simp)
        rw [(hR _ _).2] at he
        exact ⟨none, _, he, hdone _ (hI2 _ _ _ _ hi (by omega) (Nat.le_refl _)) ((World.putObj_heap_other (by omega)).trans hk)⟩
      · have he := run_endLoop (P := P) hl (by rw [(hR _ _).1]; simp)
        rw [(hR _ _).2] at he
        exact ⟨some .ret, _, he, hstop _ (hX2 _ _ _ hi (by omega) (Nat.le_refl _)) ((World.putObj_heap_other (by omega)).trans hk)⟩
end Go.Proofs.YtmokgpepeddopaaGreatDoor.P
end
