/- Lemmas on the way to the statement: part 22 of 34 (functions as plain Lean functions, and that each call comes to what they say). -/
import Derived.Test.YtmokgpepeddopaaGreatDoorL19
import Derived.Test.YtmokgpepeddopaaGreatDoorL15
import Derived.Deep.DeepCutAuto
section
namespace Go.Proofs.YtmokgpepeddopaaGreatDoor.P
open Go.RowKit Go.Proofs.YtmokgpepeddopaaGreatDoorW.PrintWords Go.Proofs.YtmokgpepeddopaaGreatDoorW.PrintLast Go.Proofs.YtmokgpepeddopaaGreatDoorW.PrintMore
open Go.Proofs.YtmokgpepeddopaaGreatDoor.Addr
set_option linter.unusedSimpArgs false
set_option linter.unusedVariables false
def commonL : List S97 → List S97 → List S97 → Option (List S97 × Bool)
  | [], _, out => some (out, true)
  | a :: xs, [], out => commonL xs [] (out ++ [a])
  | a :: xs, b :: ys, out => (address_meet.f a.f0 a.f1 b.f0 b.f1).bind fun t => if t.2.2 = true then commonL xs ys (out ++ [⟨t.1, t.2.1⟩]) else some (out, false)
def commonR (X Y : S100) : Option (Int × ByteArray × List S97 × Bool × Bool) :=
  (address_meet.f X.f0.f0 X.f0.f1 Y.f0.f0 Y.f0.f1).bind fun t =>
    if t.2.2 = false ∨ (Y.f1.length < X.f1.length ∧ Y.f2 = false) then some (t.1, t.2.1, [], false, false)
    else (commonL X.f1 Y.f1 []).bind fun u => some (t.1, t.2.1, u.1, X.f2 && Y.f2, u.2)
def address_common.f (x0 : Int) (x1 : ByteArray) (xs : List S97) (xt : Bool) (y0 : Int) (y1 : ByteArray) (ys : List S97) (yt : Bool) : Option (Int × ByteArray × List S97 × Bool × Bool) :=
  if xs.length + ys.length < 1099511627776 then (if xs.length < ys.length then commonR ⟨⟨y0, y1⟩, ys, yt⟩ ⟨⟨x0, x1⟩, xs, xt⟩ else commonR ⟨⟨x0, x1⟩, xs, xt⟩ ⟨⟨y0, y1⟩, ys, yt⟩) else none
def address_common.T11 : Bool × List (List Nat × List Nat) := (true, [([], []), ([], []), ([1], [1]), ([], []), ([2, 3], [2, 3]), ([4], [4]), ([0, 5], [0, 5]), ([6], [6]), ([7], [7]), ([7], [7]), ([8, 6, 0, 1, 2, 3, 4, 5, 6, 7, 8], [8]), ([9, 10, 0, 1, 2, 3, 4, 5, 6, 7, 8, 9, 10], [9])])
def address_common.B11 : List Nat := [0, 0, 2, 0, 14, 30, 63, 127, 255, 255, 511, 2047]
theorem address_common.tab11 : rtab .any (opsOf Tryz.f107 11) = address_common.T11 := by kernel_rfl
theorem address_common.bits11 : waitsOk address_common.T11.2 address_common.B11 = true := by kernel_rfl
abbrev pcs (X : S100) (v : Value) : Array Value := #[.int .i64 X.f0.f0, .string X.f0.f1, v, .bool X.f2]
structure Cm (w W : World) (X : S100) (Ax : Option Addr) (cx : Nat) (Y : S100) (Ay : Option Addr) (cy : Nat) (O : S100) (v : Value) (g : Nat) : Prop where
  bx : W.heap[w.heap.size]? = some (.cells (pcs X (.slice Ax X.f1.length cx)) 100 (0, 0))
  bY : W.heap[w.heap.size + 1]? = some (.cells (pcs Y (.slice Ay Y.f1.length cy)) 100 (0, 0))
  bo : W.heap[w.heap.size + 2]? = some (.cells (pcs O v) 100 (0, 0))
  own : Kd.R k97 97 W w.heap.size (fun k => w.heap.size + 3 ≤ k ∧ k ≠ g) v O.f1
  bel : Below w.heap.size w W
theorem Cm.size {w W : World} {X : S100} {Ax : Option Addr} {cx : Nat} {Y : S100} {Ay : Option Addr} {cy : Nat} {O : S100} {v : Value} {g : Nat} (h : Cm w W X Ax cx Y Ay cy O v g) : w.heap.size + 3 ≤ W.heap.size := by
  have := blk_lt h.bo; omega
theorem Cm.next {w W W' : World} {X : S100} {Ax : Option Addr} {cx : Nat} {Y : S100} {Ay : Option Addr} {cy : Nat} {O : S100} {v : Value} {g : Nat} (h : Cm w W X Ax cx Y Ay cy O v g) (hb : Below W.heap.size W W') : Cm w W' X Ax cx Y Ay cy O v g :=
  ⟨(hb.block _ (blk_lt h.bx)).trans h.bx, (hb.block _ (blk_lt h.bY)).trans h.bY, (hb.block _ (blk_lt h.bo)).trans h.bo, Kd.R_below h.own hb, h.bel.trans (hb.mono (below_size h.bel))⟩
theorem Cm.any {w W : World} {X : S100} {Ax : Option Addr} {cx : Nat} {Y : S100} {Ay : Option Addr} {cy : Nat} {O : S100} {v : Value} {g : Nat} (h : Cm w W X Ax cx Y Ay cy O v g) : Cm w W X Ax cx Y Ay cy O v 0 :=
  ⟨h.bx, h.bY, h.bo, Kd.R_mono h.own (fun k hk => ⟨hk.1, by omega⟩), h.bel⟩
theorem Cm.alloc {w W : World} {X : S100} {Ax : Option Addr} {cx : Nat} {Y : S100} {Ay : Option Addr} {cy : Nat} {O : S100} {v : Value} {g : Nat} (h : Cm w W X Ax cx Y Ay cy O v g) (o : Obj) : Cm w (W.alloc o) X Ax cx Y Ay cy O v W.heap.size := by
  have h' : Cm w (W.alloc o) X Ax cx Y Ay cy O v g := h.next (below_alloc (Below.refl _ _) o)
  exact ⟨h'.bx, h'.bY, h'.bo, Kd.R_below (Kd.R_mono (Kd.R_bound h.own) (fun k hk => ⟨hk.1.1, by have := hk.2.2.1; omega⟩)) (below_alloc (Below.refl _ _) o), h'.bel⟩
theorem Cm.farG {w W : World} {X : S100} {Ax : Option Addr} {cx : Nat} {Y : S100} {Ay : Option Addr} {cy : Nat} {O : S100} {v : Value} {g : Nat} (h : Cm w W X Ax cx Y Ay cy O v g) (hg : w.heap.size + 3 ≤ g) (j : Nat) (u : Value) : Cm w (W.setCell ⟨g, j, none⟩ u) X Ax cx Y Ay cy O v g :=
  ⟨blk_far h.bx (by show w.heap.size ≠ g; omega) _, blk_far h.bY (by show w.heap.size + 1 ≠ g; omega) _, blk_far h.bo (by show w.heap.size + 2 ≠ g; omega) _, Kd.R_far h.own (fun k hk => by show k ≠ g; exact hk.2) _, h.bel.setCell (by show w.heap.size ≤ g; omega) _⟩
theorem Cm.setO {w W : World} {X : S100} {Ax : Option Addr} {cx : Nat} {Y : S100} {Ay : Option Addr} {cy : Nat} {O O' : S100} {v : Value} {g : Nat} (h : Cm w W X Ax cx Y Ay cy O v g) (j : Nat) (u : Value) (e : (pcs O v).setIfInBounds j u = pcs O' v) (e1 : O'.f1 = O.f1) :
    Cm w (W.setCell ⟨w.heap.size + 2, j, none⟩ u) X Ax cx Y Ay cy O' v g :=
  ⟨blk_far h.bx (by show w.heap.size ≠ w.heap.size + 2; omega) _, blk_far h.bY (by show w.heap.size + 1 ≠ w.heap.size + 2; omega) _, blk_put h.bo j u e, e1 ▸ Kd.R_far h.own (fun k hk => by show k ≠ w.heap.size + 2; omega) _, h.bel.setCell (by show w.heap.size ≤ w.heap.size + 2; omega) _⟩
theorem Cm.setV {w W W' : World} {X : S100} {Ax : Option Addr} {cx : Nat} {Y : S100} {Ay : Option Addr} {cy : Nat} {O : S100} {v v' : Value} {g : Nat} {out' : List S97} (h : Cm w W X Ax cx Y Ay cy O v g) (hb : Below w.heap.size w W') (hg : W.grownBy W' v.ownBlock)
    (ho : Kd.R k97 97 W' w.heap.size (fun k => w.heap.size + 3 ≤ k ∧ k ≠ g) v' out') : Cm w (W'.setCell ⟨w.heap.size + 2, 2, none⟩ v') X Ax cx Y Ay cy ⟨O.f0, out', O.f2⟩ v' g := by
  have hne : ∀ j, j < w.heap.size + 3 → some j ≠ v.ownBlock := fun j hj e => by have := (h.own.1 j e.symm).1; omega
  exact ⟨blk_far (blk_grown h.bx hg (hne _ (by omega))) (by show w.heap.size ≠ w.heap.size + 2; omega) _, blk_far (blk_grown h.bY hg (hne _ (by omega))) (by show w.heap.size + 1 ≠ w.heap.size + 2; omega) _, blk_put (blk_grown h.bo hg (hne _ (by omega))) 2 v' rfl,
    Kd.R_far ho (fun k hk => by show k ≠ w.heap.size + 2; omega) _, hb.setCell (by show w.heap.size ≤ w.heap.size + 2; omega) _⟩
theorem Cm.swap {w W : World} {X : S100} {Ax : Option Addr} {cx : Nat} {Y : S100} {Ay : Option Addr} {cy : Nat} {O : S100} {v : Value} {g : Nat} (h : Cm w W X Ax cx Y Ay cy O v g) :
    Cm w ((((((((W.setCell ⟨w.heap.size, 0, none⟩ (.int .i64 Y.f0.f0)).setCell ⟨w.heap.size, 1, none⟩ (.string Y.f0.f1)).setCell ⟨w.heap.size, 2, none⟩ (.slice Ay Y.f1.length cy)).setCell ⟨w.heap.size, 3, none⟩ (.bool Y.f2)).setCell
      ⟨w.heap.size + 1, 0, none⟩ (.int .i64 X.f0.f0)).setCell ⟨w.heap.size + 1, 1, none⟩ (.string X.f0.f1)).setCell ⟨w.heap.size + 1, 2, none⟩ (.slice Ax X.f1.length cx)).setCell ⟨w.heap.size + 1, 3, none⟩ (.bool X.f2)) Y Ay cy X Ax cx O v g := by
  have n1 : w.heap.size ≠ w.heap.size + 1 := by omega
  have n2 : w.heap.size + 1 ≠ w.heap.size := by omega
  have n3 : w.heap.size + 2 ≠ w.heap.size := by omega
  have n4 : w.heap.size + 2 ≠ w.heap.size + 1 := by omega
  have f (j : Nat) (u : Value) {W' : World} (hR : Kd.R k97 97 W' w.heap.size (fun k => w.heap.size + 3 ≤ k ∧ k ≠ g) v O.f1) := Kd.R_far (p := ⟨w.heap.size, j, none⟩) hR (fun k hk => by show k ≠ w.heap.size; omega) u
  have f' (j : Nat) (u : Value) {W' : World} (hR : Kd.R k97 97 W' w.heap.size (fun k => w.heap.size + 3 ≤ k ∧ k ≠ g) v O.f1) := Kd.R_far (p := ⟨w.heap.size + 1, j, none⟩) hR (fun k hk => by show k ≠ w.heap.size + 1; omega) u
  refine ⟨?_, ?_, ?_, f' _ _ (f' _ _ (f' _ _ (f' _ _ (f _ _ (f _ _ (f _ _ (f _ _ h.own))))))), ?_⟩
  · exact blk_far (blk_far (blk_far (blk_far (blk_put (blk_put (blk_put (blk_put h.bx 0 _ rfl) 1 _ rfl) 2 _ rfl) 3 _ rfl) n1 _) n1 _) n1 _) n1 _
  · exact blk_put (blk_put (blk_put (blk_put (blk_far (blk_far (blk_far (blk_far h.bY n2 _) n2 _) n2 _) n2 _) 0 _ rfl) 1 _ rfl) 2 _ rfl) 3 _ rfl
  · exact blk_far (blk_far (blk_far (blk_far (blk_far (blk_far (blk_far (blk_far h.bo n3 _) n3 _) n3 _) n3 _) n4 _) n4 _) n4 _) n4 _
  · have l0 : w.heap.size ≤ w.heap.size := Nat.le_refl _
    have l1 : w.heap.size ≤ w.heap.size + 1 := by omega
    exact (((((((h.bel.setCell l0 _).setCell l0 _).setCell l0 _).setCell l0 _).setCell l1 _).setCell l1 _).setCell l1 _).setCell l1 _
theorem Cm.fx {w W : World} {X : S100} {Ax : Option Addr} {cx : Nat} {Y : S100} {Ay : Option Addr} {cy : Nat} {O : S100} {v : Value} {g : Nat} (h : Cm w W X Ax cx Y Ay cy O v g) :
    W.cell? ⟨w.heap.size, 0, none⟩ = some (.int .i64 X.f0.f0) ∧ W.cell? ⟨w.heap.size, 1, none⟩ = some (.string X.f0.f1) ∧ W.cell? ⟨w.heap.size, 2, none⟩ = some (.slice Ax X.f1.length cx) ∧ W.cell? ⟨w.heap.size, 3, none⟩ = some (.bool X.f2)
    ∧ W.cell? ⟨w.heap.size + 1, 0, none⟩ = some (.int .i64 Y.f0.f0) ∧ W.cell? ⟨w.heap.size + 1, 1, none⟩ = some (.string Y.f0.f1) ∧ W.cell? ⟨w.heap.size + 1, 2, none⟩ = some (.slice Ay Y.f1.length cy) ∧ W.cell? ⟨w.heap.size + 1, 3, none⟩ = some (.bool Y.f2)
    ∧ W.cell? ⟨w.heap.size + 2, 0, none⟩ = some (.int .i64 O.f0.f0) ∧ W.cell? ⟨w.heap.size + 2, 1, none⟩ = some (.string O.f0.f1) ∧ W.cell? ⟨w.heap.size + 2, 2, none⟩ = some v ∧ W.cell? ⟨w.heap.size + 2, 3, none⟩ = some (.bool O.f2)
    ∧ W.frozen? ⟨w.heap.size + 2, 0, none⟩ = false ∧ W.frozen? ⟨w.heap.size + 2, 1, none⟩ = false ∧ W.frozen? ⟨w.heap.size + 2, 2, none⟩ = false ∧ W.frozen? ⟨w.heap.size + 2, 3, none⟩ = false :=
  ⟨(blk_cell h.bx 0).trans rfl, (blk_cell h.bx 1).trans rfl, (blk_cell h.bx 2).trans rfl, (blk_cell h.bx 3).trans rfl, (blk_cell h.bY 0).trans rfl, (blk_cell h.bY 1).trans rfl, (blk_cell h.bY 2).trans rfl, (blk_cell h.bY 3).trans rfl, (blk_cell h.bo 0).trans rfl, (blk_cell h.bo 1).trans rfl, (blk_cell h.bo 2).trans rfl, (blk_cell h.bo 3).trans rfl, blk_frozen h.bo 0, blk_frozen h.bo 1, blk_frozen h.bo 2, blk_frozen h.bo 3⟩
def Cr (w : World) (X : S100) (A : Option Addr) (c : Nat) : Prop := X.f1.length ≤ c ∧ Kd.C k97 w A X.f1.length X.f1
def common_post (w : World) (r : Int × ByteArray × List S97 × Bool × Bool) (e : Ending) (w' : World) : Prop :=
  ∃ v0_ : Value, e = .returned (.tuple #[.agg #[.int .i64 r.1, .string r.2.1, v0_, .bool r.2.2.2.1], .bool r.2.2.2.2]) ∧ Kd.R k97 97 w' w.heap.size (fun _ => True) v0_ r.2.2.1 ∧ Below w.heap.size w w'
theorem Cm.fz {w W : World} {X : S100} {Ax : Option Addr} {cx : Nat} {Y : S100} {Ay : Option Addr} {cy : Nat} {O : S100} {v : Value} {g : Nat} (h : Cm w W X Ax cx Y Ay cy O v g) :
    W.frozen? ⟨w.heap.size, 0, none⟩ = false ∧ W.frozen? ⟨w.heap.size, 1, none⟩ = false ∧ W.frozen? ⟨w.heap.size, 2, none⟩ = false ∧ W.frozen? ⟨w.heap.size, 3, none⟩ = false
    ∧ W.frozen? ⟨w.heap.size + 1, 0, none⟩ = false ∧ W.frozen? ⟨w.heap.size + 1, 1, none⟩ = false ∧ W.frozen? ⟨w.heap.size + 1, 2, none⟩ = false ∧ W.frozen? ⟨w.heap.size + 1, 3, none⟩ = false :=
  ⟨blk_frozen h.bx 0, blk_frozen h.bx 1, blk_frozen h.bx 2, blk_frozen h.bx 3, blk_frozen h.bY 0, blk_frozen h.bY 1, blk_frozen h.bY 2, blk_frozen h.bY 3⟩
theorem Cm.again {w W : World} {X : S100} {Ax : Option Addr} {cx : Nat} {Y : S100} {Ay : Option Addr} {cy : Nat} {O : S100} {v : Value} {g : Nat} (h : Cm w W X Ax cx Y Ay cy O v g) :
    Cm w ((((W.setCell ⟨w.heap.size + 2, 0, none⟩ (.int .i64 O.f0.f0)).setCell ⟨w.heap.size + 2, 1, none⟩ (.string O.f0.f1)).setCell ⟨w.heap.size + 2, 2, none⟩ v).setCell ⟨w.heap.size + 2, 3, none⟩ (.bool O.f2)) X Ax cx Y Ay cy O v g :=
  (((h.setO 0 _ rfl rfl).setO 1 _ rfl rfl).setO 2 _ rfl rfl).setO 3 _ rfl rfl
theorem common_end {w W : World} {X : S100} {Ax : Option Addr} {cx : Nat} {Y : S100} {Ay : Option Addr} {cy : Nat} {O : S100} {v : Value} {g : Nat} (h : Cm w W X Ax cx Y Ay cy O v g) (ok : Bool) (tm : Array Value) (ds : List Deferred) (hd : ds = [])
    (ht : (tm[4]?, tm[5]?) = (some (.pointer (some ⟨w.heap.size + 2, 0, none⟩)), some (.bool ok))) : bodyPost Tryz.prog Tryz.f107 (common_post w (O.f0.f0, O.f0.f1, O.f1, O.f2, ok)) Exit.ret { tmps := tm, defers := ds } W := by
  obtain ⟨-, -, -, -, -, -, -, -, p8, p9, p10, p11, -⟩ := h.fx
  injection ht with t4 t5
  subst hd
  exact bodyPost_ret (v := .tuple #[.agg #[.int .i64 O.f0.f0, .string O.f0.f1, v, .bool O.f2], .bool ok]) (by simp [results, Tryz.results107, go_sem, p8, p9, p10, p11, t4, t5]) rfl ⟨_, rfl, Kd.R_mono h.own (fun _ _ => trivial), h.bel⟩
set_option maxRecDepth 100000 in
set_option maxHeartbeats 8000000 in
theorem common_walk (x0 : Int) (x1 : ByteArray) (Ax0 : Option Addr) (cx0 : Nat) (xs : List S97) (xt : Bool) (y0 : Int) (y1 : ByteArray) (Ay0 : Option Addr) (cy0 : Nat) (ys : List S97) (yt : Bool) (r : Int × ByteArray × List S97 × Bool × Bool) (w : World)
    (hrx : Kd.C k97 w Ax0 xs.length xs) (hcx : xs.length ≤ cx0) (hry : Kd.C k97 w Ay0 ys.length ys) (hcy : ys.length ≤ cy0) (h : address_common.f x0 x1 xs xt y0 y1 ys yt = some r) :
    Calls Tryz.prog 107 #[.agg #[.int .i64 x0, .string x1, .slice Ax0 xs.length cx0, .bool xt], .agg #[.int .i64 y0, .string y1, .slice Ay0 ys.length cy0, .bool yt]] w (common_post w r) := by
  unfold address_common.f at h
  split at h
  · rename_i hm
    have HM := Lib.hid hm
    have HF := Lib.hid h
    have HRX := Lib.hid (show Cr w ⟨⟨x0, x1⟩, xs, xt⟩ Ax0 cx0 from ⟨hcx, hrx⟩)
    have HRY := Lib.hid (show Cr w ⟨⟨y0, y1⟩, ys, yt⟩ Ay0 cy0 from ⟨hcy, hry⟩)
    have hu := Tryz.underlying100
    have hu2 := Tryz.underlying97
    have HST : Hid (Cm w (((w.alloc (.cells #[.int .i64 x0, .string x1, .slice Ax0 xs.length cx0, .bool xt] 100)).alloc (.cells #[.int .i64 y0, .string y1, .slice Ay0 ys.length cy0, .bool yt] 100)).alloc (.cells #[.int .i64 0, .string ⟨#[]⟩, .slice none 0 0, .bool false] 100)) ⟨⟨x0, x1⟩, xs, xt⟩ Ax0 cx0 ⟨⟨y0, y1⟩, ys, yt⟩ Ay0 cy0 ⟨⟨0, ⟨#[]⟩⟩, [], false⟩ (.slice none 0 0) 0) := by
      refine Lib.hid ⟨blk_alloc (blk_alloc (blk_new w _) _) _, ?_, ?_, Kd.R_nil _ _ _ _ _, below_alloc (below_alloc (below_alloc (Below.refl _ _) _) _) _⟩
      · have := blk_new (w.alloc (.cells (pcs ⟨⟨x0, x1⟩, xs, xt⟩ (.slice Ax0 xs.length cx0)) 100)) (.cells (pcs ⟨⟨y0, y1⟩, ys, yt⟩ (.slice Ay0 ys.length cy0)) 100)
        rw [World.size_alloc] at this
        exact blk_alloc this _
      · have := blk_new ((w.alloc (.cells (pcs ⟨⟨x0, x1⟩, xs, xt⟩ (.slice Ax0 xs.length cx0)) 100)).alloc (.cells (pcs ⟨⟨y0, y1⟩, ys, yt⟩ (.slice Ay0 ys.length cy0)) 100)) (.cells (pcs ⟨⟨0, ⟨#[]⟩⟩, [], false⟩ (.slice none 0 0)) 100)
        simpa using this
    clear h hm hrx hry hcx hcy
    go_enter Tryz.func107, Tryz.ntmps107
    go_upto_if 14 with fail
    go_cut [] (fun wc => ∃ (X Y : S100) (Ax Ay : Option Addr) (cx cy : Nat), Hid (Cm w wc X Ax cx Y Ay cy ⟨⟨0, ⟨#[]⟩⟩, [], false⟩ (.slice none 0 0) 0) ∧ Hid (Cr w X Ax cx ∧ Cr w Y Ay cy) ∧ Hid (commonR X Y = some r) ∧ Hid (X.f1.length + Y.f1.length < 1099511627776))
    case first =>
      generalize ((w.alloc (.cells #[.int .i64 x0, .string x1, .slice Ax0 xs.length cx0, .bool xt] 100)).alloc (.cells #[.int .i64 y0, .string y1, .slice Ay0 ys.length cy0, .bool yt] 100)).alloc (.cells #[.int .i64 0, .string ⟨#[]⟩, .slice none 0 0, .bool false] 100) = W0 at HST ⊢
      obtain ⟨p0, p1, p2, p3, p4, p5, p6, p7, -⟩ := HST.out.fx
      obtain ⟨f0, f1, f2, f3, f4, f5, f6, f7⟩ := HST.out.fz
      by_cases hl : xs.length < ys.length
      · have hf := HF.out
        rw [if_pos hl] at hf
        have HF2 := Lib.hid hf
        clear hf HF
        go_wp2_with fail
        go_meet
        exact ⟨_, _, _, _, _, _, Lib.hid HST.out.swap, Lib.hid ⟨HRY.out, HRX.out⟩, HF2, Lib.hid (by have := HM.out; simp only; omega)⟩
      · have hf := HF.out
        rw [if_neg hl] at hf
        have HF2 := Lib.hid hf
        clear hf HF
        go_wp2_with fail
        go_meet
        exact ⟨_, _, _, _, _, _, HST, Lib.hid ⟨HRX.out, HRY.out⟩, HF2, Lib.hid (by have := HM.out; simp only; omega)⟩
    case rest =>
      clear HST HM HF HRX HRY
      obtain ⟨X, Y, Ax, Ay, cx, cy, HST, HRR, HF, HM⟩ := hcut
      obtain ⟨⟨k, s, ok⟩, hmt⟩ : ∃ t, address_meet.f X.f0.f0 X.f0.f1 Y.f0.f0 Y.f0.f1 = some t := by
        have := HF.out
        unfold commonR at this
        cases hq : address_meet.f X.f0.f0 X.f0.f1 Y.f0.f0 Y.f0.f1 with
        | none => rw [hq] at this; cases this
        | some t => exact ⟨t, rfl⟩
      have hf := HF.out
      unfold commonR at hf
      rw [hmt] at hf
      simp only [Option.bind_some] at hf
      have HF2 := Lib.hid hf
      have HMT := Lib.hid hmt
      clear hf hmt HF
      obtain ⟨p0, p1, p2, p3, p4, p5, p6, p7, p8, p9, p10, p11, g0, g1, g2, g3⟩ := HST.out.fx
      by_cases hfail : ok = false ∨ (Y.f1.length < X.f1.length ∧ Y.f2 = false)
      · have hf := HF2.out
        rw [if_pos hfail] at hf
        have hr := Option.some.inj hf
        subst hr
        clear hf HF2
        rcases hfail with rfl | ⟨hlt, hy⟩
        · go_wp2_with (go_at_call 128; (with_reducible refine (address_meet.calls _ _ _ _ _ _ _ _ HMT.out).mono ?_); rintro e W1 ⟨rfl, hd⟩; have HS1 := Lib.hid (HST.out.next hd); clear hd HST; clear p0 p1 p2 p3 p4 p5 p6 p7 p8 p9 p10 p11 g0 g1 g2 g3; obtain ⟨p0, p1, p2, p3, p4, p5, p6, p7, p8, p9, p10, p11, g0, g1, g2, g3⟩ := HS1.out.fx)
          exact common_end ((HS1.out.setO (O' := ⟨⟨k, ⟨#[]⟩⟩, [], false⟩) 0 _ rfl rfl).setO (O' := ⟨⟨k, s⟩, [], false⟩) 1 _ rfl rfl).again false _ _ (by rfl) (by rfl)
        · cases ok
          · go_wp2_with (go_at_call 128; (with_reducible refine (address_meet.calls _ _ _ _ _ _ _ _ HMT.out).mono ?_); rintro e W1 ⟨rfl, hd⟩; have HS1 := Lib.hid (HST.out.next hd); clear hd HST; clear p0 p1 p2 p3 p4 p5 p6 p7 p8 p9 p10 p11 g0 g1 g2 g3; obtain ⟨p0, p1, p2, p3, p4, p5, p6, p7, p8, p9, p10, p11, g0, g1, g2, g3⟩ := HS1.out.fx)
            exact common_end ((HS1.out.setO (O' := ⟨⟨k, ⟨#[]⟩⟩, [], false⟩) 0 _ rfl rfl).setO (O' := ⟨⟨k, s⟩, [], false⟩) 1 _ rfl rfl).again false _ _ (by rfl) (by rfl)
          · go_wp2_with (go_at_call 128; (with_reducible refine (address_meet.calls _ _ _ _ _ _ _ _ HMT.out).mono ?_); rintro e W1 ⟨rfl, hd⟩; have HS1 := Lib.hid (HST.out.next hd); clear hd HST; clear p0 p1 p2 p3 p4 p5 p6 p7 p8 p9 p10 p11 g0 g1 g2 g3; obtain ⟨p0, p1, p2, p3, p4, p5, p6, p7, p8, p9, p10, p11, g0, g1, g2, g3⟩ := HS1.out.fx)
            exact common_end ((HS1.out.setO (O' := ⟨⟨k, ⟨#[]⟩⟩, [], false⟩) 0 _ rfl rfl).setO (O' := ⟨⟨k, s⟩, [], false⟩) 1 _ rfl rfl).again false _ _ (by rfl) (by rfl)
      · have hf := HF2.out
        rw [if_neg hfail] at hf
        have HF3 := Lib.hid hf
        clear hf HF2
        obtain rfl : ok = true := by cases ok; exact absurd (.inl rfl) hfail; rfl
        have hways : (¬ Y.f1.length < X.f1.length) ∨ (Y.f1.length < X.f1.length ∧ Y.f2 = true) := by
          by_cases h1 : Y.f1.length < X.f1.length
          · refine .inr ⟨h1, ?_⟩
            cases h2 : Y.f2
            · exact absurd (.inr ⟨h1, h2⟩) hfail
            · rfl
          · exact .inl h1
        clear hfail
        go_upto_region 4 with (go_at_call 128; (with_reducible refine (address_meet.calls _ _ _ _ _ _ _ _ HMT.out).mono ?_); rintro e W1 ⟨rfl, hd⟩; have HS1 := Lib.hid (HST.out.next hd); clear hd HST; clear p0 p1 p2 p3 p4 p5 p6 p7 p8 p9 p10 p11 g0 g1 g2 g3; obtain ⟨p0, p1, p2, p3, p4, p5, p6, p7, p8, p9, p10, p11, g0, g1, g2, g3⟩ := HS1.out.fx)
        have HS2 := Lib.hid ((HS1.out.setO (O' := ⟨⟨k, ⟨#[]⟩⟩, [], false⟩) 0 _ rfl rfl).setO (O' := ⟨⟨k, s⟩, [], false⟩) 1 _ rfl rfl)
        go_cut [41] (fun s41 wx => s41 = .bool false ∧ Hid (Cm w wx X Ax cx Y Ay cy ⟨⟨k, s⟩, [], false⟩ (.slice none 0 0) 0))
        case first =>
          rcases hways with h1 | ⟨h1, h2⟩
          all_goals go_wp2_with fail
          all_goals go_meet
          all_goals exact ⟨rfl, HS2⟩
        case rest =>
          clear p0 p1 p2 p3 p4 p5 p6 p7 p8 p9 p10 p11 g0 g1 g2 g3
          clear HS1 HS2 hways HMT
          obtain ⟨rfl, HS⟩ := hcut
          obtain ⟨p0, p1, p2, p3, p4, p5, p6, p7, p8, p9, p10, p11, g0, g1, g2, g3⟩ := HS.out.fx
          go_upto_region 6 with fail
          go_cut [] (fun wx => Hid (Cm w wx X Ax cx Y Ay cy ⟨⟨k, s⟩, [], X.f2 && Y.f2⟩ (.slice none 0 0) 0))
          case first =>
            cases hx : X.f2
            all_goals go_wp2_with fail
            all_goals go_meet
            · rw [hx]; exact Lib.hid (HS.out.setO (O' := ⟨⟨k, s⟩, [], false⟩) 3 _ rfl rfl)
            · rw [hx]; exact Lib.hid (HS.out.setO (O' := ⟨⟨k, s⟩, [], Y.f2⟩) 3 _ rfl rfl)
          case rest =>
            clear p0 p1 p2 p3 p4 p5 p6 p7 p8 p9 p10 p11 g0 g1 g2 g3
            clear HS
            have HS := hcut
            clear hcut
            obtain ⟨p0, p1, p2, p3, p4, p5, p6, p7, p8, p9, p10, p11, g0, g1, g2, g3⟩ := HS.out.fx
            obtain ⟨u, hcu⟩ : ∃ u, commonL X.f1 Y.f1 [] = some u := by
              have := HF3.out
              cases hq : commonL X.f1 Y.f1 [] with
              | none => rw [hq] at this; cases this
              | some u => exact ⟨u, rfl⟩
            have hf := HF3.out
            rw [hcu] at hf
            have hr := Option.some.inj hf
            subst hr
            have HCU := Lib.hid hcu
            clear hf hcu HF3
            go_wp2_with fail
            clear p0 p1 p2 p3 p4 p5 p6 p7 p8 p9 p10 p11 g0 g1 g2 g3
            go_loopg [53] X.f1.length (fun kq v53 W => ∃ (i : Nat) (out : List S97) (v : Value), v53 = .int .i64 (i : Int) ∧ kq + i = X.f1.length ∧ Hid (out.length = i) ∧ Hid (commonL (X.f1.drop i) (Y.f1.drop i) out = some u) ∧ Hid (Cm w W X Ax cx Y Ay cy ⟨⟨k, s⟩, out, X.f2 && Y.f2⟩ v 0))
            case atStart => exact ⟨0, [], _, rfl, rfl, Lib.hid rfl, HCU, HS⟩
            case round =>
              clear HS HCU
              obtain ⟨i, out, v, rfl, hki, HOL, HCL, HS⟩ := hrel
              obtain ⟨A, cv, ev, -⟩ := Kd.R_reads HS.out.own
              simp only at ev
              subst ev
              obtain ⟨p0, p1, p2, p3, p4, p5, p6, p7, p8, p9, p10, p11, g0, g1, g2, g3⟩ := HS.out.fx
              by_cases hi : i < X.f1.length
              · obtain ⟨gq, rfl⟩ : ∃ g, gk = g + 1 := ⟨gk - 1, by omega⟩
                obtain ⟨adx, rfl, x0', x1'⟩ := at_T97 (Kd.C_below HRR.out.1.2 (HS.out.bel)) (i : Int) (by omega) (by omega)
                obtain ⟨a, ha⟩ : ∃ a, X.f1[i]? = some a := ⟨_, List.getElem?_eq_getElem hi⟩
                have hra : rd_T97 X.f1 (i : Int) = a := by simp [rd_T97, ha]
                rw [hra, Int.toNat_natCast] at x0' x1'
                have hdx : X.f1.drop i = a :: X.f1.drop (i + 1) := by rw [List.drop_eq_getElem_cons hi, ← List.getElem?_eq_some_iff.1 ha |>.2]
                have hcl := HCL.out
                rw [hdx] at hcl
                clear hdx hra ha
                have hi3 : ((i : Int) < (X.f1.length : Int)) := by omega
                have hi4 : decide (i < X.f1.length) = true := decide_eq_true hi
                have HCL2 := Lib.hid hcl
                clear hcl HCL
                go_upto_region 10 with fail
                clear p0 p1 p2 p3 p4 p5 p6 p7 p8 p9 p10 p11 g0 g1 g2 g3
                clear x0' x1'
                have HS1 := Lib.hid (HS.out.alloc (.cells #[.int .i64 a.f0, .string a.f1] 97))
                have HB7 := Lib.hid (blk_new wr (.cells #[.int .i64 a.f0, .string a.f1] 97))
                have hgz := HS.out.size
                generalize wr.alloc (.cells #[.int .i64 a.f0, .string a.f1] 97) = W1 at HS1 HB7 ⊢
                generalize wr.heap.size = g7 at HS1 HB7 hgz ⊢
                clear HS
                obtain ⟨p0, p1, p2, p3, p4, p5, p6, p7, p8, p9, p10, p11, g0, g1, g2, g3⟩ := HS1.out.fx
                go_upto_if 62 with fail
                go_cut [] (fun wx => ∃ m : S97, Hid (Cm w wx X (some adx) cx Y Ay cy ⟨⟨k, s⟩, out, X.f2 && Y.f2⟩ (.slice A out.length cv) g7) ∧ Hid (wx.heap[g7]? = some (.cells #[.int .i64 m.f0, .string m.f1] 97 (0, 0))) ∧ Hid (commonL (X.f1.drop (i + 1)) (Y.f1.drop (i + 1)) (out ++ [m]) = some u))
                case first =>
                  by_cases hj : i < Y.f1.length
                  · obtain ⟨ady, rfl, y0, y1⟩ := at_T97 (Kd.C_below HRR.out.2.2 (HS1.out.bel)) (i : Int) (by omega) (by omega)
                    obtain ⟨b, hb⟩ : ∃ b, Y.f1[i]? = some b := ⟨_, List.getElem?_eq_getElem hj⟩
                    have hrb : rd_T97 Y.f1 (i : Int) = b := by simp [rd_T97, hb]
                    rw [hrb, Int.toNat_natCast] at y0 y1
                    have hdy : Y.f1.drop i = b :: Y.f1.drop (i + 1) := by rw [List.drop_eq_getElem_cons hj, ← List.getElem?_eq_some_iff.1 hb |>.2]
                    have hcl := HCL2.out
                    rw [hdy, commonL] at hcl
                    obtain ⟨⟨k2, s2, ok2⟩, hmt2⟩ : ∃ t, address_meet.f a.f0 a.f1 b.f0 b.f1 = some t := by
                      cases hq : address_meet.f a.f0 a.f1 b.f0 b.f1 with
                      | none => rw [hq] at hcl; cases hcl
                      | some t => exact ⟨t, rfl⟩
                    rw [hmt2] at hcl
                    simp only [Option.bind_some] at hcl
                    have HCL3 := Lib.hid hcl
                    have HMT2 := Lib.hid hmt2
                    clear hcl hmt2 hdy hrb hb HCL2
                    have hj3 : ((i : Int) < (Y.f1.length : Int)) := by omega
                    have hj4 : decide (i < Y.f1.length) = true := decide_eq_true hj
                    have q0 := (blk_cell HB7.out 0).trans rfl
                    have q1 := (blk_cell HB7.out 1).trans rfl
                    obtain ⟨p0, p1, p2, p3, p4, p5, p6, p7, p8, p9, p10, p11, g0, g1, g2, g3⟩ := HS1.out.fx
                    go_wp2_with fail
                    clear p0 p1 p2 p3 p4 p5 p7 p8 p9 p10 p11 g0 g1 g2 g3
                    refine start_ (n := 12) (S := fun w' => w'.cell? ⟨g7, 0, none⟩ = some (.int .i64 a.f0) ∧ w'.cell? ⟨g7, 1, none⟩ = some (.string a.f1) ∧ w'.cell? ⟨w.heap.size + 1, 2, none⟩ = some (.slice (some ady) Y.f1.length cy) ∧ w'.cell? (ady.add (i * 2)) = some (.int .i64 b.f0) ∧ w'.cell? ⟨(ady.add (i * 2)).block, (ady.add (i * 2)).off + 1, none⟩ = some (.string b.f1)) (ds := [10]) #[false, false, false, false, false, false, false, false, false, false, false, false] (by kernel_rfl) rfl rfl ⟨q0, q1, p6, y0, y1⟩ (fun hHeld => ?_); refine with_tabW address_common.tab11 address_common.bits11 (fun HT_ HW_ => ?_)
                    have HS2 := Lib.hid (HS1.out.next ((Below.refl _ _).drew))
                    have HB2 := Lib.hid (show W1.drew.heap[g7]? = some (.cells #[.int .i64 a.f0, .string a.f1] 97 (0, 0)) from HB7.out)
                    clear HS1 HB7 p6 y0 y1 q0 q1
                    generalize W1.drew = w4 at HS2 HB2 hHeld ⊢
                    refine take_ (i := 0) (N := some 64) (v := ?_) (a' := ?_) #[true, false, false, false, false, false, false, false, false, false, false, false] rfl rfl (take_ofW HT_.out HW_.out (by kernel_rfl)) (fun _ _ _ h => h) (Or.inl ⟨by rfl, ?_⟩) hHeld ?_ ?_
                    rotate_left; (rintro w' ⟨s0, s1, s2, s3, s4⟩; go_simp; with_reducible rfl); rotate_left; (simp only [Act.put, List.setIfInBounds_toArray, List.set_cons_zero, List.set_cons_succ, i64_w, i32_w]; rfl)
                    refine pure_ (i := 1) (N := some 65) (v := ?_) (a' := ?_) #[true, true, false, false, false, false, false, false, false, false, false, false] rfl rfl (any_of HT_.out (by kernel_rfl)) (fun _ _ _ h => h) (Or.inl ⟨by rfl, ?_⟩) ?_ ?_
                    rotate_left; (intro w'; go_simp; with_reducible rfl); rotate_left; (simp only [Act.put, List.setIfInBounds_toArray, List.set_cons_zero, List.set_cons_succ, i64_w, i32_w]; rfl)
                    refine take_ (i := 2) (N := some 66) (v := ?_) (a' := ?_) #[true, true, true, false, false, false, false, false, false, false, false, false] rfl rfl (take_ofW HT_.out HW_.out (by kernel_rfl)) (fun _ _ _ h => h) (Or.inl ⟨by rfl, ?_⟩) hHeld ?_ ?_
                    rotate_left; (rintro w' ⟨s0, s1, s2, s3, s4⟩; go_simp; with_reducible rfl); rotate_left; (simp only [Act.put, List.setIfInBounds_toArray, List.set_cons_zero, List.set_cons_succ, i64_w, i32_w]; rfl)
                    refine pure_ (i := 3) (N := some 67) (v := ?_) (a' := ?_) #[true, true, true, true, false, false, false, false, false, false, false, false] rfl rfl (any_of HT_.out (by kernel_rfl)) (fun _ _ _ h => h) (Or.inl ⟨by rfl, ?_⟩) ?_ ?_
                    rotate_left; (intro w'; go_simp; with_reducible rfl); rotate_left; (simp only [Act.put, List.setIfInBounds_toArray, List.set_cons_zero, List.set_cons_succ, i64_w, i32_w]; rfl)
                    refine pure_ (i := 4) (N := some 68) (v := ?_) (a' := ?_) #[true, true, true, true, true, false, false, false, false, false, false, false] rfl rfl (any_of HT_.out (by kernel_rfl)) (fun _ _ _ h => h) (Or.inl ⟨by rfl, ?_⟩) ?_ ?_
                    rotate_left; (intro w'; go_simp; with_reducible rfl); rotate_left; (simp only [Act.put, List.setIfInBounds_toArray, List.set_cons_zero, List.set_cons_succ, i64_w, i32_w]; rfl)
                    refine take_ (i := 5) (N := some 69) (v := ?_) (a' := ?_) #[true, true, true, true, true, true, false, false, false, false, false, false] rfl rfl (take_ofW HT_.out HW_.out (by kernel_rfl)) (fun _ _ _ h => h) (Or.inl ⟨by rfl, ?_⟩) hHeld ?_ ?_
                    rotate_left; (rintro w' ⟨s0, s1, s2, s3, s4⟩; go_simp; with_reducible rfl); rotate_left; (simp only [Act.put, List.setIfInBounds_toArray, List.set_cons_zero, List.set_cons_succ, i64_w, i32_w]; rfl)
                    refine one_ (i := 6) (N := some 70) #[true, true, true, true, true, true, true, false, false, false, false, false] rfl rfl (one_of HT_.out (by kernel_rfl)) (by decide) (fun K hK => ?_)
                    refine goes_ Tryz.func128 (by kernel_rfl) rfl #[.agg #[.int .i64 a.f0, .string a.f1], .agg #[.int .i64 b.f0, .string b.f1]] (by rfl) rfl rfl (by (try simp only [List.map_toArray, List.map_cons, List.map_nil]); first | done | rfl) ?_
                    (with_reducible refine (address_meet.calls _ _ _ _ _ _ _ _ HMT2.out).mono ?_)
                    rintro e w5 ⟨rfl, hd⟩
                    refine ⟨_, rfl, ?_⟩
                    have HS3 := Lib.hid (HS2.out.next hd)
                    have HB3 := Lib.hid (blk_below HB2.out hd)
                    have hH2 : w5.cell? ⟨g7, 0, none⟩ = some (.int .i64 a.f0) ∧ w5.cell? ⟨g7, 1, none⟩ = some (.string a.f1) ∧ w5.cell? ⟨w.heap.size + 1, 2, none⟩ = some (.slice (some ady) Y.f1.length cy) ∧ w5.cell? (ady.add (i * 2)) = some (.int .i64 b.f0) ∧ w5.cell? ⟨(ady.add (i * 2)).block, (ady.add (i * 2)).off + 1, none⟩ = some (.string b.f1) := ⟨(blk_cell HB3.out 0).trans rfl, (blk_cell HB3.out 1).trans rfl, HS3.out.fx.2.2.2.2.2.2.1, (hd.cell (World.block_lt_of_cell? _ _ hHeld.2.2.2.1)).trans hHeld.2.2.2.1, (hd.cell (World.block_lt_of_cell? _ _ hHeld.2.2.2.2)).trans hHeld.2.2.2.2⟩
                    refine hK.out _ _ hH2 (fun hHeld => ?_)
                    clear hK K HS2 HB2 hd hH2
                    refine norm_ (a' := ?_) ?_ ?_
                    rotate_left
                    · show Act.put _ (some 70) _ = _
                      simp only [Act.put, List.setIfInBounds_toArray, List.set_cons_zero, List.set_cons_succ, i64_w, i32_w]
                      rfl
                    refine pure_ (i := 7) (N := some 63) (v := ?_) (a' := ?_) #[true, true, true, true, true, true, true, true, false, false, false, false] rfl rfl (any_of HT_.out (by kernel_rfl)) (fun _ _ _ h => h) (Or.inl ⟨by rfl, ?_⟩) ?_ ?_
                    rotate_left; (intro w'; go_simp; with_reducible rfl); rotate_left; (simp only [Act.put, List.setIfInBounds_toArray, List.set_cons_zero, List.set_cons_succ, i64_w, i32_w]; rfl)
                    refine pure_ (i := 8) (N := some 71) (v := ?_) (a' := ?_) #[true, true, true, true, true, true, true, true, true, false, false, false] rfl rfl (any_of HT_.out (by kernel_rfl)) (fun _ _ _ h => h) (Or.inl ⟨by rfl, ?_⟩) ?_ ?_
                    rotate_left; (intro w'; go_simp; with_reducible rfl); rotate_left; (simp only [Act.put, List.setIfInBounds_toArray, List.set_cons_zero, List.set_cons_succ, i64_w, i32_w]; rfl)
                    refine pure_ (i := 9) (N := some 72) (v := ?_) (a' := ?_) #[true, true, true, true, true, true, true, true, true, true, false, false] rfl rfl (any_of HT_.out (by kernel_rfl)) (fun _ _ _ h => h) (Or.inl ⟨by rfl, ?_⟩) ?_ ?_
                    rotate_left; (intro w'; go_simp; with_reducible rfl); rotate_left; (simp only [Act.put, List.setIfInBounds_toArray, List.set_cons_zero, List.set_cons_succ, i64_w, i32_w]; rfl)
                    refine last_ (i := 10) (N := none) #[true, true, true, true, true, true, true, true, true, true, true, false] rfl rfl (one_of HT_.out (by kernel_rfl)) (by decide) (fun K hK => ?_)
                    have c0 := (blk_cell HB3.out 0).trans rfl
                    have c1 := (blk_cell HB3.out 1).trans rfl
                    have d0 := blk_frozen HB3.out 0
                    have d1 := blk_frozen HB3.out 1
                    refine skip_ (w1 := ?_) (by rfl) rfl ?_ ?_
                    rotate_left
                    · go_simp
                      rfl
                    refine hK.out _ _ ?_
                    clear hK K c0 c1 d0 d1
                    refine pure_ (i := 11) (N := some 5) (v := ?_) (a' := ?_) #[true, true, true, true, true, true, true, true, true, true, true, true] rfl rfl (any_of HT_.out (by kernel_rfl)) (fun _ _ _ h => h) (Or.inl ⟨by rfl, ?_⟩) ?_ ?_
                    rotate_left; (intro w'; go_simp; with_reducible rfl); rotate_left; (simp only [Act.put, List.setIfInBounds_toArray, List.set_cons_zero, List.set_cons_succ, i64_w, i32_w]; rfl)
                    refine done_ (done_of HT_.out (by kernel_rfl)) ?_
                    have HS4 := Lib.hid ((HS3.out.farG hgz 0 (.int .i64 k2)).farG hgz 1 (.string s2))
                    have HB4 := Lib.hid (blk_put (blk_put HB3.out 0 (.int .i64 k2) rfl) 1 (.string s2) rfl)
                    clear HS3 HB3 hHeld
                    obtain ⟨p0, p1, p2, p3, p4, p5, p6, p7, p8, p9, p10, p11, g0, g1, g2, g3⟩ := HS4.out.fx
                    cases ok2
                    · have hu := Option.some.inj HCL3.out
                      subst hu
                      go_wp2_with fail
                      exact common_end HS4.out.again false _ _ (by rfl) (by rfl)
                    · go_wp2_with fail
                      go_meet
                      exact ⟨⟨k2, s2⟩, HS4, HB4, Lib.hid (by have := HCL3.out; simpa using this)⟩
                  · have hdy : Y.f1.drop i = [] := List.drop_eq_nil_iff.2 (by omega)
                    have hdy2 : Y.f1.drop (i + 1) = [] := List.drop_eq_nil_iff.2 (by omega)
                    have hcl := HCL2.out
                    rw [hdy, commonL] at hcl
                    have HCL3 : Hid (commonL (X.f1.drop (i + 1)) (Y.f1.drop (i + 1)) (out ++ [a]) = some u) := Lib.hid (by rw [hdy2]; exact hcl)
                    clear hcl hdy hdy2
                    have hj3 : ¬ ((i : Int) < (Y.f1.length : Int)) := by omega
                    have hj4 : decide (i < Y.f1.length) = false := decide_eq_false hj
                    go_wp2_with fail
                    go_meet
                    exact ⟨a, HS1, HB7, HCL3⟩
                case rest =>
                  clear p0 p1 p2 p3 p4 p5 p6 p7 p8 p9 p10 p11 g0 g1 g2 g3
                  clear HS1 HB7 HCL2
                  obtain ⟨m, HS5, HB5, HCL5⟩ := hcut
                  have hib : (i : Int) < 1099511627776 := by have := HM.out; omega
                  obtain ⟨p0, p1, p2, p3, p4, p5, p6, p7, p8, p9, p10, p11, g0, g1, g2, g3⟩ := HS5.out.fx
                  have q0 := (blk_cell HB5.out 0).trans rfl
                  have q1 := (blk_cell HB5.out 1).trans rfl
                  go_wp2_with (first
                    | ((with_reducible refine gate_builtin (b := .append) (xs := #[.tmp 77, .tmp 79]) rfl ?_); at_builtin; refine Kd.R_append k97 (w0 := w) w.heap.size rfl (.tmp 77) (.tmp 79) 98 97 (.agg #[.int .i64 0, .string ⟨#[]⟩]) 24 rfl Tryz.underlying98 infoPart rfl (by decide) (by omega) (.slice A out.length cv) out m [.int .i64 m.f0, .string m.f1] (fun k => w.heap.size + 3 ≤ k ∧ k ≠ g7) (fun _ => False) rfl rfl ?aP (fun _ hk => hk.elim) ?aF ?aO ?aB ?aS ?aL ?_; (case aP => exact k97_mkM _ _ _ m); (case aB => exact HS5.out.bel); (case aO => exact HS5.out.own); (case aF => exact fun k hk => ⟨by have := HS5.out.size; omega, by have := blk_lt HB5.out; omega⟩); (case aS => exact below_size HS5.out.bel); (case aL => have := HOL.out; have := HM.out; omega); intro v7 w7 ho hb7 hg7 hat7; obtain ⟨A7, c7, e7⟩ := Kd.R_slice ho; subst e7; have hk7 := blk_grown HS5.out.bo hg7 (fun e => by have := (HS5.out.own.1 _ e.symm).1; omega); have z2 := (blk_cell hk7 2).trans rfl; have zf := blk_frozen hk7 2; clear hk7))
                  have HS6 := Lib.hid (HS5.out.setV hb7 hg7 ho).any
                  rw [show (out ++ [m]).length = out.length + 1 from by simp] at HS6
                  go_roundg gq
                  case measure => omega
                  case rel => exact ⟨i + 1, out ++ [m], _, by simp, by omega, Lib.hid (by have := HOL.out; simp; omega), HCL5, HS6⟩
              · have hi2 : i = X.f1.length := by omega
                have hu : (out, true) = u := by
                  have := HCL.out
                  rw [hi2, List.drop_length, commonL] at this
                  exact Option.some.inj this
                subst hu
                have hi3 : ¬ ((i : Int) < (X.f1.length : Int)) := by omega
                have hi4 : decide (i < X.f1.length) = false := decide_eq_false hi
                go_wp2_with fail
                exact common_end HS.out.again true _ _ (by rfl) (by rfl)
  · cases h
theorem address_common.calls (a0_0 : Int) (a0_1 : ByteArray) (A0_2 : Option Addr) (c0_2 : Nat) (l0_2 : List S97) (a0_3 : Bool) (a1_0 : Int) (a1_1 : ByteArray) (A1_2 : Option Addr) (c1_2 : Nat) (l1_2 : List S97) (a1_3 : Bool) (r1 : Int) (r2 : ByteArray) (r3 : List S97) (r4 r5 : Bool) (w : World)
    (hr0_2 : Kd.C k97 w A0_2 l0_2.length l0_2) (hc0_2 : l0_2.length ≤ c0_2) (hr1_2 : Kd.C k97 w A1_2 l1_2.length l1_2) (hc1_2 : l1_2.length ≤ c1_2) (h : address_common.f a0_0 a0_1 l0_2 a0_3 a1_0 a1_1 l1_2 a1_3 = some (r1, r2, r3, r4, r5)) :
    Calls Tryz.prog 107 #[.agg #[.int .i64 a0_0, .string a0_1, .slice A0_2 l0_2.length c0_2, .bool a0_3], .agg #[.int .i64 a1_0, .string a1_1, .slice A1_2 l1_2.length c1_2, .bool a1_3]] w fun e w' => ∃ v0_ : Value, e = .returned (.tuple #[.agg #[.int .i64 r1, .string r2, v0_, .bool r4], .bool r5]) ∧ Kd.R k97 97 w' w.heap.size (fun _ => True) v0_ r3 ∧ Below w.heap.size w w' :=
  common_walk a0_0 a0_1 A0_2 c0_2 l0_2 a0_3 a1_0 a1_1 A1_2 c1_2 l1_2 a1_3 (r1, r2, r3, r4, r5) w hr0_2 hc0_2 hr1_2 hc1_2 h
end Go.Proofs.YtmokgpepeddopaaGreatDoor.P
end
