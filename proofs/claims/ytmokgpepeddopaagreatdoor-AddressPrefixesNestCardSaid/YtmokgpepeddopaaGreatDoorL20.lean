/- Lemmas on the way to the statement: part 20 of 34 (functions as plain Lean functions, and that each call comes to what they say). -/
import Derived.Test.YtmokgpepeddopaaGreatDoorL17
import Derived.Test.YtmokgpepeddopaaGreatDoorL12
import Derived.Handy
section
namespace Go.Proofs.YtmokgpepeddopaaGreatDoor.P
open Go.RowKit Go.Proofs.YtmokgpepeddopaaGreatDoorW.PrintWords Go.Proofs.YtmokgpepeddopaaGreatDoorW.PrintLast Go.Proofs.YtmokgpepeddopaaGreatDoorW.PrintMore
open Go.Proofs.YtmokgpepeddopaaGreatDoor.Addr
open Go.Shelf
set_option linter.unusedSimpArgs false
set_option linter.unusedVariables false
theorem lays166 : Go.Proofs.Lays.n166 Tryz.prog Tryz.lays156_ren := { Tryz.lays156 with }
theorem bld_write (B b : Nat) (bs : List Value) (s : ByteArray) (w : World) (h : Lib.IsBuilder 124 5 B b bs w) (hlen : bs.length + s.size ≤ 140737488355328) (hBw : B ≤ w.heap.size) :
    Calls Tryz.prog 93 #[.pointer (some ⟨b, 0, none⟩), .string s] w fun e w' => e = .returned (.tuple #[.int .i64 s.size, .nilIface]) ∧ (Lib.BuilderAt 124 5 B b (.pointer (some ⟨b, 0, none⟩)) (bs ++ Lib.strCells s) w' ∧ Below B w w') :=
  Any.Builder_WriteString lays166 Tryz.Builder_Extra_156 B b bs s w h hlen hBw
theorem bldAt_below {T e : TypeId} {B b : Nat} {p : Value} {bs : List Value} {W W' : World} (h : Lib.BuilderAt T e B b p bs W) (hb : Below W.heap.size W W') : Lib.BuilderAt T e B b p bs W' := by
  have hlt := h.lt
  obtain ⟨hB, v, hv, ho, hne⟩ := h
  refine ⟨hB, v, (hb.block _ hlt).trans hv, ho.kept (grown_of_below hb none) ?_, hne⟩
  cases hvo : v.ownBlock with
  | none => exact .inl rfl
  | some x => exact .inr (by simp)
theorem bld_below {T e : TypeId} {B b : Nat} {bs : List Value} {W W' : World} (h : Lib.IsBuilder T e B b bs W) (hb : Below W.heap.size W W') : Lib.IsBuilder T e B b bs W' :=
  h.elim (fun h => .inl (bldAt_below h hb)) (fun h => .inr (bldAt_below h hb))
theorem L_app (a b : ByteArray) : L (a ++ b) = L a ++ L b := by
  show (a ++ b).data.toList = _
  rw [ByteArray.data_append, Array.toList_append]; rfl
structure Wt (w W : World) (g : Nat) (cs : Array Value) (l : List UInt8) : Prop where
  blk : W.heap[w.heap.size]? = some (.cells cs 25 (0, 0))
  bld : Lib.IsBuilder 124 5 (w.heap.size + 1) g (Lib.byteCells l) W
  bel : Below w.heap.size w W
  lt : w.heap.size + 1 ≤ W.heap.size
theorem Wt.next {w W W' : World} {g : Nat} {cs : Array Value} {l : List UInt8} (h : Wt w W g cs l) (hb : Below W.heap.size W W') : Wt w W' g cs l :=
  ⟨(hb.block _ (blk_lt h.blk)).trans h.blk, bld_below h.bld hb, h.bel.trans (hb.mono (by have := h.lt; omega)), Nat.le_trans h.lt (below_size hb)⟩
theorem Wt.wrote {w W W' : World} {g : Nat} {cs : Array Value} {l : List UInt8} (h : Wt w W g cs l) {s : ByteArray} {p : Value} (hp : p = .pointer (some ⟨g, 0, none⟩))
    (ho : Lib.BuilderAt 124 5 (w.heap.size + 1) g p (Lib.byteCells l ++ Lib.strCells s) W') (hb : Below (w.heap.size + 1) W W') : Wt w W' g cs (l ++ L s) := by
  subst hp
  refine ⟨(hb.block _ (by omega)).trans h.blk, .inr ?_, h.bel.trans (hb.mono (by omega)), Nat.le_trans h.lt hb.size⟩
  rw [Lib.byteCells_append]
  exact ho
theorem Wt.calls {w W : World} {g : Nat} {cs : Array Value} {l : List UInt8} (h : Wt w W g cs l) (s : ByteArray) (hl : l.length + s.size ≤ 140737488355328) :
    Calls Tryz.prog 93 #[.pointer (some ⟨g, 0, none⟩), .string s] W fun e w' => e = .returned (.tuple #[.int .i64 s.size, .nilIface]) ∧ Hid (Wt w w' g cs (l ++ L s)) := by
  refine (bld_write _ g _ s W h.bld (by rw [Lib.byteCells_length]; exact hl) h.lt).mono ?_
  rintro e w' ⟨rfl, ho, hb⟩
  exact ⟨rfl, Lib.hid (h.wrote rfl ho hb)⟩
def wQ : UInt8 → List S66 → List UInt8
  | _, [] => []
  | s, q :: r => s :: (L q.f0 ++ 61 :: L q.f1) ++ wQ 38 r
def toPair (q : S66) : Str × Str := (L q.f0, L q.f1)
def toAd (c : ByteArray) (p : List ByteArray) (q : List S66) : Ad := ⟨L c, p.map L, q.map toPair⟩
theorem wQ_eq (c : UInt8) (q : S66) (l : List S66) : wQ c (q :: l) = c :: joinB 38 ((q :: l).map (fun x => qtext (toPair x))) := by
  induction l generalizing c q with
  | nil => simp [wQ, joinB, qtext, toPair]
  | cons x r ih => rw [wQ, ih]; simp [joinB, qtext, toPair]
theorem write_toAd (c : ByteArray) (p : List ByteArray) (q : List S66) : Addr.write (toAd c p q) = L c ++ (pathT (p.map L) ++ wQ 63 q) := by
  unfold Addr.write toAd queryT
  simp only [List.append_assoc]
  congr 2
  cases q with
  | nil => rfl
  | cons x r => rw [wQ_eq]; simp [toPair, Function.comp_def]
def address_write.f (a0_0 : ByteArray) (l0_1 : List ByteArray) (l0_2 : List S66) : Option ByteArray :=
  if (Addr.write (toAd a0_0 l0_1 l0_2)).length ≤ 140737488355328 then some (B (Addr.write (toAd a0_0 l0_1 l0_2))) else none
set_option maxRecDepth 100000 in
set_option maxHeartbeats 8000000 in
theorem address_write.calls (a0_0 : ByteArray) (A0_1 : Option Addr) (c0_1 : Nat) (l0_1 : List ByteArray) (A0_2 : Option Addr) (c0_2 : Nat) (l0_2 : List (S66)) (r : ByteArray) (w : World) (hr0_1 : Kd.C Kd.string w A0_1 l0_1.length l0_1) (hc0_1 : l0_1.length ≤ c0_1) (hr0_2 : Kd.C k66 w A0_2 l0_2.length l0_2) (hc0_2 : l0_2.length ≤ c0_2) (h : address_write.f a0_0 l0_1 l0_2 = some r) :
    Calls Tryz.prog 49 #[.agg #[.string a0_0, .slice A0_1 l0_1.length c0_1, .slice A0_2 l0_2.length c0_2]] w fun e w' => e = .returned (.string r) ∧ Below w.heap.size w w' := by
  unfold address_write.f at h
  split at h
  · rename_i hs
    injection h with h
    subst h
    rw [write_toAd] at hs ⊢
    have HR1 := Lib.hid hr0_1
    have HR2 := Lib.hid hr0_2
    have HC1 := Lib.hid hc0_1
    have HC2 := Lib.hid hc0_2
    clear hr0_1 hr0_2 hc0_1 hc0_2
    obtain ⟨T, hT⟩ : ∃ T, L a0_0 ++ (pathT (l0_1.map L) ++ wQ 63 l0_2) = T := ⟨_, rfl⟩
    rw [hT] at hs ⊢
    have HT := Lib.hid hT
    have HS := Lib.hid hs
    clear hT hs
    have hu := Tryz.underlying25
    have hu2 := Tryz.underlying66
    go_enter Tryz.func49, Tryz.ntmps49
    go_wp2_with fail
    have HW0 : Hid (Wt w ((w.alloc (.cells #[.string a0_0, .slice A0_1 l0_1.length c0_1, .slice A0_2 l0_2.length c0_2] 25)).alloc (.cells #[.pointer none, .slice none 0 0] 124)) (w.heap.size + 1) #[.string a0_0, .slice A0_1 l0_1.length c0_1, .slice A0_2 l0_2.length c0_2] []) :=
      Lib.hid ⟨blk_alloc (blk_new w _) _, .inl ⟨Nat.le_refl _, .slice none 0 0, by have := blk_new (w.alloc (.cells #[.string a0_0, .slice A0_1 l0_1.length c0_1, .slice A0_2 l0_2.length c0_2] 25)) (.cells #[.pointer none, .slice none 0 0] 124); simpa using this, own_nil _ _ _ _, by simp [Value.ownBlock]⟩, below_alloc (below_alloc (Below.refl _ _) _) _, by simp⟩
    have hw0 := HW0.out.calls a0_0 (by have h1 := HS.out; rw [← HT.out] at h1; simp [L_length] at h1; simp; omega)
    (with_reducible refine hw0.mono ?_)
    clear hw0
    rintro e w1 ⟨rfl, HW1⟩
    clear HW0
    have q1 : w1.cell? ⟨w.heap.size, 1, none⟩ = some (.slice A0_1 l0_1.length c0_1) := (blk_cell HW1.out.blk 1).trans rfl
    go_wp2_with fail
    clear q1
    go_loopw [15] (fun v15 W => ∃ (i : Nat) (l : List UInt8), v15 = .int .i64 (i : Int) ∧ i ≤ l0_1.length ∧ i ≤ l.length ∧ Hid (l ++ (pathT ((l0_1.drop i).map L) ++ wQ 63 l0_2) = T) ∧ Hid (Wt w W (w.heap.size + 1) #[.string a0_0, .slice A0_1 l0_1.length c0_1, .slice A0_2 l0_2.length c0_2] l)) (fun v _ => l0_1.length - (intOf v).toNat)
    case atStart => exact ⟨0, _, rfl, Nat.zero_le _, Nat.zero_le _, Lib.hid (by rw [List.nil_append]; exact HT.out), HW1⟩
    case round =>
      clear HW1
      obtain ⟨i, l, rfl, hi, hil, HL, HW⟩ := hrel
      by_cases hlt : i < l0_1.length
      · have hi3 : ((i : Int) < (l0_1.length : Int)) := by omega
        obtain ⟨ad, rfl, hx⟩ := Kd.at_string HR1.out (i : Int) (by omega) (by omega)
        replace hx := pw_cell_below HW.out.bel hx
        simp only [Int.toNat_natCast] at hx
        have hdr : l0_1.drop i = rdOf ByteArray.empty l0_1 i :: l0_1.drop (i + 1) := by
          rw [List.drop_eq_getElem_cons hlt]
          congr 1
          simp [rdOf, hlt]
        have HL2 := Lib.hid (hdr ▸ HL.out)
        clear HL hdr
        generalize rdOf ByteArray.empty l0_1 (i : Int) = x at hx HL2
        have hl3 : l.length + (1 + x.size) ≤ 140737488355328 := by
          have h1 := HS.out
          rw [← HL2.out] at h1
          simp [pathT, L_length] at h1
          omega
        go_wp2_with fail
        have hw := HW.out.calls (⟨#[47]⟩ ++ x) (by rw [ByteArray.size_append]; exact hl3)
        (with_reducible refine hw.mono ?_)
        clear hw
        rintro e w2 ⟨rfl, HW2⟩
        have hLa : L ((⟨#[47]⟩ : ByteArray) ++ x) = 47 :: L x := L_app _ _
        rw [hLa] at HW2
        go_wp2_with fail
        refine ⟨⟨i + 1, l ++ (47 :: L x), by simp, by omega, by simp; omega, Lib.hid ?_, HW2⟩, by simp [intOf]; omega⟩
        rw [← HL2.out]
        simp [pathT]
      · have hi2 : i = l0_1.length := by omega
        have hi3 : ¬ ((i : Int) < (l0_1.length : Int)) := by omega
        have HL2 : Hid (l ++ wQ 63 l0_2 = T) := Lib.hid (by have := HL.out; rw [hi2, List.drop_length] at this; simpa [pathT] using this)
        clear HL
        have q2 : wr.cell? ⟨w.heap.size, 2, none⟩ = some (.slice A0_2 l0_2.length c0_2) := (blk_cell HW.out.blk 2).trans rfl
        go_wp2_with fail
        clear q2
        go_loopw [6, 26] (fun v6 v26 W => ∃ (j : Nat) (l : List UInt8) (c : UInt8), v6 = .string ⟨#[c]⟩ ∧ v26 = .int .i64 (j : Int) ∧ j ≤ l0_2.length ∧ j ≤ l.length ∧ Hid (l ++ wQ c (l0_2.drop j) = T) ∧ Hid (Wt w W (w.heap.size + 1) #[.string a0_0, .slice A0_1 l0_1.length c0_1, .slice A0_2 l0_2.length c0_2] l)) (fun _ v _ => l0_2.length - (intOf v).toNat)
        case atStart => exact ⟨0, _, 63, rfl, rfl, Nat.zero_le _, Nat.zero_le _, HL2, HW⟩
        case round =>
          clear HW HL2
          obtain ⟨j, l, c, rfl, rfl, hj, hjl, HL, HW⟩ := hrel
          by_cases hlt : j < l0_2.length
          · have hj3 : ((j : Int) < (l0_2.length : Int)) := by omega
            obtain ⟨ad, rfl, hx, hy⟩ := at_T66 HR2.out (j : Int) (by omega) (by omega)
            replace hx := pw_cell_below HW.out.bel hx
            replace hy := pw_cell_below HW.out.bel hy
            simp only [Int.toNat_natCast] at hx hy
            have hdr : l0_2.drop j = rd_T66 l0_2 j :: l0_2.drop (j + 1) := by
              rw [List.drop_eq_getElem_cons hlt]
              congr 1
              simp [rd_T66, rdOf, hlt]
            have HL2 := Lib.hid (hdr ▸ HL.out)
            clear HL hdr
            generalize rd_T66 l0_2 (j : Int) = q at hx hy HL2
            obtain ⟨k0, v0⟩ := q
            simp only [] at hx hy
            have hl3 : l.length + (1 + k0.size + 1 + v0.size) ≤ 140737488355328 := by
              have h1 := HS.out
              rw [← HL2.out] at h1
              simp [wQ, L_length] at h1
              omega
            go_wp2_with fail
            have HW2 := HW.out.next (below_alloc (Below.refl _ _) (.cells #[.string k0, .string v0] 66))
            have hw := HW2.calls ((⟨#[c]⟩ : ByteArray) ++ k0 ++ ⟨#[61]⟩ ++ v0) (by simp only [ByteArray.size_append]; exact hl3)
            (with_reducible refine hw.mono ?_)
            clear hw HW2
            rintro e w2 ⟨rfl, HW2⟩
            have hLa : L ((⟨#[c]⟩ : ByteArray) ++ k0 ++ ⟨#[61]⟩ ++ v0) = c :: (L k0 ++ 61 :: L v0) := by
              simp only [L_app]; simp [L]
            rw [hLa] at HW2
            go_wp2_with fail
            refine ⟨⟨j + 1, l ++ (c :: (L k0 ++ 61 :: L v0)), 38, rfl, by simp, by omega, by simp; omega, Lib.hid ?_, HW2⟩, by simp [intOf]; omega⟩
            rw [← HL2.out]
            simp [wQ]
          · have hj2 : j = l0_2.length := by omega
            have hj3 : ¬ ((j : Int) < (l0_2.length : Int)) := by omega
            have hl : l = T := by have := HL.out; rw [hj2, List.drop_length] at this; simpa [wQ] using this
            subst hl
            go_wp2_with fail
            have hst := Tryz.Builder_String_any _ _ _ _ HW.out.bld HW.out.lt
            (with_reducible refine hst.mono ?_)
            rintro e w3 ⟨rfl, hb⟩
            have hb2 := HW.out.bel.trans (hb.mono (by omega))
            go_wp2_with fail
            go_ret
            exact ⟨rfl, hb2⟩
  · cases h
end Go.Proofs.YtmokgpepeddopaaGreatDoor.P
end
section
namespace Go.Proofs.YtmokgpepeddopaaGreatDoor.P
open Go.RowKit Go.Proofs.YtmokgpepeddopaaGreatDoorW.PrintWords Go.Proofs.YtmokgpepeddopaaGreatDoorW.PrintLast Go.Proofs.YtmokgpepeddopaaGreatDoorW.PrintMore
open Go.Proofs.YtmokgpepeddopaaGreatDoor.Addr
set_option linter.unusedSimpArgs false
set_option linter.unusedVariables false
def firstAt (p : ByteArray → Bool) : List ByteArray → Nat → Int
  | [], _ => -1
  | x :: r, i => if p x then i else firstAt p r (i + 1)
theorem firstAt_any (p : ByteArray → Bool) : ∀ (l : List ByteArray) (i : Nat), decide (0 ≤ firstAt p l i) = l.any p
  | [], i => rfl
  | x :: r, i => by
    unfold firstAt
    cases h : p x with
    | true => simp [h]
    | false => simpa [h] using firstAt_any p r (i + 1)
set_option maxRecDepth 100000 in
set_option maxHeartbeats 4000000 in
theorem indexFunc_calls (fv : Nat) (p : ByteArray → Bool) (eg : ∀ args W, (callFunc fv args).run Tryz.prog W = .ok (.enter fv args) W) (hp : ∀ x W, Calls Tryz.prog fv #[.string x] W fun e W' => e = .returned (.bool (p x)) ∧ Below W.heap.size W W')
    (A : Option Addr) (c : Nat) (l : List ByteArray) (w : World) (hr : Kd.C Kd.string w A l.length l) (hc : l.length ≤ c) (hm : l.length ≤ 9223372036854775806) :
    Calls Tryz.prog 89 #[.slice A l.length c, .func (.func fv) #[] #[]] w fun e w' => e = .returned (.int .i64 (firstAt p l 0)) ∧ Below w.heap.size w w' := by
  have HP := Lib.hid hp
  have HR := Lib.hid hr
  have HE := Lib.hid eg
  clear hp hr
  go_enter Tryz.func89, Tryz.ntmps89
  go_wp2_with fail
  go_loopw [8] (fun v W => ∃ i : Nat, v = .int .i64 (i : Int) ∧ i ≤ l.length ∧ Hid (firstAt p l 0 = firstAt p (l.drop i) i) ∧ Hid (Below w.heap.size w W)) (fun v _ => l.length - (intOf v).toNat)
  case atStart => exact ⟨0, rfl, Nat.zero_le _, Lib.hid rfl, Lib.hid (Below.refl _ _)⟩
  case round =>
    obtain ⟨i, rfl, hi, HF, HB⟩ := hrel
    by_cases hlt : i < l.length
    · have hi3 : ((i : Int) < (l.length : Int)) := by omega
      obtain ⟨ad, rfl, hx⟩ := Kd.at_string HR.out (i : Int) (by omega) (by omega)
      replace hx := pw_cell_below HB.out hx
      simp only [Int.toNat_natCast] at hx
      have hdr : l.drop i = rdOf ByteArray.empty l i :: l.drop (i + 1) := by
        rw [List.drop_eq_getElem_cons hlt]
        congr 1
        simp [rdOf, hlt]
      have HF2 := Lib.hid (hdr ▸ HF.out)
      clear HF hdr
      generalize rdOf ByteArray.empty l (i : Int) = x at hx HF2
      go_wp2_with fail
      have hq := HP.out x wr
      have HF3 := HF2.out
      rw [show firstAt p (x :: List.drop (i + 1) l) i = if p x then (i : Int) else firstAt p (List.drop (i + 1) l) (i + 1) from rfl] at HF3
      cases hpx : p x with
      | true =>
        rw [hpx] at hq HF3
        have HF4 := Lib.hid HF3
        clear HF3
        (with_reducible refine hq.mono ?_)
        rintro e w2 ⟨rfl, hb⟩
        have hb2 := HB.out.trans (hb.mono (below_size HB.out))
        go_wp2_with fail
        go_ret
        exact ⟨by rw [HF4.out]; simp, hb2⟩
      | false =>
        rw [hpx] at hq HF3
        have HF4 := Lib.hid HF3
        clear HF3
        (with_reducible refine hq.mono ?_)
        rintro e w2 ⟨rfl, hb⟩
        have hb2 := HB.out.trans (hb.mono (below_size HB.out))
        go_wp2_with fail
        exact ⟨⟨i + 1, by simp, by omega, Lib.hid (by simpa using HF4.out), Lib.hid hb2⟩, by simp [intOf]; omega⟩
    · have hi2 : i = l.length := by omega
      have hi3 : ¬ ((i : Int) < (l.length : Int)) := by omega
      have hf : firstAt p l 0 = -1 := by rw [HF.out, hi2, List.drop_length]; rfl
      go_wp2_with fail
      go_ret
      exact ⟨by first | rfl | rw [hf], HB.out⟩
theorem containsFunc_calls (fv : Nat) (p : ByteArray → Bool) (eg : ∀ args W, (callFunc fv args).run Tryz.prog W = .ok (.enter fv args) W) (hp : ∀ x W, Calls Tryz.prog fv #[.string x] W fun e W' => e = .returned (.bool (p x)) ∧ Below W.heap.size W W')
    (A : Option Addr) (c : Nat) (l : List ByteArray) (w : World) (hr : Kd.C Kd.string w A l.length l) (hc : l.length ≤ c) (hm : l.length ≤ 9223372036854775806) :
    Calls Tryz.prog 46 #[.slice A l.length c, .func (.func fv) #[] #[]] w fun e w' => e = .returned (.bool (l.any p)) ∧ Below w.heap.size w w' := by
  have hq := indexFunc_calls fv p eg hp A c l w hr hc hm
  clear hp eg
  go_enter Tryz.func46, Tryz.ntmps46
  go_wp2_with fail
  (with_reducible refine hq.mono ?_)
  rintro e w2 ⟨rfl, hb⟩
  have hf := firstAt_any p l 0
  go_wp2_with fail
  go_ret
  exact ⟨by simp [← hf], hb⟩
theorem text1_calls (x : ByteArray) (W : World) : Calls Tryz.prog 47 #[.string x] W fun e W' => e = .returned (.bool (!word (L x))) ∧ Below W.heap.size W W' := by
  have hq := address_isWord.calls x (word (L x)) W (by simp [address_isWord.f])
  go_enter Tryz.func47, Tryz.ntmps47
  go_wp2_with fail
  (with_reducible refine hq.mono ?_)
  rintro e w2 ⟨rfl, hb⟩
  go_wp2_with fail
  go_ret
  exact ⟨rfl, hb⟩
theorem tags1_calls (x : ByteArray) (W : World) : Calls Tryz.prog 58 #[.string x] W fun e W' => e = .returned (.bool (!name (L x))) ∧ Below W.heap.size W W' := by
  have hq := address_isName.calls x (name (L x)) W (isName_f x)
  go_enter Tryz.func58, Tryz.ntmps58
  go_wp2_with fail
  (with_reducible refine hq.mono ?_)
  rintro e w2 ⟨rfl, hb⟩
  go_wp2_with fail
  go_ret
  exact ⟨rfl, hb⟩
theorem text1_eg : ∀ args W, (callFunc 47 args).run Tryz.prog W = .ok (.enter 47 args) W :=
  fun args W => enters_ Tryz.func47 (by kernel_rfl) rfl args W
theorem tags1_eg : ∀ args W, (callFunc 58 args).run Tryz.prog W = .ok (.enter 58 args) W :=
  fun args W => enters_ Tryz.func58 (by kernel_rfl) rfl args W
def any_notWord.f (l : List ByteArray) : Option Bool := if l.length ≤ 9223372036854775806 then some (l.any fun x => !word (L x)) else none
theorem any_notWord.calls (A : Option Addr) (c : Nat) (l : List ByteArray) (r : Bool) (w : World) (hr : Kd.C Kd.string w A l.length l) (hc : l.length ≤ c) (h : any_notWord.f l = some r) :
    Calls Tryz.prog 46 #[.slice A l.length c, .func (.func 47) #[] #[]] w fun e w' => e = .returned (.bool r) ∧ Below w.heap.size w w' := by
  unfold any_notWord.f at h
  split at h
  · injection h with h
    rw [← h]
    exact containsFunc_calls _ (fun x => !word (L x)) text1_eg text1_calls A c l w hr hc (by assumption)
  · cases h
def any_notName.f (l : List ByteArray) : Option Bool := if l.length ≤ 9223372036854775806 then some (l.any fun x => !name (L x)) else none
theorem any_notName.calls (A : Option Addr) (c : Nat) (l : List ByteArray) (r : Bool) (w : World) (hr : Kd.C Kd.string w A l.length l) (hc : l.length ≤ c) (h : any_notName.f l = some r) :
    Calls Tryz.prog 46 #[.slice A l.length c, .func (.func 58) #[] #[]] w fun e w' => e = .returned (.bool r) ∧ Below w.heap.size w w' := by
  unfold any_notName.f at h
  split at h
  · injection h with h
    rw [← h]
    exact containsFunc_calls _ (fun x => !name (L x)) tags1_eg tags1_calls A c l w hr hc (by assumption)
  · cases h
end Go.Proofs.YtmokgpepeddopaaGreatDoor.P
end
section
namespace Go.Proofs.YtmokgpepeddopaaGreatDoor.P
open Go.RowKit Go.Proofs.YtmokgpepeddopaaGreatDoorW.PrintWords Go.Proofs.YtmokgpepeddopaaGreatDoorW.PrintLast Go.Proofs.YtmokgpepeddopaaGreatDoorW.PrintMore
attribute [local go_sem] max2_int min2_int max_two min_two max_three min_three max_four min_four
attribute [local go_sem high] binOp_string_leq2 binOp_string_gtr2
set_option linter.unusedVariables false
set_option linter.unusedSimpArgs false
mutual
def address_Text.j0 : Nat → Bool → ByteArray → List ByteArray → List (S66) → Option (ByteArray × Int)
 | 0, _, _, _, _ => none
 | k + 1, x27, x102000, x102001, x102002 => if x27 = true then (some ((⟨#[]⟩ : ByteArray), 1)) else (address_Text.l0 k x102002 (x102002.length : Int) 0 x102000 x102001 x102002)
def address_Text.l0 : Nat → List (S66) → Int → Int → ByteArray → List ByteArray → List (S66) → Option (ByteArray × Int)
 | 0, _, _, _, _, _, _ => none
 | k + 1, x29, x30, x31, x102000, x102001, x102002 => if x31 < x30 then (if 0 ≤ x31 then (if x31 < (x29.length : Int) then ((address_isName.f ((rd_T66 x29 x31).f0)).bind fun t107 => (if t107 = true then ((address_isWord.f ((rd_T66 x29 x31).f1)).bind fun t108 => (if t108 = true then (if x31 > 0 then (if 0 ≤ (wrap64 (x31 - 1)) then (if (wrap64 (x31 - 1)) < (x102002.length : Int) then (if ((Op.bytesLess (((rd_T66 x102002 (wrap64 (x31 - 1))).f0).toList) (((rd_T66 x29 x31).f0).toList)) = true) then (address_Text.l0 k x29 x30 (wrap64 (x31 + 1)) x102000 x102001 x102002) else (some ((⟨#[]⟩ : ByteArray), 1))) else (none)) else (none)) else (address_Text.l0 k x29 x30 (wrap64 (x31 + 1)) x102000 x102001 x102002)) else (some ((⟨#[]⟩ : ByteArray), 1)))) else (some ((⟨#[]⟩ : ByteArray), 1)))) else (none)) else (none)) else ((address_write.f x102000 x102001 x102002).bind fun t104 => (if (t104.size : Int) > 4096 then (some ((⟨#[]⟩ : ByteArray), 1)) else (some (t104, 0))))
end
def address_Text.f (k : Nat) (a0_0 : ByteArray) (l0_1 : List ByteArray) (l0_2 : List (S66)) : Option (ByteArray × Int) := (address_isName.f a0_0).bind fun t102 => (if t102 = true then (if (l0_1.length : Int) > 32 then (address_Text.j0 k true a0_0 l0_1 l0_2) else (if (l0_2.length : Int) > 16 then (address_Text.j0 k true a0_0 l0_1 l0_2) else ((any_notWord.f l0_1).bind fun t103 => (address_Text.j0 k t103 a0_0 l0_1 l0_2)))) else (address_Text.j0 k true a0_0 l0_1 l0_2))
def address_Text.T6 : Bool × List (List Nat × List Nat) := (true, [([], []), ([0], [0]), ([1], [1]), ([2], [2]), ([3, 2], [3]), ([4], [4]), ([5, 4], [4, 5]), ([6, 4, 4], [4, 6]), ([7, 4], [4, 7]), ([4, 8], [4, 8]), ([9, 7], [9]), ([10], [10]), ([11, 10], [10, 11]), ([12, 10, 10], [10, 12]), ([13], [13]), ([14, 13], [13, 14]), ([13], [13]), ([16, 13], [13, 16]), ([13], [13]), ([18, 13], [13, 18]), ([17, 19, 13], [13, 17, 19]), ([20, 13], [13, 20]), ([21, 13], [13, 21]), ([15, 22, 13], [13, 15, 22]), ([13, 23, 10], [10, 13, 23]), ([10, 24], [10, 24])])
def address_Text.B6 : List Nat := [0, 1, 3, 7, 15, 31, 63, 127, 255, 511, 1023, 2047, 4095, 8191, 16383, 32767, 16383, 81919, 16383, 278527, 999423, 2047999, 4145151, 8388607, 16777215, 33554431]
theorem address_Text.tab6 : rtab .any (opsOf Tryz.f14 6) = address_Text.T6 := by kernel_rfl
theorem address_Text.bits6 : waitsOk address_Text.T6.2 address_Text.B6 = true := by kernel_rfl
set_option maxRecDepth 100000 in
theorem address_Text.lf {p : Prop} (h : p := by
 go_wp2_with (first
 | ((with_reducible refine gate_callee (f := 49) rfl ?_); refine goesL_ (some 64) rfl rfl Tryz.func49 (by kernel_rfl) rfl #[.agg #[.string a0_0, .slice A0_1 l0_1.length c0_1, .slice A0_2 l0_2.length c0_2]] rfl zl ?_; (with_reducible refine (address_write.calls _ _ _ _ _ _ _ _ _ ?side1 ?side2 ?side3 ?side4 A11.out).mono ?_); (case side1 => repeat (first | exact (Kd.C_below HR0_1.out HB.out) | (with_reducible refine Kd.C_alloc ?_ _) | (with_reducible refine Kd.C_drewN ?_ _) | (with_reducible refine Kd.C_drew ?_))); (case side2 => exact HC0_1.out); (case side3 => repeat (first | exact (Kd.C_below HR0_2.out HB.out) | (with_reducible refine Kd.C_alloc ?_ _) | (with_reducible refine Kd.C_drewN ?_ _) | (with_reducible refine Kd.C_drew ?_))); (case side4 => exact HC0_2.out); rintro e wz0 ⟨rfl, hb⟩; refine ⟨_, rfl, ?_⟩; replace BK101 := bb BK101 hb; replace HB := sb w hb; clear hb))
 go_ret2; exact ⟨zE, zB⟩) : p := h
set_option maxHeartbeats 8000000 in
set_option maxRecDepth 100000 in
theorem address_Text.calls (k : Nat) (a0_0 : ByteArray) (A0_1 : Option Addr) (c0_1 : Nat) (l0_1 : List ByteArray) (A0_2 : Option Addr) (c0_2 : Nat) (l0_2 : List (S66)) (r1 : ByteArray) (r2 : Int) (w : World) (hr0_1 : Kd.C Kd.string w A0_1 l0_1.length l0_1) (hc0_1 : l0_1.length ≤ c0_1) (hr0_2 : Kd.C k66 w A0_2 l0_2.length l0_2) (hc0_2 : l0_2.length ≤ c0_2) (h : address_Text.f k a0_0 l0_1 l0_2 = some (r1, r2)) :
  Calls Tryz.prog 14 #[.agg #[.string a0_0, .slice A0_1 l0_1.length c0_1, .slice A0_2 l0_2.length c0_2]] w fun e w' => e = .returned (.tuple #[.string r1, .int .i64 r2]) ∧ Below w.heap.size w w' := by
 have hu25 := Tryz.underlying25
 have hu66 := Tryz.underlying66
 have HR0_1 := Aside0.mk hr0_1
 have HC0_1 := Aside0.mk hc0_1
 clear hr0_1 hc0_1
 have HR0_2 := Aside0.mk hr0_2
 have HC0_2 := Aside0.mk hc0_2
 clear hr0_2 hc0_2
 have HB := Aside0.mk (Below.refl w.heap.size w)
 have H : ((address_isName.f a0_0).bind fun t102 => (if t102 = true then (if (l0_1.length : Int) > 32 then (address_Text.j0 k true a0_0 l0_1 l0_2) else (if (l0_2.length : Int) > 16 then (address_Text.j0 k true a0_0 l0_1 l0_2) else ((any_notWord.f l0_1).bind fun t103 => (address_Text.j0 k t103 a0_0 l0_1 l0_2)))) else (address_Text.j0 k true a0_0 l0_1 l0_2))) = some (r1, r2) := h
 clear h
 have HC2 := Aside0.mk H
 clear H
 go_enter Tryz.func14, Tryz.ntmps14
 go_upto_region 1 with (first | ((with_reducible refine gate_dst (N := 1) rfl ?_); (try (refine gate_guard (by rfl) ?_; dsimp only)); refine bx 1 #[.string a0_0, .slice A0_1 l0_1.length c0_1, .slice A0_2 l0_2.length c0_2] 25 fun gb101 hg w3 hbox hb => ?_; have BK101 := Aside0.mk (hbox); have GW101 := gw w hg; have GE101 := gw w hg; replace HB := sb w hb; clear hb hbox hg))
 (try simp only [Act.put, List.setIfInBounds_toArray, List.set_cons_zero, List.set_cons_succ])
 go_cut [27] (fun v27 wc => ∃ (kq : Nat) (x27_1 : Bool), v27 = .bool x27_1 ∧ Aside0 (address_Text.j0 kq x27_1 a0_0 l0_1 l0_2 = some (r1, r2)) ∧ Aside0 (kq ≤ k) ∧ Aside0 (wc.heap[gb101]? = some (.cells #[.string a0_0, (.slice A0_1 l0_1.length c0_1), (.slice A0_2 l0_2.length c0_2)] 25 (0, 0))) ∧ Aside0 (Below w.heap.size w wc))
 case first =>
  have H := HC2.out
  clear HC2
  obtain ⟨t102, A4, H⟩ := bd H
  by_cases c5 : t102 = true
  ·subst c5
   rw [if_pos rfl] at H
   by_cases c6 : (l0_1.length : Int) > 32
   ·rw [if_pos c6] at H
    have c6b0 : decide (32 < (l0_1.length : Int)) = true := decide_eq_true c6
    have c6b1 : decide (32 < l0_1.length) = true := decide_eq_true (by omega)
    clear c6
    (first | rw [c6b0] | (simp only [i64_w, i32_w]; rw [c6b0]) | skip)
    have H' := Aside0.mk H
    clear H
    obtain ⟨hcz7_0, hcz7_1, hcz7_2, hfz7_0, hfz7_1, hfz7_2⟩ := cf3 BK101
    go_wp2_with (first | ((with_reducible refine gate_callee (f := 45) rfl ?_); refine goesL_ (some 9) rfl rfl Tryz.func45 (by kernel_rfl) rfl #[.string a0_0] rfl zl ?_; (with_reducible refine (address_isName.calls a0_0 true _ A4.out).mono ?_); rintro e w8 ⟨rfl, hb⟩; refine ⟨_, rfl, ?_⟩; replace BK101 := bb BK101 hb; replace HB := sb w hb; clear hb; obtain ⟨hcz9_0, hcz9_1, hcz9_2, hfz9_0, hfz9_1, hfz9_2⟩ := cf3 BK101))
    go_meet
    case rel => exact ⟨_, (true), zS, H', ⟨zo⟩, ⟨kb BK101⟩, ⟨zB⟩⟩
   ·rw [if_neg c6] at H
    have c6b0 : decide (32 < (l0_1.length : Int)) = false := decide_eq_false c6
    have c6b1 : decide (32 < l0_1.length) = false := decide_eq_false (by omega)
    clear c6
    (first | rw [c6b0] | (simp only [i64_w, i32_w]; rw [c6b0]) | skip)
    by_cases c7 : (l0_2.length : Int) > 16
    ·rw [if_pos c7] at H
     have c7b0 : decide (16 < (l0_2.length : Int)) = true := decide_eq_true c7
     have c7b1 : decide (16 < l0_2.length) = true := decide_eq_true (by omega)
     clear c7
     have H' := Aside0.mk H
     clear H
     obtain ⟨hcz8_0, hcz8_1, hcz8_2, hfz8_0, hfz8_1, hfz8_2⟩ := cf3 BK101
     go_wp2_with (first | ((with_reducible refine gate_callee (f := 45) rfl ?_); refine goesL_ (some 9) rfl rfl Tryz.func45 (by kernel_rfl) rfl #[.string a0_0] rfl zl ?_; (with_reducible refine (address_isName.calls a0_0 true _ A4.out).mono ?_); rintro e w9 ⟨rfl, hb⟩; refine ⟨_, rfl, ?_⟩; replace BK101 := bb BK101 hb; replace HB := sb w hb; clear hb; obtain ⟨hcz10_0, hcz10_1, hcz10_2, hfz10_0, hfz10_1, hfz10_2⟩ := cf3 BK101))
     go_meet
     case rel => exact ⟨_, (true), zS, H', ⟨zo⟩, ⟨kb BK101⟩, ⟨zB⟩⟩
    ·rw [if_neg c7] at H
     have c7b0 : decide (16 < (l0_2.length : Int)) = false := decide_eq_false c7
     have c7b1 : decide (16 < l0_2.length) = false := decide_eq_false (by omega)
     clear c7
     obtain ⟨t103, A8, H⟩ := bd H
     have H' := Aside0.mk H
     clear H
     obtain ⟨hcz9_0, hcz9_1, hcz9_2, hfz9_0, hfz9_1, hfz9_2⟩ := cf3 BK101
     go_wp2_with (first | ((with_reducible refine gate_callee (f := 45) rfl ?_); refine goesL_ (some 9) rfl rfl Tryz.func45 (by kernel_rfl) rfl #[.string a0_0] rfl zl ?_; (with_reducible refine (address_isName.calls a0_0 true _ A4.out).mono ?_); rintro e w10 ⟨rfl, hb⟩; refine ⟨_, rfl, ?_⟩; replace BK101 := bb BK101 hb; replace HB := sb w hb; clear hb; obtain ⟨hcz11_0, hcz11_1, hcz11_2, hfz11_0, hfz11_1, hfz11_2⟩ := cf3 BK101) | (go_at_call 46; (with_reducible refine (any_notWord.calls _ _ l0_1 t103 _ ?side1 ?side2 A8.out).mono ?_); (case side1 => repeat (first | exact (Kd.C_below HR0_1.out HB.out) | (with_reducible refine Kd.C_alloc ?_ _) | (with_reducible refine Kd.C_drewN ?_ _) | (with_reducible refine Kd.C_drew ?_))); (case side2 => exact HC0_1.out); rintro e w12 ⟨rfl, hb⟩; replace BK101 := bb BK101 hb; replace HB := sb w hb; clear hb))
     go_meet
     case rel => exact ⟨_, (t103), zS, H', ⟨zo⟩, ⟨kb BK101⟩, ⟨zB⟩⟩
  ·replace c5 := Bool.eq_false_iff.mpr c5
   subst c5
   rw [if_neg Bool.false_ne_true] at H
   have H' := Aside0.mk H
   clear H
   obtain ⟨hcz6_0, hcz6_1, hcz6_2, hfz6_0, hfz6_1, hfz6_2⟩ := cf3 BK101
   go_wp2_with (first | ((with_reducible refine gate_callee (f := 45) rfl ?_); refine goesL_ (some 9) rfl rfl Tryz.func45 (by kernel_rfl) rfl #[.string a0_0] rfl zl ?_; (with_reducible refine (address_isName.calls a0_0 false _ A4.out).mono ?_); rintro e w7 ⟨rfl, hb⟩; refine ⟨_, rfl, ?_⟩; replace BK101 := bb BK101 hb; replace HB := sb w hb; clear hb))
   go_meet
   case rel => exact ⟨_, (true), zS, H', ⟨zo⟩, ⟨kb BK101⟩, ⟨zB⟩⟩
 case rest =>
  clear HC2
  obtain ⟨kq, x27_1, rfl, HA, HJ1, BK101, HB⟩ := hcut
  cases kq with
  | zero => exact absurd HA.out (by simp [address_Text.j0])
  | succ kj1 =>
   have H := HA.out
   clear HA
   simp only [address_Text.j0] at H
   by_cases c8 : x27_1 = true
   ·subst c8
    rw [if_pos rfl] at H
    simp only [Option.some.injEq, Prod.mk.injEq] at H
    obtain ⟨rfl, rfl⟩ := H
    go_wp2
    go_ret2
    exact ⟨zE, zB⟩
   ·replace c8 := Bool.eq_false_iff.mpr c8
    subst c8
    rw [if_neg Bool.false_ne_true] at H
    have H' := Aside0.mk H
    clear H
    obtain ⟨hcz9_0, hcz9_1, hcz9_2, hfz9_0, hfz9_1, hfz9_2⟩ := cf3 BK101
    go_wp2
    go_loopg [31] kj1 (fun kq v31 w' => ∃ (x31_2 : Int), v31 = .int .i64 x31_2 ∧ Aside0 (address_Text.l0 kq l0_2 (l0_2.length : Int) x31_2 a0_0 l0_1 l0_2 = some (r1, r2)) ∧ Aside0 (kq ≤ kj1) ∧ Aside0 (w'.heap[gb101]? = some (.cells #[.string a0_0, (.slice A0_1 l0_1.length c0_1), (.slice A0_2 l0_2.length c0_2)] 25 (0, 0))) ∧ Aside0 (Below w.heap.size w w'))
    case atStart => exact ⟨(0), zS, H', ⟨Nat.le_refl _⟩, ⟨kb BK101⟩, ⟨zB⟩⟩
    case round =>
     clear H'
     obtain ⟨x31_2, rfl, HA, HK2, BK101, HB⟩ := hrel
     cases gk with
     | zero => exact absurd HA.out (by simp [address_Text.l0])
     | succ k2 =>
      have H := HA.out
      clear HA
      simp only [address_Text.l0] at H
      by_cases c10 : x31_2 < (l0_2.length : Int)
      ·rw [if_pos c10] at H
       have c10b0 : decide (x31_2 < (l0_2.length : Int)) = true := decide_eq_true c10
       clear c10
       by_cases c11 : 0 ≤ x31_2
       ·rw [if_pos c11] at H
        have c11b0 : decide (0 ≤ x31_2) = true := decide_eq_true c11
        clear c11
        by_cases c12 : x31_2 < (l0_2.length : Int)
        ·rw [if_pos c12] at H
         have c12b0 : decide (x31_2 < (l0_2.length : Int)) = true := decide_eq_true c12
         clear c12
         obtain ⟨t107, A13, H⟩ := bd H
         by_cases c14 : t107 = true
         ·subst c14
          rw [if_pos rfl] at H
          obtain ⟨t108, A15, H⟩ := bd H
          by_cases c16 : t108 = true
          ·subst c16
           rw [if_pos rfl] at H
           by_cases c17 : x31_2 > 0
           ·rw [if_pos c17] at H
            have c17b0 : decide (0 < x31_2) = true := decide_eq_true c17
            clear c17
            obtain ⟨ji18, hji18⟩ : ∃ j_ : Int, (wrap64 (x31_2 - 1)) = j_ := ⟨_, rfl⟩
            replace H : (if 0 ≤ (ji18) then (if (ji18) < (l0_2.length : Int) then (if ((Op.bytesLess (((rd_T66 l0_2 (ji18)).f0).toList) (((rd_T66 l0_2 x31_2).f0).toList)) = true) then (address_Text.l0 k2 l0_2 (l0_2.length : Int) (wrap64 (x31_2 + 1)) a0_0 l0_1 l0_2) else (some ((⟨#[]⟩ : ByteArray), 1))) else (none)) else (none)) = some (r1, r2) := by first | (rw [hji18] at H; exact H) | (simp only [hji18] at H ⊢; exact H)
            (try rw [hji18] at A13)
            (try rw [hji18] at A15)
            have hji18w : (IntKind.i64.wrap (x31_2 - 1)) = ji18 := (i64_w _).trans hji18
            by_cases c19 : 0 ≤ (ji18)
            ·rw [if_pos c19] at H
             have c19b0 : decide (0 ≤ (ji18)) = true := decide_eq_true c19
             clear c19
             by_cases c20 : (ji18) < (l0_2.length : Int)
             ·rw [if_pos c20] at H
              have c20b0 : decide ((ji18) < (l0_2.length : Int)) = true := decide_eq_true c20
              clear c20
              by_cases c21 : ((Op.bytesLess (((rd_T66 l0_2 (ji18)).f0).toList) (((rd_T66 l0_2 x31_2).f0).toList)) = true)
              ·rw [if_pos c21] at H
               have c21b0 : (Op.bytesLess (((rd_T66 l0_2 (ji18)).f0).toList) (((rd_T66 l0_2 x31_2).f0).toList)) = true := c21
               clear c21
               have H' := Aside0.mk H
               clear H
               have p105 : 0 ≤ (x31_2 : Int) := of_decide_eq_true za
               have q105 : x31_2 < (l0_2.length : Int) := of_decide_eq_true za
               obtain ⟨ad105, e105, hx105_0, hx105_1⟩ := at_T66 HR0_2.out x31_2 p105 q105
               cases e105
               replace hx105_0 := (HB.out.cell (World.block_lt_of_cell? w _ hx105_0)).trans hx105_0
               replace hx105_1 := (HB.out.cell (World.block_lt_of_cell? w _ hx105_1)).trans hx105_1
               replace p105 := eq_true p105
               replace q105 := eq_true q105
               try go_wp2_with (first | ((with_reducible refine gate_dst (N := 5) rfl ?_); (try (refine gate_guard (by rfl) ?_; dsimp only)); refine bx 5 #[.string (⟨#[]⟩ : ByteArray), .string (⟨#[]⟩ : ByteArray)] 66 fun gb106 hg w22 hbox hb => ?_; have BK106 := Aside0.mk (hbox); have GW106 := gw w hg; have GE106 := gw w hg; replace HB := sb w hb; have NB101_106 := nl hg BK101; have NB106_101 := ng hg BK101; replace BK101 := bb BK101 hb; clear hb hbox hg; have hnb23 := NB106_101.out; have hnc23 := NB101_106.out; obtain ⟨hcz24_0, hcz24_1, hfz24_0, hfz24_1⟩ := cf2 BK106))
               have n0_ : Aside0 (((w22.setCell ⟨gb106, 0, none⟩ (.string ((rd_T66 l0_2 x31_2).f0))).setCell ⟨gb106, 1, none⟩ (.string ((rd_T66 l0_2 x31_2).f1))).heap[gb101]? = some (.cells #[.string a0_0, .slice A0_1 l0_1.length c0_1, .slice (some ad105) l0_2.length c0_2] 25 (0, 0))) := ⟨kf BK101⟩
               have n1_ : Aside0 (((w22.setCell ⟨gb106, 0, none⟩ (.string ((rd_T66 l0_2 x31_2).f0))).setCell ⟨gb106, 1, none⟩ (.string ((rd_T66 l0_2 x31_2).f1))).heap[gb106]? = some (.cells #[.string ((rd_T66 l0_2 x31_2).f0), .string ((rd_T66 l0_2 x31_2).f1)] 66 (0, 0))) := ⟨kp _ BK106⟩
               have n2_ : Aside0 (Below w.heap.size w ((w22.setCell ⟨gb106, 0, none⟩ (.string ((rd_T66 l0_2 x31_2).f0))).setCell ⟨gb106, 1, none⟩ (.string ((rd_T66 l0_2 x31_2).f1)))) := ⟨zB⟩
               (try clear BK101)
               (try clear BK106)
               (try clear HB)
               generalize ((w22.setCell ⟨gb106, 0, none⟩ (.string ((rd_T66 l0_2 x31_2).f0))).setCell ⟨gb106, 1, none⟩ (.string ((rd_T66 l0_2 x31_2).f1))) = w25 at n0_ n1_ n2_ ⊢
               have BK101 := n0_
               have BK106 := n1_
               have HB := n2_
               clear n0_ n1_ n2_
               replace BK101 := Aside0.mk (blk_drew BK101.out)
               replace BK106 := Aside0.mk (blk_drew BK106.out)
               replace HB := Aside0.mk (below_drew1 HB.out)
               have p109 : 0 ≤ ((ji18) : Int) := of_decide_eq_true za
               have q109 : (ji18) < (l0_2.length : Int) := of_decide_eq_true za
               obtain ⟨ad109, e109, hx109_0, hx109_1⟩ := at_T66 HR0_2.out (ji18) p109 q109
               have hw109_1 := hx109_1
               have hw109_0 := hx109_0
               obtain rfl : ad105 = ad109 := (by injection e109)
               replace hx109_0 := (HB.out.cell (World.block_lt_of_cell? w _ hx109_0)).trans hx109_0
               replace hx109_1 := (HB.out.cell (World.block_lt_of_cell? w _ hx109_1)).trans hx109_1
               replace p109 := eq_true p109
               replace q109 := eq_true q109
               refine start_ (n := 26) (S := fun w' => w'.cell? ⟨gb106, 0, none⟩ = some (.string ((rd_T66 l0_2 x31_2).f0)) ∧ w'.cell? ⟨gb106, 1, none⟩ = some (.string ((rd_T66 l0_2 x31_2).f1)) ∧ w'.cell? ⟨gb101, 0, none⟩ = some (.string a0_0) ∧ w'.cell? ⟨gb101, 1, none⟩ = some (.slice A0_1 l0_1.length c0_1) ∧ w'.cell? ⟨gb101, 2, none⟩ = some (.slice (some ad105) l0_2.length c0_2) ∧ w'.cell? (ad105.add (((ji18)).toNat * 2)) = some (.string ((rd_T66 l0_2 (ji18)).f0)) ∧ w'.cell? ⟨(ad105.add (((ji18)).toNat * 2)).block, (ad105.add (((ji18)).toNat * 2)).off + 1, none⟩ = some (.string ((rd_T66 l0_2 (ji18)).f1))) (ds := []) #[false, false, false, false, false, false, false, false, false, false, false, false, false, false, false, false, false, false, false, false, false, false, false, false, false, false] (by kernel_rfl) rfl rfl ⟨(blk_cell BK106.out 0).trans rfl, (blk_cell BK106.out 1).trans rfl, (blk_cell BK101.out 0).trans rfl, (blk_cell BK101.out 1).trans rfl, (blk_cell BK101.out 2).trans rfl, ((HB.out.cell (World.block_lt_of_cell? w _ hw109_0)).trans hw109_0), ((HB.out.cell (World.block_lt_of_cell? w _ hw109_1)).trans hw109_1)⟩ (fun hHeld => ?_); refine with_tabW address_Text.tab6 address_Text.bits6 (fun HT_ HW_ => ?_)
               generalize w25.drew = w26 at BK101 BK106 HB hx109_0 hx109_1 hHeld ⊢
               refine pu 0 36 ?_
               refine tk 1 37 ?_
               refine on 2 (some 38) fun K hK => ?_
               refine goes_ Tryz.func45 (by kernel_rfl) rfl #[.string ((rd_T66 l0_2 x31_2).f0)] (by rfl) rfl rfl zl ?_
               with_reducible refine (address_isName.calls ((rd_T66 l0_2 x31_2).f0) true _ A13.out).mono ?_
               rintro e w27 ⟨rfl, hb⟩
               refine ⟨_, rfl, ?_⟩
               replace BK101 := bb BK101 hb
               replace BK106 := bb BK106 hb
               replace HB := sb w hb
               clear hb
               refine hK.out _ _ ⟨(blk_cell BK106.out 0).trans rfl, (blk_cell BK106.out 1).trans rfl, (blk_cell BK101.out 0).trans rfl, (blk_cell BK101.out 1).trans rfl, (blk_cell BK101.out 2).trans rfl, ((HB.out.cell (World.block_lt_of_cell? w _ hw109_0)).trans hw109_0), ((HB.out.cell (World.block_lt_of_cell? w _ hw109_1)).trans hw109_1)⟩ (fun hHeld => ?_)
               clear hK K
               refine nm 38 ?_
               refine pu 3 39 ?_
               refine pu 4 40 ?_
               refine pu 5 41 ?_
               refine tk 6 42 ?_
               refine on 7 (some 43) fun K hK => ?_
               refine goes_ Tryz.func48 (by kernel_rfl) rfl #[.string ((rd_T66 l0_2 x31_2).f1)] (by rfl) rfl rfl zl ?_
               with_reducible refine (address_isWord.calls ((rd_T66 l0_2 x31_2).f1) true _ A15.out).mono ?_
               rintro e w28 ⟨rfl, hb⟩
               refine ⟨_, rfl, ?_⟩
               replace BK101 := bb BK101 hb
               replace BK106 := bb BK106 hb
               replace HB := sb w hb
               clear hb
               refine hK.out _ _ ⟨(blk_cell BK106.out 0).trans rfl, (blk_cell BK106.out 1).trans rfl, (blk_cell BK101.out 0).trans rfl, (blk_cell BK101.out 1).trans rfl, (blk_cell BK101.out 2).trans rfl, ((HB.out.cell (World.block_lt_of_cell? w _ hw109_0)).trans hw109_0), ((HB.out.cell (World.block_lt_of_cell? w _ hw109_1)).trans hw109_1)⟩ (fun hHeld => ?_)
               clear hK K
               refine nm 43 ?_
               refine pu 8 44 ?_
               refine pu 9 45 ?_
               refine pu 10 46 ?_
               refine pu 11 47 ?_
               refine pu 12 48 ?_
               refine pu 13 49 ?_
               refine pu 14 50 ?_
               refine pu 16 52 ?_
               refine pu 18 54 ?_
               refine pu 19 55 ?_
               refine tk 15 51 ?_
               refine tk 17 53 ?_
               refine pu 20 56 ?_
               refine pu 21 57 ?_
               refine tk 22 58 ?_
               refine pu 23 59 ?_
               refine pu 24 60 ?_
               refine pu 25 61 ?_
               refine dn ?_
               try go_wp2
               go_roundg k2
               case measure => have := HJ1.out; have := HK2.out; omega
               case rel => exact ⟨(wrap64 (x31_2 + 1)), zS, H', ⟨by have := HJ1.out; have := HK2.out; omega⟩, ⟨kb BK101⟩, ⟨zB⟩⟩
              ·rw [if_neg c21] at H
               have c21b0 : (Op.bytesLess (((rd_T66 l0_2 (ji18)).f0).toList) (((rd_T66 l0_2 x31_2).f0).toList)) = false := by simpa using c21
               clear c21
               simp only [Option.some.injEq, Prod.mk.injEq] at H
               obtain ⟨rfl, rfl⟩ := H
               have p105 : 0 ≤ (x31_2 : Int) := of_decide_eq_true za
               have q105 : x31_2 < (l0_2.length : Int) := of_decide_eq_true za
               obtain ⟨ad105, e105, hx105_0, hx105_1⟩ := at_T66 HR0_2.out x31_2 p105 q105
               cases e105
               replace hx105_0 := (HB.out.cell (World.block_lt_of_cell? w _ hx105_0)).trans hx105_0
               replace hx105_1 := (HB.out.cell (World.block_lt_of_cell? w _ hx105_1)).trans hx105_1
               replace p105 := eq_true p105
               replace q105 := eq_true q105
               try go_wp2_with (first | ((with_reducible refine gate_dst (N := 5) rfl ?_); (try (refine gate_guard (by rfl) ?_; dsimp only)); refine bx 5 #[.string (⟨#[]⟩ : ByteArray), .string (⟨#[]⟩ : ByteArray)] 66 fun gb106 hg w22 hbox hb => ?_; have BK106 := Aside0.mk (hbox); have GW106 := gw w hg; have GE106 := gw w hg; replace HB := sb w hb; have NB101_106 := nl hg BK101; have NB106_101 := ng hg BK101; replace BK101 := bb BK101 hb; clear hb hbox hg; have hnb23 := NB106_101.out; have hnc23 := NB101_106.out; obtain ⟨hcz24_0, hcz24_1, hfz24_0, hfz24_1⟩ := cf2 BK106))
               have n0_ : Aside0 (((w22.setCell ⟨gb106, 0, none⟩ (.string ((rd_T66 l0_2 x31_2).f0))).setCell ⟨gb106, 1, none⟩ (.string ((rd_T66 l0_2 x31_2).f1))).heap[gb101]? = some (.cells #[.string a0_0, .slice A0_1 l0_1.length c0_1, .slice (some ad105) l0_2.length c0_2] 25 (0, 0))) := ⟨kf BK101⟩
               have n1_ : Aside0 (((w22.setCell ⟨gb106, 0, none⟩ (.string ((rd_T66 l0_2 x31_2).f0))).setCell ⟨gb106, 1, none⟩ (.string ((rd_T66 l0_2 x31_2).f1))).heap[gb106]? = some (.cells #[.string ((rd_T66 l0_2 x31_2).f0), .string ((rd_T66 l0_2 x31_2).f1)] 66 (0, 0))) := ⟨kp _ BK106⟩
               have n2_ : Aside0 (Below w.heap.size w ((w22.setCell ⟨gb106, 0, none⟩ (.string ((rd_T66 l0_2 x31_2).f0))).setCell ⟨gb106, 1, none⟩ (.string ((rd_T66 l0_2 x31_2).f1)))) := ⟨zB⟩
               (try clear BK101)
               (try clear BK106)
               (try clear HB)
               generalize ((w22.setCell ⟨gb106, 0, none⟩ (.string ((rd_T66 l0_2 x31_2).f0))).setCell ⟨gb106, 1, none⟩ (.string ((rd_T66 l0_2 x31_2).f1))) = w25 at n0_ n1_ n2_ ⊢
               have BK101 := n0_
               have BK106 := n1_
               have HB := n2_
               clear n0_ n1_ n2_
               replace BK101 := Aside0.mk (blk_drew BK101.out)
               replace BK106 := Aside0.mk (blk_drew BK106.out)
               replace HB := Aside0.mk (below_drew1 HB.out)
               have p109 : 0 ≤ ((ji18) : Int) := of_decide_eq_true za
               have q109 : (ji18) < (l0_2.length : Int) := of_decide_eq_true za
               obtain ⟨ad109, e109, hx109_0, hx109_1⟩ := at_T66 HR0_2.out (ji18) p109 q109
               have hw109_1 := hx109_1
               have hw109_0 := hx109_0
               obtain rfl : ad105 = ad109 := (by injection e109)
               replace hx109_0 := (HB.out.cell (World.block_lt_of_cell? w _ hx109_0)).trans hx109_0
               replace hx109_1 := (HB.out.cell (World.block_lt_of_cell? w _ hx109_1)).trans hx109_1
               replace p109 := eq_true p109
               replace q109 := eq_true q109
               refine start_ (n := 26) (S := fun w' => w'.cell? ⟨gb106, 0, none⟩ = some (.string ((rd_T66 l0_2 x31_2).f0)) ∧ w'.cell? ⟨gb106, 1, none⟩ = some (.string ((rd_T66 l0_2 x31_2).f1)) ∧ w'.cell? ⟨gb101, 0, none⟩ = some (.string a0_0) ∧ w'.cell? ⟨gb101, 1, none⟩ = some (.slice A0_1 l0_1.length c0_1) ∧ w'.cell? ⟨gb101, 2, none⟩ = some (.slice (some ad105) l0_2.length c0_2) ∧ w'.cell? (ad105.add (((ji18)).toNat * 2)) = some (.string ((rd_T66 l0_2 (ji18)).f0)) ∧ w'.cell? ⟨(ad105.add (((ji18)).toNat * 2)).block, (ad105.add (((ji18)).toNat * 2)).off + 1, none⟩ = some (.string ((rd_T66 l0_2 (ji18)).f1))) (ds := []) #[false, false, false, false, false, false, false, false, false, false, false, false, false, false, false, false, false, false, false, false, false, false, false, false, false, false] (by kernel_rfl) rfl rfl ⟨(blk_cell BK106.out 0).trans rfl, (blk_cell BK106.out 1).trans rfl, (blk_cell BK101.out 0).trans rfl, (blk_cell BK101.out 1).trans rfl, (blk_cell BK101.out 2).trans rfl, ((HB.out.cell (World.block_lt_of_cell? w _ hw109_0)).trans hw109_0), ((HB.out.cell (World.block_lt_of_cell? w _ hw109_1)).trans hw109_1)⟩ (fun hHeld => ?_); refine with_tabW address_Text.tab6 address_Text.bits6 (fun HT_ HW_ => ?_)
               generalize w25.drew = w26 at BK101 BK106 HB hx109_0 hx109_1 hHeld ⊢
               refine pu 0 36 ?_
               refine tk 1 37 ?_
               refine on 2 (some 38) fun K hK => ?_
               refine goes_ Tryz.func45 (by kernel_rfl) rfl #[.string ((rd_T66 l0_2 x31_2).f0)] (by rfl) rfl rfl zl ?_
               with_reducible refine (address_isName.calls ((rd_T66 l0_2 x31_2).f0) true _ A13.out).mono ?_
               rintro e w27 ⟨rfl, hb⟩
               refine ⟨_, rfl, ?_⟩
               replace BK101 := bb BK101 hb
               replace BK106 := bb BK106 hb
               replace HB := sb w hb
               clear hb
               refine hK.out _ _ ⟨(blk_cell BK106.out 0).trans rfl, (blk_cell BK106.out 1).trans rfl, (blk_cell BK101.out 0).trans rfl, (blk_cell BK101.out 1).trans rfl, (blk_cell BK101.out 2).trans rfl, ((HB.out.cell (World.block_lt_of_cell? w _ hw109_0)).trans hw109_0), ((HB.out.cell (World.block_lt_of_cell? w _ hw109_1)).trans hw109_1)⟩ (fun hHeld => ?_)
               clear hK K
               refine nm 38 ?_
               refine pu 3 39 ?_
               refine pu 4 40 ?_
               refine pu 5 41 ?_
               refine tk 6 42 ?_
               refine on 7 (some 43) fun K hK => ?_
               refine goes_ Tryz.func48 (by kernel_rfl) rfl #[.string ((rd_T66 l0_2 x31_2).f1)] (by rfl) rfl rfl zl ?_
               with_reducible refine (address_isWord.calls ((rd_T66 l0_2 x31_2).f1) true _ A15.out).mono ?_
               rintro e w28 ⟨rfl, hb⟩
               refine ⟨_, rfl, ?_⟩
               replace BK101 := bb BK101 hb
               replace BK106 := bb BK106 hb
               replace HB := sb w hb
               clear hb
               refine hK.out _ _ ⟨(blk_cell BK106.out 0).trans rfl, (blk_cell BK106.out 1).trans rfl, (blk_cell BK101.out 0).trans rfl, (blk_cell BK101.out 1).trans rfl, (blk_cell BK101.out 2).trans rfl, ((HB.out.cell (World.block_lt_of_cell? w _ hw109_0)).trans hw109_0), ((HB.out.cell (World.block_lt_of_cell? w _ hw109_1)).trans hw109_1)⟩ (fun hHeld => ?_)
               clear hK K
               refine nm 43 ?_
               refine pu 8 44 ?_
               refine pu 9 45 ?_
               refine pu 10 46 ?_
               refine pu 11 47 ?_
               refine pu 12 48 ?_
               refine pu 13 49 ?_
               refine pu 14 50 ?_
               refine pu 16 52 ?_
               refine pu 18 54 ?_
               refine pu 19 55 ?_
               refine tk 15 51 ?_
               refine tk 17 53 ?_
               refine pu 20 56 ?_
               refine pu 21 57 ?_
               refine tk 22 58 ?_
               refine pu 23 59 ?_
               refine pu 24 60 ?_
               refine pu 25 61 ?_
               refine dn ?_
               try go_wp2
               go_ret2
               exact ⟨by first | rfl | (simp [errW_none, errW_some] <;> rfl) | (simp only [← hji18]; first | rfl | (simp [errW_none, errW_some] <;> rfl)) | (simp [*, errW_none, errW_some] <;> rfl), zB⟩
             ·rw [if_neg c20] at H
              exact absurd H (by simp)
            ·rw [if_neg c19] at H
             exact absurd H (by simp)
           ·rw [if_neg c17] at H
            have c17b0 : decide (0 < x31_2) = false := decide_eq_false c17
            clear c17
            have H' := Aside0.mk H
            clear H
            have p105 : 0 ≤ (x31_2 : Int) := of_decide_eq_true za
            have q105 : x31_2 < (l0_2.length : Int) := of_decide_eq_true za
            obtain ⟨ad105, e105, hx105_0, hx105_1⟩ := at_T66 HR0_2.out x31_2 p105 q105
            cases e105
            replace hx105_0 := (HB.out.cell (World.block_lt_of_cell? w _ hx105_0)).trans hx105_0
            replace hx105_1 := (HB.out.cell (World.block_lt_of_cell? w _ hx105_1)).trans hx105_1
            replace p105 := eq_true p105
            replace q105 := eq_true q105
            try go_wp2_with (first | ((with_reducible refine gate_dst (N := 5) rfl ?_); (try (refine gate_guard (by rfl) ?_; dsimp only)); refine bx 5 #[.string (⟨#[]⟩ : ByteArray), .string (⟨#[]⟩ : ByteArray)] 66 fun gb106 hg w18 hbox hb => ?_; have BK106 := Aside0.mk (hbox); have GW106 := gw w hg; have GE106 := gw w hg; replace HB := sb w hb; have NB101_106 := nl hg BK101; have NB106_101 := ng hg BK101; replace BK101 := bb BK101 hb; clear hb hbox hg; have hnb19 := NB106_101.out; have hnc19 := NB101_106.out; obtain ⟨hcz20_0, hcz20_1, hfz20_0, hfz20_1⟩ := cf2 BK106))
            have n0_ : Aside0 (((w18.setCell ⟨gb106, 0, none⟩ (.string ((rd_T66 l0_2 x31_2).f0))).setCell ⟨gb106, 1, none⟩ (.string ((rd_T66 l0_2 x31_2).f1))).heap[gb101]? = some (.cells #[.string a0_0, .slice A0_1 l0_1.length c0_1, .slice (some ad105) l0_2.length c0_2] 25 (0, 0))) := ⟨kf BK101⟩
            have n1_ : Aside0 (((w18.setCell ⟨gb106, 0, none⟩ (.string ((rd_T66 l0_2 x31_2).f0))).setCell ⟨gb106, 1, none⟩ (.string ((rd_T66 l0_2 x31_2).f1))).heap[gb106]? = some (.cells #[.string ((rd_T66 l0_2 x31_2).f0), .string ((rd_T66 l0_2 x31_2).f1)] 66 (0, 0))) := ⟨kp _ BK106⟩
            have n2_ : Aside0 (Below w.heap.size w ((w18.setCell ⟨gb106, 0, none⟩ (.string ((rd_T66 l0_2 x31_2).f0))).setCell ⟨gb106, 1, none⟩ (.string ((rd_T66 l0_2 x31_2).f1)))) := ⟨zB⟩
            (try clear BK101)
            (try clear BK106)
            (try clear HB)
            generalize ((w18.setCell ⟨gb106, 0, none⟩ (.string ((rd_T66 l0_2 x31_2).f0))).setCell ⟨gb106, 1, none⟩ (.string ((rd_T66 l0_2 x31_2).f1))) = w21 at n0_ n1_ n2_ ⊢
            have BK101 := n0_
            have BK106 := n1_
            have HB := n2_
            clear n0_ n1_ n2_
            replace BK101 := Aside0.mk (blk_drew BK101.out)
            replace BK106 := Aside0.mk (blk_drew BK106.out)
            replace HB := Aside0.mk (below_drew1 HB.out)
            refine start_ (n := 26) (S := fun w' => w'.cell? ⟨gb106, 0, none⟩ = some (.string ((rd_T66 l0_2 x31_2).f0)) ∧ w'.cell? ⟨gb106, 1, none⟩ = some (.string ((rd_T66 l0_2 x31_2).f1))) (ds := []) #[false, false, false, false, false, false, false, false, false, false, false, false, false, false, false, false, false, false, false, false, false, false, false, false, false, false] (by kernel_rfl) rfl rfl zh (fun hHeld => ?_); refine with_tabW address_Text.tab6 address_Text.bits6 (fun HT_ HW_ => ?_)
            generalize w21.drew = w22 at BK101 BK106 HB hHeld ⊢
            refine pu 0 36 ?_
            refine tk 1 37 ?_
            refine on 2 (some 38) fun K hK => ?_
            refine goes_ Tryz.func45 (by kernel_rfl) rfl #[.string ((rd_T66 l0_2 x31_2).f0)] (by rfl) rfl rfl zl ?_
            with_reducible refine (address_isName.calls ((rd_T66 l0_2 x31_2).f0) true _ A13.out).mono ?_
            rintro e w23 ⟨rfl, hb⟩
            refine ⟨_, rfl, ?_⟩
            replace BK101 := bb BK101 hb
            replace BK106 := bb BK106 hb
            replace HB := sb w hb
            clear hb
            refine hK.out _ _ zh (fun hHeld => ?_)
            clear hK K
            refine nm 38 ?_
            refine pu 3 39 ?_
            refine pu 4 40 ?_
            refine pu 5 41 ?_
            refine tk 6 42 ?_
            refine on 7 (some 43) fun K hK => ?_
            refine goes_ Tryz.func48 (by kernel_rfl) rfl #[.string ((rd_T66 l0_2 x31_2).f1)] (by rfl) rfl rfl zl ?_
            with_reducible refine (address_isWord.calls ((rd_T66 l0_2 x31_2).f1) true _ A15.out).mono ?_
            rintro e w24 ⟨rfl, hb⟩
            refine ⟨_, rfl, ?_⟩
            replace BK101 := bb BK101 hb
            replace BK106 := bb BK106 hb
            replace HB := sb w hb
            clear hb
            refine hK.out _ _ zh (fun hHeld => ?_)
            clear hK K
            refine nm 43 ?_
            refine pu 8 44 ?_
            refine pu 9 45 ?_
            refine pu 10 46 ?_
            refine pu 11 47 ?_
            refine pu 12 48 ?_
            refine pu 13 49 ?_
            refine pn 14 50 ?_
            refine pn 15 51 ?_
            refine pn 16 52 ?_
            refine pn 17 53 ?_
            refine pn 18 54 ?_
            refine pn 19 55 ?_
            refine pn 20 56 ?_
            refine pn 21 57 ?_
            refine pn 22 58 ?_
            refine pn 23 59 ?_
            refine pu 24 60 ?_
            refine pu 25 61 ?_
            refine dn ?_
            try go_wp2
            go_roundg k2
            case measure => have := HJ1.out; have := HK2.out; omega
            case rel => exact ⟨(wrap64 (x31_2 + 1)), zS, H', ⟨by have := HJ1.out; have := HK2.out; omega⟩, ⟨kb BK101⟩, ⟨zB⟩⟩
          ·replace c16 := Bool.eq_false_iff.mpr c16
           subst c16
           rw [if_neg Bool.false_ne_true] at H
           simp only [Option.some.injEq, Prod.mk.injEq] at H
           obtain ⟨rfl, rfl⟩ := H
           have p105 : 0 ≤ (x31_2 : Int) := of_decide_eq_true za
           have q105 : x31_2 < (l0_2.length : Int) := of_decide_eq_true za
           obtain ⟨ad105, e105, hx105_0, hx105_1⟩ := at_T66 HR0_2.out x31_2 p105 q105
           cases e105
           replace hx105_0 := (HB.out.cell (World.block_lt_of_cell? w _ hx105_0)).trans hx105_0
           replace hx105_1 := (HB.out.cell (World.block_lt_of_cell? w _ hx105_1)).trans hx105_1
           replace p105 := eq_true p105
           replace q105 := eq_true q105
           try go_wp2_with (first | ((with_reducible refine gate_dst (N := 5) rfl ?_); (try (refine gate_guard (by rfl) ?_; dsimp only)); refine bx 5 #[.string (⟨#[]⟩ : ByteArray), .string (⟨#[]⟩ : ByteArray)] 66 fun gb106 hg w17 hbox hb => ?_; have BK106 := Aside0.mk (hbox); have GW106 := gw w hg; have GE106 := gw w hg; replace HB := sb w hb; have NB101_106 := nl hg BK101; have NB106_101 := ng hg BK101; replace BK101 := bb BK101 hb; clear hb hbox hg; have hnb18 := NB106_101.out; have hnc18 := NB101_106.out; obtain ⟨hcz19_0, hcz19_1, hfz19_0, hfz19_1⟩ := cf2 BK106))
           have n0_ : Aside0 (((w17.setCell ⟨gb106, 0, none⟩ (.string ((rd_T66 l0_2 x31_2).f0))).setCell ⟨gb106, 1, none⟩ (.string ((rd_T66 l0_2 x31_2).f1))).heap[gb101]? = some (.cells #[.string a0_0, .slice A0_1 l0_1.length c0_1, .slice (some ad105) l0_2.length c0_2] 25 (0, 0))) := ⟨kf BK101⟩
           have n1_ : Aside0 (((w17.setCell ⟨gb106, 0, none⟩ (.string ((rd_T66 l0_2 x31_2).f0))).setCell ⟨gb106, 1, none⟩ (.string ((rd_T66 l0_2 x31_2).f1))).heap[gb106]? = some (.cells #[.string ((rd_T66 l0_2 x31_2).f0), .string ((rd_T66 l0_2 x31_2).f1)] 66 (0, 0))) := ⟨kp _ BK106⟩
           have n2_ : Aside0 (Below w.heap.size w ((w17.setCell ⟨gb106, 0, none⟩ (.string ((rd_T66 l0_2 x31_2).f0))).setCell ⟨gb106, 1, none⟩ (.string ((rd_T66 l0_2 x31_2).f1)))) := ⟨zB⟩
           (try clear BK101)
           (try clear BK106)
           (try clear HB)
           generalize ((w17.setCell ⟨gb106, 0, none⟩ (.string ((rd_T66 l0_2 x31_2).f0))).setCell ⟨gb106, 1, none⟩ (.string ((rd_T66 l0_2 x31_2).f1))) = w20 at n0_ n1_ n2_ ⊢
           have BK101 := n0_
           have BK106 := n1_
           have HB := n2_
           clear n0_ n1_ n2_
           replace BK101 := Aside0.mk (blk_drew BK101.out)
           replace BK106 := Aside0.mk (blk_drew BK106.out)
           replace HB := Aside0.mk (below_drew1 HB.out)
           refine start_ (n := 26) (S := fun w' => w'.cell? ⟨gb106, 0, none⟩ = some (.string ((rd_T66 l0_2 x31_2).f0)) ∧ w'.cell? ⟨gb106, 1, none⟩ = some (.string ((rd_T66 l0_2 x31_2).f1))) (ds := []) #[false, false, false, false, false, false, false, false, false, false, false, false, false, false, false, false, false, false, false, false, false, false, false, false, false, false] (by kernel_rfl) rfl rfl zh (fun hHeld => ?_); refine with_tabW address_Text.tab6 address_Text.bits6 (fun HT_ HW_ => ?_)
           generalize w20.drew = w21 at BK101 BK106 HB hHeld ⊢
           refine pu 0 36 ?_
           refine tk 1 37 ?_
           refine on 2 (some 38) fun K hK => ?_
           refine goes_ Tryz.func45 (by kernel_rfl) rfl #[.string ((rd_T66 l0_2 x31_2).f0)] (by rfl) rfl rfl zl ?_
           with_reducible refine (address_isName.calls ((rd_T66 l0_2 x31_2).f0) true _ A13.out).mono ?_
           rintro e w22 ⟨rfl, hb⟩
           refine ⟨_, rfl, ?_⟩
           replace BK101 := bb BK101 hb
           replace BK106 := bb BK106 hb
           replace HB := sb w hb
           clear hb
           refine hK.out _ _ zh (fun hHeld => ?_)
           clear hK K
           refine nm 38 ?_
           refine pu 3 39 ?_
           refine pu 4 40 ?_
           refine pu 5 41 ?_
           refine tk 6 42 ?_
           refine on 7 (some 43) fun K hK => ?_
           refine goes_ Tryz.func48 (by kernel_rfl) rfl #[.string ((rd_T66 l0_2 x31_2).f1)] (by rfl) rfl rfl zl ?_
           with_reducible refine (address_isWord.calls ((rd_T66 l0_2 x31_2).f1) false _ A15.out).mono ?_
           rintro e w23 ⟨rfl, hb⟩
           refine ⟨_, rfl, ?_⟩
           replace BK101 := bb BK101 hb
           replace BK106 := bb BK106 hb
           replace HB := sb w hb
           clear hb
           refine hK.out _ _ zh (fun hHeld => ?_)
           clear hK K
           refine nm 43 ?_
           refine pu 8 44 ?_
           refine pu 9 45 ?_
           refine pu 10 46 ?_
           refine pn 11 47 ?_
           refine pn 12 48 ?_
           refine pn 13 49 ?_
           refine pn 14 50 ?_
           refine pn 15 51 ?_
           refine pn 16 52 ?_
           refine pn 17 53 ?_
           refine pn 18 54 ?_
           refine pn 19 55 ?_
           refine pn 20 56 ?_
           refine pn 21 57 ?_
           refine pn 22 58 ?_
           refine pn 23 59 ?_
           refine pn 24 60 ?_
           refine pu 25 61 ?_
           refine dn ?_
           try go_wp2
           go_ret2
           exact ⟨zE, zB⟩
         ·replace c14 := Bool.eq_false_iff.mpr c14
          subst c14
          rw [if_neg Bool.false_ne_true] at H
          simp only [Option.some.injEq, Prod.mk.injEq] at H
          obtain ⟨rfl, rfl⟩ := H
          have p105 : 0 ≤ (x31_2 : Int) := of_decide_eq_true za
          have q105 : x31_2 < (l0_2.length : Int) := of_decide_eq_true za
          obtain ⟨ad105, e105, hx105_0, hx105_1⟩ := at_T66 HR0_2.out x31_2 p105 q105
          cases e105
          replace hx105_0 := (HB.out.cell (World.block_lt_of_cell? w _ hx105_0)).trans hx105_0
          replace hx105_1 := (HB.out.cell (World.block_lt_of_cell? w _ hx105_1)).trans hx105_1
          replace p105 := eq_true p105
          replace q105 := eq_true q105
          try go_wp2_with (first | ((with_reducible refine gate_dst (N := 5) rfl ?_); (try (refine gate_guard (by rfl) ?_; dsimp only)); refine bx 5 #[.string (⟨#[]⟩ : ByteArray), .string (⟨#[]⟩ : ByteArray)] 66 fun gb106 hg w15 hbox hb => ?_; have BK106 := Aside0.mk (hbox); have GW106 := gw w hg; have GE106 := gw w hg; replace HB := sb w hb; have NB101_106 := nl hg BK101; have NB106_101 := ng hg BK101; replace BK101 := bb BK101 hb; clear hb hbox hg; have hnb16 := NB106_101.out; have hnc16 := NB101_106.out; obtain ⟨hcz17_0, hcz17_1, hfz17_0, hfz17_1⟩ := cf2 BK106))
          have n0_ : Aside0 (((w15.setCell ⟨gb106, 0, none⟩ (.string ((rd_T66 l0_2 x31_2).f0))).setCell ⟨gb106, 1, none⟩ (.string ((rd_T66 l0_2 x31_2).f1))).heap[gb101]? = some (.cells #[.string a0_0, .slice A0_1 l0_1.length c0_1, .slice (some ad105) l0_2.length c0_2] 25 (0, 0))) := ⟨kf BK101⟩
          have n1_ : Aside0 (((w15.setCell ⟨gb106, 0, none⟩ (.string ((rd_T66 l0_2 x31_2).f0))).setCell ⟨gb106, 1, none⟩ (.string ((rd_T66 l0_2 x31_2).f1))).heap[gb106]? = some (.cells #[.string ((rd_T66 l0_2 x31_2).f0), .string ((rd_T66 l0_2 x31_2).f1)] 66 (0, 0))) := ⟨kp _ BK106⟩
          have n2_ : Aside0 (Below w.heap.size w ((w15.setCell ⟨gb106, 0, none⟩ (.string ((rd_T66 l0_2 x31_2).f0))).setCell ⟨gb106, 1, none⟩ (.string ((rd_T66 l0_2 x31_2).f1)))) := ⟨zB⟩
          (try clear BK101)
          (try clear BK106)
          (try clear HB)
          generalize ((w15.setCell ⟨gb106, 0, none⟩ (.string ((rd_T66 l0_2 x31_2).f0))).setCell ⟨gb106, 1, none⟩ (.string ((rd_T66 l0_2 x31_2).f1))) = w18 at n0_ n1_ n2_ ⊢
          have BK101 := n0_
          have BK106 := n1_
          have HB := n2_
          clear n0_ n1_ n2_
          replace BK101 := Aside0.mk (blk_drew BK101.out)
          replace BK106 := Aside0.mk (blk_drew BK106.out)
          replace HB := Aside0.mk (below_drew1 HB.out)
          refine start_ (n := 26) (S := fun w' => w'.cell? ⟨gb106, 0, none⟩ = some (.string ((rd_T66 l0_2 x31_2).f0)) ∧ w'.cell? ⟨gb106, 1, none⟩ = some (.string ((rd_T66 l0_2 x31_2).f1))) (ds := []) #[false, false, false, false, false, false, false, false, false, false, false, false, false, false, false, false, false, false, false, false, false, false, false, false, false, false] (by kernel_rfl) rfl rfl zh (fun hHeld => ?_); refine with_tabW address_Text.tab6 address_Text.bits6 (fun HT_ HW_ => ?_)
          generalize w18.drew = w19 at BK101 BK106 HB hHeld ⊢
          refine pu 0 36 ?_
          refine tk 1 37 ?_
          refine on 2 (some 38) fun K hK => ?_
          refine goes_ Tryz.func45 (by kernel_rfl) rfl #[.string ((rd_T66 l0_2 x31_2).f0)] (by rfl) rfl rfl zl ?_
          with_reducible refine (address_isName.calls ((rd_T66 l0_2 x31_2).f0) false _ A13.out).mono ?_
          rintro e w20 ⟨rfl, hb⟩
          refine ⟨_, rfl, ?_⟩
          replace BK101 := bb BK101 hb
          replace BK106 := bb BK106 hb
          replace HB := sb w hb
          clear hb
          refine hK.out _ _ zh (fun hHeld => ?_)
          clear hK K
          refine nm 38 ?_
          refine pu 3 39 ?_
          refine pu 4 40 ?_
          refine pn 5 41 ?_
          refine pn 6 42 ?_
          refine pn 7 43 ?_
          refine pn 8 44 ?_
          refine pu 9 45 ?_
          refine pu 10 46 ?_
          refine pn 11 47 ?_
          refine pn 12 48 ?_
          refine pn 13 49 ?_
          refine pn 14 50 ?_
          refine pn 15 51 ?_
          refine pn 16 52 ?_
          refine pn 17 53 ?_
          refine pn 18 54 ?_
          refine pn 19 55 ?_
          refine pn 20 56 ?_
          refine pn 21 57 ?_
          refine pn 22 58 ?_
          refine pn 23 59 ?_
          refine pn 24 60 ?_
          refine pu 25 61 ?_
          refine dn ?_
          try go_wp2
          go_ret2
          exact ⟨zE, zB⟩
        ·rw [if_neg c12] at H
         exact absurd H (by simp)
       ·rw [if_neg c11] at H
        exact absurd H (by simp)
      ·rw [if_neg c10] at H
       have c10b0 : decide (x31_2 < (l0_2.length : Int)) = false := decide_eq_false c10
       clear c10
       obtain ⟨t104, A11, H⟩ := bd H
       by_cases c12 : (t104.size : Int) > 4096
       ·rw [if_pos c12] at H
        have c12b0 : decide (4096 < (t104.size : Int)) = true := decide_eq_true c12
        have c12b1 : decide (4096 < t104.size) = true := decide_eq_true (by omega)
        clear c12
        simp only [Option.some.injEq, Prod.mk.injEq] at H
        obtain ⟨rfl, rfl⟩ := H
        obtain ⟨hcz13_0, hcz13_1, hcz13_2, hfz13_0, hfz13_1, hfz13_2⟩ := cf3 BK101
        exact address_Text.lf
       ·rw [if_neg c12] at H
        have c12b0 : decide (4096 < (t104.size : Int)) = false := decide_eq_false c12
        have c12b1 : decide (4096 < t104.size) = false := decide_eq_false (by omega)
        clear c12
        simp only [Option.some.injEq, Prod.mk.injEq] at H
        obtain ⟨rfl, rfl⟩ := H
        obtain ⟨hcz13_0, hcz13_1, hcz13_2, hfz13_0, hfz13_1, hfz13_2⟩ := cf3 BK101
        exact address_Text.lf
end Go.Proofs.YtmokgpepeddopaaGreatDoor.P
end
