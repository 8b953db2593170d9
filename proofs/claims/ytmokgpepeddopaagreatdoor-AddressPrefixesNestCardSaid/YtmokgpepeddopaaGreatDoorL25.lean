/- Lemmas on the way to the statement: part 25 of 34 (functions as plain Lean functions, and that each call comes to what they say). -/
import Derived.Test.YtmokgpepeddopaaGreatDoorL7
import Derived.Test.YtmokgpepeddopaaGreatDoorL17
section
namespace Go.Proofs.YtmokgpepeddopaaGreatDoor.P
open Go.RowKit Go.Shelf
open Go.Proofs.YtmokgpepeddopaaGreatDoorW.PrintWords
open Go.Proofs.YtmokgpepeddopaaGreatDoor.Addr
set_option linter.unusedSimpArgs false
set_option linter.unusedVariables false
attribute [local go_sem] Oper.semAt_some
def seqW (w : World) (s : ByteArray) (c : UInt8) : World := ((w.alloc (.cells #[.string s] 9)).alloc (.cells #[.string ⟨#[c]⟩] 9)).alloc (.cells #[.int .i64 0] 3)
def seqV (n : Nat) : Value := .func (.func 114) #[] #[.pointer (some ⟨n + 1, 0, none⟩), .pointer (some ⟨n, 0, none⟩), .pointer (some ⟨n + 2, 0, none⟩)]
theorem splitSeq_calls (s : ByteArray) (c : UInt8) (w : World) :
    Calls Tryz.prog 41 #[.string s, .string ⟨#[c]⟩] w fun e w' => e = .returned (seqV w.heap.size) ∧ w' = seqW w s c := by
  go_enter Tryz.func41, Tryz.ntmps41
  go_wp2
  go_ret
  exact ⟨by simp [seqV], rfl⟩
def strLen : Option Value → Nat
  | some (.string s) => s.size
  | _ => 0
set_option maxRecDepth 100000 in
set_option maxHeartbeats 4000000 in
theorem splitSeq_seq (s : ByteArray) (c : UInt8) (n n0 : Nat) (hn : n + 3 ≤ n0) (hs : s.size ≤ 9223372036854775806) (w : World) (h0 : w.cell? ⟨n, 0, none⟩ = some (.string s)) (f0 : w.frozen? ⟨n, 0, none⟩ = false) (h1 : w.cell? ⟨n + 1, 0, none⟩ = some (.string ⟨#[c]⟩)) (h2 : w.cell? ⟨n + 2, 0, none⟩ = some (.int .i64 0)) :
    SeqC Tryz.prog 114 #[.pointer (some ⟨n + 1, 0, none⟩), .pointer (some ⟨n, 0, none⟩), .pointer (some ⟨n + 2, 0, none⟩)] n n n0 ((splitB c (L s)).map B) w := by
  intro l J Jx W hb hJ hX hY hJ0
  have k0 := pw_cell_below hb h0
  have k1 := pw_cell_below hb h1
  have k2 := pw_cell_below hb h2
  have kf : W.frozen? ⟨n, 0, none⟩ = false := (hb.frozen (World.block_lt_of_cell? w _ h0)).trans f0
  have HY := Lib.hid hY
  have HJ := Lib.hid hJ
  have HX := Lib.hid hX
  have HJ0 := Lib.hid hJ0
  clear hY hJ hX hJ0 h0 f0 h1 h2 hb
  refine callsIn_of_wp Tryz.func114 rfl trivial ?_ rfl
  simp only [Tryz.ntmps114, List.size_toArray, List.length_cons, List.length_nil, Nat.reduceAdd, Nat.reduceSub, Array.replicate_succ, Array.replicate_zero, List.push_toArray, List.append_toArray, List.nil_append, List.cons_append]
  gi_wp2
  gi_loopw [] (fun wr => ∃ (r : ByteArray) (pre : List ByteArray), wr.cell? ⟨n, 0, none⟩ = some (.string r) ∧ wr.frozen? ⟨n, 0, none⟩ = false ∧ wr.cell? ⟨n + 1, 0, none⟩ = some (.string ⟨#[c]⟩) ∧ wr.cell? ⟨n + 2, 0, none⟩ = some (.int .i64 0) ∧ Hid ((splitB c (L s)).map B = pre ++ (splitB c (L r)).map B) ∧ r.size ≤ s.size ∧ Hid (J pre wr))
    (fun wr => strLen (wr.cell? ⟨n, 0, none⟩))
  case atStart => exact ⟨s, [], k0, kf, k1, k2, Lib.hid rfl, Nat.le_refl _, HJ0⟩
  case round =>
    clear k0 k1 k2 kf HJ0
    obtain ⟨r, pre, k0, kf, k1, k2, HP, hrs, HJ1⟩ := hrel
    rcases indexByte_cut c (L r) with ⟨e1, e2, e3⟩ | ⟨o, e1, e2, e3, e4⟩
    · have hP := HP.out
      rw [splitB_cut c (L r), e3] at hP
      simp only [Bool.false_eq_true, if_false, List.map_cons, List.map_nil, B_L] at hP
      obtain ⟨fn, tmps, assign, body, hy, hR⟩ := HY.out pre r wr HJ1.out (by rw [hP]; exact List.prefix_refl _)
      have E1 := Lib.hid e1
      have HP2 := Lib.hid hP
      clear e1 e2 e3 hP
      gi_wp2_with (refine ⟨trivial, rfl, ?_⟩; gi_at_call 116; refine (callsIn_wide.2 (Tryz.strings_Index_one r c _)).mono ?_; rintro e w' ⟨rfl, rfl⟩; rw [show Lib.indexByte r.data.toList c = _ from E1.out])
      refine ⟨rfl, hR.mono ?_⟩
      rintro e W2 (⟨rfl, hj, hb⟩ | ⟨rfl, hx⟩)
      · gi_wp2
        go_end0
        exact ⟨⟨_, rfl⟩, .inl (HP2.out ▸ hj)⟩
      · gi_wp2
        go_end0
        exact ⟨⟨_, rfl⟩, .inr hx⟩
    · have hP := HP.out
      rw [splitB_cut c (L r), e4] at hP
      simp only [if_true, List.map_cons] at hP
      have hP' : (splitB c (L s)).map B = (pre ++ [B ((L r).take o)]) ++ (splitB c (L (B ((L r).drop (o + 1))))).map B := by rw [hP, L_B]; simp
      rw [← take_extract, ← drop_extract] at hP'
      obtain ⟨fn, tmps, assign, body, hy, hR⟩ := HY.out pre (r.extract 0 o) wr HJ1.out (by rw [hP']; exact List.prefix_append _ _)
      have c0 : o < r.size := by rw [← L_length]; exact e2
      have c1 : (0 : Int) ≤ ↑o := by omega
      have c2 : (↑o : Int) ≤ ↑r.size := by omega
      have c3 : (0 : Int) ≤ ↑o + 1 := by omega
      have c4 : (↑o + 1 : Int) ≤ ↑r.size := by omega
      have E1 := Lib.hid e1
      have HP2 := Lib.hid hP'
      clear e1 e2 e3 e4 hP hP'
      gi_wp2_with (refine ⟨trivial, rfl, ?_⟩; gi_at_call 116; refine (callsIn_wide.2 (Tryz.strings_Index_one r c _)).mono ?_; rintro e w' ⟨rfl, rfl⟩; rw [show Lib.indexByte r.data.toList c = _ from E1.out])
      refine ⟨rfl, hR.mono ?_⟩
      rintro e W2 (⟨rfl, hj, hb⟩ | ⟨rfl, hx⟩)
      · have j0 := (hb.cell (p := ⟨n, 0, none⟩) (Nat.le_refl _) (by show n < n0; omega)).trans k0
        have j1 := (hb.cell (p := ⟨n + 1, 0, none⟩) (by show n ≤ n + 1; omega) (by show n + 1 < n0; omega)).trans k1
        have j2 := (hb.cell (p := ⟨n + 2, 0, none⟩) (by show n ≤ n + 2; omega) (by show n + 2 < n0; omega)).trans k2
        have jf := (hb.frozen (p := ⟨n, 0, none⟩) (Nat.le_refl _) (by show n < n0; omega)).trans kf
        have HJ2 := Lib.hid (HJ.out _ _ (.string (r.extract (o + 1) r.size)) hj)
        clear hy hR hj hb HJ1
        gi_wp2
        go_roundw
        case rel => exact ⟨_, _, World.cell?_setCell_same' _ _ _ (by rw [j0]; rfl), by rw [World.frozen?_setCell]; exact jf, by rw [World.cell?_setCell_other _ _ _ _ (by intro e; injection e with e; omega)]; exact j1, by rw [World.cell?_setCell_other _ _ _ _ (by intro e; injection e with e; omega)]; exact j2, HP2, by simp only [ByteArray.size_extract]; omega, HJ2⟩
        case measure =>
          rw [World.cell?_setCell_same' _ _ _ (by rw [j0]; rfl), k0]
          simp only [strLen, ByteArray.size_extract]
          omega
      · gi_wp2
        refine bodyPost_ret (results_none rfl _ _ _) rfl ?_
        exact ⟨⟨_, rfl⟩, .inr hx⟩
end Go.Proofs.YtmokgpepeddopaaGreatDoor.P
end
