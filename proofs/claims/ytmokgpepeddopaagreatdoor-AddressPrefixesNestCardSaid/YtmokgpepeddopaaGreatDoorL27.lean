/- Lemmas on the way to the statement: part 27 of 34 (functions as plain Lean functions, and that each call comes to what they say). -/
import Derived.Test.YtmokgpepeddopaaGreatDoorL26
import Derived.Test.YtmokgpepeddopaaGreatDoorL6
import Derived.Sort.OwnSorted
section
namespace Go.Proofs.YtmokgpepeddopaaGreatDoor.P
open Go.RowKit Go.Shelf Go.Proofs.YtmokgpepeddopaaGreatDoorW.PrintWords Go.Proofs.YtmokgpepeddopaaGreatDoorW.PrintLast Go.Proofs.YtmokgpepeddopaaGreatDoorW.PrintMore
open Go.Proofs.YtmokgpepeddopaaGreatDoor.Addr
set_option linter.unusedSimpArgs false
set_option linter.unusedVariables false
attribute [local go_sem] Oper.semAt_some
theorem values_calls (A : Option Addr) (c : Nat) (l : List ByteArray) (w : World) :
    Calls Tryz.prog 62 #[.slice A l.length c] w fun e w' => e = .returned (.func (.func 100) #[] #[.pointer (some ⟨w.heap.size, 0, none⟩)]) ∧ w' = w.alloc (.cells #[.slice A l.length c] 22) := by
  go_enter Tryz.func62, Tryz.ntmps62
  go_wp2
  go_ret
  exact ⟨rfl, rfl⟩
theorem SeqC.later {P : Program} {gf : Nat} {lb : Array Value} {C m0 n0 : Nat} {xs : List ByteArray} {w w' : World} (h : SeqC P gf lb C m0 n0 xs w) (hb : Below w.heap.size w w') : SeqC P gf lb C m0 n0 xs w' :=
  fun l J Jx W hW => h l J Jx W (hb.trans (hW.mono hb.size))
set_option maxRecDepth 100000 in
set_option maxHeartbeats 4000000 in
theorem values_seq (A : Option Addr) (c : Nat) (xs : List ByteArray) (Bs C : Nat) (w : World) (hm : xs.length ≤ 9223372036854775806) (hB : w.cell? ⟨Bs, 0, none⟩ = some (.slice A xs.length c)) (hr : Kd.C Kd.string w A xs.length xs) :
    SeqC Tryz.prog 100 #[.pointer (some ⟨Bs, 0, none⟩)] C 0 w.heap.size xs w := by
  intro l J Jx W hb hJ hX hY hJ0
  have k0 := pw_cell_below hb hB
  have HY := Lib.hid hY
  have HJ0 := Lib.hid hJ0
  have HB : Hid (Kept 0 w.heap.size w W) := Lib.hid (Kept.of_below hb)
  have HR := Lib.hid hr
  clear hY hJ hX hJ0 hb hr
  refine callsIn_of_wp Tryz.func100 rfl trivial ?_ rfl
  simp only [Tryz.ntmps100, List.size_toArray, List.length_cons, List.length_nil, Nat.reduceAdd, Nat.reduceSub, Array.replicate_succ, Array.replicate_zero, List.push_toArray, List.append_toArray, List.nil_append, List.cons_append]
  gi_wp2
  clear k0 hB
  gi_loopw [7] (fun v7 wr => ∃ i : Nat, v7 = .int .i64 (i : Int) ∧ i ≤ xs.length ∧ Hid (Kept 0 w.heap.size w wr) ∧ Hid (J (xs.take i) wr)) (fun v7 _ => xs.length - (intOf v7).toNat)
  case atStart => exact ⟨0, rfl, Nat.zero_le _, HB, HJ0⟩
  case round =>
    clear HB HJ0
    obtain ⟨i, rfl, hi, HB, HJ⟩ := hrel
    by_cases hlt : i < xs.length
    · have hi3 : ((i : Int) < (xs.length : Int)) := by omega
      obtain ⟨ad, rfl, hx⟩ := Kd.at_string HR.out (i : Int) (by omega) (by omega)
      replace hx := (HB.out.cell (Nat.zero_le _) (World.block_lt_of_cell? w _ hx)).trans hx
      simp only [Int.toNat_natCast] at hx
      have htk : xs.take (i + 1) = xs.take i ++ [rdOf ByteArray.empty xs (i : Int)] := by
        rw [List.take_succ_eq_append_getElem hlt]
        congr 2
        simp [rdOf, hlt]
      generalize rdOf ByteArray.empty xs (i : Int) = x at hx htk
      obtain ⟨fn, tmps, assign, body, hy, hR⟩ := HY.out (xs.take i) x wr HJ.out (by rw [← htk]; exact List.take_prefix _ _)
      have HT := Lib.hid htk
      clear htk
      gi_wp2
      refine ⟨rfl, hR.mono ?_⟩
      rintro e W2 (⟨rfl, hj, hb⟩ | ⟨rfl, hx2⟩)
      · have HB2 := Lib.hid (HB.out.trans hb)
        have HJ2 := Lib.hid (HT.out ▸ hj)
        clear hy hR hb hj hx
        gi_wp2
        go_roundw
        case rel => exact ⟨i + 1, by simp, by omega, HB2, HJ2⟩
        case measure => simp [intOf]; omega
      · gi_wp2
        refine bodyPost_ret (results_none rfl _ _ _) rfl ?_
        exact ⟨⟨_, rfl⟩, .inr hx2⟩
    · have hi2 : i = xs.length := by omega
      have hi3 : ¬ ((i : Int) < (xs.length : Int)) := by omega
      have HJ2 : Hid (J xs wr) := Lib.hid (by have := HJ.out; rwa [hi2, List.take_length] at this)
      gi_wp2
      go_end0
      exact ⟨⟨_, rfl⟩, .inl HJ2.out⟩
def sortedF (xs : List ByteArray) : List ByteArray := ((xs.map L).mergeSort fun x y => decide (x ≤ y)).map B
theorem encStr_B (l : List (List UInt8)) : l.map Go.Proofs.encStr = encs Value.string (l.map B) := by simp [encs, Go.Proofs.encStr, B]
set_option maxHeartbeats 2000000 in
theorem sorted_calls (gf : Nat) (lb : Array Value) (eg : ∀ args W, (callFunc gf args).run Tryz.prog W = .ok (.enter gf args) W) (C m0 n0 B0 : Nat) (xs : List ByteArray) (w : World) (hm : xs.length < 1099511627776)
    (hC : C < w.heap.size) (hn : n0 ≤ w.heap.size) (hB : B0 ≤ C) (hseq : SeqC Tryz.prog gf lb C m0 n0 xs w) :
    Calls Tryz.prog 61 #[.func (.func gf) #[] lb] w fun e w' => ∃ v, e = .returned v ∧ Kd.R Kd.string 9 w' w.heap.size (fun _ => True) v (sortedF xs) ∧ Below B0 w w' := by
  have hq := collect_calls gf lb eg C m0 n0 B0 xs w hm hC hn hB hseq
  clear hseq eg
  go_enter Tryz.func61, Tryz.ntmps61
  go_wp2_with fail
  (with_reducible refine hq.mono ?_)
  clear hq
  rintro e w2 ⟨v, rfl, ho, hb⟩
  have hown := Kd.own_of_R ho
  have hxs : encs Value.string xs = (xs.map L).map Go.Proofs.encStr := by
    rw [encStr_B, List.map_map]
    congr 1
    conv => lhs; rw [← List.map_id xs]
    exact (List.map_congr_left (fun x _ => B_L x)).symm
  rw [hxs] at hown
  have hlen : (xs.map L).length = xs.length := by simp
  rw [← hlen] at hown
  rcases hown.2 with ⟨rfl, hz⟩ | ⟨gb, cap, cur, rfl, hbase, hgb, q1, q2, q3, q4⟩
  · have hnil : xs = [] := List.eq_nil_of_length_eq_zero (by simpa using hz)
    subst hnil
    have cN := @AnyM.slices_Sort_string_none _ _ Tryz.sortG none 0 w2
    change Calls _ 99 _ _ _ at cN
    go_wp2_with fail
    (with_reducible refine cN.mono ?_)
    rintro e w3 ⟨rfl, rfl⟩
    go_wp2_with fail
    go_ret
    exact ⟨_, rfl, by simpa [sortedF] using ho, hb⟩
  · have hH : Go.Sort.Holds Go.Proofs.encStr w2 gb 0 (xs.map L).toArray := Go.holds_of_block hgb (by simpa using q4)
    have hgl : gb < w2.heap.size := (Array.getElem?_eq_some_iff.1 hgb).1
    have cS := @AnyM.slices_Sort_string _ _ Tryz.sortG gb 0 cap (xs.map L) w2 hH hgl (by rw [hlen]; omega)
    change Calls _ 99 _ _ _ at cS
    rw [hlen] at cS
    go_wp2_with fail
    (with_reducible refine cS.mono ?_)
    rintro e w3 ⟨rfl, nn, os, rfl⟩
    have hrow := Go.ownsRow_sorted (n := nn) (os := os) (ts := (xs.map L).mergeSort fun x y => decide (x ≤ y)) (by simp) hbase hgb q1 q2 q3
    have hb2 := hb.grown (Go.grownBy_sorted (n := nn) (os := os) (g := gb) ((xs.map L).mergeSort fun x y => decide (x ≤ y)).toArray) (by have := hb.size; omega) (fun j hj => by cases hj; omega)
    go_wp2_with fail
    go_ret
    refine ⟨_, rfl, ?_, hb2⟩
    rw [encStr_B] at hrow
    have hl : (sortedF xs).length = (xs.map L).length := by simp [sortedF]
    have hl2 : (sortedF xs).length = xs.length := by simp [sortedF]
    rw [← hl] at hrow
    rw [← hl2]
    exact Kd.R_of_own hrow (fun _ _ => trivial)
end Go.Proofs.YtmokgpepeddopaaGreatDoor.P
end
