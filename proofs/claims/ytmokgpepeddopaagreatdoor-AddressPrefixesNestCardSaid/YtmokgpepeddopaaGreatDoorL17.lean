/- Lemmas on the way to the statement: part 17 of 34 (functions as plain Lean functions, and that each call comes to what they say). -/
import Derived.Test.YtmokgpepeddopaaGreatDoorL12
import Derived.Test.YtmokgpepeddopaaGreatDoorL1
import Derived.Test.YtmokgpepeddopaaGreatDoorL8
import Derived.Shelf.GgClosure.StringsIndexFuncTop
import Derived.Lib.Hide
import Derived.Shelf.Strings.Split
section
namespace Go.Proofs.YtmokgpepeddopaaGreatDoor.P
open Go.RowKit Go.Proofs.YtmokgpepeddopaaGreatDoorW.PrintWords Go.Proofs.YtmokgpepeddopaaGreatDoorW.PrintLast Go.Proofs.YtmokgpepeddopaaGreatDoorW.PrintMore
open Go.Proofs.YtmokgpepeddopaaGreatDoor.Addr
set_option linter.unusedSimpArgs false
set_option linter.unusedVariables false
def L (s : ByteArray) : Str := s.data.toList
def B (l : Str) : ByteArray := ⟨l.toArray⟩
theorem L_B (l : Str) : L (B l) = l := by simp [L, B]
theorem B_L (s : ByteArray) : B (L s) = s := by simp [L, B]
def strings_Cut.f (a0 a1 : ByteArray) : Option (ByteArray × ByteArray × Bool) :=
  match L a1 with
  | [c] => if a0.size ≤ 9223372036854775806 then some (B (cutB c (L a0)).1, B (cutB c (L a0)).2.1, (cutB c (L a0)).2.2) else none
  | _ => none
def strings_Contains.f (a0 a1 : ByteArray) : Option Bool :=
  match L a1 with
  | [c] => some ((L a0).contains c)
  | _ => none
theorem indexByte_cut (c : UInt8) (s : Str) : (Lib.indexByte s c = -1 ∧ c ∉ s ∧ cutB c s = (s, [], false)) ∨ ∃ o : Nat, Lib.indexByte s c = o ∧ o < s.length ∧ c ∈ s ∧ cutB c s = (s.take o, s.drop (o + 1), true) := by
  induction s with
  | nil => exact .inl ⟨rfl, by simp, rfl⟩
  | cons b t ih =>
    by_cases h : b = c
    · subst h
      exact .inr ⟨0, by simp [Lib.indexByte], by simp, by simp, by simp [cutB]⟩
    · rcases ih with ⟨h1, h2, h3⟩ | ⟨o, h1, h2, h3, h4⟩
      · refine .inl ⟨by simp [Lib.indexByte, h, h1], by simp [h2]; exact fun e => h e.symm, by simp [cutB, h, h3]⟩
      · refine .inr ⟨o + 1, ?_, by simp; omega, by simp [h3], by simp [cutB, h, h4]⟩
        have : ¬ ((o : Int) = -1) := by omega
        simp [Lib.indexByte, h, h1, this]
theorem one_byte {a : ByteArray} {c : UInt8} (h : L a = [c]) : a = ⟨#[c]⟩ := by
  have := B_L a
  rw [h] at this
  exact this.symm
theorem strings_Contains.calls (a0 a1 : ByteArray) (r : Bool) (w : World) (h : strings_Contains.f a0 a1 = some r) :
    Calls Tryz.prog 88 #[.string a0, .string a1] w fun e w' => e = .returned (.bool r) ∧ Drawn0 w w' := by
  unfold strings_Contains.f at h
  split at h
  · rename_i c hc
    injection h with h
    subst h
    rw [one_byte hc]
    refine (Tryz.strings_Contains_one a0 c w).mono fun e w' ⟨he, hw⟩ => ⟨?_, hw ▸ Drawn0.refl w⟩
    rw [he]
    have : decide (0 ≤ Lib.indexByte a0.data.toList c) = (L a0).contains c := by
      rcases indexByte_cut c (L a0) with ⟨h1, h2, _⟩ | ⟨o, h1, _, h2, _⟩
      · show decide (0 ≤ Lib.indexByte (L a0) c) = _
        rw [h1]; simp [h2]
      · show decide (0 ≤ Lib.indexByte (L a0) c) = _
        rw [h1]; simp [h2]
    rw [this]
  · cases h
theorem toL_extract (s : ByteArray) (a b : Nat) : L (s.extract a b) = ((L s).take b).drop a := by
  simp [L, List.drop_take]
theorem take_extract (s : ByteArray) (b : Nat) : s.extract 0 b = B ((L s).take b) := by
  rw [← B_L (s.extract 0 b), toL_extract]; simp
theorem drop_extract (s : ByteArray) (a : Nat) : s.extract a s.size = B ((L s).drop a) := by
  rw [← B_L (s.extract a s.size), toL_extract]
  rw [List.take_of_length_le (by simp [L])]
theorem L_length (s : ByteArray) : (L s).length = s.size := by simp [L]
set_option maxHeartbeats 2000000 in
set_option maxRecDepth 100000 in
theorem lite_Cut (s : ByteArray) (c : UInt8) (w : World) (hs : s.size ≤ 9223372036854775806) :
    Calls Tryz.prog 84 #[.string s, .string ⟨#[c]⟩] w fun e w' => e = .returned (.tuple #[.string (B (cutB c (L s)).1), .string (B (cutB c (L s)).2.1), .bool (cutB c (L s)).2.2]) ∧ ∃ n, w' = w.drewN n := by
  rcases indexByte_cut c (L s) with ⟨h1, h2, h3⟩ | ⟨o, h1, h2, h3, h4⟩
  · rw [h3]
    have e1 := Lib.hid h1
    have e2 : B (L s) = s := B_L s
    have e3 := Lib.hid e2
    clear h1 h2 h3 e2
    go_enter Tryz.func84, Tryz.ntmps84
    go_wp2_with (go_at_call 112; refine (Tryz.stringslite_Index_one s c _).mono ?_; rintro e w' ⟨rfl, rfl⟩; rw [show Lib.indexByte s.data.toList c = _ from e1.out])
    go_ret3
    exact ⟨by rw [e3.out]; rfl, 0, rfl⟩
  · rw [h4]
    have c0 : o < s.size := by rw [← L_length]; exact h2
    have c1 : (0 : Int) ≤ ↑o := by omega
    have c2 : (↑o : Int) ≤ ↑s.size := by omega
    have c3 : (0 : Int) ≤ ↑o + 1 := by omega
    have c4 : (↑o + 1 : Int) ≤ ↑s.size := by omega
    have e1 := Lib.hid h1
    have e2 : B ((L s).take o) = s.extract 0 o := (take_extract s o).symm
    have e3 : B ((L s).drop (o + 1)) = s.extract (o + 1) s.size := (drop_extract s (o + 1)).symm
    have e4 := Lib.hid e2
    have e5 := Lib.hid e3
    clear h1 h2 h3 h4 e2 e3
    go_enter Tryz.func84, Tryz.ntmps84
    go_wp2_with (go_at_call 112; refine (Tryz.stringslite_Index_one s c _).mono ?_; rintro e w' ⟨rfl, rfl⟩; rw [show Lib.indexByte s.data.toList c = _ from e1.out])
    go_quiet (fail)
    go_wp2
    go_ret3
    exact ⟨by rw [e4.out, e5.out]; rfl, _, rfl⟩
set_option maxHeartbeats 1000000 in
theorem strings_Cut.calls (a0 a1 : ByteArray) (r1 r2 : ByteArray) (r3 : Bool) (w : World) (h : strings_Cut.f a0 a1 = some (r1, r2, r3)) :
    Calls Tryz.prog 38 #[.string a0, .string a1] w fun e w' => e = .returned (.tuple #[.string r1, .string r2, .bool r3]) ∧ Drawn0 w w' := by
  unfold strings_Cut.f at h
  split at h
  · rename_i c hc
    split at h
    · rename_i hs
      injection h with h
      injection h with h1 h
      injection h with h2 h3
      subst h1 h2 h3
      rw [one_byte hc]
      clear hc
      go_enter Tryz.func38, Tryz.ntmps38
      go_wp2_with (go_at_call 84; refine (lite_Cut a0 c _ hs).mono ?_; rintro e w' ⟨rfl, n, rfl⟩)
      go_ret3
      exact ⟨rfl, (Drawn0.refl w).step n⟩
    · cases h
  · cases h
def letR (c : Int) : Bool := (decide (97 ≤ c) && decide (c ≤ 122)) || (decide (48 ≤ c) && decide (c ≤ 57)) || c == 45 || c == 95 || c == 46
set_option maxHeartbeats 1000000 in
theorem isLetter_any (c : Int) (w : World) :
    Calls Tryz.prog 92 #[.int .i32 c] w fun e w' => e = .returned (.bool (letR c)) ∧ w = w' := by
  go_enter Tryz.func92, Tryz.ntmps92
  go_wp2
  all_goals
    go_ret
    refine ⟨congrArg (fun b => Ending.returned (.bool b)) ?_, rfl⟩
    rw [Bool.eq_iff_iff]
    simp [letR]
    try omega
theorem closure_isWord (W : World) (x : Nat) : FnGives Tryz.prog 91 #[] #[encR x] (.bool (!letR (x : Int))) W := by
  unfold FnGives encR
  go_enter Tryz.func91, Tryz.ntmps91
  go_wp2_with (go_at_call 92; refine (isLetter_any _ _).mono ?_; rintro e w' ⟨rfl, rfl⟩)
  go_ret
  exact ⟨rfl, 0, rfl⟩
theorem pred_isWord (w : World) : PredAt Tryz.prog 91 #[] encR (fun x => !letR (x : Int)) w := fun W x _ => closure_isWord W x
theorem letR_byte (c : UInt8) : letR (c.toNat : Int) = isL c := by
  rw [Bool.eq_iff_iff]
  simp only [letR, isL, Bool.or_eq_true, Bool.and_eq_true, decide_eq_true_eq, beq_iff_eq, UInt8.le_iff_toNat_le, ← UInt8.toNat_inj]
  simp
  omega
theorem letR_big (n : Nat) (h : 128 ≤ n) : letR (n : Int) = false := by
  rw [Bool.eq_false_iff]
  simp only [ne_eq, letR, Bool.or_eq_true, Bool.and_eq_true, decide_eq_true_eq, beq_iff_eq]
  omega
theorem decode_first (s : ByteArray) (pos : Nat) (h : pos < s.size) :
    (((s[pos]'h).toNat < 128 → Utf8.decode s pos = ((s[pos]'h).toNat, 1)) ∧ (128 ≤ (s[pos]'h).toNat → 128 ≤ (Utf8.decode s pos).1)) := by
  have hg : (s.get! (pos + 0)).toNat = (s[pos]'h).toNat := by
    obtain ⟨d⟩ := s
    have h' : pos < d.size := h
    show (d[pos]!).toNat = (d[pos]).toNat
    rw [getElem!_pos d pos h']
  constructor
  · intro hl
    unfold Utf8.decode
    simp only [hg]
    rw [if_pos hl]
  · intro hl
    unfold Utf8.decode
    simp only [hg]
    rw [if_neg (by omega)]
    have hr : 128 ≤ Utf8.runeError := by decide
    repeat' split
    all_goals (first | exact hr | (dsimp only; omega) | (rename_i hh; rw [Bool.and_eq_true] at hh; have h1 := hh.1; simp only [ge_iff_le, decide_eq_true_eq] at h1; dsimp only; omega))
theorem drop_byte (s : ByteArray) (pos : Nat) (h : pos < s.size) : (L s).drop pos = (s[pos]'h) :: (L s).drop (pos + 1) := by
  obtain ⟨d⟩ := s
  have h' : pos < d.toList.length := by rw [Array.length_toList]; exact h
  exact List.drop_eq_getElem_cons h'
theorem idx_letters (s : ByteArray) : ∀ (f pos : Nat), s.size ≤ pos + f → decide (0 ≤ Lib.idxFuncFrom (fun x : Nat => !letR (x : Int)) true s f pos) = !((L s).drop pos).all isL
  | 0, pos, h => by
    rw [List.drop_eq_nil_of_le (by rw [L_length]; omega)]
    rfl
  | f + 1, pos, h => by
    unfold Lib.idxFuncFrom
    by_cases hp : pos < s.size
    · rw [if_pos hp, drop_byte s pos hp, List.all_cons]
      obtain ⟨d1, d2⟩ := decode_first s pos hp
      by_cases hb : (s[pos]'hp).toNat < 128
      · rw [d1 hb]
        dsimp only
        rw [letR_byte]
        cases hl : isL (s[pos]'hp) with
        | true =>
          simp only [Bool.not_true, Bool.false_eq_true, if_false, Bool.true_and]
          exact idx_letters s f (pos + 1) (by omega)
        | false => simp
      · have h2 := d2 (by omega)
        rw [letR_big _ h2]
        have h3 : isL (s[pos]'hp) = false := by
          rw [← letR_byte]; exact letR_big _ (by omega)
        simp [h3]
    · rw [if_neg hp, List.drop_eq_nil_of_le (by rw [L_length]; omega)]
      rfl
theorem idx_all (s : ByteArray) : decide (0 ≤ Lib.idxFunc (fun x : Nat => !letR (x : Int)) true s) = !(L s).all isL := by
  have := idx_letters s s.size 0 (by omega)
  rw [List.drop_zero] at this
  exact this
def address_isWord.f (a0 : ByteArray) : Option Bool := some (word (L a0))
set_option maxHeartbeats 2000000 in
theorem address_isWord.calls (a0 : ByteArray) (r : Bool) (w : World) (h : address_isWord.f a0 = some r) :
    Calls Tryz.prog 48 #[.string a0] w fun e w' => e = .returned (.bool r) ∧ Below w.heap.size w w' := by
  have hr : word (L a0) = r := by simpa [address_isWord.f] using h
  clear h
  have eg : ∀ args w, (callFunc 91 args).run Tryz.prog w = .ok (.enter 91 args) w := enters_of Tryz.func91 (by kernel_rfl) rfl
  have HC := Lib.hid (fun W => Tryz.strings_ContainsFunc 91 #[] eg (fun x : Nat => !letR (x : Int)) a0 W (pred_isWord W))
  have HR := Lib.hid hr
  clear eg hr
  go_enter Tryz.func48, Tryz.ntmps48
  go_wp2_with (go_at_call 90; refine (HC.out _).mono ?_; rintro e w' ⟨rfl, hb⟩)
  all_goals
    go_ret
    rw [← HR.out]
    clear HC HR
    have hs : a0.size = (L a0).length := (L_length a0).symm
    generalize hl : a0.toList = l at *
    obtain rfl : l = L a0 := hl.symm.trans (Lib.toList_data a0)
    clear hl hs
  · refine ⟨congrArg (fun b => Ending.returned (.bool b)) ?_, Below.refl _ _⟩
    simp [word, L_length, *]
  · refine ⟨congrArg (fun b => Ending.returned (.bool b)) ?_, Below.refl _ _⟩
    simp [word, L_length, *]
  · refine ⟨congrArg (fun b => Ending.returned (.bool b)) ?_, Below.refl _ _⟩
    simp [word, L_length, *]
  · refine ⟨congrArg (fun b => Ending.returned (.bool b)) ?_, ‹_›⟩
    rw [idx_all]
    have h5 : a0.size ≤ 64 := by omega
    have h6 : (L a0).isEmpty = false := by simp [*]
    have h7 : ((L a0) == [46]) = false := by simp [*]
    have h8 : ((L a0) == [46, 46]) = false := by simp [*]
    rw [h6, h7, h8]
    simp [word, L_length, *]
  · refine ⟨congrArg (fun b => Ending.returned (.bool b)) ?_, Below.refl _ _⟩
    simp [word, L_length, *]
    omega
def lowI (c : Int) : Int := if 65 ≤ c ∧ c ≤ 90 then c + 32 else c
def BRow (w : World) (g n : Nat) (f : Nat → Int) : Prop := ∀ j, j < n → w.cell? ⟨g, j, none⟩ = some (.int .u8 (f j)) ∧ w.frozen? ⟨g, j, none⟩ = false
def upto (s : ByteArray) (k : Nat) (j : Nat) : Int := if j < k then lowI (bt s j) else bt s j
theorem brow_start (w : World) (e : TypeId) (s : ByteArray) : BRow (Lib.bytesWorld w e s) w.heap.size s.size (upto s 0) := by
  intro j hj
  refine ⟨?_, ?_⟩
  · rw [Lib.bytesWorld_cell w e s j hj]
    have h' : j < s.data.toList.length := by simpa using hj
    simp [upto, bt, hj, List.getD_eq_getElem?_getD, List.getElem?_eq_getElem h']
    rfl
  · have h := Lib.bytesWorld_at_new w e s
    have hz : s.size ≤ (Lib.bytesCells w e s).size := by
      simp [Lib.bytesCells]
    simp only [World.frozen?, h]
    have : ¬ ((Lib.bytesCells w e s).size ≤ j) := by omega
    simp [this]
theorem brow_set {w : World} {g n k : Nat} {s : ByteArray} (h : BRow w g n (upto s k)) (hk : k < n) (hlow : 65 ≤ bt s k ∧ bt s k ≤ 90) : BRow (w.setCell ⟨g, k, none⟩ (.int .u8 (bt s k + 32))) g n (upto s (k + 1)) := by
  intro j hj
  obtain ⟨h1, h2⟩ := h j hj
  refine ⟨?_, by rw [World.frozen?_setCell]; exact h2⟩
  by_cases e : j = k
  · subst e
    rw [World.cell?_setCell_same' _ _ _ (by rw [h1]; rfl)]
    simp [upto, lowI, hlow]
  · rw [World.cell?_setCell_other _ _ _ _ (by intro h; injection h with _ h; exact e h.symm), h1]
    simp only [upto]
    by_cases h3 : j < k
    · rw [if_pos h3, if_pos (by omega)]
    · rw [if_neg h3, if_neg (by omega)]
theorem brow_keep {w : World} {g n k : Nat} {s : ByteArray} (h : BRow w g n (upto s k)) (hlow : ¬ (65 ≤ bt s k ∧ bt s k ≤ 90)) : BRow w g n (upto s (k + 1)) := by
  intro j hj
  obtain ⟨h1, h2⟩ := h j hj
  refine ⟨?_, h2⟩
  rw [h1]
  by_cases e : j = k
  · subst e
    simp [upto, lowI, hlow]
  · simp only [upto]
    by_cases h3 : j < k
    · rw [if_pos h3, if_pos (by omega)]
    · rw [if_neg h3, if_neg (by omega)]
theorem brow_end {P : Program} {w : World} {g : Nat} {s : ByteArray} (h : BRow w g s.size (upto s s.size)) (src e dst cap : Nat) (hs : P.underlying src = some (.slice e)) (he : P.underlying e = some (.int .u8)) (hd : P.underlying dst = some .string) :
    (convert src dst (.slice (some ⟨g, 0, none⟩) s.size cap)).run P w = .ok (.string (B (low (L s)))) w := by
  have hx := run_convert_bytes_arg (P := P) w src e hs he g 0 s.size cap ((bytesOf s).map lowI) (by rw [List.length_map, bytesOf_length]) (fun i hi => by
    rw [Nat.zero_add, (h i hi).1]
    have h' : i < ((bytesOf s).map lowI).length := by rw [List.length_map, bytesOf_length]; exact hi
    have h2 : i < (bytesOf s).length := by rw [bytesOf_length]; exact hi
    have h3 : (bytesOf s)[i] = bt s i := by
      have := rd_bytesOf s i
      simp [rd, List.getD_eq_getElem?_getD, List.getElem?_eq_getElem h2] at this
      exact this
    simp [upto, hi, List.getD_eq_getElem?_getD, List.getElem?_eq_getElem h2, h3]) dst hd
  rw [hx]
  have : strOfNums ((bytesOf s).map lowI) = B (low (L s)) := by
    unfold strOfNums B low bytesOf L
    rw [List.map_map, List.map_map]
    congr 2
    refine List.map_congr_left fun c _ => ?_
    simp only [Function.comp, lowI, lowC, UInt8.le_iff_toNat_le]
    have hc : c.toNat < 256 := c.toNat_lt
    by_cases h5 : 65 ≤ c.toNat ∧ c.toNat ≤ 90
    · rw [if_pos (by omega), if_pos (by simpa using h5), ← UInt8.toNat_inj]
      simp
      omega
    · rw [if_neg (by omega), if_neg (by simpa using h5)]
      simp
  rw [this]
def address_lower.f (a0 : ByteArray) : Option ByteArray := if a0.size ≤ 140737488351232 then some (B (low (L a0))) else none
def weirgateref06_small.f (a0 : ByteArray) : Option ByteArray := if a0.size ≤ 140737488351232 then some (B (low (L a0))) else none
set_option maxHeartbeats 2000000 in
theorem address_lower.calls (a0 : ByteArray) (r : ByteArray) (w : World) (h : address_lower.f a0 = some r) :
    Calls Tryz.prog 39 #[.string a0] w fun e w' => e = .returned (.string r) ∧ Below w.heap.size w w' := by
  unfold address_lower.f at h
  split at h
  · rename_i hs
    injection h with h
    subst h
    have kb := fun W => print_bytes (P := Tryz.prog) 9 115 5 Tryz.underlying9 Tryz.underlying115 Tryz.underlying5 a0 W
    have hb0 := bytes_below (Below.refl w.heap.size w) (Nat.le_refl _) 5 a0
    have hz0 := Lib.bytesWorld_size w 5 a0
    have hrow0 := brow_start w 5 a0
    have Hb0 := Lib.hid hb0
    have Hz0 := Lib.hid hz0
    have Hrow0 := Lib.hid hrow0
    clear hb0 hz0 hrow0
    go_enter Tryz.func39, Tryz.ntmps39
    go_wp2
    go_loopw [10] (fun i wr => ∃ k : Nat, k ≤ a0.size ∧ i = .int .i64 k ∧ BRow wr w.heap.size a0.size (upto a0 k) ∧ Below w.heap.size w wr ∧ w.heap.size < wr.heap.size) (fun i wr => a0.size - (intOf i).toNat)
    case atStart => exact ⟨0, Nat.zero_le _, rfl, Hrow0.out, Hb0.out, by rw [Hz0.out]; omega⟩
    case round =>
      obtain ⟨k, hk, rfl, hrow, hb, hz⟩ := hrel
      clear kb Hb0 Hz0 Hrow0
      by_cases hlt : k < a0.size
      · obtain ⟨hc, hf⟩ := hrow k hlt
        have hbr := bt_range a0 k
        have hu : upto a0 k k = bt a0 k := by simp [upto]
        rw [hu] at hc
        have Hrow := Lib.hid hrow
        clear hrow hu
        by_cases hlow : 65 ≤ bt a0 k ∧ bt a0 k ≤ 90
        · have hset := brow_set Hrow.out hlt hlow
          have Hset := Lib.hid hset
          clear hset Hrow
          obtain ⟨hl1, hl2⟩ := hlow
          go_wp2
          rw [show bt a0 (k : Int) + 97 - 65 = bt a0 (k : Int) + 32 by omega]
          exact ⟨⟨k + 1, by omega, by go_num, Hset.out, hb.setCell (Nat.le_refl _) _, by rw [World.size_setCell]; exact hz⟩, by simp [intOf]; omega⟩
        · have hkeep := brow_keep Hrow.out hlow
          have Hkeep := Lib.hid hkeep
          clear hkeep Hrow
          go_wp2
          all_goals exact ⟨⟨k + 1, by omega, by go_num, Hkeep.out, hb, hz⟩, by simp [intOf]; omega⟩
      · obtain rfl : k = a0.size := by omega
        have hcv := brow_end (P := Tryz.prog) hrow 115 5 9 (grownCap w a0.size 0 5) Tryz.underlying115 Tryz.underlying5 Tryz.underlying9
        clear hrow
        go_wp2
        go_ret
        exact ⟨rfl, hb⟩
  · cases h
set_option maxHeartbeats 2000000 in
theorem weirgateref06_small.calls (a0 : ByteArray) (r : ByteArray) (w : World) (h : weirgateref06_small.f a0 = some r) :
    Calls Tryz.prog 51 #[.string a0] w fun e w' => e = .returned (.string r) ∧ Below w.heap.size w w' := by
  unfold weirgateref06_small.f at h
  split at h
  · rename_i hs
    injection h with h
    subst h
    have kb := fun W => print_bytes (P := Tryz.prog) 9 115 5 Tryz.underlying9 Tryz.underlying115 Tryz.underlying5 a0 W
    have hb0 := bytes_below (Below.refl w.heap.size w) (Nat.le_refl _) 5 a0
    have hz0 := Lib.bytesWorld_size w 5 a0
    have hrow0 := brow_start w 5 a0
    have Hb0 := Lib.hid hb0
    have Hz0 := Lib.hid hz0
    have Hrow0 := Lib.hid hrow0
    clear hb0 hz0 hrow0
    go_enter Tryz.func51, Tryz.ntmps51
    go_wp2
    go_loopw [4] (fun i wr => ∃ k : Nat, k ≤ a0.size ∧ i = .int .i64 k ∧ BRow wr w.heap.size a0.size (upto a0 k) ∧ Below w.heap.size w wr ∧ w.heap.size < wr.heap.size) (fun i wr => a0.size - (intOf i).toNat)
    case atStart => exact ⟨0, Nat.zero_le _, rfl, Hrow0.out, Hb0.out, by rw [Hz0.out]; omega⟩
    case round =>
      obtain ⟨k, hk, rfl, hrow, hb, hz⟩ := hrel
      clear kb Hb0 Hz0 Hrow0
      by_cases hlt : k < a0.size
      · obtain ⟨hc, hf⟩ := hrow k hlt
        have hbr := bt_range a0 k
        have hu : upto a0 k k = bt a0 k := by simp [upto]
        rw [hu] at hc
        have Hrow := Lib.hid hrow
        clear hrow hu
        by_cases hlow : 65 ≤ bt a0 k ∧ bt a0 k ≤ 90
        · have hset := brow_set Hrow.out hlt hlow
          have Hset := Lib.hid hset
          clear hset Hrow
          obtain ⟨hl1, hl2⟩ := hlow
          go_wp2
          exact ⟨⟨k + 1, by omega, by go_num, Hset.out, hb.setCell (Nat.le_refl _) _, by rw [World.size_setCell]; exact hz⟩, by simp [intOf]; omega⟩
        · have hkeep := brow_keep Hrow.out hlow
          have Hkeep := Lib.hid hkeep
          clear hkeep Hrow
          go_wp2
          all_goals exact ⟨⟨k + 1, by omega, by go_num, Hkeep.out, hb, hz⟩, by simp [intOf]; omega⟩
      · obtain rfl : k = a0.size := by omega
        have hcv := brow_end (P := Tryz.prog) hrow 115 5 9 (grownCap w a0.size 0 5) Tryz.underlying115 Tryz.underlying5 Tryz.underlying9
        clear hrow
        go_wp2
        go_ret
        exact ⟨rfl, hb⟩
  · cases h
theorem join_lib (c : UInt8) (l : List Str) : Lib.join l [c] = joinB c l := by
  induction l with
  | nil => rfl
  | cons x r ih =>
    cases r with
    | nil => simp [Lib.join, joinB, List.intercalate]
    | cons y r =>
      rw [Lib.join_cons]
      simp only [joinB]
      rw [← ih, Lib.join_cons]
      simp [Lib.joinTail]
def strings_Join.f (l0 : List ByteArray) (a1 : ByteArray) : Option ByteArray :=
  match L a1 with
  | [c] => if (joinB c (l0.map L)).length ≤ 140737488355328 ∧ l0.length ≤ 140737488355328 then some (B (joinB c (l0.map L))) else none
  | _ => none
theorem strings_Join.calls (A0 : Option Addr) (c0 : Nat) (l0 : List ByteArray) (a1 : ByteArray) (r : ByteArray) (w : World) (hr0 : Kd.C Kd.string w A0 l0.length l0) (hc0 : l0.length ≤ c0) (h : strings_Join.f l0 a1 = some r) :
    Calls Tryz.prog 59 #[.slice A0 l0.length c0, .string a1] w fun e w' => e = .returned (.string r) ∧ Below w.heap.size w w' := by
  unfold strings_Join.f at h
  split at h
  · rename_i c hc
    split at h
    · rename_i hl
      injection h with h
      subst h
      rw [one_byte hc]
      have hrd := Kd.reads_of_C (d := ByteArray.empty) hr0
      cases l0 with
      | nil =>
        refine (Tryz.strings_Join_none A0 c0 _ w).mono fun e w' ⟨he, hw⟩ => ⟨he, hw ▸ Below.refl _ _⟩
      | cons x t =>
        obtain ⟨ad, rfl, hcell⟩ := hrd.2.2 (by simp)
        have hget : ∀ j y, (x :: t)[j]? = some y → w.cell? (ad.add j) = some (.string y) := by
          intro j y hy
          obtain ⟨hj, he⟩ := List.getElem?_eq_some_iff.1 hy
          rw [hcell j hj]
          simp [List.getD_eq_getElem?_getD, hy]
        have h0 := hget 0 x rfl
        have hspot : ad.spot = none := by
          unfold World.cell? at h0
          cases hs : ad.spot with
          | none => rfl
          | some q =>
            have : (ad.add 0).spot = some q := by simp [Addr.add, hs]
            split at h0
            · simp [this] at h0
            · cases h0
        obtain ⟨b, o, sp⟩ := ad
        simp only at hspot
        subst hspot
        have hbk : b < w.heap.size := by
          have := World.block_lt_of_cell? w _ h0
          simpa [Addr.add] using this
        refine (Tryz.strings_Join b o c0 (x :: t) ⟨#[c]⟩ w (fun j y hy => ?_) hbk hl.2 hc0 ?_).mono fun e w' ⟨he, hw⟩ => ⟨?_, hw⟩
        · have := hget j y hy
          unfold Addr.add at this
          split at this
          · rename_i hj; subst hj; exact this
          · exact this
        · have := join_lib c ((x :: t).map L)
          show (Lib.join ((x :: t).map L) [c]).length ≤ _
          rw [this]; exact hl.1
        · rw [he]
          have := join_lib c ((x :: t).map L)
          show Ending.returned (.string ⟨(Lib.join ((x :: t).map L) [c]).toArray⟩) = _
          rw [this]; rfl
    · cases h
  · cases h
theorem indexB_one (x : ByteArray) (c : UInt8) : Lib.indexB x ⟨#[c]⟩ = Lib.indexByte x.data.toList c := by
  show Lib.index x.data.toList [c] = _
  exact Lib.index_one _ _
set_option maxHeartbeats 1000000 in
theorem split_one_any {P : Program} {ρ : Go.Shelf.Ren} (K : Go.Proofs.Lays.n146 P ρ) (hi9 : (P.info? (ρ.t 9)).map (fun i => (i.zero, i.size, i.bytes)) = some (some (.string ByteArray.empty), 1, 16)) (s : ByteArray) (c : UInt8) (w : World)
    (hs : s.size < 4294967281) :
    Calls P (ρ.f 146) #[.string s, .string ⟨#[c]⟩] w fun e w' =>
      e = .returned (.slice (some ⟨w.heap.size, 0, none⟩) (Lib.countB s ⟨#[c]⟩ + 1) (Lib.countB s ⟨#[c]⟩ + 1)) ∧ w' = w.alloc (.cells ((Lib.splitB ⟨#[c]⟩ 0 (Lib.countB s ⟨#[c]⟩) s).map Value.string).toArray (ρ.t 9)) := by
  have h1 : 1 ≤ (⟨#[c]⟩ : ByteArray).size := Nat.le_refl _
  have hle := Lib.countB_le ⟨#[c]⟩ h1 s.size s (Nat.le_refl _)
  have hlen := Lib.splitB_all ⟨#[c]⟩ h1 0 _ s rfl
  have cc := Any.strings_genSplit_core (P := P) (ρ := ρ) { K with } hi9 s ⟨#[c]⟩ 0 (-1) (Lib.countB s ⟨#[c]⟩ + 1) w hs h1 (Nat.zero_le _)
    (fun x cs _ => by rw [indexB_one]; exact Any.strings_Index_one { K with } x c _)
    ((Any.strings_Count_one (P := P) (ρ := ρ) { K with } s c w).mono fun e w' ⟨he, hw⟩ => ⟨by
      rw [he]
      show _ = Ending.returned (Value.int .i64 ((Lib.count s.data.toList [c] : Nat) : Int))
      rw [Lib.count_one]
      rfl, hw⟩)
    (by decide) (by decide) (by rw [if_pos (by decide)]; omega)
  rw [Nat.add_sub_cancel, hlen] at cc
  have e2 : Lib.cellsOf (Lib.splitB ⟨#[c]⟩ 0 (Lib.countB s ⟨#[c]⟩) s) (Lib.countB s ⟨#[c]⟩ + 1) = ((Lib.splitB ⟨#[c]⟩ 0 (Lib.countB s ⟨#[c]⟩) s).map Value.string).toArray := by rw [← hlen]; exact Lib.cellsOf_full _
  rw [e2] at cc
  have t3 := K.t3; have t9 := K.t9; have t31 := K.t31
  have a3 := K.a3; have a9 := K.a9; have a31 := K.a31
  have z3 := K.z3; have v3 := K.v3; have z9 := K.z9; have v9 := K.v9; have z31 := K.z31; have v31 := K.v31
  have e221 : ∀ args w, (callFunc (ρ.f 221) args).run P w = .ok (.enter (ρ.f 221) args) w := enters_of K.f221 (by kernel_rfl) rfl
  go_enter K.f146, Go.Proofs.Body.n146_ntmps ρ
  go_wp2_with (go_at_fn (ρ.f 221); refine cc.mono ?_; rintro e w' ⟨rfl, hw⟩; rw [hw])
  go_ret
  exact ⟨rfl, rfl⟩
theorem splitK_one (c : UInt8) : ∀ (k : Nat) (s : Str), s.count c = k → Lib.splitK [c] 0 k s = splitB c s
  | 0, s, h => by
    have : c ∉ s := List.count_eq_zero.1 h
    rw [splitB_none c s this]
    rfl
  | k + 1, s, h => by
    have hm : c ∈ s := List.count_pos_iff.1 (by omega)
    rcases indexByte_cut c s with ⟨_, h2, _⟩ | ⟨o, h1, h2, _, h4⟩
    · exact absurd hm h2
    · unfold Lib.splitK
      rw [Lib.index_one, h1]
      have : ¬ ((o : Int) == -1) = true := by simp
      rw [if_neg this]
      have e := cutB_eq c s
      have hn := cutB_nin c s
      rw [h4] at e hn
      simp only [if_true] at e hn
      have hcount : (s.drop (o + 1)).count c = k := by
        have e2 := congrArg (List.count c) e
        rw [List.count_append, List.count_eq_zero.2 hn, List.count_cons_self] at e2
        omega
      conv => rhs; rw [e]
      rw [splitB_app c _ _ hn]
      simp only [Int.toNat_natCast, Nat.add_zero, List.length_singleton]
      rw [splitK_one c k _ hcount]
theorem splitB_lib (c : UInt8) (s : ByteArray) : Lib.splitB ⟨#[c]⟩ 0 (Lib.countB s ⟨#[c]⟩) s = (splitB c (L s)).map B := by
  have h := Lib.splitB_data ⟨#[c]⟩ 0 (Lib.countB s ⟨#[c]⟩) s
  have hc : Lib.countB s ⟨#[c]⟩ = (L s).count c := Lib.count_one c (L s)
  rw [hc] at h ⊢
  have h2 : Lib.splitK [c] 0 ((L s).count c) (L s) = splitB c (L s) := splitK_one c _ _ rfl
  have h3 := congrArg (List.map B) (h.trans h2)
  rw [List.map_map] at h3
  have hid : (B ∘ fun x : ByteArray => x.data.toList) = id := by funext x; exact B_L x
  rw [hid, List.map_id] at h3
  exact h3
def strings_Split.f (a0 a1 : ByteArray) : Option (List ByteArray) :=
  match L a1 with
  | [c] => if a0.size < 4294967281 then some ((splitB c (L a0)).map B) else none
  | _ => none
theorem strings_Split.calls (a0 a1 : ByteArray) (r : List ByteArray) (w : World) (h : strings_Split.f a0 a1 = some r) :
    Calls Tryz.prog 65 #[.string a0, .string a1] w fun e w' => ∃ v0_ : Value, e = .returned (v0_) ∧ Kd.R Kd.string 9 w' w.heap.size (fun _ => True) v0_ r ∧ Below w.heap.size w w' := by
  unfold strings_Split.f at h
  split at h
  · rename_i c hc
    split at h
    · rename_i hs
      injection h with h
      rw [one_byte hc]
      refine (split_one_any (P := Tryz.prog) (ρ := Tryz.lays146_ren) Tryz.lays146 (by kernel_rfl) a0 c w hs).mono fun e w' ⟨he, hw⟩ => ?_
      have hlen := Lib.splitB_all ⟨#[c]⟩ (Nat.le_refl _) 0 _ a0 rfl
      rw [← hlen, splitB_lib, h] at he
      rw [splitB_lib, h] at hw
      have hown := own_lit_of (enc := Value.string) w w.heap.size 9 r (Nat.le_refl _) (by
        have := Lib.countB_le ⟨#[c]⟩ (Nat.le_refl _) a0.size a0 (Nat.le_refl _)
        have h2 := hlen
        rw [splitB_lib, h] at h2
        omega)
      subst hw
      exact ⟨_, he, Kd.R_of_own hown (fun _ _ => trivial), (Below.refl _ _).alloc (Nat.le_refl _) _⟩
    · cases h
  · cases h
end Go.Proofs.YtmokgpepeddopaaGreatDoor.P
end
section
namespace Go.Proofs.YtmokgpepeddopaaGreatDoor.P
open Go.RowKit Go.Proofs.YtmokgpepeddopaaGreatDoorW.PrintWords Go.Proofs.YtmokgpepeddopaaGreatDoorW.PrintLast Go.Proofs.YtmokgpepeddopaaGreatDoorW.PrintMore
attribute [local go_sem] max2_int min2_int max_two min_two max_three min_three max_four min_four
attribute [local go_sem high] binOp_string_leq2 binOp_string_gtr2
set_option linter.unusedVariables false
set_option linter.unusedSimpArgs false
def address_isName.f (a0 : ByteArray) : Option (Bool) := (address_isWord.f a0).bind fun t101 => (if t101 = true then ((strings_Contains.f a0 (⟨#[46]⟩ : ByteArray)).bind fun t102 => (some (!t102))) else (some false))
set_option maxHeartbeats 8000000 in
set_option maxRecDepth 100000 in
theorem address_isName.calls (a0 : ByteArray) (r : Bool) (w : World) (h : address_isName.f a0 = some r) :
  Calls Tryz.prog 45 #[.string a0] w fun e w' => e = .returned (.bool r) ∧ Below w.heap.size w w' := by
 have HB := Aside0.mk (Below.refl w.heap.size w)
 have H : ((address_isWord.f a0).bind fun t101 => (if t101 = true then ((strings_Contains.f a0 (⟨#[46]⟩ : ByteArray)).bind fun t102 => (some (!t102))) else (some false))) = some r := h
 clear h
 obtain ⟨t101, A2, H⟩ := bd H
 by_cases c3 : t101 = true
 ·subst c3
  rw [if_pos rfl] at H
  obtain ⟨t102, A4, H⟩ := bd H
  obtain rfl := Option.some.inj H
  go_enter Tryz.func45, Tryz.ntmps45
  go_wp2_with (first | ((with_reducible refine gate_callee (f := 48) rfl ?_); refine goesL_ (some 4) rfl rfl Tryz.func48 (by kernel_rfl) rfl #[.string a0] rfl zl ?_; (with_reducible refine (address_isWord.calls a0 true _ A2.out).mono ?_); rintro e w5 ⟨rfl, hb⟩; refine ⟨_, rfl, ?_⟩; replace HB := sb w hb; clear hb) | (go_at_call 88; (with_reducible refine (strings_Contains.calls a0 (⟨#[46]⟩ : ByteArray) t102 _ A4.out).mono ?_); rintro e w' ⟨rfl, ⟨nd, rfl⟩⟩))
  go_ret
  exact ⟨zE, zB⟩
 ·replace c3 := Bool.eq_false_iff.mpr c3
  subst c3
  rw [if_neg Bool.false_ne_true] at H
  obtain rfl := Option.some.inj H
  go_enter Tryz.func45, Tryz.ntmps45
  go_wp2_with (first | ((with_reducible refine gate_callee (f := 48) rfl ?_); refine goesL_ (some 4) rfl rfl Tryz.func48 (by kernel_rfl) rfl #[.string a0] rfl zl ?_; (with_reducible refine (address_isWord.calls a0 false _ A2.out).mono ?_); rintro e w4 ⟨rfl, hb⟩; refine ⟨_, rfl, ?_⟩; replace HB := sb w hb; clear hb))
  go_ret
  exact ⟨zE, zB⟩
end Go.Proofs.YtmokgpepeddopaaGreatDoor.P
end
section
namespace Go.Proofs.YtmokgpepeddopaaGreatDoor.P
open Go.RowKit Go.Proofs.YtmokgpepeddopaaGreatDoorW.PrintWords Go.Proofs.YtmokgpepeddopaaGreatDoorW.PrintLast Go.Proofs.YtmokgpepeddopaaGreatDoorW.PrintMore
open Go.Proofs.YtmokgpepeddopaaGreatDoor.Addr
set_option linter.unusedSimpArgs false
set_option linter.unusedVariables false
theorem toList_L (a : ByteArray) : a.toList = L a := Lib.toList_data a
theorem hasPrefix_f (a b : ByteArray) : stringslite_HasPrefix.f a b = some ((L b).isPrefixOf (L a)) := by
  unfold stringslite_HasPrefix.f
  by_cases h : (a.size : Int) ≥ (b.size : Int)
  · rw [if_pos h, if_pos (by omega), if_pos (by omega)]
    simp only [Int.toNat_natCast, toList_L, take_extract, L_B, ← L_length b]
    congr 1
    rw [Bool.eq_iff_iff, List.isPrefixOf_iff_prefix, List.prefix_iff_eq_take, beq_iff_eq]
    exact eq_comm
  · rw [if_neg h]
    congr 1
    symm
    rw [Bool.eq_false_iff]
    intro e
    have := (List.isPrefixOf_iff_prefix.1 e).length_le
    rw [L_length, L_length] at this
    omega
theorem cutPrefix_f (a b : ByteArray) : strings_CutPrefix.f a b = some (if (L b).isPrefixOf (L a) then (B ((L a).drop (L b).length), true) else (a, false)) := by
  unfold strings_CutPrefix.f stringslite_CutPrefix.f
  rw [hasPrefix_f]
  simp only [Option.bind_some]
  by_cases h : (L b).isPrefixOf (L a) = true
  · have := (List.isPrefixOf_iff_prefix.1 h).length_le
    rw [L_length, L_length] at this
    rw [if_pos h, if_pos (by omega), if_pos (by omega)]
    simp only [Option.bind_some, Int.toNat_natCast, drop_extract, L_length, h, if_true]
  · rw [if_neg h]
    simp only [Option.bind_some, h]
    rfl
def partOfI (a : ByteArray) : Int × ByteArray :=
  match L a with
  | 42 :: r => if r = [] then (2, ⟨#[]⟩) else (1, B r)
  | _ => (0, a)
theorem partOf_f (a : ByteArray) : address_partOf.f a = some (partOfI a) := by
  unfold address_partOf.f partOfI
  rw [cutPrefix_f]
  simp only [Option.bind_some]
  have h42 : L (⟨#[42]⟩ : ByteArray) = [42] := rfl
  rw [h42]
  cases e : L a with
  | nil => simp [List.isPrefixOf]
  | cons c r =>
    by_cases hc : c = 42
    · subst hc
      simp only [List.isPrefixOf, BEq.rfl, Bool.true_and, if_true, List.length_singleton, List.drop_succ_cons, List.drop_zero, toList_L, L_B]
      split <;> rfl
    · have : ([42] : List UInt8).isPrefixOf (c :: r) = false := by
        simp [List.isPrefixOf]; exact fun e => hc e.symm
      rw [this]
      simp only [Bool.false_eq_true, if_false]
      split
      · rename_i e2; injection e2 with e2 _; exact absurd e2 hc
      · rfl
theorem isName_f (a : ByteArray) : address_isName.f a = some (name (L a)) := by
  unfold address_isName.f address_isWord.f
  simp only [Option.bind_some]
  have : strings_Contains.f a (⟨#[46]⟩ : ByteArray) = some ((L a).contains 46) := rfl
  rw [this]
  cases h : word (L a) with
  | true => simp [name, h]
  | false => simp [name, h]
def validPart (w : Str) : Bool := decide (w = [42]) || word w || (decide (w.length ≤ 34) && [42, 46].isPrefixOf w && word (w.drop 2))
def mkPart (p : Int × ByteArray) : S97 := ⟨p.1, p.2⟩
def compL : List S97 → List ByteArray → List S97 × Bool × Bool
  | out, [] => (out, false, true)
  | out, w :: r => if L w = [42, 42] ∧ r = [] then (out, true, true) else if validPart (L w) then compL (out ++ [mkPart (partOfI w)]) r else (out, false, false)
def compileF (l : List ByteArray) : Int × ByteArray × List S97 × Bool × Bool :=
  if 33 < l.length ∨ (L (l.getD 0 ⟨#[]⟩) ≠ [42] ∧ name (L (l.getD 0 ⟨#[]⟩)) = false) then (0, ⟨#[]⟩, [], false, false)
  else ((partOfI (l.getD 0 ⟨#[]⟩)).1, (partOfI (l.getD 0 ⟨#[]⟩)).2, compL [] (l.drop 1))
def address_compile.f (a0 : ByteArray) : Option (Int × ByteArray × List S97 × Bool × Bool) :=
  if a0.size < 4294967281 then some (compileF ((splitB 47 (L a0)).map B)) else none
def Evt {α : Type} (g : Nat → Option α) (r : α) : Prop := ∃ n, ∀ k, n ≤ k → g k = some r
theorem Evt.of {α : Type} {g : Nat → Option α} {r : α} (h : ∀ k, g k = some r) : Evt g r := ⟨0, fun k _ => h k⟩
theorem Evt.bind {α β : Type} {g : Nat → Option α} {f : Nat → α → Option β} {a : α} {b : β} (h : Evt g a) (k : Evt (fun n => f n a) b) : Evt (fun n => (g n).bind (f n)) b := by
  obtain ⟨n, hn⟩ := h
  obtain ⟨m, hm⟩ := k
  exact ⟨max n m, fun j hj => by show (g j).bind (f j) = _; rw [hn j (by omega)]; exact hm j (by omega)⟩
theorem Evt.bind' {α β : Type} {g : Option α} {f : Nat → α → Option β} {a : α} {b : β} (h : g = some a) (k : Evt (fun n => f n a) b) : Evt (fun n => g.bind (f n)) b := by
  rw [h]; exact k
theorem Evt.step {α : Type} {f g : Nat → Option α} {r : α} (e : ∀ k, f (k + 1) = g k) (h : Evt g r) : Evt f r := by
  obtain ⟨n, hn⟩ := h
  exact ⟨n + 1, fun k hk => by
    obtain ⟨j, rfl⟩ : ∃ j, k = j + 1 := ⟨k - 1, by omega⟩
    rw [e]; exact hn j (by omega)⟩
theorem Evt.same {α : Type} {f g : Nat → Option α} {r : α} (e : ∀ k, f k = g k) (h : Evt g r) : Evt f r := by
  obtain ⟨n, hn⟩ := h
  exact ⟨n, fun k hk => by rw [e]; exact hn k hk⟩
theorem Evt.get {α : Type} {g : Nat → Option α} {r : α} (h : Evt g r) : ∃ k, g k = some r := let ⟨n, hn⟩ := h; ⟨n, hn n (Nat.le_refl _)⟩
theorem wrap_nat (n : Nat) (h : n < 4611686018427387904) : wrap64 ((n : Int) + 1) = ((n + 1 : Nat) : Int) := by unfold wrap64; omega
theorem bt_L {s : ByteArray} {n : Nat} {c : UInt8} (h : (L s)[n]? = some c) : bt s (n : Int) = (c.toNat : Int) := by
  obtain ⟨hl, he⟩ := List.getElem?_eq_some_iff.1 h
  have hn : n < s.size := by rw [← L_length]; exact hl
  have : ((n : Int)).toNat < s.size := by simpa using hn
  simp only [bt, this, dif_pos]
  rw [← he]
  simp [L]
  rfl
theorem drop_ind {α : Type} {xs : List α} {C : Nat → Prop} (hend : C xs.length) (hstep : ∀ n x, xs[n]? = some x → xs.drop n = x :: xs.drop (n + 1) → n < xs.length → C (n + 1) → C n) : ∀ n, n ≤ xs.length → C n := by
  intro n hn
  obtain ⟨d, hd⟩ : ∃ d, xs.length - n = d := ⟨_, rfl⟩
  induction d generalizing n with
  | zero => have : n = xs.length := by omega
            rw [this]; exact hend
  | succ d ih =>
    have hlt : n < xs.length := by omega
    exact hstep n xs[n] (List.getElem?_eq_getElem hlt) (List.drop_eq_getElem_cons hlt) hlt (ih (n + 1) (by omega) (by omega))
theorem Evt.fin {α : Type} {f : Nat → Option α} {r : α} (e : ∀ k, f (k + 1) = some r) : Evt f r := Evt.step (g := fun _ => some r) e (Evt.of fun _ => rfl)
end Go.Proofs.YtmokgpepeddopaaGreatDoor.P
end
