/- Lemmas on the way to the statement: part 3 of 34 (functions as plain Lean functions, and that each call comes to what they say). -/
import Derived.WalkKit
import Derived.WalkSpells
section
namespace Go.Proofs.YtmokgpepeddopaaGreatDoor.P
open Go.RowKit
theorem less_le (a b : List UInt8) : (Op.bytesLess a b || a == b) = !Op.bytesLess b a := by
  induction a generalizing b with
  | nil => cases b <;> simp [Op.bytesLess]
  | cons x l ih =>
    cases b with
    | nil => simp [Op.bytesLess]
    | cons y m =>
      have h := ih m
      simp only [Op.bytesLess]
      rcases Nat.lt_trichotomy x.toNat y.toNat with k | k | k
      · have h1 : x < y := UInt8.lt_iff_toNat_lt.2 k
        have h2 : ¬ y < x := fun e => by have := UInt8.lt_iff_toNat_lt.1 e; omega
        have h3 : ¬ y = x := fun e => by rw [e] at k; omega
        simp [h1, h2, h3]
      · have e := UInt8.toNat_inj.1 k
        subst e
        have h2 : ¬ x < x := fun e => by have := UInt8.lt_iff_toNat_lt.1 e; omega
        simp [h2]
        simpa using h
      · have h1 : y < x := UInt8.lt_iff_toNat_lt.2 k
        have h2 : ¬ x < y := fun e => by have := UInt8.lt_iff_toNat_lt.1 e; omega
        have h3 : ¬ x = y := fun e => by rw [e] at k; omega
        simp [h1, h2, h3]
theorem binOp_string_leq2 (t : TypeId) (a b : ByteArray) : binOp .leq t (.string a) (.string b) = pure (.bool (!(Op.bytesLess b.toList a.toList))) := by
  simp [binOp, Op.stringOp, ← less_le]
theorem binOp_string_gtr2 (t : TypeId) (a b : ByteArray) : binOp .gtr t (.string a) (.string b) = pure (.bool (Op.bytesLess b.toList a.toList)) := by
  have h := less_le a.toList b.toList
  simp only [binOp, Op.stringOp]
  rw [h]
  simp
end Go.Proofs.YtmokgpepeddopaaGreatDoor.P
end
