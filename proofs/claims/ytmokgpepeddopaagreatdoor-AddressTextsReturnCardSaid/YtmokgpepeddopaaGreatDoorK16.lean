/- Lemmas on the way to the statement: part 16 of 32 (functions as plain Lean functions, and that each call comes to what they say). -/
import Derived.Test.YtmokgpepeddopaaGreatDoorK12
import Derived.Deep.Strs
import Derived.Deep.SlicePairs
import Derived.Lib.SmallJoins
import Derived.Carry
import Derived.OpenShut
import Derived.KernelRfl
section
namespace Go.Proofs.YtmokgpepeddopaaGreatDoor.P
open Go.RowKit Go.ChangeShapes Go.WideShapes Go.Deep Go.Joins Go.Proofs.YtmokgpepeddopaaGreatDoorW.PrintWords Go.Proofs.YtmokgpepeddopaaGreatDoorW.PrintLast Go.Proofs.YtmokgpepeddopaaGreatDoorW.PrintMore
set_option linter.unusedVariables false
theorem laidOut : laidOutB Tryz.prog = true := by kernel_rfl
theorem strs_arg {H : Type} {enc : TypeId × Value → H} {W : World} {base fuel : Nat} {sp : Nat → Bool} {held : Bool} {v : Value} {x : DataW H × List MemPlace} (h : DataW.trod enc Tryz.prog W base sp held fuel 22 [v] = some x) :
    ∃ (A : Option Addr) (c : Nat) (l : List ByteArray), v = .slice A l.length c ∧ l.length ≤ c ∧ Kd.C Kd.string W A l.length l := by
  rcases open_strs Tryz.underlying22 Tryz.underlying9 (by kernel_rfl) h with ⟨hc, -⟩ | ⟨a, len, cap, m, Sx, hc, hb, hl, hm, hmm, -, hcell⟩
  · injection hc with hc _
    subst hc
    exact ⟨none, 0, [], rfl, Nat.le_refl _, rfl, Nat.zero_le _, fun h => absurd h (by decide)⟩
  · injection hc with hc _
    subst hc
    have hlm : len ≤ m := by rw [hmm]; split <;> omega
    have hmax : maxLen ≤ 9223372036854775807 := by decide
    refine ⟨some a, cap, (List.range len).map Sx, by simp, by simpa using hl, by simp, by simp; omega, fun _ => ⟨a, rfl, fun j p hp => ?_⟩⟩
    obtain ⟨hj, hp2⟩ := List.getElem?_eq_some_iff.1 hp
    simp at hj hp2
    subst hp2
    refine ⟨[.string (Sx j)], rfl, rfl, fun i u hu => ?_⟩
    cases i with
    | zero =>
      simp at hu; subst hu
      have := (hcell j (by omega)).1
      simpa [show Kd.string.sz = 1 from rfl] using this
    | succ i => simp at hu
theorem pairs_arg {H : Type} {enc : TypeId × Value → H} {W : World} {base fuel : Nat} {sp : Nat → Bool} {held : Bool} {v : Value} {x : DataW H × List MemPlace} (h : DataW.trod enc Tryz.prog W base sp held fuel 23 [v] = some x) :
    ∃ (A : Option Addr) (c : Nat) (l : List S66), v = .slice A l.length c ∧ l.length ≤ c ∧ Kd.C k66 W A l.length l := by
  rcases open_slice_pairs Tryz.underlying23 Tryz.underlying66 (by kernel_rfl) rfl rfl (by kernel_rfl) (by kernel_rfl) h with ⟨hc, -⟩ | ⟨a, len, cap, m, n, V0, V1, D0, D1, P0, P1, hc, hb, hl, hm, hmm, -, hcell⟩
  · injection hc with hc _
    subst hc
    exact ⟨none, 0, [], rfl, Nat.le_refl _, rfl, Nat.zero_le _, fun h => absurd h (by decide)⟩
  · injection hc with hc _
    subst hc
    have hlm : len ≤ m := by rw [hmm]; split <;> omega
    have hmax : maxLen ≤ 9223372036854775807 := by decide
    have each : ∀ i, i < len → ∃ q : S66, V0 i = .string q.f0 ∧ V1 i = .string q.f1 := fun i hi => by
      obtain ⟨-, -, e0, e1⟩ := hcell i (by omega)
      obtain ⟨s0, k0, -, -⟩ := DataW.trod_string Tryz.underlying9 e0
      obtain ⟨s1, k1, -, -⟩ := DataW.trod_string Tryz.underlying9 e1
      exact ⟨⟨s0, s1⟩, by simpa using k0, by simpa using k1⟩
    haveI : Inhabited S66 := ⟨⟨⟨#[]⟩, ⟨#[]⟩⟩⟩
    obtain ⟨Q, hQ⟩ := choose_lt each
    refine ⟨some a, cap, (List.range len).map Q, by simp, by simpa using hl, by simp, by simp; omega, fun _ => ⟨a, rfl, fun j p hp => ?_⟩⟩
    obtain ⟨hj, hp2⟩ := List.getElem?_eq_some_iff.1 hp
    simp at hj hp2
    subst hp2
    obtain ⟨c0, c1, -, -⟩ := hcell j (by omega)
    rw [(hQ j hj).1] at c0
    rw [(hQ j hj).2] at c1
    refine ⟨[.string (Q j).f0, .string (Q j).f1], rfl, k66_mk W (Q j), fun i u hu => ?_⟩
    match i, hu with
    | 0, hu => simp at hu; subst hu; exact c0
    | 1, hu => simp at hu; subst hu; exact c1
    | i + 2, hu => simp at hu
set_option maxRecDepth 100000 in
theorem addr_arg {H : Type} {enc : TypeId × Value → H} {W : World} {v : Value} {d : DataW H} {p : List MemPlace} (hv : Value.okWide Tryz.prog W .any 0 25 v) (h : DataW.Trod enc Tryz.prog W 0 (fun _ => true) true 25 v d p) :
    ∃ (s : ByteArray) (A1 : Option Addr) (c1 : Nat) (l1 : List ByteArray) (A2 : Option Addr) (c2 : Nat) (l2 : List S66), v = .agg #[.string s, .slice A1 l1.length c1, .slice A2 l2.length c2] ∧ l1.length ≤ c1 ∧ Kd.C Kd.string W A1 l1.length l1 ∧ l2.length ≤ c2 ∧ Kd.C k66 W A2 l2.length l2 := by
  obtain ⟨v0, v1, v2, y0, y1, y2, n, rfl, -, -, t0, t1, t2⟩ := open_agg3 Tryz.underlying25 (by kernel_rfl) (by kernel_rfl) hv h
  obtain ⟨s, k0, -, -⟩ := DataW.trod_string Tryz.underlying9 t0
  obtain ⟨A1, c1, l1, rfl, g1, g2⟩ := strs_arg t1
  obtain ⟨A2, c2, l2, rfl, g3, g4⟩ := pairs_arg t2
  have k0' : v0 = .string s := by simpa using k0
  subst k0'
  exact ⟨s, A1, c1, l1, A2, c2, l2, rfl, g1, g2, g3, g4⟩
end Go.Proofs.YtmokgpepeddopaaGreatDoor.P
end
