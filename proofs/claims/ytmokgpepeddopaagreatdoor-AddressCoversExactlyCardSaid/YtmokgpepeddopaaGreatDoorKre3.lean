/- Lemmas on the way to the statement: part 3 of 4 (functions as plain Lean functions, and that each call comes to what they say). -/
import Derived.Test.YtmokgpepeddopaaGreatDoorK32
import Derived.Test.YtmokgpepeddopaaGreatDoorKre1
import Derived.Test.YtmokgpepeddopaaGreatDoorKre2
section
namespace Go.Proofs.YtmokgpepeddopaaGreatDoor.P
open Go.RowKit Go.Proofs.YtmokgpepeddopaaGreatDoorW.PrintWords Go.Proofs.YtmokgpepeddopaaGreatDoorW.PrintLast Go.Proofs.YtmokgpepeddopaaGreatDoorW.PrintMore
open Go.Proofs.YtmokgpepeddopaaGreatDoor.Addr
set_option linter.unusedSimpArgs false
set_option linter.unusedVariables false
theorem Valid_f (s : ByteArray) (hs : s.size < 4294967281) : address_Valid.f s = some (pat (L s)).isSome := by
  unfold address_Valid.f
  cases h : pat (L s) with
  | none => obtain ⟨r1, r2, r3, r4, hr⟩ := compile_none hs h; rw [hr]; rfl
  | some x => rw [compile_some hs h]; rfl
theorem matchS_some {p : Str} {x : Pat} (h : pat p = some x) (s : Str) : matchS p s = match readA s with | some a => matchP x a | none => false := by
  unfold matchS
  rw [h]
  cases readA s <;> rfl
theorem covers_true (a0 a1 a2 : ByteArray) : Evt (fun k => weirgatelaw06_AddressCoversExactly.f k a0 a1 a2) true := by
  have hs : ∀ x, x = true → Evt (fun k => weirgatelaw06_AddressCoversExactly.j0 k a0 a1 a2 x) true := fun x hx => by
    subst hx
    refine Evt.step (g := fun k => (weirgatelaw06_sanity.f k).bind fun t => some t) (fun k => ?_) (Evt.bind sanity_f (Evt.of fun _ => rfl))
    simp only [weirgatelaw06_AddressCoversExactly.j0]
    rw [if_pos trivial]
  unfold weirgatelaw06_AddressCoversExactly.f
  by_cases h1 : (a0.size : Int) > 1000
  · exact Evt.same (fun k => if_pos h1) (hs _ rfl)
  · refine Evt.same (fun k => if_neg h1) ?_
    by_cases h2 : (a1.size : Int) > 1000
    · exact Evt.same (fun k => if_pos h2) (hs _ rfl)
    · refine Evt.same (fun k => if_neg h2) ?_
      by_cases h3 : (a2.size : Int) > 5000
      · rw [decide_eq_true h3]; exact hs _ rfl
      · rw [decide_eq_false h3]
        have z0 : a0.size < 4294967281 := by omega
        have z1 : a1.size < 4294967281 := by omega
        refine Evt.step (fun k => by simp only [weirgatelaw06_AddressCoversExactly.j0]; rw [if_neg (by decide)]) ?_
        have hC := Covers_f a0 a1 z0 z1
        have v0 := Valid_f a0 z0
        have v1 := Valid_f a1 z1
        unfold coversS at hC
        cases hx : pat (L a0) with
        | none =>
          rw [hx] at v0 hC
          dsimp only at hC
          refine Evt.bind hC ?_
          refine Evt.same (fun k => if_neg (by decide)) (Evt.bind sanity_f (Evt.of fun k => ?_))
          rw [if_pos rfl, if_neg (by decide), if_pos (by rw [toList_L]; rfl), v0]
          rfl
        | some x => cases hy : pat (L a1) with
          | none =>
            rw [hx] at v0 hC
            rw [hy] at v1 hC
            dsimp only at hC
            refine Evt.bind hC ?_
            refine Evt.same (fun k => if_neg (by decide)) (Evt.bind sanity_f (Evt.of fun k => ?_))
            rw [if_pos rfl, if_neg (by decide), if_pos (by rw [toList_L]; rfl), v0, v1]
            rfl
          | some y =>
            have ox := pat_ok hx
            have oy := pat_ok hy
            rw [hx, hy] at hC
            dsimp only at hC
            unfold coversA at hC
            cases hc : coversR x y with
            | none =>
              rw [hc] at hC
              dsimp only at hC
              refine Evt.bind hC ?_
              refine Evt.same (fun k => if_pos rfl) ?_
              refine Evt.same (fun k => if_pos rfl) ?_
              refine Evt.bind sanity_f ?_
              refine Evt.same (fun k => if_pos rfl) ?_
              refine Evt.bind (Match_f a1 a2 z1) ?_
              cases hm : matchS (L a1) (L a2) with
              | false => exact Evt.of fun k => if_neg (by decide)
              | true =>
                have : matchS (L a0) (L a2) = true := by
                  rw [matchS_some hy] at hm
                  rw [matchS_some hx]
                  cases hr : readA (L a2) with
                  | none => rw [hr] at hm; cases hm
                  | some a => rw [hr] at hm; exact covers_yes ox oy hc hm
                refine Evt.same (fun k => if_pos rfl) (Evt.bind (Match_f a0 a2 z0) (Evt.of fun k => ?_))
                rw [this]
            | some w =>
              obtain ⟨a, e1, e2, e3⟩ := covers_no ox oy hc
              have m1 := Match_f a1 (B w) z1
              have m0 := Match_f a0 (B w) z0
              rw [L_B, matchS_some hy, e1] at m1
              rw [L_B, matchS_some hx, e1] at m0
              simp only [e2] at m1
              simp only [e3] at m0
              rw [hc] at hC
              dsimp only at hC
              refine Evt.bind hC ?_
              refine Evt.same (fun k => if_pos rfl) ?_
              refine Evt.same (fun k => if_neg Bool.false_ne_true) ?_
              refine Evt.bind sanity_f ?_
              refine Evt.same (fun k => if_pos rfl) ?_
              refine Evt.bind m1 ?_
              refine Evt.same (fun k => if_pos rfl) ?_
              refine Evt.bind m0 ?_
              exact Evt.of fun k => rfl
end Go.Proofs.YtmokgpepeddopaaGreatDoor.P
end
