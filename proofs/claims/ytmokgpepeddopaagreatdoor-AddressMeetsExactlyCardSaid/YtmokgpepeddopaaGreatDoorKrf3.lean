/- Lemmas on the way to the statement: part 3 of 4 (functions as plain Lean functions, and that each call comes to what they say). -/
import Derived.Test.YtmokgpepeddopaaGreatDoorK32
import Derived.Test.YtmokgpepeddopaaGreatDoorKrf1
import Derived.Test.YtmokgpepeddopaaGreatDoorKrf2
section
namespace Go.Proofs.YtmokgpepeddopaaGreatDoor.P
open Go.RowKit Go.Proofs.YtmokgpepeddopaaGreatDoorW.PrintWords Go.Proofs.YtmokgpepeddopaaGreatDoorW.PrintLast Go.Proofs.YtmokgpepeddopaaGreatDoorW.PrintMore
open Go.Proofs.YtmokgpepeddopaaGreatDoor.Addr
set_option linter.unusedSimpArgs false
set_option linter.unusedVariables false
theorem Valid_f (s : ByteArray) (hs : s.size < 4294967281) : address_Valid.f s = some (pat (L s)).isSome := by
  unfold address_Valid.f
  cases h : pat (L s) with
  | none => obtain ⟨r1, r2, r3, r4, hr⟩ := compile_none hs h; rw [hr]; rfl
  | some x => rw [compile_some hs h]; rfl
theorem matchS_some {p : Str} {x : Pat} (h : pat p = some x) (s : Str) : matchS p s = match readA s with | some a => matchP x a | none => false := by
  unfold matchS
  rw [h]
  cases readA s <;> rfl
theorem covers_true (a0 a1 a2 : ByteArray) : Evt (fun k => weirgatelaw06_AddressCoversExactly.f k a0 a1 a2) true := by
  have hs : ∀ x, x = true → Evt (fun k => weirgatelaw06_AddressCoversExactly.j0 k a0 a1 a2 x) true := fun x hx => by
    subst hx
    refine Evt.step (g := fun k => (weirgatelaw06_sanity.f k).bind fun t => some t) (fun k => ?_) (Evt.bind sanity_f (Evt.of fun _ => rfl))
    simp only [weirgatelaw06_AddressCoversExactly.j0]
    rw [if_pos trivial]
  unfold weirgatelaw06_AddressCoversExactly.f
  by_cases h1 : (a0.size : Int) > 1000
  · exact Evt.same (fun k => if_pos h1) (hs _ rfl)
  · refine Evt.same (fun k => if_neg h1) ?_
    by_cases h2 : (a1.size : Int) > 1000
    · exact Evt.same (fun k => if_pos h2) (hs _ rfl)
    · refine Evt.same (fun k => if_neg h2) ?_
      by_cases h3 : (a2.size : Int) > 5000
      · rw [decide_eq_true h3]; exact hs _ rfl
      · rw [decide_eq_false h3]
        have z0 : a0.size < 4294967281 := by omega
        have z1 : a1.size < 4294967281 := by omega
        refine Evt.step (fun k => by simp only [weirgatelaw06_AddressCoversExactly.j0]; rw [if_neg (by decide)]) ?_
        have hC := Covers_f a0 a1 z0 z1
        have v0 := Valid_f a0 z0
        have v1 := Valid_f a1 z1
        unfold coversS at hC
        cases hx : pat (L a0) with
        | none =>
          rw [hx] at v0 hC
          dsimp only at hC
          refine Evt.bind hC ?_
          refine Evt.same (fun k => if_neg (by decide)) (Evt.bind sanity_f (Evt.of fun k => ?_))
          rw [if_pos rfl, if_neg (by decide), if_pos (by rw [toList_L]; rfl), v0]
          rfl
        | some x => cases hy : pat (L a1) with
          | none =>
            rw [hx] at v0 hC
            rw [hy] at v1 hC
            dsimp only at hC
            refine Evt.bind hC ?_
            refine Evt.same (fun k => if_neg (by decide)) (Evt.bind sanity_f (Evt.of fun k => ?_))
            rw [if_pos rfl, if_neg (by decide), if_pos (by rw [toList_L]; rfl), v0, v1]
            rfl
          | some y =>
            have ox := pat_ok hx
            have oy := pat_ok hy
            rw [hx, hy] at hC
            dsimp only at hC
            unfold coversA at hC
            cases hc : coversR x y with
            | none =>
              rw [hc] at hC
              dsimp only at hC
              refine Evt.bind hC ?_
              refine Evt.same (fun k => if_pos rfl) ?_
              refine Evt.same (fun k => if_pos rfl) ?_
              refine Evt.bind sanity_f ?_
              refine Evt.same (fun k => if_pos rfl) ?_
              refine Evt.bind (Match_f a1 a2 z1) ?_
              cases hm : matchS (L a1) (L a2) with
              | false => exact Evt.of fun k => if_neg (by decide)
              | true =>
                have : matchS (L a0) (L a2) = true := by
                  rw [matchS_some hy] at hm
                  rw [matchS_some hx]
                  cases hr : readA (L a2) with
                  | none => rw [hr] at hm; cases hm
                  | some a => rw [hr] at hm; exact covers_yes ox oy hc hm
                refine Evt.same (fun k => if_pos rfl) (Evt.bind (Match_f a0 a2 z0) (Evt.of fun k => ?_))
                rw [this]
            | some w =>
              obtain ⟨a, e1, e2, e3⟩ := covers_no ox oy hc
              have m1 := Match_f a1 (B w) z1
              have m0 := Match_f a0 (B w) z0
              rw [L_B, matchS_some hy, e1] at m1
              rw [L_B, matchS_some hx, e1] at m0
              simp only [e2] at m1
              simp only [e3] at m0
              rw [hc] at hC
              dsimp only at hC
              refine Evt.bind hC ?_
              refine Evt.same (fun k => if_pos rfl) ?_
              refine Evt.same (fun k => if_neg Bool.false_ne_true) ?_
              refine Evt.bind sanity_f ?_
              refine Evt.same (fun k => if_pos rfl) ?_
              refine Evt.bind m1 ?_
              refine Evt.same (fun k => if_pos rfl) ?_
              refine Evt.bind m0 ?_
              exact Evt.of fun k => rfl
theorem both_match {x y : Pat} {p q : Str} (hx : pat p = some x) (hy : pat q = some y) (s : Str) (z : Pat) (hz : ∀ a, matchP z a = (matchP x a && matchP y a)) {t : Str} (ht : pat t = some z) : matchS t s = (matchS p s && matchS q s) := by
  rw [matchS_some hx, matchS_some hy, matchS_some ht]
  cases readA s with
  | none => rfl
  | some a => exact hz a
theorem patT_len {z : Pat} (oz : PatOk z) : (patT z).length ≤ 4096 := by
  have hlz := oz.len
  have h := joinB_le ((partT z.cust :: z.parts.map partT) ++ (if z.tail = true then [[42, 42]] else [])) 65 (fun x hx => by
    rcases List.mem_append.1 hx with hx | hx
    · rcases List.mem_cons.1 hx with rfl | hx
      · exact partT_len oz.cust
      · obtain ⟨p, hp, rfl⟩ := List.mem_map.1 hx
        exact partT_len (oz.parts p hp)
    · cases ht : z.tail <;> rw [ht] at hx <;> simp at hx
      subst hx; decide)
  have h2 : ((partT z.cust :: z.parts.map partT) ++ (if z.tail = true then [[42, 42]] else [])).length ≤ 33 := by
    cases ht : z.tail <;> rw [ht] at hlz <;> simp at hlz ⊢ <;> omega
  unfold patT
  omega
theorem meets_j3 (a0 a1 a2 : ByteArray) (z0 : a0.size < 4294967281) (z1 : a1.size < 4294967281) {x y : Pat} (hx : pat (L a0) = some x) (hy : pat (L a1) = some y) (cov : Bool) (hcov : cov = true → commonP x y = some y) :
    Evt (fun k => weirgatelaw06_AddressMeetsExactly.j3 k a0 a1 a2 (meetA x y).1 (meetA x y).2.1 cov (bothA x y).1 (matchS (L a0) (L a2) && matchS (L a1) (L a2))) true := by
  have ox := pat_ok hx
  have oy := pat_ok hy
  unfold meetA bothA
  cases hz : commonP x y with
  | none =>
    refine Evt.step (fun k => by simp only [weirgatelaw06_AddressMeetsExactly.j3]; rw [if_neg Bool.false_ne_true]) ?_
    refine Evt.bind sanity_f ?_
    refine Evt.same (fun k => if_pos rfl) ?_
    refine Evt.of fun k => ?_
    rw [if_pos (by rw [toList_L]; rfl)]
    have : (matchS (L a0) (L a2) && matchS (L a1) (L a2)) = false := by
      rw [matchS_some hx, matchS_some hy]
      cases readA (L a2) with
      | none => rfl
      | some a =>
        have := commonP_none ox oy hz a
        simp only
        cases h1 : matchP x a <;> cases h2 : matchP y a <;> simp_all
    rw [this]; rfl
  | some z =>
    obtain ⟨oz, hzm⟩ := commonP_some ox oy hz
    obtain ⟨e1, e2⟩ := example_ok oz
    rw [hzm, Bool.and_eq_true] at e2
    have m0 := Match_f a0 (B (exT (z.cust.wth [97]) (wthL z.parts))) z0
    have m1 := Match_f a1 (B (exT (z.cust.wth [97]) (wthL z.parts))) z1
    rw [L_B, matchS_some hx, e1] at m0
    rw [L_B, matchS_some hy, e1] at m1
    simp only [e2.1] at m0
    simp only [e2.2] at m1
    have hlen : (B (patT z)).size < 4294967281 := by
      have := patT_len oz
      rw [B_size]; omega
    have m2 := Match_f (B (patT z)) a2 hlen
    rw [L_B, both_match hx hy (L a2) z hzm (pat_patT oz)] at m2
    refine Evt.step (fun k => by simp only [weirgatelaw06_AddressMeetsExactly.j3]; rw [if_pos trivial]) ?_
    refine Evt.bind sanity_f ?_
    refine Evt.same (fun k => if_pos rfl) ?_
    refine Evt.bind m0 ?_
    refine Evt.same (fun k => if_pos rfl) ?_
    refine Evt.bind m1 ?_
    refine Evt.same (fun k => if_pos rfl) ?_
    refine Evt.bind m2 ?_
    refine Evt.same (fun k => if_pos (by simp)) ?_
    cases cov with
    | false => exact Evt.of fun k => if_neg Bool.false_ne_true
    | true =>
      have := hcov rfl
      rw [hz] at this
      injection this with this
      subst this
      refine Evt.of fun k => ?_
      rw [if_pos rfl, toList_L, toList_L, L_B, patT_pat hy]
      simp
theorem meets_j1 (a0 a1 a2 : ByteArray) (z0 : a0.size < 4294967281) (z1 : a1.size < 4294967281) {x y : Pat} (hx : pat (L a0) = some x) (hy : pat (L a1) = some y) (cov : Bool) (hcov : cov = true → commonP x y = some y) :
    Evt (fun k => weirgatelaw06_AddressMeetsExactly.j1 k a0 a1 a2 (meetA x y).1 (meetA x y).2.1 cov false) true := by
  have h3 := meets_j3 a0 a1 a2 z0 z1 hx hy cov hcov
  have hb := Both_f a0 a1 z0 z1
  unfold bothS at hb
  rw [hx, hy] at hb
  dsimp only at hb
  have e1 : ((bothA x y).2.1 != (meetA x y).1) = false := by unfold bothA meetA; cases commonP x y <;> rfl
  have e2 : ((bothA x y).2.2 != 0) = false := by unfold bothA; cases commonP x y <;> rfl
  refine Evt.step (fun k => by simp only [weirgatelaw06_AddressMeetsExactly.j1]; rw [if_neg Bool.false_ne_true]) ?_
  refine Evt.bind hb ?_
  rw [e1, e2]
  refine Evt.same (fun k => if_neg Bool.false_ne_true) ?_
  refine Evt.step (fun k => by simp only [weirgatelaw06_AddressMeetsExactly.j2]; rw [if_neg Bool.false_ne_true]) ?_
  refine Evt.bind (Match_f a0 a2 z0) ?_
  cases hm : matchS (L a0) (L a2) with
  | false =>
    rw [hm] at h3
    exact Evt.same (fun k => if_neg Bool.false_ne_true) h3
  | true =>
    rw [hm, Bool.true_and] at h3
    refine Evt.same (fun k => if_pos rfl) ?_
    exact Evt.bind (Match_f a1 a2 z1) h3
theorem meets_true (a0 a1 a2 : ByteArray) : Evt (fun k => weirgatelaw06_AddressMeetsExactly.f k a0 a1 a2) true := by
  have hs : ∀ x, x = true → Evt (fun k => weirgatelaw06_AddressMeetsExactly.j0 k a0 a1 a2 x) true := fun x hx => by
    subst hx
    refine Evt.step (g := fun k => (weirgatelaw06_sanity.f k).bind fun t => some t) (fun k => ?_) (Evt.bind sanity_f (Evt.of fun _ => rfl))
    simp only [weirgatelaw06_AddressMeetsExactly.j0]
    rw [if_pos trivial]
  unfold weirgatelaw06_AddressMeetsExactly.f
  by_cases h1 : (a0.size : Int) > 1000
  · exact Evt.same (fun k => if_pos h1) (hs _ rfl)
  · refine Evt.same (fun k => if_neg h1) ?_
    by_cases h2 : (a1.size : Int) > 1000
    · exact Evt.same (fun k => if_pos h2) (hs _ rfl)
    · refine Evt.same (fun k => if_neg h2) ?_
      by_cases h3 : (a2.size : Int) > 5000
      · rw [decide_eq_true h3]; exact hs _ rfl
      · rw [decide_eq_false h3]
        have z0 : a0.size < 4294967281 := by omega
        have z1 : a1.size < 4294967281 := by omega
        refine Evt.step (fun k => by simp only [weirgatelaw06_AddressMeetsExactly.j0]; rw [if_neg (by decide)]) ?_
        have hM := Meet_f a0 a1 z0 z1
        have hN := Meet_f a1 a0 z1 z0
        have hC := Covers_f a0 a0 z0 z0
        have hD := Covers_f a0 a1 z0 z1
        have hbad : meetS (L a0) (L a1) = (false, ⟨#[]⟩, 1) → meetS (L a1) (L a0) = (false, ⟨#[]⟩, 1) → Evt (fun k => (address_Meet.f k a0 a1).bind fun bt102 => (address_Meet.f k a1 a0).bind fun bt105 => some (bt102.2.2 == 1 && bt105.2.2 == 1)) true := fun e1 e2 => by
          rw [e1] at hM; rw [e2] at hN
          exact Evt.bind hM (Evt.bind hN (Evt.of fun _ => rfl))
        cases hx : pat (L a0) with
        | none =>
          have e1 : meetS (L a0) (L a1) = (false, ⟨#[]⟩, 1) := by unfold meetS; rw [hx]
          have e2 : meetS (L a1) (L a0) = (false, ⟨#[]⟩, 1) := by unfold meetS; rw [hx]; cases pat (L a1) <;> rfl
          rw [e1] at hM
          rw [e2] at hN
          refine Evt.bind hM ?_
          refine Evt.bind hN ?_
          refine Evt.same (fun k => if_neg (by decide)) ?_
          refine Evt.bind sanity_f ?_
          exact Evt.of fun k => rfl
        | some x => cases hy : pat (L a1) with
          | none =>
            have e1 : meetS (L a0) (L a1) = (false, ⟨#[]⟩, 1) := by unfold meetS; rw [hx, hy]
            have e2 : meetS (L a1) (L a0) = (false, ⟨#[]⟩, 1) := by unfold meetS; rw [hx, hy]
            rw [e1] at hM
            rw [e2] at hN
            refine Evt.bind hM ?_
            refine Evt.bind hN ?_
            refine Evt.same (fun k => if_neg (by decide)) ?_
            refine Evt.bind sanity_f ?_
            exact Evt.of fun k => rfl
          | some y =>
            have ox := pat_ok hx
            have oy := pat_ok hy
            have e1 : meetS (L a0) (L a1) = meetA x y := by unfold meetS; rw [hx, hy]
            have e2 : meetS (L a1) (L a0) = meetA y x := by unfold meetS; rw [hx, hy]
            have e3 : coversS (L a0) (L a0) = (true, ⟨#[]⟩, 0) := by unfold coversS; rw [hx]; dsimp only; unfold coversA; rw [coversR_refl ox]
            have e4 : coversS (L a0) (L a1) = coversA x y := by unfold coversS; rw [hx, hy]
            rw [e1] at hM
            rw [e2] at hN
            rw [e3] at hC
            rw [e4] at hD
            have f1 : (meetA x y).2.2 = 0 := by unfold meetA; cases commonP x y <;> rfl
            have f2 : (meetA y x).2.2 = 0 := by unfold meetA; cases commonP y x <;> rfl
            have f3 : ((meetA y x).1 != (meetA x y).1) = false := by
              have := commonP_symm ox oy
              unfold meetA
              cases h : commonP x y <;> cases h' : commonP y x <;> rw [h, h'] at this <;> first | rfl | cases this
            have f4 : (coversA x y).2.2 = 0 := by unfold coversA; cases coversR x y <;> rfl
            have f5 : (coversA x y).1 = true → commonP x y = some y := fun h => by
              unfold coversA at h
              cases hc : coversR x y with
              | none => exact covers_common ox oy hc
              | some w => rw [hc] at h; cases h
            refine Evt.bind hM ?_
            refine Evt.bind hN ?_
            refine Evt.same (fun k => if_pos f1) ?_
            refine Evt.bind hC ?_
            refine Evt.bind hD ?_
            rw [f3]
            refine Evt.same (fun k => if_neg Bool.false_ne_true) ?_
            refine Evt.same (fun k => if_pos f2) ?_
            refine Evt.same (fun k => if_pos rfl) ?_
            refine Evt.same (fun k => if_pos f4) ?_
            refine Evt.same (fun k => if_pos rfl) ?_
            have hj := meets_j1 a0 a1 a2 z0 z1 hx hy (coversA x y).1 f5
            by_cases hc : (coversA x y).1 = true
            · refine Evt.same (fun k => if_pos hc) ?_
              have : (meetA x y).1 = true := by unfold meetA; rw [f5 hc]
              rw [show (!(meetA x y).1) = false by rw [this]; rfl]
              exact hj
            · exact Evt.same (fun k => if_neg hc) hj
end Go.Proofs.YtmokgpepeddopaaGreatDoor.P
end
