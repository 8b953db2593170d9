/- Lemmas on the way to the statement: part 1 of 3 (functions as plain Lean functions, and that each call comes to what they say). -/
import Derived.Test.YtmokgpepeddopaaGreatDoorK12
import Derived.Test.YtmokgpepeddopaaGreatDoorK15
import Derived.Test.YtmokgpepeddopaaGreatDoorK20
import Derived.Test.YtmokgpepeddopaaGreatDoorK29
import Derived.Test.YtmokgpepeddopaaGreatDoorK31
section
namespace Go.Proofs.YtmokgpepeddopaaGreatDoor.P
open Go.RowKit Go.Proofs.YtmokgpepeddopaaGreatDoorW.PrintWords Go.Proofs.YtmokgpepeddopaaGreatDoorW.PrintLast Go.Proofs.YtmokgpepeddopaaGreatDoorW.PrintMore
attribute [local go_sem] max2_int min2_int max_two min_two max_three min_three max_four min_four
attribute [local go_sem high] binOp_string_leq2 binOp_string_gtr2
set_option linter.unusedVariables false
set_option linter.unusedSimpArgs false
mutual
def weirgatelaw06_AddressTextsReturn.j0 : Nat → ByteArray → Bool → ByteArray → List ByteArray → List (S66) → Option (Bool)
 | 0, _, _, _, _, _ => none
 | k + 1, x0, x24, x102000, x102001, x102002 => if x24 = true then ((weirgatelaw06_sanity.f k).bind fun t103 => (some t103)) else ((address_Parse.f x0).bind fun bt104 => (if bt104.2.2.2 = 0 then ((address_Canonical.f k x0).bind fun bt113 => ((address_Canonical.f k bt113.1).bind fun bt115 => ((address_Parse.f bt113.1).bind fun bt117 => (if bt113.2 = 0 then (if bt115.2 = 0 then (if bt117.2.2.2 = 0 then (if bt113.1.toList = bt115.1.toList then (if (bt113.1.size : Int) > (x0.size : Int) then (some false) else ((weirgateref06_Same.f k bt104.1 bt104.2.1 bt104.2.2.1 bt117.1 bt117.2.1 bt117.2.2.1).bind fun t126 => (if t126 = true then (weirgatelaw06_AddressTextsReturn.j1 k x102000 x102001 x102002) else (some false)))) else (some false)) else (some false)) else (some false)) else (some false))))) else (weirgatelaw06_AddressTextsReturn.j1 k x102000 x102001 x102002)))
def weirgatelaw06_AddressTextsReturn.j1 : Nat → ByteArray → List ByteArray → List (S66) → Option (Bool)
 | 0, _, _, _ => none
 | k + 1, x102000, x102001, x102002 => (address_Text.f k x102000 x102001 x102002).bind fun bt127 => (if bt127.2 = 0 then ((address_Parse.f bt127.1).bind fun bt129 => ((weirgatelaw06_sanity.f k).bind fun t138 => (if t138 = true then (if bt129.2.2.2 = 0 then ((weirgateref06_Same.f k x102000 x102001 x102002 bt129.1 bt129.2.1 bt129.2.2.1).bind fun t139 => (some t139)) else (some false)) else (some false)))) else ((weirgatelaw06_sanity.f k).bind fun t140 => (if t140 = true then (some (bt127.1.toList == ([] : List UInt8))) else (some false))))
end
def weirgatelaw06_AddressTextsReturn.f (k : Nat) (a0 : ByteArray) (a1_0 : ByteArray) (l1_1 : List ByteArray) (l1_2 : List (S66)) : Option (Bool) := if (a0.size : Int) > 5000 then (weirgatelaw06_AddressTextsReturn.j0 k a0 true a1_0 l1_1 l1_2) else ((weirgatelaw06_few.f k a1_0 l1_1 l1_2).bind fun t102 => (weirgatelaw06_AddressTextsReturn.j0 k a0 (!t102) a1_0 l1_1 l1_2))
set_option maxRecDepth 100000 in
theorem weirgatelaw06_AddressTextsReturn.lf {p : Prop} (h : p := by
 go_wp2_with (first
 | ((with_reducible refine gate_callee (f := 13) rfl ?_); refine goesL_ (some 35) rfl rfl Tryz.func13 (by kernel_rfl) rfl #[.string a0] rfl zl ?_; (with_reducible refine (address_Canonical.calls _ _ _ _ _ A19.out).mono ?_); rintro e wz0 ⟨rfl, hb⟩; refine ⟨_, rfl, ?_⟩; replace HO107 := rt HO107 BK112 hb; replace HO110 := rt HO110 BK112 hb; replace BK101 := bf BK101 hb; replace BK112 := bw #[.string t104, .slice Ao16 t105.length co16, .slice Ao17 t108.length co17] BK112 hb; replace HB := sb w hb; clear hb)
 | ((with_reducible refine gate_callee (f := 13) rfl ?_); refine goesL_ (some 40) rfl rfl Tryz.func13 (by kernel_rfl) rfl #[.string t113] rfl zl ?_; (with_reducible refine (address_Canonical.calls _ _ _ _ _ A20.out).mono ?_); rintro e wz1 ⟨rfl, hb⟩; refine ⟨_, rfl, ?_⟩; replace HO107 := rb HO107 hb; replace HO110 := rb HO110 hb; replace BK101 := bb BK101 hb; replace BK112 := bb BK112 hb; replace HB := sb w hb; clear hb)
 | ((with_reducible refine gate_callee (f := 12) rfl ?_); refine goesL_ (some 45) rfl rfl Tryz.func12 (by kernel_rfl) rfl #[.string t113] rfl zl ?_; (with_reducible refine (address_Parse.calls _ _ _ _ _ _ A21.out).mono ?_); rintro e wz2 ⟨v119, v122, rfl, ho0, ho1, hb⟩; refine ⟨_, rfl, ?_⟩; have HO120 := Aside0.mk (Kd.R_lower (Kd.R_new' ho0 (Kd.R_lt (kr HO107))) (below_size zB)); replace HO107 := Aside0.mk (Kd.R_elder' (kr HO107) (Kd.R_base ho0) hb); have HO123 := Aside0.mk (Kd.R_lower (Kd.R_new' ho1 (Kd.R_lt (kr HO110))) (below_size zB)); replace HO110 := Aside0.mk (Kd.R_elder' (kr HO110) (Kd.R_base ho1) hb); replace BK101 := bb BK101 hb; replace BK112 := bb BK112 hb; replace HB := sb w hb; clear hb ho0 ho1)
 | ((with_reducible refine gate_dst (N := 11) rfl ?_); (try (refine gate_guard (by rfl) ?_; dsimp only)); refine bx 11 #[.string (⟨#[]⟩ : ByteArray), .slice none 0 0, .slice none 0 0] 25 fun gb125 hg wz3 hbox hb => ?_; replace HO107 := rb HO107 hb; replace HO110 := rb HO110 hb; replace HO120 := rb HO120 hb; replace HO123 := rb HO123 hb; have BK125 := Aside0.mk (hbox); have GW125 := gw w hg; have GE125 := gw w hg; replace HB := sb w hb; have NB101_125 := nl hg BK101; have NB125_101 := ng hg BK101; replace BK101 := bb BK101 hb; have NB112_125 := nl hg BK112; have NB125_112 := ng hg BK112; replace BK112 := bb BK112 hb; clear hb hbox hg; have hnbz4 := NB125_101.out; have hncz4 := NB101_125.out; have hnbz5 := NB125_112.out; have hncz5 := NB112_125.out; obtain ⟨hczz6_0, hczz6_1, hczz6_2, hfzz6_0, hfzz6_1, hfzz6_2⟩ := cf3 BK125; obtain ⟨Aoz7, coz7, eoz7⟩ := Kd.R_slice HO120.out; subst eoz7; obtain ⟨Aoz8, coz8, eoz8⟩ := Kd.R_slice HO123.out; subst eoz8; have hnbz9 := NB112_101.out; have hncz9 := NB101_112.out; obtain ⟨hczz10_0, hczz10_1, hczz10_2, hfzz10_0, hfzz10_1, hfzz10_2⟩ := cf3 BK112)
 | ((with_reducible refine gate_dst (N := 11) rfl ?_); (try (refine gate_guard (by rfl) ?_; dsimp only)); refine bx 11 #[.string (⟨#[]⟩ : ByteArray), .slice none 0 0, .slice none 0 0] 25 fun gb125 hg wz3 hbox hb => ?_; replace HO107 := rb HO107 hb; replace HO110 := rb HO110 hb; replace HO120 := rb HO120 hb; replace HO123 := rb HO123 hb; have BK125 := Aside0.mk (hbox); have GW125 := gw w hg; have GE125 := gw w hg; replace HB := sb w hb; have NB101_125 := nl hg BK101; have NB125_101 := ng hg BK101; replace BK101 := bb BK101 hb; have NB112_125 := nl hg BK112; have NB125_112 := ng hg BK112; replace BK112 := bb BK112 hb; clear hb hbox hg; have hnbz4 := NB125_101.out; have hncz4 := NB101_125.out; have hnbz5 := NB125_112.out; have hncz5 := NB112_125.out; obtain ⟨hczz6_0, hczz6_1, hczz6_2, hfzz6_0, hfzz6_1, hfzz6_2⟩ := cf3 BK125; obtain ⟨Aoz7, coz7, eoz7⟩ := Kd.R_slice HO120.out; subst eoz7; obtain ⟨Aoz8, coz8, eoz8⟩ := Kd.R_slice HO123.out; subst eoz8)
 | (go_at_call 18; (with_reducible refine (weirgateref06_Same.calls _ _ _ _ _ _ _ _ _ _ _ _ _ _ _ _ _ ?side1 ?side2 ?side3 ?side4 ?side5 ?side6 ?side7 ?side8 A27.out).mono ?_); (case side1 => refine (Kd.R_reads' (e := 9) (base := w.heap.size) (ok := fun k_ => (True ∧ some k_ ≠ (.slice Aoz7 t118.length coz7 : Value).ownBlock)) (n := t105.length) (c := co16) ?_).2.2; exact (kt HO107 BK125)); (case side2 => exact (Kd.R_reads' HO107.out).2.1); (case side3 => refine (Kd.R_reads' (e := 66) (base := w.heap.size) (ok := fun k_ => (True ∧ some k_ ≠ (.slice Aoz8 t121.length coz8 : Value).ownBlock)) (n := t108.length) (c := co17) ?_).2.2; exact (kt HO110 BK125)); (case side4 => exact (Kd.R_reads' HO110.out).2.1); (case side5 => refine (Kd.R_reads' (e := 9) (base := w.heap.size) (ok := fun k_ => (True ∧ some k_ ≠ (.slice Ao16 t105.length co16 : Value).ownBlock)) (n := t118.length) (c := coz7) ?_).2.2; exact (kt HO120 BK125)); (case side6 => exact (Kd.R_reads' HO120.out).2.1); (case side7 => refine (Kd.R_reads' (e := 66) (base := w.heap.size) (ok := fun k_ => (True ∧ some k_ ≠ (.slice Ao17 t108.length co17 : Value).ownBlock)) (n := t121.length) (c := coz8) ?_).2.2; exact (kt HO123 BK125)); (case side8 => exact (Kd.R_reads' HO123.out).2.1); rintro e wz11 ⟨rfl, hb⟩; replace HO107 := rt HO107 BK125 hb; replace HO110 := rt HO110 BK125 hb; replace HO120 := rt HO120 BK125 hb; replace HO123 := rt HO123 BK125 hb; replace BK101 := bf BK101 hb; replace BK112 := bf BK112 hb; replace BK125 := bw #[.string t117, .slice Aoz7 t118.length coz7, .slice Aoz8 t121.length coz8] BK125 hb; replace HB := sb w hb; clear hb)
 | ((with_reducible refine gate_callee (f := 14) rfl ?_); refine goesL_ (some 78) rfl rfl Tryz.func14 (by kernel_rfl) rfl #[.agg #[.string a1_0, .slice A1_1 l1_1.length c1_1, .slice A1_2 l1_2.length c1_2]] rfl zl ?_; (with_reducible refine (address_Text.calls _ _ _ _ _ _ _ _ _ _ _ ?side1 ?side2 ?side3 ?side4 A19.out).mono ?_); (case side1 => repeat (first | exact (Kd.C_below HR1_1.out HB.out) | (with_reducible refine Kd.C_alloc ?_ _) | (with_reducible refine Kd.C_drewN ?_ _) | (with_reducible refine Kd.C_drew ?_))); (case side2 => exact HC1_1.out); (case side3 => repeat (first | exact (Kd.C_below HR1_2.out HB.out) | (with_reducible refine Kd.C_alloc ?_ _) | (with_reducible refine Kd.C_drewN ?_ _) | (with_reducible refine Kd.C_drew ?_))); (case side4 => exact HC1_2.out); rintro e wz0 ⟨rfl, hb⟩; refine ⟨_, rfl, ?_⟩; replace HO_113001 := rb HO_113001 hb; replace HO_113002 := rb HO_113002 hb; replace BK101 := bb BK101 hb; replace BK112 := bb BK112 hb; replace HB := sb w hb; clear hb)
 | ((with_reducible refine gate_callee (f := 12) rfl ?_); refine goesL_ (some 90) rfl rfl Tryz.func12 (by kernel_rfl) rfl #[.string t127] rfl zl ?_; (with_reducible refine (address_Parse.calls _ _ _ _ _ _ A21.out).mono ?_); rintro e wz1 ⟨v131, v134, rfl, ho0, ho1, hb⟩; refine ⟨_, rfl, ?_⟩; have HO132 := Aside0.mk (Kd.R_lower (Kd.R_new' ho0 (Kd.R_lt (kr HO_113001))) (below_size zB)); replace HO_113001 := Aside0.mk (Kd.R_elder' (kr HO_113001) (Kd.R_base ho0) hb); have HO135 := Aside0.mk (Kd.R_lower (Kd.R_new' ho1 (Kd.R_lt (kr HO_113002))) (below_size zB)); replace HO_113002 := Aside0.mk (Kd.R_elder' (kr HO_113002) (Kd.R_base ho1) hb); replace BK101 := bb BK101 hb; replace BK112 := bb BK112 hb; replace HB := sb w hb; clear hb ho0 ho1)
 | ((with_reducible refine gate_dst (N := 15) rfl ?_); (try (refine gate_guard (by rfl) ?_; dsimp only)); refine bx 15 #[.string (⟨#[]⟩ : ByteArray), .slice none 0 0, .slice none 0 0] 25 fun gb137 hg wz2 hbox hb => ?_; replace HO_113001 := rb HO_113001 hb; replace HO_113002 := rb HO_113002 hb; replace HO132 := rb HO132 hb; replace HO135 := rb HO135 hb; have BK137 := Aside0.mk (hbox); have GW137 := gw w hg; have GE137 := gw w hg; replace HB := sb w hb; have NB101_137 := nl hg BK101; have NB137_101 := ng hg BK101; replace BK101 := bb BK101 hb; have NB112_137 := nl hg BK112; have NB137_112 := ng hg BK112; replace BK112 := bb BK112 hb; clear hb hbox hg; have hnbz3 := NB137_101.out; have hncz3 := NB101_137.out; have hnbz4 := NB137_112.out; have hncz4 := NB112_137.out; obtain ⟨hczz5_0, hczz5_1, hczz5_2, hfzz5_0, hfzz5_1, hfzz5_2⟩ := cf3 BK137; obtain ⟨Aoz6, coz6, eoz6⟩ := Kd.R_slice HO132.out; subst eoz6; obtain ⟨Aoz7, coz7, eoz7⟩ := Kd.R_slice HO135.out; subst eoz7)
 | ((with_reducible refine gate_callee (f := 11) rfl ?_); refine goesL_ (some 93) rfl rfl Tryz.func11 (by kernel_rfl) rfl #[] rfl zl ?_; (with_reducible refine (weirgatelaw06_sanity.calls _ _ _ A22.out).mono ?_); rintro e wz8 ⟨rfl, hb⟩; refine ⟨_, rfl, ?_⟩; replace HO_113001 := rt HO_113001 BK137 hb; replace HO_113002 := rt HO_113002 BK137 hb; replace HO132 := rt HO132 BK137 hb; replace HO135 := rt HO135 BK137 hb; replace BK101 := bf BK101 hb; replace BK112 := bf BK112 hb; replace BK137 := bw #[.string t129, .slice Aoz6 t130.length coz6, .slice Aoz7 t133.length coz7] BK137 hb; replace HB := sb w hb; clear hb; obtain ⟨hczz9_0, hczz9_1, hczz9_2, hfzz9_0, hfzz9_1, hfzz9_2⟩ := cf3 BK101; obtain ⟨hczz10_0, hczz10_1, hczz10_2, hfzz10_0, hfzz10_1, hfzz10_2⟩ := cf3 BK137)
 | (go_at_call 18; (with_reducible refine (weirgateref06_Same.calls _ _ _ _ _ _ _ _ _ _ _ _ _ _ _ _ _ ?side1 ?side2 ?side3 ?side4 ?side5 ?side6 ?side7 ?side8 A25.out).mono ?_); (case side1 => repeat (first | exact (Kd.C_below HR1_1.out HB.out) | (with_reducible refine Kd.C_alloc ?_ _) | (with_reducible refine Kd.C_drewN ?_ _) | (with_reducible refine Kd.C_drew ?_))); (case side2 => exact HC1_1.out); (case side3 => repeat (first | exact (Kd.C_below HR1_2.out HB.out) | (with_reducible refine Kd.C_alloc ?_ _) | (with_reducible refine Kd.C_drewN ?_ _) | (with_reducible refine Kd.C_drew ?_))); (case side4 => exact HC1_2.out); (case side5 => repeat (first | exact (Kd.R_reads' HO132.out).2.2 | (with_reducible refine Kd.C_alloc ?_ _) | (with_reducible refine Kd.C_drewN ?_ _) | (with_reducible refine Kd.C_drew ?_))); (case side6 => exact (Kd.R_reads' HO132.out).2.1); (case side7 => repeat (first | exact (Kd.R_reads' HO135.out).2.2 | (with_reducible refine Kd.C_alloc ?_ _) | (with_reducible refine Kd.C_drewN ?_ _) | (with_reducible refine Kd.C_drew ?_))); (case side8 => exact (Kd.R_reads' HO135.out).2.1); rintro e wz11 ⟨rfl, hb⟩; replace HO_113001 := rb HO_113001 hb; replace HO_113002 := rb HO_113002 hb; replace HO132 := rb HO132 hb; replace HO135 := rb HO135 hb; replace BK101 := bb BK101 hb; replace BK112 := bb BK112 hb; replace BK137 := bb BK137 hb; replace HB := sb w hb; clear hb)
 | ((with_reducible refine gate_callee (f := 11) rfl ?_); refine goesL_ (some 83) rfl rfl Tryz.func11 (by kernel_rfl) rfl #[] rfl zl ?_; (with_reducible refine (weirgatelaw06_sanity.calls _ _ _ A21.out).mono ?_); rintro e wz1 ⟨rfl, hb⟩; refine ⟨_, rfl, ?_⟩; replace HO_113001 := rb HO_113001 hb; replace HO_113002 := rb HO_113002 hb; replace BK101 := bb BK101 hb; replace BK112 := bb BK112 hb; replace HB := sb w hb; clear hb))
 go_ret; exact ⟨zE, zB⟩) : p := h
set_option maxHeartbeats 8000000 in
set_option maxRecDepth 100000 in
theorem weirgatelaw06_AddressTextsReturn.calls (k : Nat) (a0 : ByteArray) (a1_0 : ByteArray) (A1_1 : Option Addr) (c1_1 : Nat) (l1_1 : List ByteArray) (A1_2 : Option Addr) (c1_2 : Nat) (l1_2 : List (S66)) (r : Bool) (w : World) (hr1_1 : Kd.C Kd.string w A1_1 l1_1.length l1_1) (hc1_1 : l1_1.length ≤ c1_1) (hr1_2 : Kd.C k66 w A1_2 l1_2.length l1_2) (hc1_2 : l1_2.length ≤ c1_2) (h : weirgatelaw06_AddressTextsReturn.f k a0 a1_0 l1_1 l1_2 = some r) :
  Calls Tryz.prog 5 #[.string a0, .agg #[.string a1_0, .slice A1_1 l1_1.length c1_1, .slice A1_2 l1_2.length c1_2]] w fun e w' => e = .returned (.bool r) ∧ Below w.heap.size w w' := by
 have hu25 := Tryz.underlying25
 have HR1_1 := Aside0.mk hr1_1
 have HC1_1 := Aside0.mk hc1_1
 clear hr1_1 hc1_1
 have HR1_2 := Aside0.mk hr1_2
 have HC1_2 := Aside0.mk hc1_2
 clear hr1_2 hc1_2
 have HB := Aside0.mk (Below.refl w.heap.size w)
 have H : (if (a0.size : Int) > 5000 then (weirgatelaw06_AddressTextsReturn.j0 k a0 true a1_0 l1_1 l1_2) else ((weirgatelaw06_few.f k a1_0 l1_1 l1_2).bind fun t102 => (weirgatelaw06_AddressTextsReturn.j0 k a0 (!t102) a1_0 l1_1 l1_2))) = some r := h
 clear h
 have HC3 := Aside0.mk H
 clear H
 go_enter Tryz.func5, Tryz.ntmps5
 go_upto_region 1 with (first | ((with_reducible refine gate_dst (N := 3) rfl ?_); (try (refine gate_guard (by rfl) ?_; dsimp only)); refine bx 3 #[.string a1_0, .slice A1_1 l1_1.length c1_1, .slice A1_2 l1_2.length c1_2] 25 fun gb101 hg w4 hbox hb => ?_; have BK101 := Aside0.mk (hbox); have GW101 := gw w hg; have GE101 := gw w hg; replace HB := sb w hb; clear hb hbox hg))
 (try simp only [Act.put, List.setIfInBounds_toArray, List.set_cons_zero, List.set_cons_succ])
 go_cut [24] (fun v24 wc => ∃ (kq : Nat) (x24_2 : Bool), v24 = .bool x24_2 ∧ Aside0 (weirgatelaw06_AddressTextsReturn.j0 kq a0 x24_2 a1_0 l1_1 l1_2 = some r) ∧ Aside0 (kq ≤ k) ∧ Aside0 (wc.heap[gb101]? = some (.cells #[.string a1_0, (.slice A1_1 l1_1.length c1_1), (.slice A1_2 l1_2.length c1_2)] 25 (0, 0))) ∧ Aside0 (Below w.heap.size w wc))
 case first =>
  have H := HC3.out
  clear HC3
  by_cases c5 : (a0.size : Int) > 5000
  ·rw [if_pos c5] at H
   have c5b0 : decide (5000 < (a0.size : Int)) = true := decide_eq_true c5
   have c5b1 : decide (5000 < a0.size) = true := decide_eq_true (by omega)
   clear c5
   (first | rw [c5b0] | (simp only [i64_w, i32_w]; rw [c5b0]) | skip)
   have H' := Aside0.mk H
   clear H
   go_wp2
   go_meet
   case rel => exact ⟨_, (true), zS, H', ⟨zo⟩, ⟨kb BK101⟩, ⟨zB⟩⟩
  ·rw [if_neg c5] at H
   have c5b0 : decide (5000 < (a0.size : Int)) = false := decide_eq_false c5
   have c5b1 : decide (5000 < a0.size) = false := decide_eq_false (by omega)
   clear c5
   (first | rw [c5b0] | (simp only [i64_w, i32_w]; rw [c5b0]) | skip)
   obtain ⟨t102, A6, H⟩ := bd H
   have H' := Aside0.mk H
   clear H
   obtain ⟨hcz7_0, hcz7_1, hcz7_2, hfz7_0, hfz7_1, hfz7_2⟩ := cf3 BK101
   go_wp2_with (first | (go_at_call 10; (with_reducible refine (weirgatelaw06_few.calls k a1_0 _ _ l1_1 _ _ l1_2 t102 _ ?side1 ?side2 ?side3 ?side4 A6.out).mono ?_); (case side1 => repeat (first | exact (Kd.C_below HR1_1.out HB.out) | (with_reducible refine Kd.C_alloc ?_ _) | (with_reducible refine Kd.C_drewN ?_ _) | (with_reducible refine Kd.C_drew ?_))); (case side2 => exact HC1_1.out); (case side3 => repeat (first | exact (Kd.C_below HR1_2.out HB.out) | (with_reducible refine Kd.C_alloc ?_ _) | (with_reducible refine Kd.C_drewN ?_ _) | (with_reducible refine Kd.C_drew ?_))); (case side4 => exact HC1_2.out); rintro e w8 ⟨rfl, hb⟩; replace BK101 := bb BK101 hb; replace HB := sb w hb; clear hb))
   go_meet
   case rel => exact ⟨_, (!t102), zS, H', ⟨zo⟩, ⟨kb BK101⟩, ⟨zB⟩⟩
 case rest =>
  clear HC3
  obtain ⟨kq, x24_2, rfl, HA, HJ2, BK101, HB⟩ := hcut
  cases kq with
  | zero => exact absurd HA.out (by simp [weirgatelaw06_AddressTextsReturn.j0])
  | succ kj2 =>
   have H := HA.out
   clear HA
   simp only [weirgatelaw06_AddressTextsReturn.j0] at H
   by_cases c9 : x24_2 = true
   ·subst c9
    rw [if_pos rfl] at H
    obtain ⟨t103, A10, H⟩ := bd H
    obtain rfl := Option.some.inj H
    go_wp2_with (first | ((with_reducible refine gate_callee (f := 11) rfl ?_); refine goesL_ (some 25) rfl rfl Tryz.func11 (by kernel_rfl) rfl #[] rfl zl ?_; (with_reducible refine (weirgatelaw06_sanity.calls kj2  t103 _ A10.out).mono ?_); rintro e w11 ⟨rfl, hb⟩; refine ⟨_, rfl, ?_⟩; replace BK101 := bb BK101 hb; replace HB := sb w hb; clear hb))
    go_ret
    exact ⟨zE, zB⟩
   ·replace c9 := Bool.eq_false_iff.mpr c9
    subst c9
    rw [if_neg Bool.false_ne_true] at H
    obtain ⟨⟨t104, t105, t108, t111⟩, A10, H⟩ := bd H
    dsimp only at H
    have HC11 := Aside0.mk H
    clear H
    go_upto_if 32 with (first | ((with_reducible refine gate_callee (f := 12) rfl ?_); refine goesL_ (some 28) rfl rfl Tryz.func12 (by kernel_rfl) rfl #[.string a0] rfl zl ?_; (with_reducible refine (address_Parse.calls a0 t104 t105 t108 t111 _ A10.out).mono ?_); rintro e w12 ⟨v106, v109, rfl, ho0, ho1, hb⟩; refine ⟨_, rfl, ?_⟩; have HO107 := Aside0.mk (Kd.R_lower ho0 (below_size zB)); have HO110 := Aside0.mk (Kd.R_lower ho1 (below_size zB)); replace BK101 := bb BK101 hb; replace HB := sb w hb; clear hb ho0 ho1) | ((with_reducible refine gate_dst (N := 5) rfl ?_); (try (refine gate_guard (by rfl) ?_; dsimp only)); refine bx 5 #[.string (⟨#[]⟩ : ByteArray), .slice none 0 0, .slice none 0 0] 25 fun gb112 hg w13 hbox hb => ?_; replace HO107 := rb HO107 hb; replace HO110 := rb HO110 hb; have BK112 := Aside0.mk (hbox); have GW112 := gw w hg; have GE112 := gw w hg; replace HB := sb w hb; have NB101_112 := nl hg BK101; have NB112_101 := ng hg BK101; replace BK101 := bb BK101 hb; clear hb hbox hg; have hnb14 := NB112_101.out; have hnc14 := NB101_112.out; obtain ⟨hcz15_0, hcz15_1, hcz15_2, hfz15_0, hfz15_1, hfz15_2⟩ := cf3 BK112; obtain ⟨Ao16, co16, eo16⟩ := Kd.R_slice HO107.out; subst eo16; obtain ⟨Ao17, co17, eo17⟩ := Kd.R_slice HO110.out; subst eo17))
    (try simp only [Act.put, List.setIfInBounds_toArray, List.set_cons_zero, List.set_cons_succ])
    go_cut [] (fun wc => ∃ (kq : Nat), Aside0 (weirgatelaw06_AddressTextsReturn.j1 kq a1_0 l1_1 l1_2 = some r) ∧ Aside0 (kq ≤ kj2) ∧ Aside0 (Kd.R Kd.string 9 wc w.heap.size (fun _ => True) (.slice Ao16 t105.length co16) t105) ∧ Aside0 (Kd.R k66 66 wc w.heap.size (fun _ => True) (.slice Ao17 t108.length co17) t108) ∧ Aside0 (wc.heap[gb101]? = some (.cells #[.string a1_0, (.slice A1_1 l1_1.length c1_1), (.slice A1_2 l1_2.length c1_2)] 25 (0, 0))) ∧ Aside0 (wc.heap[gb112]? = some (.cells #[.string t104, (.slice Ao16 t105.length co16), (.slice Ao17 t108.length co17)] 25 (0, 0))) ∧ Aside0 (Below w.heap.size w wc))
    case first =>
     have H := HC11.out
     clear HC11
     by_cases c18 : t111 = 0
     ·rw [if_pos c18] at H
      have c18b0 : (t111 == 0) = true := beq_iff_eq.mpr c18
      have c18b1 : (t111 != 0) = false := bne_eq_false_iff_eq.mpr c18
      clear c18
      (first | rw [c18b0] | (simp only [i64_w, i32_w]; rw [c18b0]) | skip)
      obtain ⟨⟨t113, t114⟩, A19, H⟩ := bd H
      dsimp only at H
      obtain ⟨⟨t115, t116⟩, A20, H⟩ := bd H
      dsimp only at H
      obtain ⟨⟨t117, t118, t121, t124⟩, A21, H⟩ := bd H
      dsimp only at H
      by_cases c22 : t114 = 0
      ·rw [if_pos c22] at H
       have c22b0 : (t114 == 0) = true := beq_iff_eq.mpr c22
       have c22b1 : (t114 != 0) = false := bne_eq_false_iff_eq.mpr c22
       clear c22
       by_cases c23 : t116 = 0
       ·rw [if_pos c23] at H
        have c23b0 : (t116 == 0) = true := beq_iff_eq.mpr c23
        have c23b1 : (t116 != 0) = false := bne_eq_false_iff_eq.mpr c23
        clear c23
        by_cases c24 : t124 = 0
        ·rw [if_pos c24] at H
         have c24b0 : (t124 == 0) = true := beq_iff_eq.mpr c24
         have c24b1 : (t124 != 0) = false := bne_eq_false_iff_eq.mpr c24
         clear c24
         by_cases c25 : t113.toList = t115.toList
         ·rw [if_pos c25] at H
          have c25b0 : (t113.toList == t115.toList) = true := beq_iff_eq.mpr c25
          have c25b1 : (t113.toList != t115.toList) = false := bne_eq_false_iff_eq.mpr c25
          clear c25
          by_cases c26 : (t113.size : Int) > (a0.size : Int)
          ·rw [if_pos c26] at H
           have c26b0 : decide ((a0.size : Int) < (t113.size : Int)) = true := decide_eq_true c26
           have c26b1 : decide (a0.size < t113.size) = true := decide_eq_true (Int.ofNat_lt.mp c26)
           have c26q1 : a0.size < t113.size := of_decide_eq_true c26b1
           clear c26
           obtain rfl := Option.some.inj H
           exact weirgatelaw06_AddressTextsReturn.lf
          ·rw [if_neg c26] at H
           have c26b0 : decide ((a0.size : Int) < (t113.size : Int)) = false := decide_eq_false c26
           have c26b1 : decide (a0.size < t113.size) = false := decide_eq_false (fun h => c26 (Int.ofNat_lt.mpr h))
           have c26q1 : ¬ (a0.size < t113.size) := of_decide_eq_false c26b1
           clear c26
           obtain ⟨t126, A27, H⟩ := bd H
           by_cases c28 : t126 = true
           ·subst c28
            rw [if_pos rfl] at H
            have H' := Aside0.mk H
            clear H
            go_wp2_with (first | ((with_reducible refine gate_callee (f := 13) rfl ?_); refine goesL_ (some 35) rfl rfl Tryz.func13 (by kernel_rfl) rfl #[.string a0] rfl zl ?_; (with_reducible refine (address_Canonical.calls kj2 a0 t113 t114 _ A19.out).mono ?_); rintro e w29 ⟨rfl, hb⟩; refine ⟨_, rfl, ?_⟩; replace HO107 := rt HO107 BK112 hb; replace HO110 := rt HO110 BK112 hb; replace BK101 := bf BK101 hb; replace BK112 := bw #[.string t104, .slice Ao16 t105.length co16, .slice Ao17 t108.length co17] BK112 hb; replace HB := sb w hb; clear hb) | ((with_reducible refine gate_callee (f := 13) rfl ?_); refine goesL_ (some 40) rfl rfl Tryz.func13 (by kernel_rfl) rfl #[.string t113] rfl zl ?_; (with_reducible refine (address_Canonical.calls kj2 t113 t115 t116 _ A20.out).mono ?_); rintro e w30 ⟨rfl, hb⟩; refine ⟨_, rfl, ?_⟩; replace HO107 := rb HO107 hb; replace HO110 := rb HO110 hb; replace BK101 := bb BK101 hb; replace BK112 := bb BK112 hb; replace HB := sb w hb; clear hb) | ((with_reducible refine gate_callee (f := 12) rfl ?_); refine goesL_ (some 45) rfl rfl Tryz.func12 (by kernel_rfl) rfl #[.string t113] rfl zl ?_; (with_reducible refine (address_Parse.calls t113 t117 t118 t121 t124 _ A21.out).mono ?_); rintro e w31 ⟨v119, v122, rfl, ho0, ho1, hb⟩; refine ⟨_, rfl, ?_⟩; have HO120 := Aside0.mk (Kd.R_lower (Kd.R_new' ho0 (Kd.R_lt (kr HO107))) (below_size zB)); replace HO107 := Aside0.mk (Kd.R_elder' (kr HO107) (Kd.R_base ho0) hb); have HO123 := Aside0.mk (Kd.R_lower (Kd.R_new' ho1 (Kd.R_lt (kr HO110))) (below_size zB)); replace HO110 := Aside0.mk (Kd.R_elder' (kr HO110) (Kd.R_base ho1) hb); replace BK101 := bb BK101 hb; replace BK112 := bb BK112 hb; replace HB := sb w hb; clear hb ho0 ho1) | ((with_reducible refine gate_dst (N := 11) rfl ?_); (try (refine gate_guard (by rfl) ?_; dsimp only)); refine bx 11 #[.string (⟨#[]⟩ : ByteArray), .slice none 0 0, .slice none 0 0] 25 fun gb125 hg w32 hbox hb => ?_; replace HO107 := rb HO107 hb; replace HO110 := rb HO110 hb; replace HO120 := rb HO120 hb; replace HO123 := rb HO123 hb; have BK125 := Aside0.mk (hbox); have GW125 := gw w hg; have GE125 := gw w hg; replace HB := sb w hb; have NB101_125 := nl hg BK101; have NB125_101 := ng hg BK101; replace BK101 := bb BK101 hb; have NB112_125 := nl hg BK112; have NB125_112 := ng hg BK112; replace BK112 := bb BK112 hb; clear hb hbox hg; have hnb33 := NB125_101.out; have hnc33 := NB101_125.out; have hnb34 := NB125_112.out; have hnc34 := NB112_125.out; obtain ⟨hcz35_0, hcz35_1, hcz35_2, hfz35_0, hfz35_1, hfz35_2⟩ := cf3 BK125; obtain ⟨Ao36, co36, eo36⟩ := Kd.R_slice HO120.out; subst eo36; obtain ⟨Ao37, co37, eo37⟩ := Kd.R_slice HO123.out; subst eo37; have hnb38 := NB112_101.out; have hnc38 := NB101_112.out; obtain ⟨hcz39_0, hcz39_1, hcz39_2, hfz39_0, hfz39_1, hfz39_2⟩ := cf3 BK112) | (go_at_call 18; (with_reducible refine (weirgateref06_Same.calls kj2 t104 _ _ t105 _ _ t108 t117 _ _ t118 _ _ t121 true _ ?side1 ?side2 ?side3 ?side4 ?side5 ?side6 ?side7 ?side8 A27.out).mono ?_); (case side1 => refine (Kd.R_reads' (e := 9) (base := w.heap.size) (ok := fun k_ => (True ∧ some k_ ≠ (.slice Ao36 t118.length co36 : Value).ownBlock)) (n := t105.length) (c := co16) ?_).2.2; exact (kt HO107 BK125)); (case side2 => exact (Kd.R_reads' HO107.out).2.1); (case side3 => refine (Kd.R_reads' (e := 66) (base := w.heap.size) (ok := fun k_ => (True ∧ some k_ ≠ (.slice Ao37 t121.length co37 : Value).ownBlock)) (n := t108.length) (c := co17) ?_).2.2; exact (kt HO110 BK125)); (case side4 => exact (Kd.R_reads' HO110.out).2.1); (case side5 => refine (Kd.R_reads' (e := 9) (base := w.heap.size) (ok := fun k_ => (True ∧ some k_ ≠ (.slice Ao16 t105.length co16 : Value).ownBlock)) (n := t118.length) (c := co36) ?_).2.2; exact (kt HO120 BK125)); (case side6 => exact (Kd.R_reads' HO120.out).2.1); (case side7 => refine (Kd.R_reads' (e := 66) (base := w.heap.size) (ok := fun k_ => (True ∧ some k_ ≠ (.slice Ao17 t108.length co17 : Value).ownBlock)) (n := t121.length) (c := co37) ?_).2.2; exact (kt HO123 BK125)); (case side8 => exact (Kd.R_reads' HO123.out).2.1); rintro e w40 ⟨rfl, hb⟩; replace HO107 := rt HO107 BK125 hb; replace HO110 := rt HO110 BK125 hb; replace HO120 := rt HO120 BK125 hb; replace HO123 := rt HO123 BK125 hb; replace BK101 := bf BK101 hb; replace BK112 := bf BK112 hb; replace BK125 := bw #[.string t117, .slice Ao36 t118.length co36, .slice Ao37 t121.length co37] BK125 hb; replace HB := sb w hb; clear hb))
            go_meet
            case rel => exact ⟨_, H', ⟨by have := HJ2.out; first | omega | exact Nat.le_refl _⟩, ⟨by (with_reducible repeat (first | apply Kd.R_alloc | apply Kd.R_drewN | apply Kd.R_drew)); exact Kd.R_mono HO107.out (fun _ hk => trivial)⟩, ⟨by (with_reducible repeat (first | apply Kd.R_alloc | apply Kd.R_drewN | apply Kd.R_drew)); exact Kd.R_mono HO110.out (fun _ hk => trivial)⟩, ⟨kb BK101⟩, ⟨kb BK112⟩, ⟨zB⟩⟩
           ·replace c28 := Bool.eq_false_iff.mpr c28
            subst c28
            rw [if_neg Bool.false_ne_true] at H
            obtain rfl := Option.some.inj H
            exact weirgatelaw06_AddressTextsReturn.lf
         ·rw [if_neg c25] at H
          have c25b0 : (t113.toList == t115.toList) = false := beq_eq_false_iff_ne.mpr c25
          have c25b1 : (t113.toList != t115.toList) = true := bne_iff_ne.mpr c25
          obtain rfl := Option.some.inj H
          exact weirgatelaw06_AddressTextsReturn.lf
        ·rw [if_neg c24] at H
         have c24b0 : (t124 == 0) = false := beq_eq_false_iff_ne.mpr c24
         have c24b1 : (t124 != 0) = true := bne_iff_ne.mpr c24
         obtain rfl := Option.some.inj H
         exact weirgatelaw06_AddressTextsReturn.lf
       ·rw [if_neg c23] at H
        have c23b0 : (t116 == 0) = false := beq_eq_false_iff_ne.mpr c23
        have c23b1 : (t116 != 0) = true := bne_iff_ne.mpr c23
        obtain rfl := Option.some.inj H
        exact weirgatelaw06_AddressTextsReturn.lf
      ·rw [if_neg c22] at H
       have c22b0 : (t114 == 0) = false := beq_eq_false_iff_ne.mpr c22
       have c22b1 : (t114 != 0) = true := bne_iff_ne.mpr c22
       obtain rfl := Option.some.inj H
       exact weirgatelaw06_AddressTextsReturn.lf
     ·rw [if_neg c18] at H
      have c18b0 : (t111 == 0) = false := beq_eq_false_iff_ne.mpr c18
      have c18b1 : (t111 != 0) = true := bne_iff_ne.mpr c18
      (first | rw [c18b0] | (simp only [i64_w, i32_w]; rw [c18b0]) | skip)
      have H' := Aside0.mk H
      clear H
      go_wp2
      go_meet
      case rel => exact ⟨_, H', ⟨by have := HJ2.out; first | omega | exact Nat.le_refl _⟩, ⟨by (with_reducible repeat (first | apply Kd.R_alloc | apply Kd.R_drewN | apply Kd.R_drew)); exact Kd.R_mono (Kd.R_far (p := ⟨gb112, 2, none⟩) (Kd.R_far (p := ⟨gb112, 1, none⟩) (Kd.R_far (p := ⟨gb112, 0, none⟩) (Kd.R_types HO107.out BK112.out (by decide)) (fun _ hk => hk.2) (.string t104)) (fun _ hk => hk.2) (.slice Ao16 t105.length co16)) (fun _ hk => hk.2) (.slice Ao17 t108.length co17)) (fun _ hk => trivial)⟩, ⟨by (with_reducible repeat (first | apply Kd.R_alloc | apply Kd.R_drewN | apply Kd.R_drew)); exact Kd.R_mono (Kd.R_far (p := ⟨gb112, 2, none⟩) (Kd.R_far (p := ⟨gb112, 1, none⟩) (Kd.R_far (p := ⟨gb112, 0, none⟩) (Kd.R_types HO110.out BK112.out (by decide)) (fun _ hk => hk.2) (.string t104)) (fun _ hk => hk.2) (.slice Ao16 t105.length co16)) (fun _ hk => hk.2) (.slice Ao17 t108.length co17)) (fun _ hk => trivial)⟩, ⟨kf BK101⟩, ⟨kp _ BK112⟩, ⟨zB⟩⟩
    case rest =>
     clear HC11
     obtain ⟨kq, HA, HJ10, HO_113001, HO_113002, BK101, BK112, HB⟩ := hcut
     cases kq with
     | zero => exact absurd HA.out (by simp [weirgatelaw06_AddressTextsReturn.j1])
     | succ kj10 =>
      have H := HA.out
      clear HA
      simp only [weirgatelaw06_AddressTextsReturn.j1] at H
      obtain ⟨⟨t127, t128⟩, A19, H⟩ := bd H
      dsimp only at H
      by_cases c20 : t128 = 0
      ·rw [if_pos c20] at H
       have c20b0 : (t128 == 0) = true := beq_iff_eq.mpr c20
       have c20b1 : (t128 != 0) = false := bne_eq_false_iff_eq.mpr c20
       clear c20
       obtain ⟨⟨t129, t130, t133, t136⟩, A21, H⟩ := bd H
       dsimp only at H
       obtain ⟨t138, A22, H⟩ := bd H
       by_cases c23 : t138 = true
       ·subst c23
        rw [if_pos rfl] at H
        by_cases c24 : t136 = 0
        ·rw [if_pos c24] at H
         have c24b0 : (t136 == 0) = true := beq_iff_eq.mpr c24
         have c24b1 : (t136 != 0) = false := bne_eq_false_iff_eq.mpr c24
         clear c24
         obtain ⟨t139, A25, H⟩ := bd H
         obtain rfl := Option.some.inj H
         have hnb26 := NB101_112.out
         have hnc26 := NB112_101.out
         obtain ⟨hcz27_0, hcz27_1, hcz27_2, hfz27_0, hfz27_1, hfz27_2⟩ := cf3 BK101
         exact weirgatelaw06_AddressTextsReturn.lf
        ·rw [if_neg c24] at H
         have c24b0 : (t136 == 0) = false := beq_eq_false_iff_ne.mpr c24
         have c24b1 : (t136 != 0) = true := bne_iff_ne.mpr c24
         obtain rfl := Option.some.inj H
         have hnb25 := NB101_112.out
         have hnc25 := NB112_101.out
         obtain ⟨hcz26_0, hcz26_1, hcz26_2, hfz26_0, hfz26_1, hfz26_2⟩ := cf3 BK101
         exact weirgatelaw06_AddressTextsReturn.lf
       ·replace c23 := Bool.eq_false_iff.mpr c23
        subst c23
        rw [if_neg Bool.false_ne_true] at H
        obtain rfl := Option.some.inj H
        have hnb24 := NB101_112.out
        have hnc24 := NB112_101.out
        obtain ⟨hcz25_0, hcz25_1, hcz25_2, hfz25_0, hfz25_1, hfz25_2⟩ := cf3 BK101
        exact weirgatelaw06_AddressTextsReturn.lf
      ·rw [if_neg c20] at H
       have c20b0 : (t128 == 0) = false := beq_eq_false_iff_ne.mpr c20
       have c20b1 : (t128 != 0) = true := bne_iff_ne.mpr c20
       obtain ⟨t140, A21, H⟩ := bd H
       by_cases c22 : t140 = true
       ·subst c22
        rw [if_pos rfl] at H
        obtain rfl := Option.some.inj H
        have hnb23 := NB101_112.out
        have hnc23 := NB112_101.out
        obtain ⟨hcz24_0, hcz24_1, hcz24_2, hfz24_0, hfz24_1, hfz24_2⟩ := cf3 BK101
        exact weirgatelaw06_AddressTextsReturn.lf
       ·replace c22 := Bool.eq_false_iff.mpr c22
        subst c22
        rw [if_neg Bool.false_ne_true] at H
        obtain rfl := Option.some.inj H
        have hnb23 := NB101_112.out
        have hnc23 := NB112_101.out
        obtain ⟨hcz24_0, hcz24_1, hcz24_2, hfz24_0, hfz24_1, hfz24_2⟩ := cf3 BK101
        exact weirgatelaw06_AddressTextsReturn.lf
end Go.Proofs.YtmokgpepeddopaaGreatDoor.P
end
