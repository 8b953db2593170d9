/- Lemmas on the way to the statement: part 1 of 3 (functions as plain Lean functions, and that each call comes to what they say). -/
import Derived.Test.YtmokgpepeddopaaGreatDoorK12
import Derived.Test.YtmokgpepeddopaaGreatDoorK15
import Derived.Test.YtmokgpepeddopaaGreatDoorK20
import Derived.Test.YtmokgpepeddopaaGreatDoorK29
import Derived.Test.YtmokgpepeddopaaGreatDoorK31
import Derived.Test.YtmokgpepeddopaaGreatDoorK18
import Derived.Test.YtmokgpepeddopaaGreatDoorK14
section
namespace Go.Proofs.YtmokgpepeddopaaGreatDoor.P
open Go.RowKit Go.Proofs.YtmokgpepeddopaaGreatDoorW.PrintWords Go.Proofs.YtmokgpepeddopaaGreatDoorW.PrintLast Go.Proofs.YtmokgpepeddopaaGreatDoorW.PrintMore
attribute [local go_sem] max2_int min2_int max_two min_two max_three min_three max_four min_four
attribute [local go_sem high] binOp_string_leq2 binOp_string_gtr2
set_option linter.unusedVariables false
set_option linter.unusedSimpArgs false
def weirgatelaw06_AddressReadsAsSpecified.j0 : Nat → ByteArray → Bool → ByteArray → List ByteArray → List (S66) → Option (Bool)
 | 0, _, _, _, _, _ => none
 | k + 1, x0, x21, x102000, x102001, x102002 => if x21 = true then ((weirgatelaw06_sanity.f k).bind fun t103 => (some t103)) else ((address_Parse.f x0).bind fun bt104 => ((address_Canonical.f k x0).bind fun bt113 => ((address_Text.f k x102000 x102001 x102002).bind fun bt115 => ((weirgateref06_Parse.f k x0).bind fun bt117 => ((weirgateref06_Canonical.f k x0).bind fun bt126 => ((weirgateref06_Text.f k x102000 x102001 x102002).bind fun bt129 => ((weirgatelaw06_sanity.f k).bind fun t132 => (if t132 = true then ((weirgateref06_Same.f k bt104.1 bt104.2.1 bt104.2.2.1 bt117.1 bt117.2.1 bt117.2.2.1).bind fun t133 => (if t133 = true then (if bt104.2.2.2 = bt117.2.2.2 then (if bt113.1.toList = bt126.1.toList then (if bt113.2 = bt126.2 then (if bt115.1.toList = bt129.1.toList then (some (bt115.2 == bt129.2)) else (some false)) else (some false)) else (some false)) else (some false)) else (some false))) else (some false)))))))))
def weirgatelaw06_AddressReadsAsSpecified.f (k : Nat) (a0 : ByteArray) (a1_0 : ByteArray) (l1_1 : List ByteArray) (l1_2 : List (S66)) : Option (Bool) := if (a0.size : Int) > 5000 then (weirgatelaw06_AddressReadsAsSpecified.j0 k a0 true a1_0 l1_1 l1_2) else ((weirgatelaw06_few.f k a1_0 l1_1 l1_2).bind fun t102 => (weirgatelaw06_AddressReadsAsSpecified.j0 k a0 (!t102) a1_0 l1_1 l1_2))
set_option maxRecDepth 100000 in
theorem weirgatelaw06_AddressReadsAsSpecified.lf {p : Prop} (h : p := by
 go_wp2_with (first
 | ((with_reducible refine gate_callee (f := 12) rfl ?_); refine goesL_ (some 25) rfl rfl Tryz.func12 (by kernel_rfl) rfl #[.string a0] rfl zl ?_; (with_reducible refine (address_Parse.calls _ _ _ _ _ _ A10.out).mono ?_); rintro e wz0 ⟨v106, v109, rfl, ho0, ho1, hb⟩; refine ⟨_, rfl, ?_⟩; have HO107 := Aside0.mk (Kd.R_lower ho0 (below_size zB)); have HO110 := Aside0.mk (Kd.R_lower ho1 (below_size zB)); replace BK101 := bb BK101 hb; replace HB := sb w hb; clear hb ho0 ho1)
 | ((with_reducible refine gate_dst (N := 5) rfl ?_); refine bx 5 #[.string (⟨#[]⟩ : ByteArray), .slice none 0 0, .slice none 0 0] 25 fun gb112 hg wz1 hbox hb => ?_; replace HO107 := rb HO107 hb; replace HO110 := rb HO110 hb; have BK112 := Aside0.mk (hbox); have GW112 := gw w hg; have GE112 := gw w hg; replace HB := sb w hb; have NB101_112 := nl hg BK101; have NB112_101 := ng hg BK101; replace BK101 := bb BK101 hb; clear hb hbox hg; have hnbz2 := NB112_101.out; have hncz2 := NB101_112.out; obtain ⟨hczz3_0, hczz3_1, hczz3_2, hfzz3_0, hfzz3_1, hfzz3_2⟩ := cf3 BK112; obtain ⟨Aoz4, coz4, eoz4⟩ := Kd.R_slice HO107.out; subst eoz4; obtain ⟨Aoz5, coz5, eoz5⟩ := Kd.R_slice HO110.out; subst eoz5)
 | ((with_reducible refine gate_callee (f := 13) rfl ?_); refine goesL_ (some 30) rfl rfl Tryz.func13 (by kernel_rfl) rfl #[.string a0] rfl zl ?_; (with_reducible refine (address_Canonical.calls _ _ _ _ _ A11.out).mono ?_); rintro e wz6 ⟨rfl, hb⟩; refine ⟨_, rfl, ?_⟩; replace HO107 := rt HO107 BK112 hb; replace HO110 := rt HO110 BK112 hb; replace BK101 := bf BK101 hb; replace BK112 := bw #[.string t104, .slice Aoz4 t105.length coz4, .slice Aoz5 t108.length coz5] BK112 hb; replace HB := sb w hb; clear hb; obtain ⟨hczz7_0, hczz7_1, hczz7_2, hfzz7_0, hfzz7_1, hfzz7_2⟩ := cf3 BK101)
 | ((with_reducible refine gate_callee (f := 14) rfl ?_); refine goesL_ (some 35) rfl rfl Tryz.func14 (by kernel_rfl) rfl #[.agg #[.string a1_0, .slice A1_1 l1_1.length c1_1, .slice A1_2 l1_2.length c1_2]] rfl zl ?_; (with_reducible refine (address_Text.calls _ _ _ _ _ _ _ _ _ _ _ ?side1 ?side2 ?side3 ?side4 A12.out).mono ?_); (case side1 => repeat (first | exact (Kd.C_below HR1_1.out HB.out) | (with_reducible refine Kd.C_alloc ?_ _) | (with_reducible refine Kd.C_drewN ?_ _) | (with_reducible refine Kd.C_drew ?_))); (case side2 => exact HC1_1.out); (case side3 => repeat (first | exact (Kd.C_below HR1_2.out HB.out) | (with_reducible refine Kd.C_alloc ?_ _) | (with_reducible refine Kd.C_drewN ?_ _) | (with_reducible refine Kd.C_drew ?_))); (case side4 => exact HC1_2.out); rintro e wz8 ⟨rfl, hb⟩; refine ⟨_, rfl, ?_⟩; replace HO107 := rb HO107 hb; replace HO110 := rb HO110 hb; replace BK101 := bb BK101 hb; replace BK112 := bb BK112 hb; replace HB := sb w hb; clear hb)
 | ((with_reducible refine gate_callee (f := 15) rfl ?_); refine goesL_ (some 39) rfl rfl Tryz.func15 (by kernel_rfl) rfl #[.string a0] rfl zl ?_; (with_reducible refine (weirgateref06_Parse.calls _ _ _ _ _ _ _ A13.out).mono ?_); rintro e wz9 ⟨v119, v122, rfl, ho0, ho1, hb⟩; refine ⟨_, rfl, ?_⟩; have HO120 := Aside0.mk (Kd.R_lower (Kd.R_new' ho0 (Kd.R_lt (kr HO107))) (below_size zB)); replace HO107 := Aside0.mk (Kd.R_elder' (kr HO107) (Kd.R_base ho0) hb); have HO123 := Aside0.mk (Kd.R_lower (Kd.R_new' ho1 (Kd.R_lt (kr HO110))) (below_size zB)); replace HO110 := Aside0.mk (Kd.R_elder' (kr HO110) (Kd.R_base ho1) hb); replace BK101 := bb BK101 hb; replace BK112 := bb BK112 hb; replace HB := sb w hb; clear hb ho0 ho1)
 | ((with_reducible refine gate_dst (N := 11) rfl ?_); refine bx 11 #[.string (⟨#[]⟩ : ByteArray), .slice none 0 0, .slice none 0 0, .int .i64 0] 35 fun gb125 hg wz10 hbox hb => ?_; replace HO107 := rb HO107 hb; replace HO110 := rb HO110 hb; replace HO120 := rb HO120 hb; replace HO123 := rb HO123 hb; have BK125 := Aside0.mk (hbox); have GW125 := gw w hg; have GE125 := gw w hg; replace HB := sb w hb; have NB101_125 := nl hg BK101; have NB125_101 := ng hg BK101; replace BK101 := bb BK101 hb; have NB112_125 := nl hg BK112; have NB125_112 := ng hg BK112; replace BK112 := bb BK112 hb; clear hb hbox hg; have hnbz11 := NB125_101.out; have hncz11 := NB101_125.out; have hnbz12 := NB125_112.out; have hncz12 := NB112_125.out; obtain ⟨hczz13_0, hczz13_1, hczz13_2, hczz13_3, hfzz13_0, hfzz13_1, hfzz13_2, hfzz13_3⟩ := cf4 BK125; obtain ⟨Aoz14, coz14, eoz14⟩ := Kd.R_slice HO120.out; subst eoz14; obtain ⟨Aoz15, coz15, eoz15⟩ := Kd.R_slice HO123.out; subst eoz15)
 | ((with_reducible refine gate_callee (f := 16) rfl ?_); refine goesL_ (some 41) rfl rfl Tryz.func16 (by kernel_rfl) rfl #[.string a0] rfl zl ?_; (with_reducible refine (weirgateref06_Canonical.calls _ _ _ _ _ A14.out).mono ?_); rintro e wz16 ⟨rfl, hb⟩; refine ⟨_, rfl, ?_⟩; replace HO107 := rt HO107 BK125 hb; replace HO110 := rt HO110 BK125 hb; replace HO120 := rt HO120 BK125 hb; replace HO123 := rt HO123 BK125 hb; replace BK101 := bf BK101 hb; replace BK112 := bf BK112 hb; replace BK125 := bw #[.string t117, .slice Aoz14 t118.length coz14, .slice Aoz15 t121.length coz15, .int .i64 t124] BK125 hb; replace HB := sb w hb; clear hb)
 | ((with_reducible refine gate_dst (N := 12) rfl ?_); refine bx 12 #[.string (⟨#[]⟩ : ByteArray), .int .i64 0] 38 fun gb128 hg wz17 hbox hb => ?_; replace HO107 := rb HO107 hb; replace HO110 := rb HO110 hb; replace HO120 := rb HO120 hb; replace HO123 := rb HO123 hb; have BK128 := Aside0.mk (hbox); have GW128 := gw w hg; have GE128 := gw w hg; replace HB := sb w hb; have NB101_128 := nl hg BK101; have NB128_101 := ng hg BK101; replace BK101 := bb BK101 hb; have NB112_128 := nl hg BK112; have NB128_112 := ng hg BK112; replace BK112 := bb BK112 hb; have NB125_128 := nl hg BK125; have NB128_125 := ng hg BK125; replace BK125 := bb BK125 hb; clear hb hbox hg; have hnbz18 := NB128_101.out; have hncz18 := NB101_128.out; have hnbz19 := NB128_112.out; have hncz19 := NB112_128.out; have hnbz20 := NB128_125.out; have hncz20 := NB125_128.out; obtain ⟨hczz21_0, hczz21_1, hfzz21_0, hfzz21_1⟩ := cf2 BK128; obtain ⟨hczz22_0, hczz22_1, hczz22_2, hfzz22_0, hfzz22_1, hfzz22_2⟩ := cf3 BK101)
 | ((with_reducible refine gate_callee (f := 17) rfl ?_); refine goesL_ (some 43) rfl rfl Tryz.func17 (by kernel_rfl) rfl #[.agg #[.string a1_0, .slice A1_1 l1_1.length c1_1, .slice A1_2 l1_2.length c1_2]] rfl zl ?_; (with_reducible refine (weirgateref06_Text.calls _ _ _ _ _ _ _ _ _ _ _ ?side1 ?side2 ?side3 ?side4 A15.out).mono ?_); (case side1 => exact Kd.C_below HR1_1.out zB); (case side2 => exact HC1_1.out); (case side3 => exact Kd.C_below HR1_2.out zB); (case side4 => exact HC1_2.out); rintro e wz23 ⟨rfl, hb⟩; refine ⟨_, rfl, ?_⟩; replace HO107 := rt HO107 BK128 hb; replace HO110 := rt HO110 BK128 hb; replace HO120 := rt HO120 BK128 hb; replace HO123 := rt HO123 BK128 hb; replace BK101 := bf BK101 hb; replace BK112 := bf BK112 hb; replace BK125 := bf BK125 hb; replace BK128 := bw #[.string t126, .int .i64 t127] BK128 hb; replace HB := sb w hb; clear hb)
 | ((with_reducible refine gate_dst (N := 13) rfl ?_); refine bx 13 #[.string (⟨#[]⟩ : ByteArray), .int .i64 0] 38 fun gb131 hg wz24 hbox hb => ?_; replace HO107 := rb HO107 hb; replace HO110 := rb HO110 hb; replace HO120 := rb HO120 hb; replace HO123 := rb HO123 hb; have BK131 := Aside0.mk (hbox); have GW131 := gw w hg; have GE131 := gw w hg; replace HB := sb w hb; have NB101_131 := nl hg BK101; have NB131_101 := ng hg BK101; replace BK101 := bb BK101 hb; have NB112_131 := nl hg BK112; have NB131_112 := ng hg BK112; replace BK112 := bb BK112 hb; have NB125_131 := nl hg BK125; have NB131_125 := ng hg BK125; replace BK125 := bb BK125 hb; have NB128_131 := nl hg BK128; have NB131_128 := ng hg BK128; replace BK128 := bb BK128 hb; clear hb hbox hg; have hnbz25 := NB131_101.out; have hncz25 := NB101_131.out; have hnbz26 := NB131_112.out; have hncz26 := NB112_131.out; have hnbz27 := NB131_125.out; have hncz27 := NB125_131.out; have hnbz28 := NB131_128.out; have hncz28 := NB128_131.out; obtain ⟨hczz29_0, hczz29_1, hfzz29_0, hfzz29_1⟩ := cf2 BK131)
 | ((with_reducible refine gate_callee (f := 11) rfl ?_); refine goesL_ (some 44) rfl rfl Tryz.func11 (by kernel_rfl) rfl #[] rfl zl ?_; (with_reducible refine (weirgatelaw06_sanity.calls _ _ _ A16.out).mono ?_); rintro e wz30 ⟨rfl, hb⟩; refine ⟨_, rfl, ?_⟩; replace HO107 := rt HO107 BK131 hb; replace HO110 := rt HO110 BK131 hb; replace HO120 := rt HO120 BK131 hb; replace HO123 := rt HO123 BK131 hb; replace BK101 := bf BK101 hb; replace BK112 := bf BK112 hb; replace BK125 := bf BK125 hb; replace BK128 := bf BK128 hb; replace BK131 := bw #[.string t129, .int .i64 t130] BK131 hb; replace HB := sb w hb; clear hb; obtain ⟨hczz31_0, hczz31_1, hczz31_2, hfzz31_0, hfzz31_1, hfzz31_2⟩ := cf3 BK112; obtain ⟨hczz32_0, hczz32_1, hczz32_2, hczz32_3, hfzz32_0, hfzz32_1, hfzz32_2, hfzz32_3⟩ := cf4 BK125)
 | (go_at_call 18; (with_reducible refine (weirgateref06_Same.calls _ _ _ _ _ _ _ _ _ _ _ _ _ _ _ _ _ ?side1 ?side2 ?side3 ?side4 ?side5 ?side6 ?side7 ?side8 A18.out).mono ?_); (case side1 => repeat (first | exact (Kd.R_reads' HO107.out).2.2 | (with_reducible refine Kd.C_alloc ?_ _) | (with_reducible refine Kd.C_drewN ?_ _) | (with_reducible refine Kd.C_drew ?_))); (case side2 => exact (Kd.R_reads' HO107.out).2.1); (case side3 => repeat (first | exact (Kd.R_reads' HO110.out).2.2 | (with_reducible refine Kd.C_alloc ?_ _) | (with_reducible refine Kd.C_drewN ?_ _) | (with_reducible refine Kd.C_drew ?_))); (case side4 => exact (Kd.R_reads' HO110.out).2.1); (case side5 => repeat (first | exact (Kd.R_reads' HO120.out).2.2 | (with_reducible refine Kd.C_alloc ?_ _) | (with_reducible refine Kd.C_drewN ?_ _) | (with_reducible refine Kd.C_drew ?_))); (case side6 => exact (Kd.R_reads' HO120.out).2.1); (case side7 => repeat (first | exact (Kd.R_reads' HO123.out).2.2 | (with_reducible refine Kd.C_alloc ?_ _) | (with_reducible refine Kd.C_drewN ?_ _) | (with_reducible refine Kd.C_drew ?_))); (case side8 => exact (Kd.R_reads' HO123.out).2.1); rintro e wz33 ⟨rfl, hb⟩; replace HO107 := rb HO107 hb; replace HO110 := rb HO110 hb; replace HO120 := rb HO120 hb; replace HO123 := rb HO123 hb; replace BK101 := bb BK101 hb; replace BK112 := bb BK112 hb; replace BK125 := bb BK125 hb; replace BK128 := bb BK128 hb; replace BK131 := bb BK131 hb; replace HB := sb w hb; clear hb; obtain ⟨hczz34_0, hczz34_1, hczz34_2, hczz34_3, hfzz34_0, hfzz34_1, hfzz34_2, hfzz34_3⟩ := cf4 BK125; obtain ⟨hczz35_0, hczz35_1, hfzz35_0, hfzz35_1⟩ := cf2 BK128; obtain ⟨hczz36_0, hczz36_1, hfzz36_0, hfzz36_1⟩ := cf2 BK131))
 go_ret; exact ⟨zE, zB⟩) : p := h
set_option maxHeartbeats 8000000 in
set_option maxRecDepth 100000 in
theorem weirgatelaw06_AddressReadsAsSpecified.calls (k : Nat) (a0 : ByteArray) (a1_0 : ByteArray) (A1_1 : Option Addr) (c1_1 : Nat) (l1_1 : List ByteArray) (A1_2 : Option Addr) (c1_2 : Nat) (l1_2 : List (S66)) (r : Bool) (w : World) (hr1_1 : Kd.C Kd.string w A1_1 l1_1.length l1_1) (hc1_1 : l1_1.length ≤ c1_1) (hr1_2 : Kd.C k66 w A1_2 l1_2.length l1_2) (hc1_2 : l1_2.length ≤ c1_2) (h : weirgatelaw06_AddressReadsAsSpecified.f k a0 a1_0 l1_1 l1_2 = some r) :
  Calls Tryz.prog 3 #[.string a0, .agg #[.string a1_0, .slice A1_1 l1_1.length c1_1, .slice A1_2 l1_2.length c1_2]] w fun e w' => e = .returned (.bool r) ∧ Below w.heap.size w w' := by
 have hu25 := Tryz.underlying25
 have hu35 := Tryz.underlying35
 have hu38 := Tryz.underlying38
 have HR1_1 := Aside0.mk hr1_1
 have HC1_1 := Aside0.mk hc1_1
 clear hr1_1 hc1_1
 have HR1_2 := Aside0.mk hr1_2
 have HC1_2 := Aside0.mk hc1_2
 clear hr1_2 hc1_2
 have HB := Aside0.mk (Below.refl w.heap.size w)
 have H : (if (a0.size : Int) > 5000 then (weirgatelaw06_AddressReadsAsSpecified.j0 k a0 true a1_0 l1_1 l1_2) else ((weirgatelaw06_few.f k a1_0 l1_1 l1_2).bind fun t102 => (weirgatelaw06_AddressReadsAsSpecified.j0 k a0 (!t102) a1_0 l1_1 l1_2))) = some r := h
 clear h
 have HC3 := Aside0.mk H
 clear H
 go_enter Tryz.func3, Tryz.ntmps3
 go_upto_region 1 with (first | ((with_reducible refine gate_dst (N := 3) rfl ?_); refine bx 3 #[.string a1_0, .slice A1_1 l1_1.length c1_1, .slice A1_2 l1_2.length c1_2] 25 fun gb101 hg w4 hbox hb => ?_; have BK101 := Aside0.mk (hbox); have GW101 := gw w hg; have GE101 := gw w hg; replace HB := sb w hb; clear hb hbox hg))
 (try simp only [Act.put, List.setIfInBounds_toArray, List.set_cons_zero, List.set_cons_succ])
 go_cut [21] (fun v21 wc => ∃ (kq : Nat) (x21_2 : Bool), v21 = .bool x21_2 ∧ Aside0 (weirgatelaw06_AddressReadsAsSpecified.j0 kq a0 x21_2 a1_0 l1_1 l1_2 = some r) ∧ Aside0 (kq ≤ k) ∧ Aside0 (wc.heap[gb101]? = some (.cells #[.string a1_0, (.slice A1_1 l1_1.length c1_1), (.slice A1_2 l1_2.length c1_2)] 25 (0, 0))) ∧ Aside0 (Below w.heap.size w wc))
 case first =>
  have H := HC3.out
  clear HC3
  by_cases c5 : (a0.size : Int) > 5000
  ·rw [if_pos c5] at H
   have c5b0 : decide (5000 < (a0.size : Int)) = true := decide_eq_true c5
   have c5b1 : decide (5000 < a0.size) = true := decide_eq_true (by omega)
   clear c5
   (first | rw [c5b0] | (simp only [i64_w, i32_w]; rw [c5b0]) | skip)
   have H' := Aside0.mk H
   clear H
   go_wp2
   go_meet
   case rel => exact ⟨_, (true), zS, H', ⟨zo⟩, ⟨kb BK101⟩, ⟨zB⟩⟩
  ·rw [if_neg c5] at H
   have c5b0 : decide (5000 < (a0.size : Int)) = false := decide_eq_false c5
   have c5b1 : decide (5000 < a0.size) = false := decide_eq_false (by omega)
   clear c5
   (first | rw [c5b0] | (simp only [i64_w, i32_w]; rw [c5b0]) | skip)
   obtain ⟨t102, A6, H⟩ := bd H
   have H' := Aside0.mk H
   clear H
   obtain ⟨hcz7_0, hcz7_1, hcz7_2, hfz7_0, hfz7_1, hfz7_2⟩ := cf3 BK101
   go_wp2_with (first | (go_at_call 10; (with_reducible refine (weirgatelaw06_few.calls k a1_0 _ _ l1_1 _ _ l1_2 t102 _ ?side1 ?side2 ?side3 ?side4 A6.out).mono ?_); (case side1 => repeat (first | exact (Kd.C_below HR1_1.out HB.out) | (with_reducible refine Kd.C_alloc ?_ _) | (with_reducible refine Kd.C_drewN ?_ _) | (with_reducible refine Kd.C_drew ?_))); (case side2 => exact HC1_1.out); (case side3 => repeat (first | exact (Kd.C_below HR1_2.out HB.out) | (with_reducible refine Kd.C_alloc ?_ _) | (with_reducible refine Kd.C_drewN ?_ _) | (with_reducible refine Kd.C_drew ?_))); (case side4 => exact HC1_2.out); rintro e w8 ⟨rfl, hb⟩; replace BK101 := bb BK101 hb; replace HB := sb w hb; clear hb))
   go_meet
   case rel => exact ⟨_, (!t102), zS, H', ⟨zo⟩, ⟨kb BK101⟩, ⟨zB⟩⟩
 case rest =>
  clear HC3
  obtain ⟨kq, x21_2, rfl, HA, HJ2, BK101, HB⟩ := hcut
  cases kq with
  | zero => exact absurd HA.out (by simp [weirgatelaw06_AddressReadsAsSpecified.j0])
  | succ kj2 =>
   have H := HA.out
   clear HA
   simp only [weirgatelaw06_AddressReadsAsSpecified.j0] at H
   by_cases c9 : x21_2 = true
   ·subst c9
    rw [if_pos rfl] at H
    obtain ⟨t103, A10, H⟩ := bd H
    obtain rfl := Option.some.inj H
    go_wp2_with (first | ((with_reducible refine gate_callee (f := 11) rfl ?_); refine goesL_ (some 22) rfl rfl Tryz.func11 (by kernel_rfl) rfl #[] rfl zl ?_; (with_reducible refine (weirgatelaw06_sanity.calls kj2  t103 _ A10.out).mono ?_); rintro e w11 ⟨rfl, hb⟩; refine ⟨_, rfl, ?_⟩; replace BK101 := bb BK101 hb; replace HB := sb w hb; clear hb))
    go_ret
    exact ⟨zE, zB⟩
   ·replace c9 := Bool.eq_false_iff.mpr c9
    subst c9
    rw [if_neg Bool.false_ne_true] at H
    obtain ⟨⟨t104, t105, t108, t111⟩, A10, H⟩ := bd H
    dsimp only at H
    obtain ⟨⟨t113, t114⟩, A11, H⟩ := bd H
    dsimp only at H
    obtain ⟨⟨t115, t116⟩, A12, H⟩ := bd H
    dsimp only at H
    obtain ⟨⟨t117, t118, t121, t124⟩, A13, H⟩ := bd H
    dsimp only at H
    obtain ⟨⟨t126, t127⟩, A14, H⟩ := bd H
    dsimp only at H
    obtain ⟨⟨t129, t130⟩, A15, H⟩ := bd H
    dsimp only at H
    obtain ⟨t132, A16, H⟩ := bd H
    by_cases c17 : t132 = true
    ·subst c17
     rw [if_pos rfl] at H
     obtain ⟨t133, A18, H⟩ := bd H
     by_cases c19 : t133 = true
     ·subst c19
      rw [if_pos rfl] at H
      by_cases c20 : t111 = t124
      ·rw [if_pos c20] at H
       have c20b0 : (t111 == t124) = true := beq_iff_eq.mpr c20
       have c20b1 : (t111 != t124) = false := bne_eq_false_iff_eq.mpr c20
       clear c20
       by_cases c21 : t113.toList = t126.toList
       ·rw [if_pos c21] at H
        have c21b0 : (t113.toList == t126.toList) = true := beq_iff_eq.mpr c21
        have c21b1 : (t113.toList != t126.toList) = false := bne_eq_false_iff_eq.mpr c21
        clear c21
        by_cases c22 : t114 = t127
        ·rw [if_pos c22] at H
         have c22b0 : (t114 == t127) = true := beq_iff_eq.mpr c22
         have c22b1 : (t114 != t127) = false := bne_eq_false_iff_eq.mpr c22
         clear c22
         by_cases c23 : t115.toList = t129.toList
         ·rw [if_pos c23] at H
          have c23b0 : (t115.toList == t129.toList) = true := beq_iff_eq.mpr c23
          have c23b1 : (t115.toList != t129.toList) = false := bne_eq_false_iff_eq.mpr c23
          clear c23
          obtain rfl := Option.some.inj H
          exact weirgatelaw06_AddressReadsAsSpecified.lf
         ·rw [if_neg c23] at H
          have c23b0 : (t115.toList == t129.toList) = false := beq_eq_false_iff_ne.mpr c23
          have c23b1 : (t115.toList != t129.toList) = true := bne_iff_ne.mpr c23
          obtain rfl := Option.some.inj H
          exact weirgatelaw06_AddressReadsAsSpecified.lf
        ·rw [if_neg c22] at H
         have c22b0 : (t114 == t127) = false := beq_eq_false_iff_ne.mpr c22
         have c22b1 : (t114 != t127) = true := bne_iff_ne.mpr c22
         obtain rfl := Option.some.inj H
         exact weirgatelaw06_AddressReadsAsSpecified.lf
       ·rw [if_neg c21] at H
        have c21b0 : (t113.toList == t126.toList) = false := beq_eq_false_iff_ne.mpr c21
        have c21b1 : (t113.toList != t126.toList) = true := bne_iff_ne.mpr c21
        obtain rfl := Option.some.inj H
        exact weirgatelaw06_AddressReadsAsSpecified.lf
      ·rw [if_neg c20] at H
       have c20b0 : (t111 == t124) = false := beq_eq_false_iff_ne.mpr c20
       have c20b1 : (t111 != t124) = true := bne_iff_ne.mpr c20
       obtain rfl := Option.some.inj H
       exact weirgatelaw06_AddressReadsAsSpecified.lf
     ·replace c19 := Bool.eq_false_iff.mpr c19
      subst c19
      rw [if_neg Bool.false_ne_true] at H
      obtain rfl := Option.some.inj H
      exact weirgatelaw06_AddressReadsAsSpecified.lf
    ·replace c17 := Bool.eq_false_iff.mpr c17
     subst c17
     rw [if_neg Bool.false_ne_true] at H
     obtain rfl := Option.some.inj H
     exact weirgatelaw06_AddressReadsAsSpecified.lf
end Go.Proofs.YtmokgpepeddopaaGreatDoor.P
end
