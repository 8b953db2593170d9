/- Lemmas on the way to the statement: part 18 of 34 (functions as plain Lean functions, and that each call comes to what they say). -/
import Derived.Test.YtmokgpepeddopaaGreatDoorL12
import Derived.Test.YtmokgpepeddopaaGreatDoorL13
import Derived.Test.YtmokgpepeddopaaGreatDoorL17
import Derived.Test.YtmokgpepeddopaaGreatDoorL14
import Derived.Test.YtmokgpepeddopaaGreatDoorL15
section
namespace Go.Proofs.YtmokgpepeddopaaGreatDoor.P
open Go.RowKit Go.Proofs.YtmokgpepeddopaaGreatDoorW.PrintWords Go.Proofs.YtmokgpepeddopaaGreatDoorW.PrintLast Go.Proofs.YtmokgpepeddopaaGreatDoorW.PrintMore
attribute [local go_sem] max2_int min2_int max_two min_two max_three min_three max_four min_four
attribute [local go_sem high] binOp_string_leq2 binOp_string_gtr2
set_option linter.unusedVariables false
set_option linter.unusedSimpArgs false
def weirgateref06_Parse.f (k : Nat) (a0 : ByteArray) : Option (ByteArray × List ByteArray × (List (S66)) × Int) := if (a0.size : Int) > 4096 then (some ((⟨#[]⟩ : ByteArray), ([] : List ByteArray), ([] : List (S66)), 2)) else ((weirgateref06_small.f a0).bind fun t102 => ((weirgateref06_cut.f k t102 63).bind fun bt103 => (if (bt103.1.size : Int) > 0 then (if 0 ≤ (wrap64 ((bt103.1.size : Int) - 1)) then (if (wrap64 ((bt103.1.size : Int) - 1)) < (bt103.1.size : Int) then (if (bt bt103.1 (wrap64 ((bt103.1.size : Int) - 1))) = 47 then (if (wrap64 ((bt103.1.size : Int) - 1)) ≤ (bt103.1.size : Int) then ((weirgateref06_split.f k (bt103.1.extract 0 ((wrap64 ((bt103.1.size : Int) - 1)) : Int).toNat) 47).bind fun t106 => (if 0 < (t106.length : Int) then ((weirgateref06_Name.f k (rdOf ByteArray.empty t106 0)).bind fun t110 => (if t110 = true then (if 1 ≤ (t106.length : Int) then ((weirgateref06_path.f k (t106.drop 1)).bind fun bt115 => ((weirgateref06_query.f k bt103.2.1).bind fun bt119 => (if bt115.2 = true then (if bt119.2 = true then (if (bt115.1.length : Int) > 32 then (some ((⟨#[]⟩ : ByteArray), ([] : List ByteArray), ([] : List (S66)), 2)) else (if (bt119.1.length : Int) > 16 then (some ((⟨#[]⟩ : ByteArray), ([] : List ByteArray), ([] : List (S66)), 2)) else (some (rdOf ByteArray.empty t106 0, bt115.1, bt119.1, 0)))) else (some ((⟨#[]⟩ : ByteArray), ([] : List ByteArray), ([] : List (S66)), 3))) else (some ((⟨#[]⟩ : ByteArray), ([] : List ByteArray), ([] : List (S66)), 3))))) else (none)) else (some ((⟨#[]⟩ : ByteArray), ([] : List ByteArray), ([] : List (S66)), 3)))) else (none))) else (none)) else ((weirgateref06_split.f k bt103.1 47).bind fun t124 => (if 0 < (t124.length : Int) then ((weirgateref06_Name.f k (rdOf ByteArray.empty t124 0)).bind fun t128 => (if t128 = true then (if 1 ≤ (t124.length : Int) then ((weirgateref06_path.f k (t124.drop 1)).bind fun bt133 => ((weirgateref06_query.f k bt103.2.1).bind fun bt137 => (if bt133.2 = true then (if bt137.2 = true then (if (bt133.1.length : Int) > 32 then (some ((⟨#[]⟩ : ByteArray), ([] : List ByteArray), ([] : List (S66)), 2)) else (if (bt137.1.length : Int) > 16 then (some ((⟨#[]⟩ : ByteArray), ([] : List ByteArray), ([] : List (S66)), 2)) else (some (rdOf ByteArray.empty t124 0, bt133.1, bt137.1, 0)))) else (some ((⟨#[]⟩ : ByteArray), ([] : List ByteArray), ([] : List (S66)), 3))) else (some ((⟨#[]⟩ : ByteArray), ([] : List ByteArray), ([] : List (S66)), 3))))) else (none)) else (some ((⟨#[]⟩ : ByteArray), ([] : List ByteArray), ([] : List (S66)), 3)))) else (none)))) else (none)) else (none)) else ((weirgateref06_split.f k bt103.1 47).bind fun t142 => (if 0 < (t142.length : Int) then ((weirgateref06_Name.f k (rdOf ByteArray.empty t142 0)).bind fun t146 => (if t146 = true then (if 1 ≤ (t142.length : Int) then ((weirgateref06_path.f k (t142.drop 1)).bind fun bt151 => ((weirgateref06_query.f k bt103.2.1).bind fun bt155 => (if bt151.2 = true then (if bt155.2 = true then (if (bt151.1.length : Int) > 32 then (some ((⟨#[]⟩ : ByteArray), ([] : List ByteArray), ([] : List (S66)), 2)) else (if (bt155.1.length : Int) > 16 then (some ((⟨#[]⟩ : ByteArray), ([] : List ByteArray), ([] : List (S66)), 2)) else (some (rdOf ByteArray.empty t142 0, bt151.1, bt155.1, 0)))) else (some ((⟨#[]⟩ : ByteArray), ([] : List ByteArray), ([] : List (S66)), 3))) else (some ((⟨#[]⟩ : ByteArray), ([] : List ByteArray), ([] : List (S66)), 3))))) else (none)) else (some ((⟨#[]⟩ : ByteArray), ([] : List ByteArray), ([] : List (S66)), 3)))) else (none))))))
set_option maxRecDepth 100000 in
theorem weirgateref06_Parse.lf {p : Prop} (h : p := by
 go_wp2_with (first
 | ((with_reducible refine gate_dst (N := 2) rfl ?_); (try (refine gate_guard (by rfl) ?_; dsimp only)); refine bx 2 #[.string (⟨#[]⟩ : ByteArray), .slice none 0 0, .slice none 0 0, .int .i64 0] 35 fun gb101 hg wz0 hbox hb => ?_; have BK101 := Aside0.mk (hbox); have GW101 := gw w hg; have GE101 := gw w hg; replace HB := sb w hb; clear hb hbox hg)
 | ((with_reducible refine gate_callee (f := 51) rfl ?_); refine goesL_ (some 17) rfl rfl Tryz.func51 (by kernel_rfl) rfl #[.string a0] rfl zl ?_; (with_reducible refine (weirgateref06_small.calls _ _ _ A3.out).mono ?_); rintro e wz1 ⟨rfl, hb⟩; refine ⟨_, rfl, ?_⟩; replace BK101 := bb BK101 hb; replace HB := sb w hb; clear hb)
 | ((with_reducible refine gate_callee (f := 50) rfl ?_); refine goesL_ (some 18) rfl rfl Tryz.func50 (by kernel_rfl) rfl #[.string t102, .int .u8 63] rfl zl ?_; (with_reducible refine (weirgateref06_cut.calls _ _ _ _ _ _ _ A4.out).mono ?_); rintro e w' ⟨rfl, ⟨nd, rfl⟩⟩; refine ⟨_, rfl, ?_⟩; (try (rw [drewN_self wz1]; generalize hq_ : World.drewN wz1 _ = wz1; replace BK101 : Aside0 (wz1.heap[gb101]? = some (.cells #[.string (⟨#[]⟩ : ByteArray), .slice none 0 0, .slice none 0 0, .int .i64 0] 35 (0, 0))) := ⟨by rw [← hq_]; exact (kb BK101)⟩; replace HB : Aside0 (Below w.heap.size w wz1) := ⟨by rw [← hq_]; exact zB⟩; clear hq_)); have p9 : 0 ≤ ((ji6) : Int) := of_decide_eq_true za; have qz2 : (ji6) < (t103.size : Int) := of_decide_eq_true za; have hx9 := bt_at t103 (ji6); replace p9 := eq_true p9; replace qz2 := eq_true qz2)
 | ((with_reducible refine gate_callee (f := 52) rfl ?_); refine goesL_ (some 39) rfl rfl Tryz.func52 (by kernel_rfl) rfl #[.string (t103.extract 0 ((ji6) : Int).toNat), .int .u8 47] rfl (by (try simp only [List.map_toArray, List.map_cons, List.map_nil]); first | done | (simp only [hji6]; rfl) | rfl | (simp only [List.length_drop, List.length_take]; rfl)) ?_; (with_reducible refine (weirgateref06_split.calls _ _ _ _ _ A13.out).mono ?_); rintro e wz3 ⟨v107, rfl, ho0, hb⟩; refine ⟨_, rfl, ?_⟩; have HO108 := Aside0.mk (Kd.R_lower ho0 (below_size zB)); replace BK101 := bb BK101 hb; replace HB := sb w hb; clear hb ho0; obtain ⟨Aoz4, coz4, eoz4⟩ := Kd.R_slice HO108.out; subst eoz4; have p109 : 0 ≤ (0 : Int) := (by omega); have qz5 : 0 < (t106.length : Int) := of_decide_eq_true za; obtain ⟨ad109, e109, hx109_0⟩ := Kd.at_string (Kd.R_reads' HO108.out).2.2 0 p109 qz5; cases e109; have qi109 : (0 < t106.length) = True := eq_true (by omega); (try rw [show ((0 : Int)).toNat = 0 from rfl] at hx109_0); (try rw [Addr.add_zero'] at hx109_0); replace p109 := eq_true p109; replace qz5 := eq_true qz5)
 | ((with_reducible refine gate_callee (f := 53) rfl ?_); refine goesL_ (some 43) rfl rfl Tryz.func53 (by kernel_rfl) rfl #[.string (rdOf ByteArray.empty t106 0)] rfl zl ?_; (with_reducible refine (weirgateref06_Name.calls _ _ _ _ A15.out).mono ?_); rintro e w' ⟨rfl, ⟨nd, rfl⟩⟩; refine ⟨_, rfl, ?_⟩; (try (rw [drewN_self wz3]; generalize hq_ : World.drewN wz3 _ = wz3; replace HO108 : Aside0 (Kd.R Kd.string 9 wz3 w.heap.size (fun _ => True) (.slice (some ad109) t106.length coz4) t106) := ⟨by rw [← hq_]; exact (kr HO108)⟩; replace BK101 : Aside0 (wz3.heap[gb101]? = some (.cells #[.string (⟨#[]⟩ : ByteArray), .slice none 0 0, .slice none 0 0, .int .i64 0] 35 (0, 0))) := ⟨by rw [← hq_]; exact (kb BK101)⟩; replace HB : Aside0 (Below w.heap.size w wz3) := ⟨by rw [← hq_]; exact zB⟩; clear hq_)); have qz6 : (1 : Int) ≤ ((t106.length : Int) : Int) := of_decide_eq_true za; obtain ⟨i0z6, hi0z6, _, hszz6, _⟩ := info_parts info9; have hroomz6 : t106.length ≤ coz4 := (Kd.R_reads' HO108.out).2.1; have hCz6 : Kd.C Kd.string _ (some ad109) t106.length t106 := (Kd.R_reads' HO108.out).2.2; have hcutz6 := cut_from (P := Tryz.prog) 22 9 .i64 Tryz.underlying22 hi0z6 1 hszz6 (some ad109) t106.length coz4 1 (by omega) qz6; have hrz6 := Kd.C_drop (m := (1 : Int).toNat) (c := coz4) hCz6 (by omega) hroomz6; obtain ⟨Az6, hAz6⟩ : ∃ A1, A1 = (if coz4 = (1 : Int).toNat then (some ad109) else ((some ad109) : Option Addr).map (·.add ((1 : Int).toNat * 1))) := ⟨_, rfl⟩; obtain ⟨cz6, hcz6⟩ : ∃ c1, c1 = coz4 - (1 : Int).toNat := ⟨_, rfl⟩; have hyz6 : y111.length = t106.length - (1 : Int).toNat := (by rw [Ny111.out, List.length_drop] <;> omega); rw [show (t106).drop (1 : Int).toNat = y111 from Ny111.out.symm] at hrz6; replace hrz6 : Kd.C Kd.string _ Az6 y111.length y111 := (by rw [hAz6]; exact hrz6); rw [← hyz6, ← hAz6, ← hcz6] at hcutz6; have HR114 := Aside0.mk hrz6; have HC114 := Aside0.mk (show y111.length ≤ cz6 from by rw [hyz6, hcz6]; exact Nat.sub_le_sub_right hroomz6 _); clear hrz6 hCz6 hroomz6 hi0z6 hszz6 hcz6; have KYz6 := Aside0.mk hyz6; have KAz6 := Aside0.mk hAz6; clear hyz6 hAz6; have KLz6 := Aside0.mk (show 1 ≤ t106.length from by omega); replace qz6 := eq_true qz6)
 | ((with_reducible refine gate_callee (f := 54) rfl ?_); refine goesL_ (some 49) rfl rfl Tryz.func54 (by kernel_rfl) rfl #[.slice Az6 y111.length cz6] rfl zl ?_; (with_reducible refine (weirgateref06_path.calls _ _ _ _ _ _ _ ?side1 ?side2 A18.out).mono ?_); (case side1 => repeat (first | exact (by repeat (first | (with_reducible exact HR114.out) | (with_reducible refine Kd.C_alloc ?_ _) | (with_reducible refine Kd.C_drewN ?_ _) | (with_reducible refine Kd.C_drew ?_) | exact HR114.out)) | (with_reducible refine Kd.C_alloc ?_ _) | (with_reducible refine Kd.C_drewN ?_ _) | (with_reducible refine Kd.C_drew ?_))); (case side2 => exact HC114.out); rintro e wz7 ⟨v117, rfl, ho0, hb⟩; refine ⟨_, rfl, ?_⟩; have HO118 := Aside0.mk (Kd.R_lower (Kd.R_new' ho0 (Kd.R_lt (kr HO108))) (below_size zB)); replace HO108 := Aside0.mk (Kd.R_elder' (kr HO108) (Kd.R_base ho0) hb); replace BK101 := bb BK101 hb; replace HR114 := Aside0.mk (Kd.C_below (by repeat (first | (with_reducible exact HR114.out) | (with_reducible refine Kd.C_alloc ?_ _) | (with_reducible refine Kd.C_drewN ?_ _) | (with_reducible refine Kd.C_drew ?_) | exact HR114.out)) hb); replace HB := sb w hb; clear hb ho0)
 | ((with_reducible refine gate_callee (f := 55) rfl ?_); refine goesL_ (some 54) rfl rfl Tryz.func55 (by kernel_rfl) rfl #[.string t104] rfl zl ?_; (with_reducible refine (weirgateref06_query.calls _ _ _ _ _ A19.out).mono ?_); rintro e wz8 ⟨v121, rfl, ho0, hb⟩; refine ⟨_, rfl, ?_⟩; replace HO108 := rb HO108 hb; replace HO118 := rb HO118 hb; have HO122 := Aside0.mk (Kd.R_lower ho0 (below_size zB)); replace BK101 := bb BK101 hb; replace HR114 := Aside0.mk (Kd.C_below (by repeat (first | (with_reducible exact HR114.out) | (with_reducible refine Kd.C_alloc ?_ _) | (with_reducible refine Kd.C_drewN ?_ _) | (with_reducible refine Kd.C_drew ?_) | exact HR114.out)) hb); replace HB := sb w hb; clear hb ho0; obtain ⟨Aoz9, coz9, eoz9⟩ := Kd.R_slice HO118.out; subst eoz9; obtain ⟨Aoz10, coz10, eoz10⟩ := Kd.R_slice HO122.out; subst eoz10; have p123 : 0 ≤ (0 : Int) := (by omega); have qz11 : 0 < (t106.length : Int) := of_decide_eq_true za; obtain ⟨ad123, e123, hx123_0⟩ := Kd.at_string (Kd.R_reads' HO108.out).2.2 0 p123 qz11; obtain rfl : ad109 = ad123 := (by injection e123); have qi123 : (0 < t106.length) = True := eq_true (by omega); (try rw [show ((0 : Int)).toNat = 0 from rfl] at hx123_0); (try rw [Addr.add_zero'] at hx123_0); replace p123 := eq_true p123; replace qz11 := eq_true qz11; obtain ⟨hczz12_0, hczz12_1, hczz12_2, hczz12_3, hfzz12_0, hfzz12_1, hfzz12_2, hfzz12_3⟩ := cf4 BK101)
 | ((with_reducible refine gate_callee (f := 55) rfl ?_); refine goesL_ (some 54) rfl rfl Tryz.func55 (by kernel_rfl) rfl #[.string t104] rfl zl ?_; (with_reducible refine (weirgateref06_query.calls _ _ _ _ _ A19.out).mono ?_); rintro e wz8 ⟨v121, rfl, ho0, hb⟩; refine ⟨_, rfl, ?_⟩; replace HO108 := rb HO108 hb; replace HO118 := rb HO118 hb; have HO122 := Aside0.mk (Kd.R_lower ho0 (below_size zB)); replace BK101 := bb BK101 hb; replace HR114 := Aside0.mk (Kd.C_below (by repeat (first | (with_reducible exact HR114.out) | (with_reducible refine Kd.C_alloc ?_ _) | (with_reducible refine Kd.C_drewN ?_ _) | (with_reducible refine Kd.C_drew ?_) | exact HR114.out)) hb); replace HB := sb w hb; clear hb ho0; obtain ⟨Aoz9, coz9, eoz9⟩ := Kd.R_slice HO118.out; subst eoz9; obtain ⟨Aoz10, coz10, eoz10⟩ := Kd.R_slice HO122.out; subst eoz10; obtain ⟨hczz11_0, hczz11_1, hczz11_2, hczz11_3, hfzz11_0, hfzz11_1, hfzz11_2, hfzz11_3⟩ := cf4 BK101)
 | ((with_reducible refine gate_callee (f := 55) rfl ?_); refine goesL_ (some 54) rfl rfl Tryz.func55 (by kernel_rfl) rfl #[.string t104] rfl zl ?_; (with_reducible refine (weirgateref06_query.calls _ _ _ _ _ A19.out).mono ?_); rintro e wz8 ⟨v121, rfl, ho0, hb⟩; refine ⟨_, rfl, ?_⟩; replace HO108 := rb HO108 hb; replace HO118 := rb HO118 hb; have HO122 := Aside0.mk (Kd.R_lower ho0 (below_size zB)); replace BK101 := bb BK101 hb; replace HR114 := Aside0.mk (Kd.C_below (by repeat (first | (with_reducible exact HR114.out) | (with_reducible refine Kd.C_alloc ?_ _) | (with_reducible refine Kd.C_drewN ?_ _) | (with_reducible refine Kd.C_drew ?_) | exact HR114.out)) hb); replace HB := sb w hb; clear hb ho0; obtain ⟨Aoz9, coz9, eoz9⟩ := Kd.R_slice HO118.out; subst eoz9; obtain ⟨hczz10_0, hczz10_1, hczz10_2, hczz10_3, hfzz10_0, hfzz10_1, hfzz10_2, hfzz10_3⟩ := cf4 BK101)
 | ((with_reducible refine gate_callee (f := 55) rfl ?_); refine goesL_ (some 54) rfl rfl Tryz.func55 (by kernel_rfl) rfl #[.string t104] rfl zl ?_; (with_reducible refine (weirgateref06_query.calls _ _ _ _ _ A19.out).mono ?_); rintro e wz8 ⟨v121, rfl, ho0, hb⟩; refine ⟨_, rfl, ?_⟩; replace HO108 := rb HO108 hb; replace HO118 := rb HO118 hb; have HO122 := Aside0.mk (Kd.R_lower ho0 (below_size zB)); replace BK101 := bb BK101 hb; replace HR114 := Aside0.mk (Kd.C_below (by repeat (first | (with_reducible exact HR114.out) | (with_reducible refine Kd.C_alloc ?_ _) | (with_reducible refine Kd.C_drewN ?_ _) | (with_reducible refine Kd.C_drew ?_) | exact HR114.out)) hb); replace HB := sb w hb; clear hb ho0; obtain ⟨hczz9_0, hczz9_1, hczz9_2, hczz9_3, hfzz9_0, hfzz9_1, hfzz9_2, hfzz9_3⟩ := cf4 BK101)
 | ((with_reducible refine gate_callee (f := 53) rfl ?_); refine goesL_ (some 43) rfl rfl Tryz.func53 (by kernel_rfl) rfl #[.string (rdOf ByteArray.empty t106 0)] rfl zl ?_; (with_reducible refine (weirgateref06_Name.calls _ _ _ _ A15.out).mono ?_); rintro e w' ⟨rfl, ⟨nd, rfl⟩⟩; refine ⟨_, rfl, ?_⟩; (try (rw [drewN_self wz3]; generalize hq_ : World.drewN wz3 _ = wz3; replace HO108 : Aside0 (Kd.R Kd.string 9 wz3 w.heap.size (fun _ => True) (.slice (some ad109) t106.length coz4) t106) := ⟨by rw [← hq_]; exact (kr HO108)⟩; replace BK101 : Aside0 (wz3.heap[gb101]? = some (.cells #[.string (⟨#[]⟩ : ByteArray), .slice none 0 0, .slice none 0 0, .int .i64 0] 35 (0, 0))) := ⟨by rw [← hq_]; exact (kb BK101)⟩; replace HB : Aside0 (Below w.heap.size w wz3) := ⟨by rw [← hq_]; exact zB⟩; clear hq_)); obtain ⟨hczz6_0, hczz6_1, hczz6_2, hczz6_3, hfzz6_0, hfzz6_1, hfzz6_2, hfzz6_3⟩ := cf4 BK101)
 | ((with_reducible refine gate_callee (f := 52) rfl ?_); refine goesL_ (some 39) rfl rfl Tryz.func52 (by kernel_rfl) rfl #[.string t103, .int .u8 47] rfl zl ?_; (with_reducible refine (weirgateref06_split.calls _ _ _ _ _ A11.out).mono ?_); rintro e wz3 ⟨v125, rfl, ho0, hb⟩; refine ⟨_, rfl, ?_⟩; have HO126 := Aside0.mk (Kd.R_lower ho0 (below_size zB)); replace BK101 := bb BK101 hb; replace HB := sb w hb; clear hb ho0; obtain ⟨Aoz4, coz4, eoz4⟩ := Kd.R_slice HO126.out; subst eoz4; have p127 : 0 ≤ (0 : Int) := (by omega); have qz5 : 0 < (t124.length : Int) := of_decide_eq_true za; obtain ⟨ad127, e127, hx127_0⟩ := Kd.at_string (Kd.R_reads' HO126.out).2.2 0 p127 qz5; cases e127; have qi127 : (0 < t124.length) = True := eq_true (by omega); (try rw [show ((0 : Int)).toNat = 0 from rfl] at hx127_0); (try rw [Addr.add_zero'] at hx127_0); replace p127 := eq_true p127; replace qz5 := eq_true qz5)
 | ((with_reducible refine gate_callee (f := 53) rfl ?_); refine goesL_ (some 43) rfl rfl Tryz.func53 (by kernel_rfl) rfl #[.string (rdOf ByteArray.empty t124 0)] rfl zl ?_; (with_reducible refine (weirgateref06_Name.calls _ _ _ _ A13.out).mono ?_); rintro e w' ⟨rfl, ⟨nd, rfl⟩⟩; refine ⟨_, rfl, ?_⟩; (try (rw [drewN_self wz3]; generalize hq_ : World.drewN wz3 _ = wz3; replace HO126 : Aside0 (Kd.R Kd.string 9 wz3 w.heap.size (fun _ => True) (.slice (some ad127) t124.length coz4) t124) := ⟨by rw [← hq_]; exact (kr HO126)⟩; replace BK101 : Aside0 (wz3.heap[gb101]? = some (.cells #[.string (⟨#[]⟩ : ByteArray), .slice none 0 0, .slice none 0 0, .int .i64 0] 35 (0, 0))) := ⟨by rw [← hq_]; exact (kb BK101)⟩; replace HB : Aside0 (Below w.heap.size w wz3) := ⟨by rw [← hq_]; exact zB⟩; clear hq_)); have qz6 : (1 : Int) ≤ ((t124.length : Int) : Int) := of_decide_eq_true za; obtain ⟨i0z6, hi0z6, _, hszz6, _⟩ := info_parts info9; have hroomz6 : t124.length ≤ coz4 := (Kd.R_reads' HO126.out).2.1; have hCz6 : Kd.C Kd.string _ (some ad127) t124.length t124 := (Kd.R_reads' HO126.out).2.2; have hcutz6 := cut_from (P := Tryz.prog) 22 9 .i64 Tryz.underlying22 hi0z6 1 hszz6 (some ad127) t124.length coz4 1 (by omega) qz6; have hrz6 := Kd.C_drop (m := (1 : Int).toNat) (c := coz4) hCz6 (by omega) hroomz6; obtain ⟨Az6, hAz6⟩ : ∃ A1, A1 = (if coz4 = (1 : Int).toNat then (some ad127) else ((some ad127) : Option Addr).map (·.add ((1 : Int).toNat * 1))) := ⟨_, rfl⟩; obtain ⟨cz6, hcz6⟩ : ∃ c1, c1 = coz4 - (1 : Int).toNat := ⟨_, rfl⟩; have hyz6 : y129.length = t124.length - (1 : Int).toNat := (by rw [Ny129.out, List.length_drop] <;> omega); rw [show (t124).drop (1 : Int).toNat = y129 from Ny129.out.symm] at hrz6; replace hrz6 : Kd.C Kd.string _ Az6 y129.length y129 := (by rw [hAz6]; exact hrz6); rw [← hyz6, ← hAz6, ← hcz6] at hcutz6; have HR132 := Aside0.mk hrz6; have HC132 := Aside0.mk (show y129.length ≤ cz6 from by rw [hyz6, hcz6]; exact Nat.sub_le_sub_right hroomz6 _); clear hrz6 hCz6 hroomz6 hi0z6 hszz6 hcz6; have KYz6 := Aside0.mk hyz6; have KAz6 := Aside0.mk hAz6; clear hyz6 hAz6; have KLz6 := Aside0.mk (show 1 ≤ t124.length from by omega); replace qz6 := eq_true qz6)
 | ((with_reducible refine gate_callee (f := 54) rfl ?_); refine goesL_ (some 49) rfl rfl Tryz.func54 (by kernel_rfl) rfl #[.slice Az6 y129.length cz6] rfl zl ?_; (with_reducible refine (weirgateref06_path.calls _ _ _ _ _ _ _ ?side1 ?side2 A16.out).mono ?_); (case side1 => repeat (first | exact (by repeat (first | (with_reducible exact HR132.out) | (with_reducible refine Kd.C_alloc ?_ _) | (with_reducible refine Kd.C_drewN ?_ _) | (with_reducible refine Kd.C_drew ?_) | exact HR132.out)) | (with_reducible refine Kd.C_alloc ?_ _) | (with_reducible refine Kd.C_drewN ?_ _) | (with_reducible refine Kd.C_drew ?_))); (case side2 => exact HC132.out); rintro e wz7 ⟨v135, rfl, ho0, hb⟩; refine ⟨_, rfl, ?_⟩; have HO136 := Aside0.mk (Kd.R_lower (Kd.R_new' ho0 (Kd.R_lt (kr HO126))) (below_size zB)); replace HO126 := Aside0.mk (Kd.R_elder' (kr HO126) (Kd.R_base ho0) hb); replace BK101 := bb BK101 hb; replace HR132 := Aside0.mk (Kd.C_below (by repeat (first | (with_reducible exact HR132.out) | (with_reducible refine Kd.C_alloc ?_ _) | (with_reducible refine Kd.C_drewN ?_ _) | (with_reducible refine Kd.C_drew ?_) | exact HR132.out)) hb); replace HB := sb w hb; clear hb ho0)
 | ((with_reducible refine gate_callee (f := 55) rfl ?_); refine goesL_ (some 54) rfl rfl Tryz.func55 (by kernel_rfl) rfl #[.string t104] rfl zl ?_; (with_reducible refine (weirgateref06_query.calls _ _ _ _ _ A17.out).mono ?_); rintro e wz8 ⟨v139, rfl, ho0, hb⟩; refine ⟨_, rfl, ?_⟩; replace HO126 := rb HO126 hb; replace HO136 := rb HO136 hb; have HO140 := Aside0.mk (Kd.R_lower ho0 (below_size zB)); replace BK101 := bb BK101 hb; replace HR132 := Aside0.mk (Kd.C_below (by repeat (first | (with_reducible exact HR132.out) | (with_reducible refine Kd.C_alloc ?_ _) | (with_reducible refine Kd.C_drewN ?_ _) | (with_reducible refine Kd.C_drew ?_) | exact HR132.out)) hb); replace HB := sb w hb; clear hb ho0; obtain ⟨Aoz9, coz9, eoz9⟩ := Kd.R_slice HO136.out; subst eoz9; obtain ⟨Aoz10, coz10, eoz10⟩ := Kd.R_slice HO140.out; subst eoz10; have p141 : 0 ≤ (0 : Int) := (by omega); have qz11 : 0 < (t124.length : Int) := of_decide_eq_true za; obtain ⟨ad141, e141, hx141_0⟩ := Kd.at_string (Kd.R_reads' HO126.out).2.2 0 p141 qz11; obtain rfl : ad127 = ad141 := (by injection e141); have qi141 : (0 < t124.length) = True := eq_true (by omega); (try rw [show ((0 : Int)).toNat = 0 from rfl] at hx141_0); (try rw [Addr.add_zero'] at hx141_0); replace p141 := eq_true p141; replace qz11 := eq_true qz11; obtain ⟨hczz12_0, hczz12_1, hczz12_2, hczz12_3, hfzz12_0, hfzz12_1, hfzz12_2, hfzz12_3⟩ := cf4 BK101)
 | ((with_reducible refine gate_callee (f := 55) rfl ?_); refine goesL_ (some 54) rfl rfl Tryz.func55 (by kernel_rfl) rfl #[.string t104] rfl zl ?_; (with_reducible refine (weirgateref06_query.calls _ _ _ _ _ A17.out).mono ?_); rintro e wz8 ⟨v139, rfl, ho0, hb⟩; refine ⟨_, rfl, ?_⟩; replace HO126 := rb HO126 hb; replace HO136 := rb HO136 hb; have HO140 := Aside0.mk (Kd.R_lower ho0 (below_size zB)); replace BK101 := bb BK101 hb; replace HR132 := Aside0.mk (Kd.C_below (by repeat (first | (with_reducible exact HR132.out) | (with_reducible refine Kd.C_alloc ?_ _) | (with_reducible refine Kd.C_drewN ?_ _) | (with_reducible refine Kd.C_drew ?_) | exact HR132.out)) hb); replace HB := sb w hb; clear hb ho0; obtain ⟨Aoz9, coz9, eoz9⟩ := Kd.R_slice HO136.out; subst eoz9; obtain ⟨Aoz10, coz10, eoz10⟩ := Kd.R_slice HO140.out; subst eoz10; obtain ⟨hczz11_0, hczz11_1, hczz11_2, hczz11_3, hfzz11_0, hfzz11_1, hfzz11_2, hfzz11_3⟩ := cf4 BK101)
 | ((with_reducible refine gate_callee (f := 55) rfl ?_); refine goesL_ (some 54) rfl rfl Tryz.func55 (by kernel_rfl) rfl #[.string t104] rfl zl ?_; (with_reducible refine (weirgateref06_query.calls _ _ _ _ _ A17.out).mono ?_); rintro e wz8 ⟨v139, rfl, ho0, hb⟩; refine ⟨_, rfl, ?_⟩; replace HO126 := rb HO126 hb; replace HO136 := rb HO136 hb; have HO140 := Aside0.mk (Kd.R_lower ho0 (below_size zB)); replace BK101 := bb BK101 hb; replace HR132 := Aside0.mk (Kd.C_below (by repeat (first | (with_reducible exact HR132.out) | (with_reducible refine Kd.C_alloc ?_ _) | (with_reducible refine Kd.C_drewN ?_ _) | (with_reducible refine Kd.C_drew ?_) | exact HR132.out)) hb); replace HB := sb w hb; clear hb ho0; obtain ⟨Aoz9, coz9, eoz9⟩ := Kd.R_slice HO136.out; subst eoz9; obtain ⟨hczz10_0, hczz10_1, hczz10_2, hczz10_3, hfzz10_0, hfzz10_1, hfzz10_2, hfzz10_3⟩ := cf4 BK101)
 | ((with_reducible refine gate_callee (f := 55) rfl ?_); refine goesL_ (some 54) rfl rfl Tryz.func55 (by kernel_rfl) rfl #[.string t104] rfl zl ?_; (with_reducible refine (weirgateref06_query.calls _ _ _ _ _ A17.out).mono ?_); rintro e wz8 ⟨v139, rfl, ho0, hb⟩; refine ⟨_, rfl, ?_⟩; replace HO126 := rb HO126 hb; replace HO136 := rb HO136 hb; have HO140 := Aside0.mk (Kd.R_lower ho0 (below_size zB)); replace BK101 := bb BK101 hb; replace HR132 := Aside0.mk (Kd.C_below (by repeat (first | (with_reducible exact HR132.out) | (with_reducible refine Kd.C_alloc ?_ _) | (with_reducible refine Kd.C_drewN ?_ _) | (with_reducible refine Kd.C_drew ?_) | exact HR132.out)) hb); replace HB := sb w hb; clear hb ho0; obtain ⟨hczz9_0, hczz9_1, hczz9_2, hczz9_3, hfzz9_0, hfzz9_1, hfzz9_2, hfzz9_3⟩ := cf4 BK101)
 | ((with_reducible refine gate_callee (f := 53) rfl ?_); refine goesL_ (some 43) rfl rfl Tryz.func53 (by kernel_rfl) rfl #[.string (rdOf ByteArray.empty t124 0)] rfl zl ?_; (with_reducible refine (weirgateref06_Name.calls _ _ _ _ A13.out).mono ?_); rintro e w' ⟨rfl, ⟨nd, rfl⟩⟩; refine ⟨_, rfl, ?_⟩; (try (rw [drewN_self wz3]; generalize hq_ : World.drewN wz3 _ = wz3; replace HO126 : Aside0 (Kd.R Kd.string 9 wz3 w.heap.size (fun _ => True) (.slice (some ad127) t124.length coz4) t124) := ⟨by rw [← hq_]; exact (kr HO126)⟩; replace BK101 : Aside0 (wz3.heap[gb101]? = some (.cells #[.string (⟨#[]⟩ : ByteArray), .slice none 0 0, .slice none 0 0, .int .i64 0] 35 (0, 0))) := ⟨by rw [← hq_]; exact (kb BK101)⟩; replace HB : Aside0 (Below w.heap.size w wz3) := ⟨by rw [← hq_]; exact zB⟩; clear hq_)); obtain ⟨hczz6_0, hczz6_1, hczz6_2, hczz6_3, hfzz6_0, hfzz6_1, hfzz6_2, hfzz6_3⟩ := cf4 BK101)
 | ((with_reducible refine gate_callee (f := 50) rfl ?_); refine goesL_ (some 18) rfl rfl Tryz.func50 (by kernel_rfl) rfl #[.string t102, .int .u8 63] rfl zl ?_; (with_reducible refine (weirgateref06_cut.calls _ _ _ _ _ _ _ A4.out).mono ?_); rintro e w' ⟨rfl, ⟨nd, rfl⟩⟩; refine ⟨_, rfl, ?_⟩; (try (rw [drewN_self wz1]; generalize hq_ : World.drewN wz1 _ = wz1; replace BK101 : Aside0 (wz1.heap[gb101]? = some (.cells #[.string (⟨#[]⟩ : ByteArray), .slice none 0 0, .slice none 0 0, .int .i64 0] 35 (0, 0))) := ⟨by rw [← hq_]; exact (kb BK101)⟩; replace HB : Aside0 (Below w.heap.size w wz1) := ⟨by rw [← hq_]; exact zB⟩; clear hq_)))
 | ((with_reducible refine gate_callee (f := 52) rfl ?_); refine goesL_ (some 39) rfl rfl Tryz.func52 (by kernel_rfl) rfl #[.string t103, .int .u8 47] rfl zl ?_; (with_reducible refine (weirgateref06_split.calls _ _ _ _ _ A6.out).mono ?_); rintro e wz2 ⟨v143, rfl, ho0, hb⟩; refine ⟨_, rfl, ?_⟩; have HO144 := Aside0.mk (Kd.R_lower ho0 (below_size zB)); replace BK101 := bb BK101 hb; replace HB := sb w hb; clear hb ho0; obtain ⟨Aoz3, coz3, eoz3⟩ := Kd.R_slice HO144.out; subst eoz3; have p145 : 0 ≤ (0 : Int) := (by omega); have qz4 : 0 < (t142.length : Int) := of_decide_eq_true za; obtain ⟨ad145, e145, hx145_0⟩ := Kd.at_string (Kd.R_reads' HO144.out).2.2 0 p145 qz4; cases e145; have qi145 : (0 < t142.length) = True := eq_true (by omega); (try rw [show ((0 : Int)).toNat = 0 from rfl] at hx145_0); (try rw [Addr.add_zero'] at hx145_0); replace p145 := eq_true p145; replace qz4 := eq_true qz4)
 | ((with_reducible refine gate_callee (f := 53) rfl ?_); refine goesL_ (some 43) rfl rfl Tryz.func53 (by kernel_rfl) rfl #[.string (rdOf ByteArray.empty t142 0)] rfl zl ?_; (with_reducible refine (weirgateref06_Name.calls _ _ _ _ A8.out).mono ?_); rintro e w' ⟨rfl, ⟨nd, rfl⟩⟩; refine ⟨_, rfl, ?_⟩; (try (rw [drewN_self wz2]; generalize hq_ : World.drewN wz2 _ = wz2; replace HO144 : Aside0 (Kd.R Kd.string 9 wz2 w.heap.size (fun _ => True) (.slice (some ad145) t142.length coz3) t142) := ⟨by rw [← hq_]; exact (kr HO144)⟩; replace BK101 : Aside0 (wz2.heap[gb101]? = some (.cells #[.string (⟨#[]⟩ : ByteArray), .slice none 0 0, .slice none 0 0, .int .i64 0] 35 (0, 0))) := ⟨by rw [← hq_]; exact (kb BK101)⟩; replace HB : Aside0 (Below w.heap.size w wz2) := ⟨by rw [← hq_]; exact zB⟩; clear hq_)); have qz5 : (1 : Int) ≤ ((t142.length : Int) : Int) := of_decide_eq_true za; obtain ⟨i0z5, hi0z5, _, hszz5, _⟩ := info_parts info9; have hroomz5 : t142.length ≤ coz3 := (Kd.R_reads' HO144.out).2.1; have hCz5 : Kd.C Kd.string _ (some ad145) t142.length t142 := (Kd.R_reads' HO144.out).2.2; have hcutz5 := cut_from (P := Tryz.prog) 22 9 .i64 Tryz.underlying22 hi0z5 1 hszz5 (some ad145) t142.length coz3 1 (by omega) qz5; have hrz5 := Kd.C_drop (m := (1 : Int).toNat) (c := coz3) hCz5 (by omega) hroomz5; obtain ⟨Az5, hAz5⟩ : ∃ A1, A1 = (if coz3 = (1 : Int).toNat then (some ad145) else ((some ad145) : Option Addr).map (·.add ((1 : Int).toNat * 1))) := ⟨_, rfl⟩; obtain ⟨cz5, hcz5⟩ : ∃ c1, c1 = coz3 - (1 : Int).toNat := ⟨_, rfl⟩; have hyz5 : y147.length = t142.length - (1 : Int).toNat := (by rw [Ny147.out, List.length_drop] <;> omega); rw [show (t142).drop (1 : Int).toNat = y147 from Ny147.out.symm] at hrz5; replace hrz5 : Kd.C Kd.string _ Az5 y147.length y147 := (by rw [hAz5]; exact hrz5); rw [← hyz5, ← hAz5, ← hcz5] at hcutz5; have HR150 := Aside0.mk hrz5; have HC150 := Aside0.mk (show y147.length ≤ cz5 from by rw [hyz5, hcz5]; exact Nat.sub_le_sub_right hroomz5 _); clear hrz5 hCz5 hroomz5 hi0z5 hszz5 hcz5; have KYz5 := Aside0.mk hyz5; have KAz5 := Aside0.mk hAz5; clear hyz5 hAz5; have KLz5 := Aside0.mk (show 1 ≤ t142.length from by omega); replace qz5 := eq_true qz5)
 | ((with_reducible refine gate_callee (f := 54) rfl ?_); refine goesL_ (some 49) rfl rfl Tryz.func54 (by kernel_rfl) rfl #[.slice Az5 y147.length cz5] rfl zl ?_; (with_reducible refine (weirgateref06_path.calls _ _ _ _ _ _ _ ?side1 ?side2 A11.out).mono ?_); (case side1 => repeat (first | exact (by repeat (first | (with_reducible exact HR150.out) | (with_reducible refine Kd.C_alloc ?_ _) | (with_reducible refine Kd.C_drewN ?_ _) | (with_reducible refine Kd.C_drew ?_) | exact HR150.out)) | (with_reducible refine Kd.C_alloc ?_ _) | (with_reducible refine Kd.C_drewN ?_ _) | (with_reducible refine Kd.C_drew ?_))); (case side2 => exact HC150.out); rintro e wz6 ⟨v153, rfl, ho0, hb⟩; refine ⟨_, rfl, ?_⟩; have HO154 := Aside0.mk (Kd.R_lower (Kd.R_new' ho0 (Kd.R_lt (kr HO144))) (below_size zB)); replace HO144 := Aside0.mk (Kd.R_elder' (kr HO144) (Kd.R_base ho0) hb); replace BK101 := bb BK101 hb; replace HR150 := Aside0.mk (Kd.C_below (by repeat (first | (with_reducible exact HR150.out) | (with_reducible refine Kd.C_alloc ?_ _) | (with_reducible refine Kd.C_drewN ?_ _) | (with_reducible refine Kd.C_drew ?_) | exact HR150.out)) hb); replace HB := sb w hb; clear hb ho0)
 | ((with_reducible refine gate_callee (f := 55) rfl ?_); refine goesL_ (some 54) rfl rfl Tryz.func55 (by kernel_rfl) rfl #[.string t104] rfl zl ?_; (with_reducible refine (weirgateref06_query.calls _ _ _ _ _ A12.out).mono ?_); rintro e wz7 ⟨v157, rfl, ho0, hb⟩; refine ⟨_, rfl, ?_⟩; replace HO144 := rb HO144 hb; replace HO154 := rb HO154 hb; have HO158 := Aside0.mk (Kd.R_lower ho0 (below_size zB)); replace BK101 := bb BK101 hb; replace HR150 := Aside0.mk (Kd.C_below (by repeat (first | (with_reducible exact HR150.out) | (with_reducible refine Kd.C_alloc ?_ _) | (with_reducible refine Kd.C_drewN ?_ _) | (with_reducible refine Kd.C_drew ?_) | exact HR150.out)) hb); replace HB := sb w hb; clear hb ho0; obtain ⟨Aoz8, coz8, eoz8⟩ := Kd.R_slice HO154.out; subst eoz8; obtain ⟨Aoz9, coz9, eoz9⟩ := Kd.R_slice HO158.out; subst eoz9; have p159 : 0 ≤ (0 : Int) := (by omega); have qz10 : 0 < (t142.length : Int) := of_decide_eq_true za; obtain ⟨ad159, e159, hx159_0⟩ := Kd.at_string (Kd.R_reads' HO144.out).2.2 0 p159 qz10; obtain rfl : ad145 = ad159 := (by injection e159); have qi159 : (0 < t142.length) = True := eq_true (by omega); (try rw [show ((0 : Int)).toNat = 0 from rfl] at hx159_0); (try rw [Addr.add_zero'] at hx159_0); replace p159 := eq_true p159; replace qz10 := eq_true qz10; obtain ⟨hczz11_0, hczz11_1, hczz11_2, hczz11_3, hfzz11_0, hfzz11_1, hfzz11_2, hfzz11_3⟩ := cf4 BK101)
 | ((with_reducible refine gate_callee (f := 55) rfl ?_); refine goesL_ (some 54) rfl rfl Tryz.func55 (by kernel_rfl) rfl #[.string t104] rfl zl ?_; (with_reducible refine (weirgateref06_query.calls _ _ _ _ _ A12.out).mono ?_); rintro e wz7 ⟨v157, rfl, ho0, hb⟩; refine ⟨_, rfl, ?_⟩; replace HO144 := rb HO144 hb; replace HO154 := rb HO154 hb; have HO158 := Aside0.mk (Kd.R_lower ho0 (below_size zB)); replace BK101 := bb BK101 hb; replace HR150 := Aside0.mk (Kd.C_below (by repeat (first | (with_reducible exact HR150.out) | (with_reducible refine Kd.C_alloc ?_ _) | (with_reducible refine Kd.C_drewN ?_ _) | (with_reducible refine Kd.C_drew ?_) | exact HR150.out)) hb); replace HB := sb w hb; clear hb ho0; obtain ⟨Aoz8, coz8, eoz8⟩ := Kd.R_slice HO154.out; subst eoz8; obtain ⟨Aoz9, coz9, eoz9⟩ := Kd.R_slice HO158.out; subst eoz9; obtain ⟨hczz10_0, hczz10_1, hczz10_2, hczz10_3, hfzz10_0, hfzz10_1, hfzz10_2, hfzz10_3⟩ := cf4 BK101)
 | ((with_reducible refine gate_callee (f := 55) rfl ?_); refine goesL_ (some 54) rfl rfl Tryz.func55 (by kernel_rfl) rfl #[.string t104] rfl zl ?_; (with_reducible refine (weirgateref06_query.calls _ _ _ _ _ A12.out).mono ?_); rintro e wz7 ⟨v157, rfl, ho0, hb⟩; refine ⟨_, rfl, ?_⟩; replace HO144 := rb HO144 hb; replace HO154 := rb HO154 hb; have HO158 := Aside0.mk (Kd.R_lower ho0 (below_size zB)); replace BK101 := bb BK101 hb; replace HR150 := Aside0.mk (Kd.C_below (by repeat (first | (with_reducible exact HR150.out) | (with_reducible refine Kd.C_alloc ?_ _) | (with_reducible refine Kd.C_drewN ?_ _) | (with_reducible refine Kd.C_drew ?_) | exact HR150.out)) hb); replace HB := sb w hb; clear hb ho0; obtain ⟨Aoz8, coz8, eoz8⟩ := Kd.R_slice HO154.out; subst eoz8; obtain ⟨hczz9_0, hczz9_1, hczz9_2, hczz9_3, hfzz9_0, hfzz9_1, hfzz9_2, hfzz9_3⟩ := cf4 BK101)
 | ((with_reducible refine gate_callee (f := 55) rfl ?_); refine goesL_ (some 54) rfl rfl Tryz.func55 (by kernel_rfl) rfl #[.string t104] rfl zl ?_; (with_reducible refine (weirgateref06_query.calls _ _ _ _ _ A12.out).mono ?_); rintro e wz7 ⟨v157, rfl, ho0, hb⟩; refine ⟨_, rfl, ?_⟩; replace HO144 := rb HO144 hb; replace HO154 := rb HO154 hb; have HO158 := Aside0.mk (Kd.R_lower ho0 (below_size zB)); replace BK101 := bb BK101 hb; replace HR150 := Aside0.mk (Kd.C_below (by repeat (first | (with_reducible exact HR150.out) | (with_reducible refine Kd.C_alloc ?_ _) | (with_reducible refine Kd.C_drewN ?_ _) | (with_reducible refine Kd.C_drew ?_) | exact HR150.out)) hb); replace HB := sb w hb; clear hb ho0; obtain ⟨hczz8_0, hczz8_1, hczz8_2, hczz8_3, hfzz8_0, hfzz8_1, hfzz8_2, hfzz8_3⟩ := cf4 BK101)
 | ((with_reducible refine gate_callee (f := 53) rfl ?_); refine goesL_ (some 43) rfl rfl Tryz.func53 (by kernel_rfl) rfl #[.string (rdOf ByteArray.empty t142 0)] rfl zl ?_; (with_reducible refine (weirgateref06_Name.calls _ _ _ _ A8.out).mono ?_); rintro e w' ⟨rfl, ⟨nd, rfl⟩⟩; refine ⟨_, rfl, ?_⟩; (try (rw [drewN_self wz2]; generalize hq_ : World.drewN wz2 _ = wz2; replace HO144 : Aside0 (Kd.R Kd.string 9 wz2 w.heap.size (fun _ => True) (.slice (some ad145) t142.length coz3) t142) := ⟨by rw [← hq_]; exact (kr HO144)⟩; replace BK101 : Aside0 (wz2.heap[gb101]? = some (.cells #[.string (⟨#[]⟩ : ByteArray), .slice none 0 0, .slice none 0 0, .int .i64 0] 35 (0, 0))) := ⟨by rw [← hq_]; exact (kb BK101)⟩; replace HB : Aside0 (Below w.heap.size w wz2) := ⟨by rw [← hq_]; exact zB⟩; clear hq_)); obtain ⟨hczz5_0, hczz5_1, hczz5_2, hczz5_3, hfzz5_0, hfzz5_1, hfzz5_2, hfzz5_3⟩ := cf4 BK101))
 first
 | (refine bodyPost_ret (results_cell_row rfl _ _ gb101 35 #[.string (⟨#[]⟩ : ByteArray), .slice none 0 0, .slice none 0 0, .int .i64 2] (0, 0) _ rfl (kp _ BK101) Tryz.underlying35 rfl (by kernel_rfl)) rfl ?_; exact ⟨_, _, by first | rfl | (simp [errW_none, errW_some] <;> rfl) | (simp only [← hji6]; first | rfl | (simp [errW_none, errW_some] <;> rfl)) | (simp [*, errW_none, errW_some] <;> rfl), by first | exact Kd.R_nil _ _ _ _ _ | exact Kd.N_nil _ _ _ _ _ | exact Kd.V_nil _ _ _ _ _ | exact Kd.Q_nil _ _ _ _ _ | exact Kd.S_nil _ _ _ _ _, by first | exact Kd.R_nil _ _ _ _ _ | exact Kd.N_nil _ _ _ _ _ | exact Kd.V_nil _ _ _ _ _ | exact Kd.Q_nil _ _ _ _ _ | exact Kd.S_nil _ _ _ _ _, zB⟩)
 | (refine bodyPost_ret (results_cell_row rfl _ _ gb101 35 #[.string (rdOf ByteArray.empty t106 0), .slice Aoz9 t115.length coz9, .slice Aoz10 t119.length coz10, .int .i64 0] (0, 0) _ rfl (kp _ BK101) Tryz.underlying35 rfl (by kernel_rfl)) rfl ?_; exact ⟨_, _, by first | rfl | (simp [errW_none, errW_some] <;> rfl) | (simp only [← hji6]; first | rfl | (simp [errW_none, errW_some] <;> rfl)) | (simp [*, errW_none, errW_some] <;> rfl), by (with_reducible repeat (first | apply Kd.R_alloc | apply Kd.R_drewN | apply Kd.R_drew)); exact Kd.R_mono (Kd.R_far (p := ⟨gb101, 3, none⟩) (Kd.R_far (p := ⟨gb101, 2, none⟩) (Kd.R_far (p := ⟨gb101, 1, none⟩) (Kd.R_far (p := ⟨gb101, 0, none⟩) (Kd.R_types HO118.out BK101.out (by decide)) (fun _ hk => hk.2) (.string (rdOf ByteArray.empty t106 0))) (fun _ hk => hk.2) (.slice Aoz9 t115.length coz9)) (fun _ hk => hk.2) (.slice Aoz10 t119.length coz10)) (fun _ hk => hk.2) (.int .i64 0)) (fun _ hk => trivial), by (with_reducible repeat (first | apply Kd.R_alloc | apply Kd.R_drewN | apply Kd.R_drew)); exact Kd.R_mono (Kd.R_far (p := ⟨gb101, 3, none⟩) (Kd.R_far (p := ⟨gb101, 2, none⟩) (Kd.R_far (p := ⟨gb101, 1, none⟩) (Kd.R_far (p := ⟨gb101, 0, none⟩) (Kd.R_types HO122.out BK101.out (by decide)) (fun _ hk => hk.2) (.string (rdOf ByteArray.empty t106 0))) (fun _ hk => hk.2) (.slice Aoz9 t115.length coz9)) (fun _ hk => hk.2) (.slice Aoz10 t119.length coz10)) (fun _ hk => hk.2) (.int .i64 0)) (fun _ hk => trivial), zB⟩)
 | (refine bodyPost_ret (results_cell_row rfl _ _ gb101 35 #[.string (⟨#[]⟩ : ByteArray), .slice none 0 0, .slice none 0 0, .int .i64 3] (0, 0) _ rfl (kp _ BK101) Tryz.underlying35 rfl (by kernel_rfl)) rfl ?_; exact ⟨_, _, by first | rfl | (simp [errW_none, errW_some] <;> rfl) | (simp only [← hji6]; first | rfl | (simp [errW_none, errW_some] <;> rfl)) | (simp [*, errW_none, errW_some] <;> rfl), by first | exact Kd.R_nil _ _ _ _ _ | exact Kd.N_nil _ _ _ _ _ | exact Kd.V_nil _ _ _ _ _ | exact Kd.Q_nil _ _ _ _ _ | exact Kd.S_nil _ _ _ _ _, by first | exact Kd.R_nil _ _ _ _ _ | exact Kd.N_nil _ _ _ _ _ | exact Kd.V_nil _ _ _ _ _ | exact Kd.Q_nil _ _ _ _ _ | exact Kd.S_nil _ _ _ _ _, zB⟩)
 | (refine bodyPost_ret (results_cell_row rfl _ _ gb101 35 #[.string (rdOf ByteArray.empty t124 0), .slice Aoz9 t133.length coz9, .slice Aoz10 t137.length coz10, .int .i64 0] (0, 0) _ rfl (kp _ BK101) Tryz.underlying35 rfl (by kernel_rfl)) rfl ?_; exact ⟨_, _, by first | rfl | (simp [errW_none, errW_some] <;> rfl) | (simp only [← hji6]; first | rfl | (simp [errW_none, errW_some] <;> rfl)) | (simp [*, errW_none, errW_some] <;> rfl), by (with_reducible repeat (first | apply Kd.R_alloc | apply Kd.R_drewN | apply Kd.R_drew)); exact Kd.R_mono (Kd.R_far (p := ⟨gb101, 3, none⟩) (Kd.R_far (p := ⟨gb101, 2, none⟩) (Kd.R_far (p := ⟨gb101, 1, none⟩) (Kd.R_far (p := ⟨gb101, 0, none⟩) (Kd.R_types HO136.out BK101.out (by decide)) (fun _ hk => hk.2) (.string (rdOf ByteArray.empty t124 0))) (fun _ hk => hk.2) (.slice Aoz9 t133.length coz9)) (fun _ hk => hk.2) (.slice Aoz10 t137.length coz10)) (fun _ hk => hk.2) (.int .i64 0)) (fun _ hk => trivial), by (with_reducible repeat (first | apply Kd.R_alloc | apply Kd.R_drewN | apply Kd.R_drew)); exact Kd.R_mono (Kd.R_far (p := ⟨gb101, 3, none⟩) (Kd.R_far (p := ⟨gb101, 2, none⟩) (Kd.R_far (p := ⟨gb101, 1, none⟩) (Kd.R_far (p := ⟨gb101, 0, none⟩) (Kd.R_types HO140.out BK101.out (by decide)) (fun _ hk => hk.2) (.string (rdOf ByteArray.empty t124 0))) (fun _ hk => hk.2) (.slice Aoz9 t133.length coz9)) (fun _ hk => hk.2) (.slice Aoz10 t137.length coz10)) (fun _ hk => hk.2) (.int .i64 0)) (fun _ hk => trivial), zB⟩)
 | (refine bodyPost_ret (results_cell_row rfl _ _ gb101 35 #[.string (⟨#[]⟩ : ByteArray), .slice none 0 0, .slice none 0 0, .int .i64 2] (0, 0) _ rfl (kp _ BK101) Tryz.underlying35 rfl (by kernel_rfl)) rfl ?_; exact ⟨_, _, zE, by first | exact Kd.R_nil _ _ _ _ _ | exact Kd.N_nil _ _ _ _ _ | exact Kd.V_nil _ _ _ _ _ | exact Kd.Q_nil _ _ _ _ _ | exact Kd.S_nil _ _ _ _ _, by first | exact Kd.R_nil _ _ _ _ _ | exact Kd.N_nil _ _ _ _ _ | exact Kd.V_nil _ _ _ _ _ | exact Kd.Q_nil _ _ _ _ _ | exact Kd.S_nil _ _ _ _ _, zB⟩)
 | (refine bodyPost_ret (results_cell_row rfl _ _ gb101 35 #[.string (rdOf ByteArray.empty t142 0), .slice Aoz8 t151.length coz8, .slice Aoz9 t155.length coz9, .int .i64 0] (0, 0) _ rfl (kp _ BK101) Tryz.underlying35 rfl (by kernel_rfl)) rfl ?_; exact ⟨_, _, zE, by (with_reducible repeat (first | apply Kd.R_alloc | apply Kd.R_drewN | apply Kd.R_drew)); exact Kd.R_mono (Kd.R_far (p := ⟨gb101, 3, none⟩) (Kd.R_far (p := ⟨gb101, 2, none⟩) (Kd.R_far (p := ⟨gb101, 1, none⟩) (Kd.R_far (p := ⟨gb101, 0, none⟩) (Kd.R_types HO154.out BK101.out (by decide)) (fun _ hk => hk.2) (.string (rdOf ByteArray.empty t142 0))) (fun _ hk => hk.2) (.slice Aoz8 t151.length coz8)) (fun _ hk => hk.2) (.slice Aoz9 t155.length coz9)) (fun _ hk => hk.2) (.int .i64 0)) (fun _ hk => trivial), by (with_reducible repeat (first | apply Kd.R_alloc | apply Kd.R_drewN | apply Kd.R_drew)); exact Kd.R_mono (Kd.R_far (p := ⟨gb101, 3, none⟩) (Kd.R_far (p := ⟨gb101, 2, none⟩) (Kd.R_far (p := ⟨gb101, 1, none⟩) (Kd.R_far (p := ⟨gb101, 0, none⟩) (Kd.R_types HO158.out BK101.out (by decide)) (fun _ hk => hk.2) (.string (rdOf ByteArray.empty t142 0))) (fun _ hk => hk.2) (.slice Aoz8 t151.length coz8)) (fun _ hk => hk.2) (.slice Aoz9 t155.length coz9)) (fun _ hk => hk.2) (.int .i64 0)) (fun _ hk => trivial), zB⟩)
 | (refine bodyPost_ret (results_cell_row rfl _ _ gb101 35 #[.string (⟨#[]⟩ : ByteArray), .slice none 0 0, .slice none 0 0, .int .i64 3] (0, 0) _ rfl (kp _ BK101) Tryz.underlying35 rfl (by kernel_rfl)) rfl ?_; exact ⟨_, _, zE, by first | exact Kd.R_nil _ _ _ _ _ | exact Kd.N_nil _ _ _ _ _ | exact Kd.V_nil _ _ _ _ _ | exact Kd.Q_nil _ _ _ _ _ | exact Kd.S_nil _ _ _ _ _, by first | exact Kd.R_nil _ _ _ _ _ | exact Kd.N_nil _ _ _ _ _ | exact Kd.V_nil _ _ _ _ _ | exact Kd.Q_nil _ _ _ _ _ | exact Kd.S_nil _ _ _ _ _, zB⟩)) : p := h
set_option maxHeartbeats 8000000 in
set_option maxRecDepth 100000 in
theorem weirgateref06_Parse.calls (k : Nat) (a0 : ByteArray) (r1 : ByteArray) (r2 : List ByteArray) (r3 : List (S66)) (r4 : Int) (w : World) (h : weirgateref06_Parse.f k a0 = some (r1, r2, r3, r4)) :
  Calls Tryz.prog 15 #[.string a0] w fun e w' => ∃ v1_ v2_ : Value, e = .returned (.agg #[.string r1, v1_, v2_, .int .i64 r4]) ∧ Kd.R Kd.string 9 w' w.heap.size (fun _ => True) v1_ r2 ∧ Kd.R k66 66 w' w.heap.size (fun _ => True) v2_ r3 ∧ Below w.heap.size w w' := by
 have hu35 := Tryz.underlying35
 have hu25 := Tryz.underlying25
 have HB := Aside0.mk (Below.refl w.heap.size w)
 have H : (if (a0.size : Int) > 4096 then (some ((⟨#[]⟩ : ByteArray), ([] : List ByteArray), ([] : List (S66)), 2)) else ((weirgateref06_small.f a0).bind fun t102 => ((weirgateref06_cut.f k t102 63).bind fun bt103 => (if (bt103.1.size : Int) > 0 then (if 0 ≤ (wrap64 ((bt103.1.size : Int) - 1)) then (if (wrap64 ((bt103.1.size : Int) - 1)) < (bt103.1.size : Int) then (if (bt bt103.1 (wrap64 ((bt103.1.size : Int) - 1))) = 47 then (if (wrap64 ((bt103.1.size : Int) - 1)) ≤ (bt103.1.size : Int) then ((weirgateref06_split.f k (bt103.1.extract 0 ((wrap64 ((bt103.1.size : Int) - 1)) : Int).toNat) 47).bind fun t106 => (if 0 < (t106.length : Int) then ((weirgateref06_Name.f k (rdOf ByteArray.empty t106 0)).bind fun t110 => (if t110 = true then (if 1 ≤ (t106.length : Int) then ((weirgateref06_path.f k (t106.drop 1)).bind fun bt115 => ((weirgateref06_query.f k bt103.2.1).bind fun bt119 => (if bt115.2 = true then (if bt119.2 = true then (if (bt115.1.length : Int) > 32 then (some ((⟨#[]⟩ : ByteArray), ([] : List ByteArray), ([] : List (S66)), 2)) else (if (bt119.1.length : Int) > 16 then (some ((⟨#[]⟩ : ByteArray), ([] : List ByteArray), ([] : List (S66)), 2)) else (some (rdOf ByteArray.empty t106 0, bt115.1, bt119.1, 0)))) else (some ((⟨#[]⟩ : ByteArray), ([] : List ByteArray), ([] : List (S66)), 3))) else (some ((⟨#[]⟩ : ByteArray), ([] : List ByteArray), ([] : List (S66)), 3))))) else (none)) else (some ((⟨#[]⟩ : ByteArray), ([] : List ByteArray), ([] : List (S66)), 3)))) else (none))) else (none)) else ((weirgateref06_split.f k bt103.1 47).bind fun t124 => (if 0 < (t124.length : Int) then ((weirgateref06_Name.f k (rdOf ByteArray.empty t124 0)).bind fun t128 => (if t128 = true then (if 1 ≤ (t124.length : Int) then ((weirgateref06_path.f k (t124.drop 1)).bind fun bt133 => ((weirgateref06_query.f k bt103.2.1).bind fun bt137 => (if bt133.2 = true then (if bt137.2 = true then (if (bt133.1.length : Int) > 32 then (some ((⟨#[]⟩ : ByteArray), ([] : List ByteArray), ([] : List (S66)), 2)) else (if (bt137.1.length : Int) > 16 then (some ((⟨#[]⟩ : ByteArray), ([] : List ByteArray), ([] : List (S66)), 2)) else (some (rdOf ByteArray.empty t124 0, bt133.1, bt137.1, 0)))) else (some ((⟨#[]⟩ : ByteArray), ([] : List ByteArray), ([] : List (S66)), 3))) else (some ((⟨#[]⟩ : ByteArray), ([] : List ByteArray), ([] : List (S66)), 3))))) else (none)) else (some ((⟨#[]⟩ : ByteArray), ([] : List ByteArray), ([] : List (S66)), 3)))) else (none)))) else (none)) else (none)) else ((weirgateref06_split.f k bt103.1 47).bind fun t142 => (if 0 < (t142.length : Int) then ((weirgateref06_Name.f k (rdOf ByteArray.empty t142 0)).bind fun t146 => (if t146 = true then (if 1 ≤ (t142.length : Int) then ((weirgateref06_path.f k (t142.drop 1)).bind fun bt151 => ((weirgateref06_query.f k bt103.2.1).bind fun bt155 => (if bt151.2 = true then (if bt155.2 = true then (if (bt151.1.length : Int) > 32 then (some ((⟨#[]⟩ : ByteArray), ([] : List ByteArray), ([] : List (S66)), 2)) else (if (bt155.1.length : Int) > 16 then (some ((⟨#[]⟩ : ByteArray), ([] : List ByteArray), ([] : List (S66)), 2)) else (some (rdOf ByteArray.empty t142 0, bt151.1, bt155.1, 0)))) else (some ((⟨#[]⟩ : ByteArray), ([] : List ByteArray), ([] : List (S66)), 3))) else (some ((⟨#[]⟩ : ByteArray), ([] : List ByteArray), ([] : List (S66)), 3))))) else (none)) else (some ((⟨#[]⟩ : ByteArray), ([] : List ByteArray), ([] : List (S66)), 3)))) else (none))))))) = some (r1, r2, r3, r4) := h
 clear h
 by_cases c2 : (a0.size : Int) > 4096
 ·rw [if_pos c2] at H
  have c2b0 : decide (4096 < (a0.size : Int)) = true := decide_eq_true c2
  have c2b1 : decide (4096 < a0.size) = true := decide_eq_true (by omega)
  clear c2
  simp only [Option.some.injEq, Prod.mk.injEq] at H
  obtain ⟨rfl, rfl, rfl, rfl⟩ := H
  go_enter Tryz.func15, Tryz.ntmps15
  go_wp2_with (first | ((with_reducible refine gate_dst (N := 2) rfl ?_); (try (refine gate_guard (by rfl) ?_; dsimp only)); refine bx 2 #[.string (⟨#[]⟩ : ByteArray), .slice none 0 0, .slice none 0 0, .int .i64 0] 35 fun gb101 hg w3 hbox hb => ?_; have BK101 := Aside0.mk (hbox); have GW101 := gw w hg; have GE101 := gw w hg; replace HB := sb w hb; clear hb hbox hg; obtain ⟨hcz4_0, hcz4_1, hcz4_2, hcz4_3, hfz4_0, hfz4_1, hfz4_2, hfz4_3⟩ := cf4 BK101))
  refine bodyPost_ret (results_cell_row rfl _ _ gb101 35 #[.string (⟨#[]⟩ : ByteArray), .slice none 0 0, .slice none 0 0, .int .i64 2] (0, 0) _ rfl (kp _ BK101) Tryz.underlying35 rfl (by kernel_rfl)) rfl ?_
  exact ⟨_, _, zE, by first | exact Kd.R_nil _ _ _ _ _ | exact Kd.N_nil _ _ _ _ _ | exact Kd.V_nil _ _ _ _ _ | exact Kd.Q_nil _ _ _ _ _ | exact Kd.S_nil _ _ _ _ _, by first | exact Kd.R_nil _ _ _ _ _ | exact Kd.N_nil _ _ _ _ _ | exact Kd.V_nil _ _ _ _ _ | exact Kd.Q_nil _ _ _ _ _ | exact Kd.S_nil _ _ _ _ _, zB⟩
 ·rw [if_neg c2] at H
  have c2b0 : decide (4096 < (a0.size : Int)) = false := decide_eq_false c2
  have c2b1 : decide (4096 < a0.size) = false := decide_eq_false (by omega)
  clear c2
  obtain ⟨t102, A3, H⟩ := bd H
  obtain ⟨⟨t103, t104, t105⟩, A4, H⟩ := bd H
  dsimp only at H
  by_cases c5 : (t103.size : Int) > 0
  ·rw [if_pos c5] at H
   have c5b0 : decide (0 < (t103.size : Int)) = true := decide_eq_true c5
   have c5b1 : decide (0 < t103.size) = true := decide_eq_true (by omega)
   clear c5
   obtain ⟨ji6, hji6⟩ : ∃ j_ : Int, (wrap64 ((t103.size : Int) - 1)) = j_ := ⟨_, rfl⟩
   replace H : (if 0 ≤ (ji6) then (if (ji6) < (t103.size : Int) then (if (bt t103 (ji6)) = 47 then (if (ji6) ≤ (t103.size : Int) then ((weirgateref06_split.f k (t103.extract 0 ((ji6) : Int).toNat) 47).bind fun t106 => (if 0 < (t106.length : Int) then ((weirgateref06_Name.f k (rdOf ByteArray.empty t106 0)).bind fun t110 => (if t110 = true then (if 1 ≤ (t106.length : Int) then ((weirgateref06_path.f k (t106.drop 1)).bind fun bt115 => ((weirgateref06_query.f k t104).bind fun bt119 => (if bt115.2 = true then (if bt119.2 = true then (if (bt115.1.length : Int) > 32 then (some ((⟨#[]⟩ : ByteArray), ([] : List ByteArray), ([] : List (S66)), 2)) else (if (bt119.1.length : Int) > 16 then (some ((⟨#[]⟩ : ByteArray), ([] : List ByteArray), ([] : List (S66)), 2)) else (some (rdOf ByteArray.empty t106 0, bt115.1, bt119.1, 0)))) else (some ((⟨#[]⟩ : ByteArray), ([] : List ByteArray), ([] : List (S66)), 3))) else (some ((⟨#[]⟩ : ByteArray), ([] : List ByteArray), ([] : List (S66)), 3))))) else (none)) else (some ((⟨#[]⟩ : ByteArray), ([] : List ByteArray), ([] : List (S66)), 3)))) else (none))) else (none)) else ((weirgateref06_split.f k t103 47).bind fun t124 => (if 0 < (t124.length : Int) then ((weirgateref06_Name.f k (rdOf ByteArray.empty t124 0)).bind fun t128 => (if t128 = true then (if 1 ≤ (t124.length : Int) then ((weirgateref06_path.f k (t124.drop 1)).bind fun bt133 => ((weirgateref06_query.f k t104).bind fun bt137 => (if bt133.2 = true then (if bt137.2 = true then (if (bt133.1.length : Int) > 32 then (some ((⟨#[]⟩ : ByteArray), ([] : List ByteArray), ([] : List (S66)), 2)) else (if (bt137.1.length : Int) > 16 then (some ((⟨#[]⟩ : ByteArray), ([] : List ByteArray), ([] : List (S66)), 2)) else (some (rdOf ByteArray.empty t124 0, bt133.1, bt137.1, 0)))) else (some ((⟨#[]⟩ : ByteArray), ([] : List ByteArray), ([] : List (S66)), 3))) else (some ((⟨#[]⟩ : ByteArray), ([] : List ByteArray), ([] : List (S66)), 3))))) else (none)) else (some ((⟨#[]⟩ : ByteArray), ([] : List ByteArray), ([] : List (S66)), 3)))) else (none)))) else (none)) else (none)) = some (r1, r2, r3, r4) := by first | (rw [hji6] at H; exact H) | (simp only [hji6] at H ⊢; exact H)
   (try rw [hji6] at A3)
   (try rw [hji6] at A4)
   have hji6w : (IntKind.i64.wrap ((t103.size : Int) - 1)) = ji6 := (i64_w _).trans hji6
   by_cases c7 : 0 ≤ (ji6)
   ·rw [if_pos c7] at H
    have c7b0 : decide (0 ≤ (ji6)) = true := decide_eq_true c7
    clear c7
    by_cases c8 : (ji6) < (t103.size : Int)
    ·rw [if_pos c8] at H
     have c8b0 : decide ((ji6) < (t103.size : Int)) = true := decide_eq_true c8
     clear c8
     by_cases c10 : (bt t103 (ji6)) = 47
     ·rw [if_pos c10] at H
      have c10b0 : ((bt t103 (ji6)) == 47) = true := beq_iff_eq.mpr c10
      have c10b1 : ((bt t103 (ji6)) != 47) = false := bne_eq_false_iff_eq.mpr c10
      clear c10
      have c11b0 := eq_true (of_decide_eq_true za : 0 ≤ (ji6))
      by_cases c12 : (ji6) ≤ (t103.size : Int)
      ·rw [if_pos c12] at H
       have c12b0 := eq_true c12
       have c12b1 : decide ((ji6) ≤ (t103.size : Int)) = true := decide_eq_true c12
       clear c12
       obtain ⟨t106, A13, H⟩ := bd H
       by_cases c14 : 0 < (t106.length : Int)
       ·rw [if_pos c14] at H
        have c14b0 : decide (0 < (t106.length : Int)) = true := decide_eq_true c14
        have c14b1 : decide (0 < t106.length) = true := decide_eq_true (by omega)
        clear c14
        obtain ⟨t110, A15, H⟩ := bd H
        by_cases c16 : t110 = true
        ·subst c16
         rw [if_pos rfl] at H
         by_cases c17 : 1 ≤ (t106.length : Int)
         ·rw [if_pos c17] at H
          have c17b0 := eq_true c17
          have c17b1 : decide (1 ≤ (t106.length : Int)) = true := decide_eq_true c17
          clear c17
          obtain ⟨y111, hy111⟩ : ∃ y_ : List ByteArray, y_ = (t106.drop 1) := ⟨_, rfl⟩
          replace H : ((weirgateref06_path.f k y111).bind fun bt115 => ((weirgateref06_query.f k t104).bind fun bt119 => (if bt115.2 = true then (if bt119.2 = true then (if (bt115.1.length : Int) > 32 then (some ((⟨#[]⟩ : ByteArray), ([] : List ByteArray), ([] : List (S66)), 2)) else (if (bt119.1.length : Int) > 16 then (some ((⟨#[]⟩ : ByteArray), ([] : List ByteArray), ([] : List (S66)), 2)) else (some (rdOf ByteArray.empty t106 0, bt115.1, bt119.1, 0)))) else (some ((⟨#[]⟩ : ByteArray), ([] : List ByteArray), ([] : List (S66)), 3))) else (some ((⟨#[]⟩ : ByteArray), ([] : List ByteArray), ([] : List (S66)), 3))))) = some (r1, r2, r3, r4) := by first | (rw [hy111]; with_reducible exact H) | (have H2_ := (Option.bind_some _ _).symm.trans H; rw [hy111]; with_reducible exact H2_) | (have H2_ := (Option.bind_some _ _).symm.trans H; with_reducible exact H2_) | with_reducible exact H | (rw [hy111]; exact H) | exact H
          have Ny111 := Aside0.mk hy111
          clear hy111
          obtain ⟨⟨t115, t116⟩, A18, H⟩ := bd H
          dsimp only at H
          obtain ⟨⟨t119, t120⟩, A19, H⟩ := bd H
          dsimp only at H
          by_cases c20 : t116 = true
          ·subst c20
           rw [if_pos rfl] at H
           by_cases c21 : t120 = true
           ·subst c21
            rw [if_pos rfl] at H
            by_cases c22 : (t115.length : Int) > 32
            ·rw [if_pos c22] at H
             have c22b0 : decide (32 < (t115.length : Int)) = true := decide_eq_true c22
             have c22b1 : decide (32 < t115.length) = true := decide_eq_true (by omega)
             clear c22
             simp only [Option.some.injEq, Prod.mk.injEq] at H
             obtain ⟨rfl, rfl, rfl, rfl⟩ := H
             go_enter Tryz.func15, Tryz.ntmps15
             exact weirgateref06_Parse.lf
            ·rw [if_neg c22] at H
             have c22b0 : decide (32 < (t115.length : Int)) = false := decide_eq_false c22
             have c22b1 : decide (32 < t115.length) = false := decide_eq_false (by omega)
             clear c22
             by_cases c23 : (t119.length : Int) > 16
             ·rw [if_pos c23] at H
              have c23b0 : decide (16 < (t119.length : Int)) = true := decide_eq_true c23
              have c23b1 : decide (16 < t119.length) = true := decide_eq_true (by omega)
              clear c23
              simp only [Option.some.injEq, Prod.mk.injEq] at H
              obtain ⟨rfl, rfl, rfl, rfl⟩ := H
              go_enter Tryz.func15, Tryz.ntmps15
              exact weirgateref06_Parse.lf
             ·rw [if_neg c23] at H
              have c23b0 : decide (16 < (t119.length : Int)) = false := decide_eq_false c23
              have c23b1 : decide (16 < t119.length) = false := decide_eq_false (by omega)
              clear c23
              simp only [Option.some.injEq, Prod.mk.injEq] at H
              obtain ⟨rfl, rfl, rfl, rfl⟩ := H
              go_enter Tryz.func15, Tryz.ntmps15
              exact weirgateref06_Parse.lf
           ·replace c21 := Bool.eq_false_iff.mpr c21
            subst c21
            rw [if_neg Bool.false_ne_true] at H
            simp only [Option.some.injEq, Prod.mk.injEq] at H
            obtain ⟨rfl, rfl, rfl, rfl⟩ := H
            go_enter Tryz.func15, Tryz.ntmps15
            exact weirgateref06_Parse.lf
          ·replace c20 := Bool.eq_false_iff.mpr c20
           subst c20
           rw [if_neg Bool.false_ne_true] at H
           simp only [Option.some.injEq, Prod.mk.injEq] at H
           obtain ⟨rfl, rfl, rfl, rfl⟩ := H
           go_enter Tryz.func15, Tryz.ntmps15
           exact weirgateref06_Parse.lf
         ·rw [if_neg c17] at H
          exact absurd H (by simp)
        ·replace c16 := Bool.eq_false_iff.mpr c16
         subst c16
         rw [if_neg Bool.false_ne_true] at H
         simp only [Option.some.injEq, Prod.mk.injEq] at H
         obtain ⟨rfl, rfl, rfl, rfl⟩ := H
         go_enter Tryz.func15, Tryz.ntmps15
         exact weirgateref06_Parse.lf
       ·rw [if_neg c14] at H
        exact absurd H (by simp)
      ·rw [if_neg c12] at H
       exact absurd H (by simp)
     ·rw [if_neg c10] at H
      have c10b0 : ((bt t103 (ji6)) == 47) = false := beq_eq_false_iff_ne.mpr c10
      have c10b1 : ((bt t103 (ji6)) != 47) = true := bne_iff_ne.mpr c10
      obtain ⟨t124, A11, H⟩ := bd H
      by_cases c12 : 0 < (t124.length : Int)
      ·rw [if_pos c12] at H
       have c12b0 : decide (0 < (t124.length : Int)) = true := decide_eq_true c12
       have c12b1 : decide (0 < t124.length) = true := decide_eq_true (by omega)
       clear c12
       obtain ⟨t128, A13, H⟩ := bd H
       by_cases c14 : t128 = true
       ·subst c14
        rw [if_pos rfl] at H
        by_cases c15 : 1 ≤ (t124.length : Int)
        ·rw [if_pos c15] at H
         have c15b0 := eq_true c15
         have c15b1 : decide (1 ≤ (t124.length : Int)) = true := decide_eq_true c15
         clear c15
         obtain ⟨y129, hy129⟩ : ∃ y_ : List ByteArray, y_ = (t124.drop 1) := ⟨_, rfl⟩
         replace H : ((weirgateref06_path.f k y129).bind fun bt133 => ((weirgateref06_query.f k t104).bind fun bt137 => (if bt133.2 = true then (if bt137.2 = true then (if (bt133.1.length : Int) > 32 then (some ((⟨#[]⟩ : ByteArray), ([] : List ByteArray), ([] : List (S66)), 2)) else (if (bt137.1.length : Int) > 16 then (some ((⟨#[]⟩ : ByteArray), ([] : List ByteArray), ([] : List (S66)), 2)) else (some (rdOf ByteArray.empty t124 0, bt133.1, bt137.1, 0)))) else (some ((⟨#[]⟩ : ByteArray), ([] : List ByteArray), ([] : List (S66)), 3))) else (some ((⟨#[]⟩ : ByteArray), ([] : List ByteArray), ([] : List (S66)), 3))))) = some (r1, r2, r3, r4) := by first | (rw [hy129]; with_reducible exact H) | (have H2_ := (Option.bind_some _ _).symm.trans H; rw [hy129]; with_reducible exact H2_) | (have H2_ := (Option.bind_some _ _).symm.trans H; with_reducible exact H2_) | with_reducible exact H | (rw [hy129]; exact H) | exact H
         have Ny129 := Aside0.mk hy129
         clear hy129
         obtain ⟨⟨t133, t134⟩, A16, H⟩ := bd H
         dsimp only at H
         obtain ⟨⟨t137, t138⟩, A17, H⟩ := bd H
         dsimp only at H
         by_cases c18 : t134 = true
         ·subst c18
          rw [if_pos rfl] at H
          by_cases c19 : t138 = true
          ·subst c19
           rw [if_pos rfl] at H
           by_cases c20 : (t133.length : Int) > 32
           ·rw [if_pos c20] at H
            have c20b0 : decide (32 < (t133.length : Int)) = true := decide_eq_true c20
            have c20b1 : decide (32 < t133.length) = true := decide_eq_true (by omega)
            clear c20
            simp only [Option.some.injEq, Prod.mk.injEq] at H
            obtain ⟨rfl, rfl, rfl, rfl⟩ := H
            go_enter Tryz.func15, Tryz.ntmps15
            exact weirgateref06_Parse.lf
           ·rw [if_neg c20] at H
            have c20b0 : decide (32 < (t133.length : Int)) = false := decide_eq_false c20
            have c20b1 : decide (32 < t133.length) = false := decide_eq_false (by omega)
            clear c20
            by_cases c21 : (t137.length : Int) > 16
            ·rw [if_pos c21] at H
             have c21b0 : decide (16 < (t137.length : Int)) = true := decide_eq_true c21
             have c21b1 : decide (16 < t137.length) = true := decide_eq_true (by omega)
             clear c21
             simp only [Option.some.injEq, Prod.mk.injEq] at H
             obtain ⟨rfl, rfl, rfl, rfl⟩ := H
             go_enter Tryz.func15, Tryz.ntmps15
             exact weirgateref06_Parse.lf
            ·rw [if_neg c21] at H
             have c21b0 : decide (16 < (t137.length : Int)) = false := decide_eq_false c21
             have c21b1 : decide (16 < t137.length) = false := decide_eq_false (by omega)
             clear c21
             simp only [Option.some.injEq, Prod.mk.injEq] at H
             obtain ⟨rfl, rfl, rfl, rfl⟩ := H
             go_enter Tryz.func15, Tryz.ntmps15
             exact weirgateref06_Parse.lf
          ·replace c19 := Bool.eq_false_iff.mpr c19
           subst c19
           rw [if_neg Bool.false_ne_true] at H
           simp only [Option.some.injEq, Prod.mk.injEq] at H
           obtain ⟨rfl, rfl, rfl, rfl⟩ := H
           go_enter Tryz.func15, Tryz.ntmps15
           exact weirgateref06_Parse.lf
         ·replace c18 := Bool.eq_false_iff.mpr c18
          subst c18
          rw [if_neg Bool.false_ne_true] at H
          simp only [Option.some.injEq, Prod.mk.injEq] at H
          obtain ⟨rfl, rfl, rfl, rfl⟩ := H
          go_enter Tryz.func15, Tryz.ntmps15
          exact weirgateref06_Parse.lf
        ·rw [if_neg c15] at H
         exact absurd H (by simp)
       ·replace c14 := Bool.eq_false_iff.mpr c14
        subst c14
        rw [if_neg Bool.false_ne_true] at H
        simp only [Option.some.injEq, Prod.mk.injEq] at H
        obtain ⟨rfl, rfl, rfl, rfl⟩ := H
        go_enter Tryz.func15, Tryz.ntmps15
        exact weirgateref06_Parse.lf
      ·rw [if_neg c12] at H
       exact absurd H (by simp)
    ·rw [if_neg c8] at H
     exact absurd H (by simp)
   ·rw [if_neg c7] at H
    exact absurd H (by simp)
  ·rw [if_neg c5] at H
   have c5b0 : decide (0 < (t103.size : Int)) = false := decide_eq_false c5
   have c5b1 : decide (0 < t103.size) = false := decide_eq_false (by omega)
   clear c5
   obtain ⟨t142, A6, H⟩ := bd H
   by_cases c7 : 0 < (t142.length : Int)
   ·rw [if_pos c7] at H
    have c7b0 : decide (0 < (t142.length : Int)) = true := decide_eq_true c7
    have c7b1 : decide (0 < t142.length) = true := decide_eq_true (by omega)
    clear c7
    obtain ⟨t146, A8, H⟩ := bd H
    by_cases c9 : t146 = true
    ·subst c9
     rw [if_pos rfl] at H
     by_cases c10 : 1 ≤ (t142.length : Int)
     ·rw [if_pos c10] at H
      have c10b0 := eq_true c10
      have c10b1 : decide (1 ≤ (t142.length : Int)) = true := decide_eq_true c10
      clear c10
      obtain ⟨y147, hy147⟩ : ∃ y_ : List ByteArray, y_ = (t142.drop 1) := ⟨_, rfl⟩
      replace H : ((weirgateref06_path.f k y147).bind fun bt151 => ((weirgateref06_query.f k t104).bind fun bt155 => (if bt151.2 = true then (if bt155.2 = true then (if (bt151.1.length : Int) > 32 then (some ((⟨#[]⟩ : ByteArray), ([] : List ByteArray), ([] : List (S66)), 2)) else (if (bt155.1.length : Int) > 16 then (some ((⟨#[]⟩ : ByteArray), ([] : List ByteArray), ([] : List (S66)), 2)) else (some (rdOf ByteArray.empty t142 0, bt151.1, bt155.1, 0)))) else (some ((⟨#[]⟩ : ByteArray), ([] : List ByteArray), ([] : List (S66)), 3))) else (some ((⟨#[]⟩ : ByteArray), ([] : List ByteArray), ([] : List (S66)), 3))))) = some (r1, r2, r3, r4) := by first | (rw [hy147]; with_reducible exact H) | (have H2_ := (Option.bind_some _ _).symm.trans H; rw [hy147]; with_reducible exact H2_) | (have H2_ := (Option.bind_some _ _).symm.trans H; with_reducible exact H2_) | with_reducible exact H | (rw [hy147]; exact H) | exact H
      have Ny147 := Aside0.mk hy147
      clear hy147
      obtain ⟨⟨t151, t152⟩, A11, H⟩ := bd H
      dsimp only at H
      obtain ⟨⟨t155, t156⟩, A12, H⟩ := bd H
      dsimp only at H
      by_cases c13 : t152 = true
      ·subst c13
       rw [if_pos rfl] at H
       by_cases c14 : t156 = true
       ·subst c14
        rw [if_pos rfl] at H
        by_cases c15 : (t151.length : Int) > 32
        ·rw [if_pos c15] at H
         have c15b0 : decide (32 < (t151.length : Int)) = true := decide_eq_true c15
         have c15b1 : decide (32 < t151.length) = true := decide_eq_true (by omega)
         clear c15
         simp only [Option.some.injEq, Prod.mk.injEq] at H
         obtain ⟨rfl, rfl, rfl, rfl⟩ := H
         go_enter Tryz.func15, Tryz.ntmps15
         exact weirgateref06_Parse.lf
        ·rw [if_neg c15] at H
         have c15b0 : decide (32 < (t151.length : Int)) = false := decide_eq_false c15
         have c15b1 : decide (32 < t151.length) = false := decide_eq_false (by omega)
         clear c15
         by_cases c16 : (t155.length : Int) > 16
         ·rw [if_pos c16] at H
          have c16b0 : decide (16 < (t155.length : Int)) = true := decide_eq_true c16
          have c16b1 : decide (16 < t155.length) = true := decide_eq_true (by omega)
          clear c16
          simp only [Option.some.injEq, Prod.mk.injEq] at H
          obtain ⟨rfl, rfl, rfl, rfl⟩ := H
          go_enter Tryz.func15, Tryz.ntmps15
          exact weirgateref06_Parse.lf
         ·rw [if_neg c16] at H
          have c16b0 : decide (16 < (t155.length : Int)) = false := decide_eq_false c16
          have c16b1 : decide (16 < t155.length) = false := decide_eq_false (by omega)
          clear c16
          simp only [Option.some.injEq, Prod.mk.injEq] at H
          obtain ⟨rfl, rfl, rfl, rfl⟩ := H
          go_enter Tryz.func15, Tryz.ntmps15
          exact weirgateref06_Parse.lf
       ·replace c14 := Bool.eq_false_iff.mpr c14
        subst c14
        rw [if_neg Bool.false_ne_true] at H
        simp only [Option.some.injEq, Prod.mk.injEq] at H
        obtain ⟨rfl, rfl, rfl, rfl⟩ := H
        go_enter Tryz.func15, Tryz.ntmps15
        exact weirgateref06_Parse.lf
      ·replace c13 := Bool.eq_false_iff.mpr c13
       subst c13
       rw [if_neg Bool.false_ne_true] at H
       simp only [Option.some.injEq, Prod.mk.injEq] at H
       obtain ⟨rfl, rfl, rfl, rfl⟩ := H
       go_enter Tryz.func15, Tryz.ntmps15
       exact weirgateref06_Parse.lf
     ·rw [if_neg c10] at H
      exact absurd H (by simp)
    ·replace c9 := Bool.eq_false_iff.mpr c9
     subst c9
     rw [if_neg Bool.false_ne_true] at H
     simp only [Option.some.injEq, Prod.mk.injEq] at H
     obtain ⟨rfl, rfl, rfl, rfl⟩ := H
     go_enter Tryz.func15, Tryz.ntmps15
     exact weirgateref06_Parse.lf
   ·rw [if_neg c7] at H
    exact absurd H (by simp)
def weirgateref06_Canonical.f (k : Nat) (a0 : ByteArray) : Option (ByteArray × Int) := (weirgateref06_Parse.f k a0).bind fun bt102 => (if bt102.2.2.2 = 0 then ((weirgateref06_Text.f k bt102.1 bt102.2.1 bt102.2.2.1).bind fun bt111 => (some (bt111.1, bt111.2))) else (some ((⟨#[]⟩ : ByteArray), bt102.2.2.2)))
set_option maxRecDepth 100000 in
theorem weirgateref06_Canonical.lf {p : Prop} (h : p := by
 go_wp2_with (first
 | ((with_reducible refine gate_dst (N := 2) rfl ?_); refine bx 2 #[.string (⟨#[]⟩ : ByteArray), .int .i64 0] 38 fun gb101 hg wz0 hbox hb => ?_; have BK101 := Aside0.mk (hbox); have GW101 := gw w hg; have GE101 := gw w hg; replace HB := sb w hb; clear hb hbox hg)
 | ((with_reducible refine gate_callee (f := 15) rfl ?_); refine goesL_ (some 5) rfl rfl Tryz.func15 (by kernel_rfl) rfl #[.string a0] rfl zl ?_; (with_reducible refine (weirgateref06_Parse.calls _ _ _ _ _ _ _ A2.out).mono ?_); rintro e wz1 ⟨v104, v107, rfl, ho0, ho1, hb⟩; refine ⟨_, rfl, ?_⟩; have HO105 := Aside0.mk (Kd.R_lower ho0 (below_size zB)); have HO108 := Aside0.mk (Kd.R_lower ho1 (below_size zB)); replace BK101 := bb BK101 hb; replace HB := sb w hb; clear hb ho0 ho1)
 | ((with_reducible refine gate_callee (f := 17) rfl ?_); refine goesL_ (some 14) rfl rfl Tryz.func17 (by kernel_rfl) rfl #[.agg #[.string t102, .slice Aoz5 t103.length coz5, .slice Aoz6 t106.length coz6]] rfl zl ?_; (with_reducible refine (weirgateref06_Text.calls _ _ _ _ _ _ _ _ _ _ _ ?side1 ?side2 ?side3 ?side4 A4.out).mono ?_); (case side1 => refine (Kd.R_reads' (e := 9) (base := w.heap.size) (ok := fun k_ => True) (n := t103.length) (c := coz5) ?_).2.2; exact (kt HO105 BK110)); (case side2 => exact (Kd.R_reads' HO105.out).2.1); (case side3 => refine (Kd.R_reads' (e := 66) (base := w.heap.size) (ok := fun k_ => True) (n := t106.length) (c := coz6) ?_).2.2; exact (kt HO108 BK110)); (case side4 => exact (Kd.R_reads' HO108.out).2.1); rintro e wz7 ⟨rfl, hb⟩; refine ⟨_, rfl, ?_⟩; replace HO105 := rt HO105 BK110 hb; replace HO108 := rt HO108 BK110 hb; replace BK101 := bf BK101 hb; replace BK110 := bw #[.string t102, .slice Aoz5 t103.length coz5, .slice Aoz6 t106.length coz6, .int .i64 t109] BK110 hb; replace HB := sb w hb; clear hb; obtain ⟨hczz8_0, hczz8_1, hfzz8_0, hfzz8_1⟩ := cf2 BK101)
 | ((with_reducible refine gate_dst (N := 3) rfl ?_); refine bx 3 #[.string (⟨#[]⟩ : ByteArray), .slice none 0 0, .slice none 0 0, .int .i64 0] 35 fun gb110 hg wz2 hbox hb => ?_; replace HO105 := rb HO105 hb; replace HO108 := rb HO108 hb; have BK110 := Aside0.mk (hbox); have GW110 := gw w hg; have GE110 := gw w hg; replace HB := sb w hb; have NB101_110 := nl hg BK101; have NB110_101 := ng hg BK101; replace BK101 := bb BK101 hb; clear hb hbox hg; have hnbz3 := NB110_101.out; have hncz3 := NB101_110.out; obtain ⟨hczz4_0, hczz4_1, hczz4_2, hczz4_3, hfzz4_0, hfzz4_1, hfzz4_2, hfzz4_3⟩ := cf4 BK110; obtain ⟨Aoz5, coz5, eoz5⟩ := Kd.R_slice HO105.out; subst eoz5; obtain ⟨Aoz6, coz6, eoz6⟩ := Kd.R_slice HO108.out; subst eoz6; obtain ⟨hczz7_0, hczz7_1, hfzz7_0, hfzz7_1⟩ := cf2 BK101))
 first
 | (refine bodyPost_ret (results_cell_row rfl _ _ gb101 38 #[.string t111, .int .i64 t112] (0, 0) _ rfl (kp _ BK101) Tryz.underlying38 rfl (by kernel_rfl)) rfl ?_; exact ⟨zE, zB⟩)
 | (refine bodyPost_ret (results_cell_row rfl _ _ gb101 38 #[.string (⟨#[]⟩ : ByteArray), .int .i64 t109] (0, 0) _ rfl (kp _ BK101) Tryz.underlying38 rfl (by kernel_rfl)) rfl ?_; exact ⟨zE, zB⟩)) : p := h
set_option maxHeartbeats 8000000 in
set_option maxRecDepth 100000 in
theorem weirgateref06_Canonical.calls (k : Nat) (a0 : ByteArray) (r1 : ByteArray) (r2 : Int) (w : World) (h : weirgateref06_Canonical.f k a0 = some (r1, r2)) :
  Calls Tryz.prog 16 #[.string a0] w fun e w' => e = .returned (.agg #[.string r1, .int .i64 r2]) ∧ Below w.heap.size w w' := by
 have hu38 := Tryz.underlying38
 have hu35 := Tryz.underlying35
 have hu25 := Tryz.underlying25
 have HB := Aside0.mk (Below.refl w.heap.size w)
 have H : ((weirgateref06_Parse.f k a0).bind fun bt102 => (if bt102.2.2.2 = 0 then ((weirgateref06_Text.f k bt102.1 bt102.2.1 bt102.2.2.1).bind fun bt111 => (some (bt111.1, bt111.2))) else (some ((⟨#[]⟩ : ByteArray), bt102.2.2.2)))) = some (r1, r2) := h
 clear h
 obtain ⟨⟨t102, t103, t106, t109⟩, A2, H⟩ := bd H
 dsimp only at H
 by_cases c3 : t109 = 0
 ·rw [if_pos c3] at H
  have c3b0 : (t109 == 0) = true := beq_iff_eq.mpr c3
  have c3b1 : (t109 != 0) = false := bne_eq_false_iff_eq.mpr c3
  clear c3
  obtain ⟨⟨t111, t112⟩, A4, H⟩ := bd H
  dsimp only at H
  simp only [Option.some.injEq, Prod.mk.injEq] at H
  obtain ⟨rfl, rfl⟩ := H
  go_enter Tryz.func16, Tryz.ntmps16
  exact weirgateref06_Canonical.lf
 ·rw [if_neg c3] at H
  have c3b0 : (t109 == 0) = false := beq_eq_false_iff_ne.mpr c3
  have c3b1 : (t109 != 0) = true := bne_iff_ne.mpr c3
  simp only [Option.some.injEq, Prod.mk.injEq] at H
  obtain ⟨rfl, rfl⟩ := H
  go_enter Tryz.func16, Tryz.ntmps16
  exact weirgateref06_Canonical.lf
def address_example.f (a0 : ByteArray) (l1 : List ByteArray) : Option (ByteArray) := (some (([a0] : List ByteArray) : List ByteArray)).bind fun y101 => (if y101.length + l1.length < 8796093022208 then ((strings_Join.f (y101 ++ l1) (⟨#[47]⟩ : ByteArray)).bind fun t107 => (some t107)) else (none))
set_option maxHeartbeats 8000000 in
set_option maxRecDepth 100000 in
theorem address_example.calls (a0 : ByteArray) (A1 : Option Addr) (c1 : Nat) (l1 : List ByteArray) (r : ByteArray) (w : World) (hr1 : Kd.C Kd.string w A1 l1.length l1) (hc1 : l1.length ≤ c1) (h : address_example.f a0 l1 = some r) :
  Calls Tryz.prog 73 #[.string a0, .slice A1 l1.length c1] w fun e w' => e = .returned (.string r) ∧ Below w.heap.size w w' := by
 have HR1 := Aside0.mk hr1
 have HC1 := Aside0.mk hc1
 clear hr1 hc1
 have HB := Aside0.mk (Below.refl w.heap.size w)
 have H : ((some (([a0] : List ByteArray) : List ByteArray)).bind fun y101 => (if y101.length + l1.length < 8796093022208 then ((strings_Join.f (y101 ++ l1) (⟨#[47]⟩ : ByteArray)).bind fun t107 => (some t107)) else (none))) = some r := h
 clear h
 obtain ⟨y101, hy101⟩ : ∃ y_ : List ByteArray, y_ = (([a0] : List ByteArray)) := ⟨_, rfl⟩
 replace H : (if y101.length + l1.length < 8796093022208 then ((strings_Join.f (y101 ++ l1) (⟨#[47]⟩ : ByteArray)).bind fun t107 => (some t107)) else (none)) = some r := by first | (rw [hy101]; with_reducible exact H) | (have H2_ := (Option.bind_some _ _).symm.trans H; rw [hy101]; with_reducible exact H2_) | (have H2_ := (Option.bind_some _ _).symm.trans H; with_reducible exact H2_) | with_reducible exact H | (rw [hy101]; exact H) | exact H
 have Ny101 := Aside0.mk hy101
 clear hy101
 by_cases c3 : y101.length + l1.length < 8796093022208
 ·rw [if_pos c3] at H
  have LMc3 := Aside0.mk c3
  clear c3
  obtain ⟨y104, hy104⟩ : ∃ y_ : List ByteArray, y_ = (y101 ++ l1) := ⟨_, rfl⟩
  replace H : ((strings_Join.f y104 (⟨#[47]⟩ : ByteArray)).bind fun t107 => (some t107)) = some r := by first | (rw [hy104]; with_reducible exact H) | (have H2_ := (Option.bind_some _ _).symm.trans H; rw [hy104]; with_reducible exact H2_) | (have H2_ := (Option.bind_some _ _).symm.trans H; with_reducible exact H2_) | with_reducible exact H | (rw [hy104]; exact H) | exact H
  have Ny104 := Aside0.mk hy104
  clear hy104
  obtain ⟨t107, A4, H⟩ := bd H
  obtain rfl := Option.some.inj H
  go_enter Tryz.func73, Tryz.ntmps73
  go_wp2_with (first | ((with_reducible refine gate_dst (N := 6) rfl ?_); refine Kd.R_lit Kd.string _ 9 ?hg (N := 6) ?hd (xs := ([a0] : List ByteArray)) (inner := [.string a0]) (ok := fun _ => True) (okp := fun _ => True) ?hr ?hp (fun _ hk => hk) trivial (Below.refl _ _) (Nat.le_refl _) (by simp) ?_; (case hd => rfl); (case hg => rfl); (case hr => first | (go_simp; done) | (go_simp; rfl)); (case hp => exact (Reps.one (show Kd.M Kd.string _ _ _ a0 [.string a0] from rfl) (Reps.none _ _))); intro v102 w5 ho6 hb hg_ hnew_; clear hg_ hnew_; (first | rw [← Ny101.out] at ho6 | (simp only [Int.reduceToNat] at ho6; rw [← Ny101.out] at ho6)); have HO103 := Aside0.mk (Kd.R_lower ho6 (below_size zB)); replace HB := sb w hb; clear hb ho6) | ((with_reducible refine gate_builtin (b := .append) (xs := #[.tmp 6, .tmp 7]) rfl ?_); at_builtin; refine Kd.R_append_rows Kd.string (w0 := w) w.heap.size rfl (.tmp 6) (.tmp 7) 22 9 (.string ⟨#[]⟩) 16 rfl Tryz.underlying22 info9 rfl (by decide) (by omega) v102 y101 l1 _ _ _ (fun _ => True) (fun _ => False) rfl rfl ?aO ?aR (fun _ _ h => h) (fun _ h => h.elim) ?aF ?aB ?aS ?aL ?_; (case aR => repeat (first | exact (Kd.C_below HR1.out HB.out) | (with_reducible refine Kd.C_alloc ?_ _) | (with_reducible refine Kd.C_drewN ?_ _) | (with_reducible refine Kd.C_drew ?_))); (case aB => exact zB); (case aF => exact (fun _ _ => trivial)); (case aO => exact (kr HO103)); (case aS => exact (below_size zB)); (case aL => have := LMc3.out; omega); intro v105 w7 ho hb hg hat; rw [← Ny104.out] at ho; replace HB := Aside0.mk (hb); have HO106 := Aside0.mk (ho); clear HO103 ho hb hg hat; obtain ⟨Ao8, co8, eo8⟩ := Kd.R_slice HO106.out; subst eo8) | ((with_reducible refine gate_callee (f := 59) rfl ?_); refine goesL_ (some 9) rfl rfl Tryz.func59 (by kernel_rfl) rfl #[.slice Ao8 y104.length co8, .string (⟨#[47]⟩ : ByteArray)] rfl zl ?_; (with_reducible refine (strings_Join.calls _ _ y104 (⟨#[47]⟩ : ByteArray) t107 _ ?side1 ?side2 A4.out).mono ?_); (case side1 => repeat (first | exact (Kd.R_reads' HO106.out).2.2 | (with_reducible refine Kd.C_alloc ?_ _) | (with_reducible refine Kd.C_drewN ?_ _) | (with_reducible refine Kd.C_drew ?_))); (case side2 => exact (Kd.R_reads' HO106.out).2.1); rintro e w9 ⟨rfl, hb⟩; refine ⟨_, rfl, ?_⟩; replace HO106 := rb HO106 hb; replace HB := sb w hb; clear hb))
  go_ret
  exact ⟨zE, zB⟩
 ·rw [if_neg c3] at H
  exact absurd H (by simp)
def address_pattern_String.l0 : Nat → List ByteArray → List (S97) → Int → Int → Int → ByteArray → List (S97) → Bool → Option (ByteArray)
 | 0, _, _, _, _, _, _, _, _ => none
 | k + 1, x3, x11, x12, x13, x102000, x102001, x102002, x102003 => if x13 < x12 then (if 0 ≤ x13 then (if x13 < (x11.length : Int) then ((address_part_String.f ((rd_T97 x11 x13).f0) ((rd_T97 x11 x13).f1)).bind fun t108 => (if x3.length < 8796093022208 then (address_pattern_String.l0 k (x3 ++ [t108]) x11 x12 (wrap64 (x13 + 1)) x102000 x102001 x102002 x102003) else (none))) else (none)) else (none)) else (if x102003 = true then (if x3.length < 8796093022208 then ((strings_Join.f (x3 ++ [(⟨#[42, 42]⟩ : ByteArray)]) (⟨#[47]⟩ : ByteArray)).bind fun t115 => (some t115)) else (none)) else ((strings_Join.f x3 (⟨#[47]⟩ : ByteArray)).bind fun t116 => (some t116)))
def address_pattern_String.f (k : Nat) (a0_0 : Int) (a0_1 : ByteArray) (l0_2 : List (S97)) (a0_3 : Bool) : Option (ByteArray) := (address_part_String.f a0_0 a0_1).bind fun t102 => (address_pattern_String.l0 k (([t102] : List ByteArray)) l0_2 (l0_2.length : Int) 0 a0_0 a0_1 l0_2 a0_3)
set_option maxHeartbeats 8000000 in
set_option maxRecDepth 100000 in
theorem address_pattern_String.calls (k : Nat) (a0_0 : Int) (a0_1 : ByteArray) (A0_2 : Option Addr) (c0_2 : Nat) (l0_2 : List (S97)) (a0_3 : Bool) (r : ByteArray) (w : World) (hr0_2 : Kd.C k97 w A0_2 l0_2.length l0_2) (hc0_2 : l0_2.length ≤ c0_2) (h : address_pattern_String.f k a0_0 a0_1 l0_2 a0_3 = some r) :
  Calls Tryz.prog 77 #[.agg #[.int .i64 a0_0, .string a0_1, .slice A0_2 l0_2.length c0_2, .bool a0_3]] w fun e w' => e = .returned (.string r) ∧ Below w.heap.size w w' := by
 have hu100 := Tryz.underlying100
 have hu97 := Tryz.underlying97
 have HR0_2 := Aside0.mk hr0_2
 have HC0_2 := Aside0.mk hc0_2
 clear hr0_2 hc0_2
 have HB := Aside0.mk (Below.refl w.heap.size w)
 have H : ((address_part_String.f a0_0 a0_1).bind fun t102 => (address_pattern_String.l0 k (([t102] : List ByteArray)) l0_2 (l0_2.length : Int) 0 a0_0 a0_1 l0_2 a0_3)) = some r := h
 clear h
 obtain ⟨t102, A2, H⟩ := bd H
 obtain ⟨y103, hy103⟩ : ∃ y_ : List ByteArray, y_ = (([t102] : List ByteArray)) := ⟨_, rfl⟩
 replace H : (address_pattern_String.l0 k y103 l0_2 (l0_2.length : Int) 0 a0_0 a0_1 l0_2 a0_3) = some r := by first | (rw [hy103]; with_reducible exact H) | (have H2_ := (Option.bind_some _ _).symm.trans H; rw [hy103]; with_reducible exact H2_) | (have H2_ := (Option.bind_some _ _).symm.trans H; with_reducible exact H2_) | with_reducible exact H | (rw [hy103]; exact H) | exact H
 have Ny103 := Aside0.mk hy103
 clear hy103
 have H' := Aside0.mk H
 clear H
 go_enter Tryz.func77, Tryz.ntmps77
 go_wp2_with (first | ((with_reducible refine gate_dst (N := 1) rfl ?_); refine bx 1 #[.int .i64 a0_0, .string a0_1, .slice A0_2 l0_2.length c0_2, .bool a0_3] 100 fun gb101 hg w3 hbox hb => ?_; have BK101 := Aside0.mk (hbox); have GW101 := gw w hg; have GE101 := gw w hg; replace HB := sb w hb; clear hb hbox hg; obtain ⟨hcz4_0, hcz4_1, hcz4_2, hcz4_3, hfz4_0, hfz4_1, hfz4_2, hfz4_3⟩ := cf4 BK101) | ((with_reducible refine gate_callee (f := 108) rfl ?_); refine goesL_ (some 8) rfl rfl Tryz.func108 (by kernel_rfl) rfl #[.agg #[.int .i64 a0_0, .string a0_1]] rfl zl ?_; (with_reducible refine (address_part_String.calls a0_0 a0_1 t102 _ A2.out).mono ?_); rintro e w5 ⟨rfl, hb⟩; refine ⟨_, rfl, ?_⟩; replace BK101 := bb BK101 hb; replace HB := sb w hb; clear hb) | ((with_reducible refine gate_dst (N := 9) rfl ?_); refine Kd.R_lit Kd.string _ 9 ?hg (N := 9) ?hd (xs := ([t102] : List ByteArray)) (inner := [.string t102]) (ok := fun _ => True) (okp := fun _ => True) ?hr ?hp (fun _ hk => hk) trivial (Below.refl _ _) (Nat.le_refl _) (by simp) ?_; (case hd => rfl); (case hg => rfl); (case hr => first | (go_simp; done) | (go_simp; rfl)); (case hp => exact (Reps.one (show Kd.M Kd.string _ _ _ t102 [.string t102] from rfl) (Reps.none _ _))); intro v104 w6 ho7 hb hg_ hnew_; clear hg_ hnew_; (first | rw [← Ny103.out] at ho7 | (simp only [Int.reduceToNat] at ho7; rw [← Ny103.out] at ho7)); have HO105 := Aside0.mk (Kd.R_lower ho7 (below_size zB)); replace BK101 := bb BK101 hb; replace HB := sb w hb; clear hb ho7; obtain ⟨hcz8_0, hcz8_1, hcz8_2, hcz8_3, hfz8_0, hfz8_1, hfz8_2, hfz8_3⟩ := cf4 BK101))
 go_loopg [3, 13] k (fun kq v3 v13 w' => ∃ (x3_1 : List ByteArray) (x13_1 : Int), v13 = .int .i64 x13_1 ∧ Aside0 (address_pattern_String.l0 kq x3_1 l0_2 (l0_2.length : Int) x13_1 a0_0 a0_1 l0_2 a0_3 = some r) ∧ Aside0 (kq ≤ k) ∧ Aside0 (Kd.R Kd.string 9 w' w.heap.size (fun _ => True) v3 x3_1) ∧ Aside0 (w'.heap[gb101]? = some (.cells #[.int .i64 a0_0, .string a0_1, (.slice A0_2 l0_2.length c0_2), .bool a0_3] 100 (0, 0))) ∧ Aside0 (Below w.heap.size w w'))
 case atStart => exact ⟨(y103), (0), zS, H', ⟨Nat.le_refl _⟩, ⟨kr HO105⟩, ⟨kb BK101⟩, ⟨zB⟩⟩
 case round =>
  clear H'
  obtain ⟨x3_1, x13_1, rfl, HA, HK1, HO_3, BK101, HB⟩ := hrel
  cases gk with
  | zero => exact absurd HA.out (by simp [address_pattern_String.l0])
  | succ k1 =>
   have H := HA.out
   clear HA
   simp only [address_pattern_String.l0] at H
   by_cases c9 : x13_1 < (l0_2.length : Int)
   ·rw [if_pos c9] at H
    have c9b0 : decide (x13_1 < (l0_2.length : Int)) = true := decide_eq_true c9
    clear c9
    by_cases c10 : 0 ≤ x13_1
    ·rw [if_pos c10] at H
     have c10b0 : decide (0 ≤ x13_1) = true := decide_eq_true c10
     clear c10
     by_cases c11 : x13_1 < (l0_2.length : Int)
     ·rw [if_pos c11] at H
      have c11b0 : decide (x13_1 < (l0_2.length : Int)) = true := decide_eq_true c11
      clear c11
      obtain ⟨t108, A12, H⟩ := bd H
      by_cases c13 : x3_1.length < 8796093022208
      ·rw [if_pos c13] at H
       have LMc13 := Aside0.mk c13
       clear c13
       obtain ⟨y109, hy109⟩ : ∃ y_ : List ByteArray, y_ = (x3_1 ++ [t108]) := ⟨_, rfl⟩
       replace H : (address_pattern_String.l0 k1 y109 l0_2 (l0_2.length : Int) (wrap64 (x13_1 + 1)) a0_0 a0_1 l0_2 a0_3) = some r := by first | (rw [hy109]; with_reducible exact H) | (have H2_ := (Option.bind_some _ _).symm.trans H; rw [hy109]; with_reducible exact H2_) | (have H2_ := (Option.bind_some _ _).symm.trans H; with_reducible exact H2_) | with_reducible exact H | (rw [hy109]; exact H) | exact H
       have Ny109 := Aside0.mk hy109
       clear hy109
       have H' := Aside0.mk H
       clear H
       have p106 : 0 ≤ (x13_1 : Int) := of_decide_eq_true za
       have q106 : x13_1 < (l0_2.length : Int) := of_decide_eq_true za
       obtain ⟨ad106, e106, hx106_0, hx106_1⟩ := at_T97 HR0_2.out x13_1 p106 q106
       cases e106
       replace hx106_0 := (HB.out.cell (World.block_lt_of_cell? w _ hx106_0)).trans hx106_0
       replace hx106_1 := (HB.out.cell (World.block_lt_of_cell? w _ hx106_1)).trans hx106_1
       replace p106 := eq_true p106
       replace q106 := eq_true q106
       go_wp2_with (first | ((with_reducible refine gate_dst (N := 5) rfl ?_); refine bx 5 #[.int .i64 0, .string (⟨#[]⟩ : ByteArray)] 97 fun gb107 hg w14 hbox hb => ?_; replace HO_3 := rb HO_3 hb; have BK107 := Aside0.mk (hbox); have GW107 := gw w hg; have GE107 := gw w hg; replace HB := sb w hb; have NB101_107 := nl hg BK101; have NB107_101 := ng hg BK101; replace BK101 := bb BK101 hb; clear hb hbox hg; have hnb15 := NB107_101.out; have hnc15 := NB101_107.out; obtain ⟨hcz16_0, hcz16_1, hfz16_0, hfz16_1⟩ := cf2 BK107) | ((with_reducible refine gate_callee (f := 108) rfl ?_); refine goesL_ (some 19) rfl rfl Tryz.func108 (by kernel_rfl) rfl #[.agg #[.int .i64 ((rd_T97 l0_2 x13_1).f0), .string ((rd_T97 l0_2 x13_1).f1)]] rfl zl ?_; (with_reducible refine (address_part_String.calls ((rd_T97 l0_2 x13_1).f0) ((rd_T97 l0_2 x13_1).f1) t108 _ A12.out).mono ?_); rintro e w17 ⟨rfl, hb⟩; refine ⟨_, rfl, ?_⟩; replace HO_3 := rt HO_3 BK107 hb; replace BK101 := bf BK101 hb; replace BK107 := bw #[.int .i64 ((rd_T97 l0_2 x13_1).f0), .string ((rd_T97 l0_2 x13_1).f1)] BK107 hb; replace HB := sb w hb; clear hb) | ((with_reducible refine gate_builtin (b := .append) (xs := #[.tmp 17, .tmp 20]) rfl ?_); at_builtin; refine Kd.R_append Kd.string (w0 := w) w.heap.size rfl (.tmp 17) (.tmp 20) 22 9 (.string ⟨#[]⟩) 16 rfl Tryz.underlying22 info9 rfl (by decide) (by omega) u3 x3_1 t108 [.string t108] (fun _ => True) (fun _ => False) rfl rfl ?aP (fun _ hk => hk.elim) ?aF ?aO ?aB ?aS ?aL ?_; (case aP => exact rfl); (case aB => exact zB); (case aF => exact (fun _ _ => trivial)); (case aO => exact (kr HO_3)); (case aS => exact (below_size zB)); (case aL => have := LMc13.out; omega); intro v110 w18 ho hb hg hat; rw [← Ny109.out] at ho; replace BK101 := Aside0.mk (blk_grown (kb BK101) hg (Kd.R_ne HO_3.out BK101.out (by decide))); replace BK107 := Aside0.mk (blk_grown (kb BK107) hg (Kd.R_ne HO_3.out BK107.out (by decide))); replace HB := Aside0.mk (hb); have HO111 := Aside0.mk (ho); clear HO_3 ho hb hg hat))
       go_roundg k1
       case measure => have := HK1.out; omega
       case rel => exact ⟨(y109), (wrap64 (x13_1 + 1)), zS, H', ⟨by have := HK1.out; omega⟩, ⟨kr HO111⟩, ⟨kb BK101⟩, ⟨zB⟩⟩
      ·rw [if_neg c13] at H
       exact absurd H (by simp)
     ·rw [if_neg c11] at H
      exact absurd H (by simp)
    ·rw [if_neg c10] at H
     exact absurd H (by simp)
   ·rw [if_neg c9] at H
    have c9b0 : decide (x13_1 < (l0_2.length : Int)) = false := decide_eq_false c9
    clear c9
    by_cases c10 : a0_3 = true
    ·subst c10
     rw [if_pos rfl] at H
     by_cases c11 : x3_1.length < 8796093022208
     ·rw [if_pos c11] at H
      have LMc11 := Aside0.mk c11
      clear c11
      obtain ⟨y112, hy112⟩ : ∃ y_ : List ByteArray, y_ = (x3_1 ++ [(⟨#[42, 42]⟩ : ByteArray)]) := ⟨_, rfl⟩
      replace H : ((strings_Join.f y112 (⟨#[47]⟩ : ByteArray)).bind fun t115 => (some t115)) = some r := by first | (rw [hy112]; with_reducible exact H) | (have H2_ := (Option.bind_some _ _).symm.trans H; rw [hy112]; with_reducible exact H2_) | (have H2_ := (Option.bind_some _ _).symm.trans H; with_reducible exact H2_) | with_reducible exact H | (rw [hy112]; exact H) | exact H
      have Ny112 := Aside0.mk hy112
      clear hy112
      obtain ⟨t115, A12, H⟩ := bd H
      obtain rfl := Option.some.inj H
      obtain ⟨hcz13_0, hcz13_1, hcz13_2, hcz13_3, hfz13_0, hfz13_1, hfz13_2, hfz13_3⟩ := cf4 BK101
      go_wp2_with (first | ((with_reducible refine gate_builtin (b := .append) (xs := #[.tmp 25, .tmp 26]) rfl ?_); at_builtin; refine Kd.R_append Kd.string (w0 := w) w.heap.size rfl (.tmp 25) (.tmp 26) 22 9 (.string ⟨#[]⟩) 16 rfl Tryz.underlying22 info9 rfl (by decide) (by omega) u3 x3_1 (⟨#[42, 42]⟩ : ByteArray) [.string (⟨#[42, 42]⟩ : ByteArray)] (fun _ => True) (fun _ => False) rfl rfl ?aP (fun _ hk => hk.elim) ?aF ?aO ?aB ?aS ?aL ?_; (case aP => exact rfl); (case aB => exact zB); (case aF => exact (fun _ _ => trivial)); (case aO => exact (kr HO_3)); (case aS => exact (below_size zB)); (case aL => have := LMc11.out; omega); intro v113 w14 ho hb hg hat; rw [← Ny112.out] at ho; replace BK101 := Aside0.mk (blk_grown (kb BK101) hg (Kd.R_ne HO_3.out BK101.out (by decide))); replace HB := Aside0.mk (hb); have HO114 := Aside0.mk (ho); clear HO_3 ho hb hg hat; obtain ⟨Ao15, co15, eo15⟩ := Kd.R_slice HO114.out; subst eo15) | ((with_reducible refine gate_callee (f := 59) rfl ?_); refine goesL_ (some 29) rfl rfl Tryz.func59 (by kernel_rfl) rfl #[.slice Ao15 y112.length co15, .string (⟨#[47]⟩ : ByteArray)] rfl zl ?_; (with_reducible refine (strings_Join.calls _ _ y112 (⟨#[47]⟩ : ByteArray) t115 _ ?side1 ?side2 A12.out).mono ?_); (case side1 => repeat (first | exact (Kd.R_reads' HO114.out).2.2 | (with_reducible refine Kd.C_alloc ?_ _) | (with_reducible refine Kd.C_drewN ?_ _) | (with_reducible refine Kd.C_drew ?_))); (case side2 => exact (Kd.R_reads' HO114.out).2.1); rintro e w16 ⟨rfl, hb⟩; refine ⟨_, rfl, ?_⟩; replace HO114 := rb HO114 hb; replace BK101 := bb BK101 hb; replace HB := sb w hb; clear hb))
      go_ret
      exact ⟨zE, zB⟩
     ·rw [if_neg c11] at H
      exact absurd H (by simp)
    ·replace c10 := Bool.eq_false_iff.mpr c10
     subst c10
     rw [if_neg Bool.false_ne_true] at H
     obtain ⟨t116, A11, H⟩ := bd H
     obtain rfl := Option.some.inj H
     obtain ⟨hcz12_0, hcz12_1, hcz12_2, hcz12_3, hfz12_0, hfz12_1, hfz12_2, hfz12_3⟩ := cf4 BK101
     obtain ⟨Ao13, co13, eo13⟩ := Kd.R_slice HO_3.out
     subst eo13
     go_wp2_with (first | ((with_reducible refine gate_callee (f := 59) rfl ?_); refine goesL_ (some 29) rfl rfl Tryz.func59 (by kernel_rfl) rfl #[.slice Ao13 x3_1.length co13, .string (⟨#[47]⟩ : ByteArray)] rfl zl ?_; (with_reducible refine (strings_Join.calls _ _ x3_1 (⟨#[47]⟩ : ByteArray) t116 _ ?side1 ?side2 A11.out).mono ?_); (case side1 => repeat (first | exact (Kd.R_reads' HO_3.out).2.2 | (with_reducible refine Kd.C_alloc ?_ _) | (with_reducible refine Kd.C_drewN ?_ _) | (with_reducible refine Kd.C_drew ?_))); (case side2 => exact (Kd.R_reads' HO_3.out).2.1); rintro e w14 ⟨rfl, hb⟩; refine ⟨_, rfl, ?_⟩; replace HO_3 := rb HO_3 hb; replace BK101 := bb BK101 hb; replace HB := sb w hb; clear hb))
     go_ret
     exact ⟨zE, zB⟩
end Go.Proofs.YtmokgpepeddopaaGreatDoor.P
end
