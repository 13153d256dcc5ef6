/- The walk over the law LogsTerms. -/
import Derived.Test.YtpgnheankmlnfaaDoorSane
import Derived.Test.YtpgnheankmlnfaaDoorRexp
import Derived.Test.YtpgnheankmlnfaaDoorRfold
namespace Go.Proofs.YtpgnheankmlnfaaDoor
open Go.RowKit
set_option linter.unusedVariables false

set_option maxRecDepth 100000 in
set_option maxHeartbeats 4000000 in
theorem LogsTerms_any (a b o : Int) (A : Option Addr) (n c : Nat) (xs : List Int) (w : World) (h : IsL w A n c xs) :
    Calls Tryd.prog 5 #[.int .i64 a, .int .i64 b, .int .i64 o, .slice A n c] w fun e w' => e = .returned (.bool true) ∧ Below w.heap.size w w' := by
  have HB0 := Lib.hid (Below.refl w.heap.size w)
  have HL0 := Lib.hid h
  clear h
  go_enter Tryd.func5, Tryd.ntmps5
  go_wp2_with fail
  refine (sane_any _).mono ?_
  rintro e w1 ⟨rfl, hq⟩
  have HB1 := Lib.hid (below_call HB0.out hq)
  have HL1 := Lib.hid (HL0.out.below hq)
  clear hq HB0 HL0
  by_cases hn : 100 < n
  · have t1 : (100 : Int) < n := by omega
    go_wp2_with fail
    go_ret
    exact ⟨rfl, HB1.out⟩
  have t1 : ¬ (100 : Int) < n := by omega
  have t2 : decide (100 < n) = false := decide_eq_false hn
  go_wp2_with fail
  refine (Expand_any a b o _).mono ?_
  rintro e w2 ⟨A2, n2, c2, rfl, hE, hq⟩
  have HE2 := Lib.hid hE
  have HL2 := Lib.hid (HL1.out.below hq)
  have HB2 := Lib.hid (below_call HB1.out hq)
  clear hq hE HB1 HL1
  go_wp2_with fail
  refine (rExpand_any a b o _).mono ?_
  rintro e w3 ⟨A3, n3, c3, rfl, hE, hq⟩
  have HF3 := Lib.hid hE
  have HE3 := Lib.hid (HE2.out.below hq)
  have HL3 := Lib.hid (HL2.out.below hq)
  have HB3 := Lib.hid (below_call HB2.out hq)
  clear hq hE HB2 HL2 HE2
  go_wp2_with fail
  refine Calls.mono (Fold_any _ _ _ _ _ HL3.out) ?_
  rintro e w4 ⟨rfl, hq⟩
  obtain ⟨⟨P, Q, E⟩, hf⟩ : ∃ x, folV xs = x := ⟨_, rfl⟩
  have HFV := Lib.hid hf
  rw [hf]
  clear hf
  have HE4 := Lib.hid (HE3.out.below hq)
  have HF4 := Lib.hid (HF3.out.below hq)
  have HL4 := Lib.hid (HL3.out.below hq)
  have HB4 := Lib.hid (below_call HB3.out hq)
  clear hq HB3 HL3 HE3 HF3
  dsimp only
  go_wp2_with fail
  refine Calls.mono (rFold_any _ _ _ _ _ (HL4.out.below (below_alloc (Below.refl _ _) _))) ?_
  rintro e w5 ⟨rfl, hq⟩
  rw [HFV.out]
  have hx := VarQ.new w4 P Q 39
  have hba := below_alloc (Below.refl w4.heap.size w4) (.cells #[.int .i64 P, .int .i64 Q] 39)
  have HE5 := Lib.hid ((HE4.out.below hba).below hq)
  have HF5 := Lib.hid ((HF4.out.below hba).below hq)
  have HX5 := Lib.hid (hx.below hq)
  have HB5 := Lib.hid (below_call (below_alloc HB4.out _) hq)
  obtain ⟨g, hg⟩ : ∃ g, w4.heap.size = g := ⟨_, rfl⟩
  rw [hg] at HX5 ⊢
  clear hq HB4 HL4 HE4 HF4 hx hba hg
  dsimp only
  have hy := VarQ.new w5 P Q 39
  have hxa := HX5.out.alloc (.cells #[.int .i64 P, .int .i64 Q] 39)
  obtain ⟨c0, c1, _, _⟩ := hxa
  have hba := below_alloc (Below.refl w5.heap.size w5) (.cells #[.int .i64 P, .int .i64 Q] 39)
  go_wp2_with fail
  have HBa := Lib.hid (below_alloc HB5.out (.cells #[.int .i64 P, .int .i64 Q] 39))
  refine Calls.mono (equalI_same (HE5.out.below hba) (HF5.out.below hba)) ?_
  rintro e w6 ⟨rfl, hq⟩
  have HX6 := Lib.hid ((HX5.out.below hba).below hq)
  have HY6 := Lib.hid (hy.below hq)
  have HB6 := Lib.hid (below_call HBa.out hq)
  obtain ⟨g5, hg5⟩ : ∃ g, w5.heap.size = g := ⟨_, rfl⟩
  rw [hg5] at HY6 ⊢
  clear hq hg5 hba HBa HB5 HE5 HF5 HX5 hy c0 c1
  obtain ⟨c0, c1, _, _⟩ := HX6.out
  obtain ⟨c2, c3, _, _⟩ := HY6.out
  go_wp2_with fail
  go_ret
  exact ⟨rfl, HB6.out⟩
end Go.Proofs.YtpgnheankmlnfaaDoor
