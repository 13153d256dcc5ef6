/- The values that sane() asks for. -/
import Derived.Test.YtpgnheankmlnfaaDoorLaw
import Derived.Test.YtpgnheankmlnfaaDoorBet
import Derived.Test.YtpgnheankmlnfaaDoorEq
import Derived.Test.YtpgnheankmlnfaaDoorRdig
import Derived.Test.YtpgnheankmlnfaaDoorRp
import Derived.Test.YtpgnheankmlnfaaDoorBtw
import Derived.Test.YtpgnheankmlnfaaDoorBnd
namespace Go.Proofs.YtpgnheankmlnfaaDoor
open Go.RowKit
set_option linter.unusedVariables false

theorem v_floor : floV 3 1 8 = 405 ∧ askF 3 1 8 = true := by decide +kernel
theorem v_ceil : ceiV 1 3 8 = -405 ∧ askF 1 3 8 = true := by decide +kernel
theorem v_whole : whoV 1 4 = -2 ∧ whoB 1 4 = true ∧ askF 1 4 0 = true := by decide +kernel
theorem v_table : tabL 3 5 8 = [(405, 406), (512, 512), (594, 595)] ∧ askT 3 5 8 = true := by decide +kernel
theorem v_div : divV 405 600 8 = (3, 5, 0) := by decide +kernel
theorem v_dig : digM 1 3 2 = -2 ∧ digL 1 3 2 = [0, 1] ∧ askF 1 3 2 = true := by decide +kernel
theorem v_coa : coaV (-406) 8 0 = -2 ∧ askK (-406) 8 0 = true := by decide +kernel
theorem v_apart : apO 3 1 10 3 = some 3 ∧ askA 3 1 10 3 = true := by decide +kernel
theorem v_chk : chkW 3 1 12 19 12 8 5 = 0 := by decide +kernel
theorem v_chk2 : chkW 3 1 12 3 2 8 5 = 32 := by decide +kernel
theorem v_chkf : chkF 3 1 8 405 = 0 := by decide +kernel
theorem v_fold : folV [1, 1, 1, 2, 2] = (19, 12, 0) := by decide +kernel
theorem v_btw : btw 3 1 12 = (19, 12, 8, 5) ∧ askO 3 1 12 = true := by
  have h : askO 3 1 12 = true := by decide +kernel
  refine ⟨?_, h⟩
  obtain ⟨h1, h2, h3, h4⟩ := chk_one (a := 3) (b := 1) (o := 12) (p := 19) (q := 12) (r := 8) (s := 5) v_chk
  unfold btw
  rw [if_pos h]
  show nearS 3 1 12 = _
  obtain ⟨⟨P, Q, R, S⟩, hx⟩ : ∃ x, nearS 3 1 12 = x := ⟨_, rfl⟩
  rw [hx] at h1 h2 h3 h4 ⊢
  dsimp only at h1 h2 h3 h4
  rw [← h1, ← h3, show Q = 12 by omega, show S = 5 by omega]
theorem v_exp : expL 1 3 5 = [-2, 2, 2] ∧ askO 1 3 5 = true := by
  have h : askO 1 3 5 = true := by decide +kernel
  refine ⟨?_, h⟩
  unfold expL
  rw [if_pos h]
  show flo 1 3 1 :: _ = _
  have hf : flo 1 3 1 = -2 := by decide +kernel
  have hw : isW 1 3 1 = false := by decide +kernel
  show flo 1 3 1 :: (if isW 1 3 1 = true then [] else exT 1 3 5 1 0 (flo 1 3 1) 1 1) = _
  rw [hf, hw, if_neg (by decide)]
  have i1 : inT 1 3 5 1 (-2) 1 1 0 0 = (-3, 2, 2) := by
    rw [inT_go (by decide +kernel), inT_go (by decide +kernel), inT_no (by decide +kernel)]
    rfl
  have i2 : inT 1 3 5 (-1) (-3) 2 (-2) 1 0 = (-8, 5, 2) := by
    rw [inT_go (by decide +kernel), inT_go (by decide +kernel), inT_no (by decide +kernel)]
    rfl
  have i3 : ∃ xp xq t, inT 1 3 5 1 (-8) 5 (-3) 2 0 = (xp, xq, t) ∧ 5 < xq := by
    rw [inT_go (by decide +kernel), inT_no (by decide +kernel)]
    exact ⟨_, _, _, rfl, by decide⟩
  obtain ⟨xp, xq, t, h3, h4⟩ := i3
  rw [exT_on i1 (by decide) (by decide) (by decide), exT_on i2 (by decide) (by decide) (by decide), show (- -1 : Int) = 1 from rfl, exT_off h3 h4]

/-! ### The calls of sane() -/
theorem s_Floor (w : World) : Calls Tryd.prog 17 #[.int .i64 3, .int .i64 1, .int .i64 8] w fun e w' => e = .returned (.tuple #[.int .i64 405, .int .i64 0]) ∧ Below w.heap.size w w' :=
  (Floor_any 3 1 8 w).mono fun e w' h => ⟨by rw [h.1, v_floor.1, v_floor.2]; rfl, h.2⟩
theorem s_Ceil (w : World) : Calls Tryd.prog 19 #[.int .i64 1, .int .i64 3, .int .i64 8] w fun e w' => e = .returned (.tuple #[.int .i64 (-405), .int .i64 0]) ∧ Below w.heap.size w w' :=
  (Ceil_any 1 3 8 w).mono fun e w' h => ⟨by rw [h.1, v_ceil.1, v_ceil.2]; rfl, h.2⟩
theorem s_Whole (w : World) : Calls Tryd.prog 21 #[.int .i64 1, .int .i64 4] w fun e w' => e = .returned (.tuple #[.int .i64 (-2), .bool true, .int .i64 0]) ∧ Below w.heap.size w w' :=
  (Whole_any 1 4 w).mono fun e w' h => ⟨by rw [h.1, v_whole.1, v_whole.2.1, v_whole.2.2]; rfl, h.2⟩
theorem s_Table (w : World) : Calls Tryd.prog 44 #[.int .i64 3, .int .i64 5, .int .i64 8] w (RetTE [(405, 406), (512, 512), (594, 595)] 0 w) :=
  (Table_any 3 5 8 w).mono fun e w' h => by rw [v_table.1, v_table.2] at h; exact h
theorem s_Div (w : World) : Calls Tryd.prog 43 #[.int .i64 405, .int .i64 600, .int .i64 8] w (RetQE 3 5 0 w) :=
  (Divisions_any 405 600 8 w).mono fun e w' h => by rw [v_div] at h; exact h
theorem s_Dig (w : World) : Calls Tryd.prog 25 #[.int .i64 1, .int .i64 3, .int .i64 2] w (RetISE (-2) [0, 1] 0 w) :=
  (Digits_any 1 3 2 w).mono fun e w' h => by rw [v_dig.1, v_dig.2.1, v_dig.2.2] at h; exact h
theorem s_Coa (w : World) : Calls Tryd.prog 27 #[.int .i64 (-406), .int .i64 8, .int .i64 0] w fun e w' => e = .returned (.tuple #[.int .i64 (-2), .int .i64 0]) ∧ Below w.heap.size w w' :=
  (Coarse_any (-406) 8 0 w).mono fun e w' h => ⟨by rw [h.1, v_coa.1, v_coa.2]; rfl, h.2⟩
theorem s_Apart (w : World) : Calls Tryd.prog 29 #[.int .i64 3, .int .i64 1, .int .i64 10, .int .i64 3] w fun e w' => e = .returned (.tuple #[.int .i64 3, .bool true, .int .i64 0]) ∧ Below w.heap.size w w' :=
  (Apart_any 3 1 10 3 w).mono fun e w' h => ⟨by rw [h.1, v_apart.1, v_apart.2]; rfl, h.2⟩
theorem s_Btw (w : World) : Calls Tryd.prog 37 #[.int .i64 3, .int .i64 1, .int .i64 12] w fun e w' => e = .returned (.tuple #[.agg #[.int .i64 19, .int .i64 12], .agg #[.int .i64 8, .int .i64 5], .int .i64 0]) ∧ Below w.heap.size w w' :=
  (Between_any 3 1 12 w).mono fun e w' h => by rw [v_btw.1, v_btw.2] at h; exact h
theorem s_Exp (w : World) : Calls Tryd.prog 32 #[.int .i64 1, .int .i64 3, .int .i64 5] w (RetSE [-2, 2, 2] 0 w) :=
  (Expand_any 1 3 5 w).mono fun e w' h => by rw [v_exp.1, v_exp.2] at h; exact h
theorem s_ChkF (w : World) : Calls Tryd.prog 23 #[.int .i64 3, .int .i64 1, .int .i64 8, .int .i64 405] w fun e w' => e = .returned (.int .i64 0) ∧ Below w.heap.size w w' :=
  (CheckFloor_any 3 1 8 405 w).mono fun e w' h => ⟨by rw [h.1, v_chkf], h.2⟩
theorem s_Chk (w : World) : Calls Tryd.prog 40 #[.int .i64 3, .int .i64 1, .int .i64 12, .agg #[.int .i64 19, .int .i64 12], .agg #[.int .i64 8, .int .i64 5]] w fun e w' => e = .returned (.int .i64 0) ∧ Below w.heap.size w w' :=
  (CheckBetween_any 3 1 12 19 12 8 5 w).mono fun e w' h => ⟨by rw [h.1, v_chk], h.2⟩
theorem s_Chk2 (w : World) : Calls Tryd.prog 40 #[.int .i64 3, .int .i64 1, .int .i64 12, .agg #[.int .i64 3, .int .i64 2], .agg #[.int .i64 8, .int .i64 5]] w fun e w' => e = .returned (.int .i64 32) ∧ Below w.heap.size w w' :=
  (CheckBetween_any 3 1 12 3 2 8 5 w).mono fun e w' h => ⟨by rw [h.1, v_chk2], h.2⟩

theorem equalI_same {V : World} {A A' : Option Addr} {n c n' c' : Nat} {xs : List Int} (h1 : IsL V A n c xs) (h2 : IsL V A' n' c' xs) :
    Calls Tryd.prog 31 #[.slice A n c, .slice A' n' c'] V fun e w' => e = .returned (.bool true) ∧ Below V.heap.size V w' :=
  (equalI_any A n c xs A' n' c' xs V h1 h2).mono fun e w' h => ⟨by rw [h.1, beq_self_eq_true], h.2⟩
theorem equalS_same {V : World} {A A' : Option Addr} {n c n' c' : Nat} {xs : List (Int × Int)} (h1 : IsS V A n c xs) (h2 : IsS V A' n' c' xs) :
    Calls Tryd.prog 46 #[.slice A n c, .slice A' n' c'] V fun e w' => e = .returned (.bool true) ∧ Below V.heap.size V w' :=
  (equalS_any A n c xs A' n' c' xs V h1 h2).mono fun e w' h => ⟨by rw [h.1, beq_self_eq_true], h.2⟩

set_option maxRecDepth 100000 in
theorem quot_any (p q : Int) (w : World) : Calls Tryd.prog 38 #[.int .i64 p, .int .i64 q] w (RetQ p q w) := by
  go_enter Tryd.func38, Tryd.ntmps38
  have HB0 := Lib.hid (below_alloc (Below.refl w.heap.size w) (.cells #[.int .i64 0, .int .i64 0] 39))
  go_wp2_with fail
  exact bodyPost_varQ (B := w.heap.size) Tryd.results38 rfl rfl (VarQ.new _ _ _ _) (below_alloc (Below.refl _ _) _)
end Go.Proofs.YtpgnheankmlnfaaDoor
