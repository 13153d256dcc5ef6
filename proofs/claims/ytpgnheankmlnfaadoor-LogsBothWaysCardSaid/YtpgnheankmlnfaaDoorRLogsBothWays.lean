/- LogsBothWays: whatever the arguments, the law returns true: the row, and its card. -/
import Derived.Test.YtpgnheankmlnfaaDoorLBoth
import Derived.Test.YtpgnheankmlnfaaDoorRow
import Derived.Test.YtpgnheankmlnfaaDoorCards
import Derived.Test.YtpgnheankmlnfaaDoorTie
import Derived.SevenTiedAt
namespace Go.Proofs.YtpgnheankmlnfaaDoor
open Go Go.ChangeShapes Go.WideShapes Go.ChangeAt Go.RowKit
set_option linter.unusedVariables false

set_option maxRecDepth 100000 in
theorem logsBothWays_lifted (os : Os) (started : os.Started) (H : Type) (enc : TypeId × Value → H) :
    ReturnsInHanded {} Tryd.checked os 14 .any (fun w args => (Rows.logsBothWaysSpec.pre enc Tryd.prog Tryd.f14 [] false w args ∧ laidMetH Tryd.prog laidL w) ∧ sizedMet enc Tryd.prog Tryd.f14 (OpenSpec.ofChange Rows.logsBothWaysSpec) false w args)
      (Rows.logsBothWaysSpec.post enc Tryd.prog Tryd.f14 false true false false) := by
  refine returnsInHanded_of_change_and (C := Tryd.checked) (X := fun w _ => laidMetH Tryd.prog laidL w) (fun _ _ _ hh h => h.of_heap hh) row_own started (by kernel_rfl) Tryd.func14
    (ChangeSpec.witness_shaped (enc := enc) (C := Tryd.checked) (os := os) (X := fun w _ => laidMetH Tryd.prog laidL w) false (World.doorLaid Tryd.prog 24 os) #[.int .i64 0, .int .i64 0, .int .i64 0, .int .i64 0, .int .i64 0] 8 rfl (World.shaped_of_RefB (by kernel_rfl) (by kernel_rfl)) (by kernel_rfl) (by kernel_rfl) (by kernel_rfl) (door_met os _)) ?_
  intro W base args ds gs before hval0 hW _ _ hL _
  have hval : ∀ (j : Nat) t v, Tryd.f14.params[j]? = some t → args[j]? = some v → Value.okWide Tryd.prog W .any base t v := hval0
  obtain ⟨p, q, hA0, hV, rfl, hfz, hnd⟩ := id hW
  have hA : DataW.TrodAll enc Tryd.prog W 0 (fun _ => true) true Tryd.f14.params.toList args.toList ds p := hA0
  obtain ⟨rfl, rfl⟩ := trodVars_none hV
  have hA1 := hA
  rw [Tryd.params14] at hA1 hval
  obtain ⟨v0, vs0, d0, ds0, a0, b0, hv0, hd0, hp0, h0, ht0⟩ := trodAll_cons hA1
  obtain ⟨v1, vs1, d1, ds1, a1, b1, hv1, hd1, hp1, h1, ht1⟩ := trodAll_cons ht0
  obtain ⟨v2, vs2, d2, ds2, a2, b2, hv2, hd2, hp2, h2, ht2⟩ := trodAll_cons ht1
  obtain ⟨v3, vs3, d3, ds3, a3, b3, hv3, hd3, hp3, h3, ht3⟩ := trodAll_cons ht2
  obtain ⟨v4, vs4, d4, ds4, a4, b4, hv4, hd4, hp4, h4, ht4⟩ := trodAll_cons ht3
  obtain ⟨hn1, hn2, hn3⟩ := trodAll_nil ht4
  have hargs : args = #[v0, v1, v2, v3, v4] := by
    refine Array.ext' ?_
    rw [hv0, hv1, hv2, hv3, hv4, hn1]
  have hds : ds = [d0, d1, d2, d3, d4] := by rw [hd0, hd1, hd2, hd3, hd4, hn2]
  clear hv0 hv1 hv2 hv3 hv4 hn1
  subst hargs
  obtain ⟨x0, rfl, -, -, w0⟩ := open_int Tryd.underlying3 (hval 0 3 v0 rfl rfl) h0
  obtain ⟨x1, rfl, -, -, w1⟩ := open_int Tryd.underlying3 (hval 1 3 v1 rfl rfl) h1
  obtain ⟨x2, rfl, -, -, w2⟩ := open_int Tryd.underlying3 (hval 2 3 v2 rfl rfl) h2
  obtain ⟨x3, rfl, -, -, w3⟩ := open_int Tryd.underlying3 (hval 3 3 v3 rfl rfl) h3
  obtain ⟨x4, rfl, -, -, w4⟩ := open_int Tryd.underlying3 (hval 4 3 v4 rfl rfl) h4
  refine (LogsBothWays_any x0 x1 x2 x3 x4 W ).mono fun e W' ⟨he, hw⟩ => ?_
  subst he
  exact ⟨_, rfl, post_law row_laidOut (by intro t ht; rw [Tryd.params14] at ht; simp at ht; (try rcases ht with rfl | rfl); all_goals first | exact ⟨by kernel_rfl, by decide +kernel⟩ | (subst ht; exact ⟨by kernel_rfl, by decide +kernel⟩)) hW hA rfl hw (by rw [hds]; rfl) (by rw [hds]; rfl) (by rw [hds]; rfl) (by kernel_rfl : Tryd.f14.resultTypes = #[4]) Tryd.underlying4⟩

theorem logsBothWays_holds : Rows.LogsBothWaysSaid :=
  OpenClaim.holds_of_wide 14 Tryd.f14 rfl rfl rfl rfl rfl rfl rfl ⟨rfl, rfl, rfl, rfl, rfl⟩ rfl rfl rfl rfl rfl (by kernel_rfl) Tryd.func14 (by kernel_rfl)
    (of_decide_eq_true (by kernel_rfl)) (by unfold Func.isWrapper; first | (rw [if_pos (by decide +kernel)]; kernel_rfl) | (rw [if_neg (by decide +kernel)]; exact ⟨rfl, rfl⟩))
    (fun os started H enc _ => logsBothWays_lifted os started H enc)

/-- LogsBothWays's card. -/
theorem logsBothWays_card : Rows.LogsBothWaysCardSaid :=
  Claim7.holds_tied_plain_at .later [] [.data, .data, .data] true (true, "77e549761a41baaa967bcb6c428ad30764149cc1c33fa68b7dd63910110f6b0a") false
    logsBothWays_holds (fun _ h => by cases h) (by kernel_rfl) (fun _ h => by cases h) logsBothWays_row_tie rfl ⟨rfl, rfl⟩ (by kernel_rfl) rfl
    (fun f fn hf hfn => by
      obtain rfl : f = 14 := Option.some.inj ((show Tryd.prog.funcNamed "quicksilver/quicksilverlaw02.LogsBothWays" = some 14 by kernel_rfl).symm.trans hf) |>.symm
      obtain rfl : fn = Tryd.f14 := (Option.some.inj (Tryd.func14.symm.trans hfn)).symm
      exact ⟨by kernel_rfl, fun j t ht => by
        rw [Tryd.params14] at ht
        have hm : t ∈ (#[3, 3, 3, 3, 3] : Array TypeId) := Array.mem_of_getElem? ht
        have hm2 : t = 3 := by simp at hm; omega
        rcases hm2 with rfl
        · exact (show Tryd.prog.wantsStandIn 3 = false by kernel_rfl)⟩)
    (by kernel_rfl)
#print axioms logsBothWays_card
end Go.Proofs.YtpgnheankmlnfaaDoor
