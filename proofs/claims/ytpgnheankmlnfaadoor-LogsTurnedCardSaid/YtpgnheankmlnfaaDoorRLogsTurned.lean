/- LogsTurned: whatever the arguments, the law returns true: the row, and its card. -/
import Derived.Test.YtpgnheankmlnfaaDoorLTurned
import Derived.Test.YtpgnheankmlnfaaDoorRow
import Derived.Test.YtpgnheankmlnfaaDoorCards
import Derived.Test.YtpgnheankmlnfaaDoorTie
import Derived.SevenTiedAt
namespace Go.Proofs.YtpgnheankmlnfaaDoor
open Go Go.ChangeShapes Go.WideShapes Go.ChangeAt Go.RowKit
set_option linter.unusedVariables false

set_option maxRecDepth 100000 in
theorem logsTurned_lifted (os : Os) (started : os.Started) (H : Type) (enc : TypeId × Value → H) :
    ReturnsInHanded {} Tryd.checked os 10 .any (fun w args => (Rows.logsTurnedSpec.pre enc Tryd.prog Tryd.f10 [] false w args ∧ laidMetH Tryd.prog laidL w) ∧ sizedMet enc Tryd.prog Tryd.f10 (OpenSpec.ofChange Rows.logsTurnedSpec) false w args)
      (Rows.logsTurnedSpec.post enc Tryd.prog Tryd.f10 false true false false) := by
  refine returnsInHanded_of_change_and (C := Tryd.checked) (X := fun w _ => laidMetH Tryd.prog laidL w) (fun _ _ _ hh h => h.of_heap hh) row_own started (by kernel_rfl) Tryd.func10
    (ChangeSpec.witness_shaped (enc := enc) (C := Tryd.checked) (os := os) (X := fun w _ => laidMetH Tryd.prog laidL w) false (World.doorLaid Tryd.prog 24 os) #[.int .i64 0, .int .i64 0, .int .i64 0] 8 rfl (World.shaped_of_RefB (by kernel_rfl) (by kernel_rfl)) (by kernel_rfl) (by kernel_rfl) (by kernel_rfl) (door_met os _)) ?_
  intro W base args ds gs before hval0 hW _ _ hL _
  have hval : ∀ (j : Nat) t v, Tryd.f10.params[j]? = some t → args[j]? = some v → Value.okWide Tryd.prog W .any base t v := hval0
  obtain ⟨p, q, hA0, hV, rfl, hfz, hnd⟩ := id hW
  have hA : DataW.TrodAll enc Tryd.prog W 0 (fun _ => true) true Tryd.f10.params.toList args.toList ds p := hA0
  obtain ⟨rfl, rfl⟩ := trodVars_none hV
  have hA1 := hA
  rw [Tryd.params10] at hA1 hval
  obtain ⟨v0, vs0, d0, ds0, a0, b0, hv0, hd0, hp0, h0, ht0⟩ := trodAll_cons hA1
  obtain ⟨v1, vs1, d1, ds1, a1, b1, hv1, hd1, hp1, h1, ht1⟩ := trodAll_cons ht0
  obtain ⟨v2, vs2, d2, ds2, a2, b2, hv2, hd2, hp2, h2, ht2⟩ := trodAll_cons ht1
  obtain ⟨hn1, hn2, hn3⟩ := trodAll_nil ht2
  have hargs : args = #[v0, v1, v2] := by
    refine Array.ext' ?_
    rw [hv0, hv1, hv2, hn1]
  have hds : ds = [d0, d1, d2] := by rw [hd0, hd1, hd2, hn2]
  clear hv0 hv1 hv2 hn1
  subst hargs
  obtain ⟨x0, rfl, -, -, w0⟩ := open_int Tryd.underlying3 (hval 0 3 v0 rfl rfl) h0
  obtain ⟨x1, rfl, -, -, w1⟩ := open_int Tryd.underlying3 (hval 1 3 v1 rfl rfl) h1
  obtain ⟨x2, rfl, -, -, w2⟩ := open_int Tryd.underlying3 (hval 2 3 v2 rfl rfl) h2
  refine (LogsTurned_any x0 x1 x2 W ).mono fun e W' ⟨he, hw⟩ => ?_
  subst he
  exact ⟨_, rfl, post_law row_laidOut (by intro t ht; rw [Tryd.params10] at ht; simp at ht; (try rcases ht with rfl | rfl); all_goals first | exact ⟨by kernel_rfl, by decide +kernel⟩ | (subst ht; exact ⟨by kernel_rfl, by decide +kernel⟩)) hW hA rfl hw (by rw [hds]; rfl) (by rw [hds]; rfl) (by rw [hds]; rfl) (by kernel_rfl : Tryd.f10.resultTypes = #[4]) Tryd.underlying4⟩

theorem logsTurned_holds : Rows.LogsTurnedSaid :=
  OpenClaim.holds_of_wide 10 Tryd.f10 rfl rfl rfl rfl rfl rfl rfl ⟨rfl, rfl, rfl, rfl, rfl⟩ rfl rfl rfl rfl rfl (by kernel_rfl) Tryd.func10 (by kernel_rfl)
    (of_decide_eq_true (by kernel_rfl)) (by unfold Func.isWrapper; first | (rw [if_pos (by decide +kernel)]; kernel_rfl) | (rw [if_neg (by decide +kernel)]; exact ⟨rfl, rfl⟩))
    (fun os started H enc _ => logsTurned_lifted os started H enc)

/-- LogsTurned's card. -/
theorem logsTurned_card : Rows.LogsTurnedCardSaid :=
  Claim7.holds_tied_plain_at .later [] [.data, .data, .data] true (true, "77e549761a41baaa967bcb6c428ad30764149cc1c33fa68b7dd63910110f6b0a") false
    logsTurned_holds (fun _ h => by cases h) (by kernel_rfl) (fun _ h => by cases h) logsTurned_row_tie rfl ⟨rfl, rfl⟩ (by kernel_rfl) rfl
    (fun f fn hf hfn => by
      obtain rfl : f = 10 := Option.some.inj ((show Tryd.prog.funcNamed "quicksilver/quicksilverlaw02.LogsTurned" = some 10 by kernel_rfl).symm.trans hf) |>.symm
      obtain rfl : fn = Tryd.f10 := (Option.some.inj (Tryd.func10.symm.trans hfn)).symm
      exact ⟨by kernel_rfl, fun j t ht => by
        rw [Tryd.params10] at ht
        have hm : t ∈ (#[3, 3, 3] : Array TypeId) := Array.mem_of_getElem? ht
        have hm2 : t = 3 := by simp at hm; omega
        rcases hm2 with rfl
        · exact (show Tryd.prog.wantsStandIn 3 = false by kernel_rfl)⟩)
    (by kernel_rfl)
#print axioms logsTurned_card
end Go.Proofs.YtpgnheankmlnfaaDoor
