/- LogsOneList: whatever the arguments, the law returns true: the row, and its card. -/
import Derived.Test.YtpgnheankmlnfaaDoorLOne
import Derived.Test.YtpgnheankmlnfaaDoorRowq
import Derived.Test.YtpgnheankmlnfaaDoorCards
import Derived.Test.YtpgnheankmlnfaaDoorTie
import Derived.SevenTiedAt
namespace Go.Proofs.YtpgnheankmlnfaaDoor
open Go Go.ChangeShapes Go.WideShapes Go.ChangeAt Go.RowKit
set_option linter.unusedVariables false

set_option maxRecDepth 100000 in
theorem logsOneList_lifted (os : Os) (started : os.Started) (H : Type) (enc : TypeId × Value → H) :
    ReturnsInHanded {} Tryd.checked os 9 .any (fun w args => (Rows.logsOneListSpec.pre enc Tryd.prog Tryd.f9 [] false w args ∧ laidMetH Tryd.prog laidL w) ∧ sizedMet enc Tryd.prog Tryd.f9 (OpenSpec.ofChange Rows.logsOneListSpec) false w args)
      (Rows.logsOneListSpec.post enc Tryd.prog Tryd.f9 false true false false) := by
  refine returnsInHanded_of_change_and (C := Tryd.checked) (X := fun w _ => laidMetH Tryd.prog laidL w) (fun _ _ _ hh h => h.of_heap hh) row_own started (by kernel_rfl) Tryd.func9
    (ChangeSpec.witness_shaped (enc := enc) (C := Tryd.checked) (os := os) (X := fun w _ => laidMetH Tryd.prog laidL w) false (World.doorLaid Tryd.prog 24 os) #[.slice none 0 0, .slice none 0 0] 8 rfl (World.shaped_of_RefB (by kernel_rfl) (by kernel_rfl)) (by kernel_rfl) (by kernel_rfl) (by kernel_rfl) (door_met os _)) ?_
  intro W base args ds gs before hval0 hW _ _ hL _
  have hval : ∀ (j : Nat) t v, Tryd.f9.params[j]? = some t → args[j]? = some v → Value.okWide Tryd.prog W .any base t v := hval0
  obtain ⟨p, q, hA0, hV, rfl, hfz, hnd⟩ := id hW
  have hA : DataW.TrodAll enc Tryd.prog W 0 (fun _ => true) true Tryd.f9.params.toList args.toList ds p := hA0
  obtain ⟨rfl, rfl⟩ := trodVars_none hV
  have hA1 := hA
  rw [Tryd.params9] at hA1 hval
  obtain ⟨v0, vs0, d0, ds0, a0, b0, hv0, hd0, hp0, h0, ht0⟩ := trodAll_cons hA1
  obtain ⟨v1, vs1, d1, ds1, a1, b1, hv1, hd1, hp1, h1, ht1⟩ := trodAll_cons ht0
  obtain ⟨hn1, hn2, hn3⟩ := trodAll_nil ht1
  have hargs : args = #[v0, v1] := by
    refine Array.ext' ?_
    rw [hv0, hv1, hn1]
  have hds : ds = [d0, d1] := by rw [hd0, hd1, hn2]
  clear hv0 hv1 hn1
  subst hargs
  obtain ⟨A0, n0, c0, xs0, rfl, hl0⟩ := open_list (hval 0 30 v0 rfl rfl) h0
  obtain ⟨A1, n1, c1, xs1, rfl, hl1⟩ := open_list (hval 1 30 v1 rfl rfl) h1
  refine (LogsOneList_any A0 n0 c0 xs0 A1 n1 c1 xs1 W hl0 hl1).mono fun e W' ⟨he, hw⟩ => ?_
  subst he
  exact ⟨_, rfl, post_law row_laidOut (by intro t ht; rw [Tryd.params9] at ht; simp at ht; (try rcases ht with rfl | rfl); all_goals first | exact ⟨by kernel_rfl, by decide +kernel⟩ | (subst ht; exact ⟨by kernel_rfl, by decide +kernel⟩)) hW hA rfl hw (by rw [hds]; rfl) (by rw [hds]; rfl) (by rw [hds]; rfl) (by kernel_rfl : Tryd.f9.resultTypes = #[4]) Tryd.underlying4⟩

theorem logsOneList_holds : Rows.LogsOneListSaid :=
  OpenClaim.holds_of_wide 9 Tryd.f9 rfl rfl rfl rfl rfl rfl rfl ⟨rfl, rfl, rfl, rfl, rfl⟩ rfl rfl rfl rfl rfl (by kernel_rfl) Tryd.func9 (by kernel_rfl)
    (of_decide_eq_true (by kernel_rfl)) (by unfold Func.isWrapper; first | (rw [if_pos (by decide +kernel)]; kernel_rfl) | (rw [if_neg (by decide +kernel)]; exact ⟨rfl, rfl⟩))
    (fun os started H enc _ => logsOneList_lifted os started H enc)

/-- LogsOneList's card. -/
theorem logsOneList_card : Rows.LogsOneListCardSaid :=
  Claim7.holds_tied_plain_at .later [] [.data, .data, .data] true (true, "77e549761a41baaa967bcb6c428ad30764149cc1c33fa68b7dd63910110f6b0a") false
    logsOneList_holds (fun _ h => by cases h) (by kernel_rfl) (fun _ h => by cases h) logsOneList_row_tie rfl ⟨rfl, rfl⟩ (by kernel_rfl) rfl
    (fun f fn hf hfn => by
      obtain rfl : f = 9 := Option.some.inj ((show Tryd.prog.funcNamed "quicksilver/quicksilverlaw02.LogsOneList" = some 9 by kernel_rfl).symm.trans hf) |>.symm
      obtain rfl : fn = Tryd.f9 := (Option.some.inj (Tryd.func9.symm.trans hfn)).symm
      exact ⟨by kernel_rfl, fun j t ht => by
        rw [Tryd.params9] at ht
        have hm : t ∈ (#[30, 30] : Array TypeId) := Array.mem_of_getElem? ht
        have hm2 : t = 30 := by simp at hm; omega
        rcases hm2 with rfl
        · exact (show Tryd.prog.wantsStandIn 30 = false by kernel_rfl)⟩)
    (by kernel_rfl)
#print axioms logsOneList_card
end Go.Proofs.YtpgnheankmlnfaaDoor
