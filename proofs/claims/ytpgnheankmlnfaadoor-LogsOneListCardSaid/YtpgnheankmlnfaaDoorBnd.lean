/- The walks over logs.bounds, Bounds. The walk over logs.Print at one example. -/
import Derived.Test.YtpgnheankmlnfaaDoorExp
namespace Go.Proofs.YtpgnheankmlnfaaDoor
open Go.RowKit
set_option linter.unusedVariables false

set_option maxRecDepth 100000 in
set_option maxHeartbeats 400000 in
theorem bounds_any (d k : Nat) (w : World) (hd0 : 0 < d) (hd : d ≤ 4095) (hk : k ≤ 8) :
    Calls Tryd.prog 61 #[.int .i64 d, .int .i64 k] w (RetQ (flo d 1 (2 ^ k)) (cei d 1 (2 ^ k)) w) := by
  have h2 := two_le k hk
  have HW := Lib.hid (wrap_two k hk)
  obtain ⟨q, hq⟩ : ∃ q, 2 ^ k = q := ⟨_, rfl⟩
  rw [hq] at h2 ⊢
  have HQ := Lib.hid hq
  clear hq
  obtain ⟨f0, f1⟩ := flo_range (a := d) (b := 1) (q := q) hd (by decide) h2
  obtain ⟨m, hm⟩ : ∃ m, flo d 1 q = m := ⟨_, rfl⟩
  obtain ⟨t, ht⟩ : ∃ t, isW d 1 q = t := ⟨_, rfl⟩
  have hc : cei d 1 q = if t = true then m else m + 1 := by unfold cei; rw [ht, hm]
  rw [hm] at f0 f1
  rw [hc, hm]
  have HM := Lib.hid hm
  have HT : Hid ((sd d 1 q (flo d 1 q) == 0) = t) := Lib.hid ht
  clear hm ht hc
  cases t
  all_goals
    go_enter Tryd.func61, Tryd.ntmps61
    go_wp2_with fail
    rw [HW.out, HQ.out]
    refine (whole_any d 1 q _ (by omega) (by omega) (by omega) (by omega) h2).mono ?_
    rintro e w1 ⟨rfl, hq1⟩
    rw [HT.out, HM.out]
    have HV1 := Lib.hid ((VarQ.new w 0 0 55).below hq1)
    have HB1 := Lib.hid (below_call (below_alloc (Below.refl _ _) _) hq1)
    obtain ⟨c0, c1, c2, c3⟩ := HV1.out
    clear hq1
    go_wp2_with fail
    refine bodyPost_varS (B := w.heap.size) Tryd.results61 rfl rfl (HV1.out.put _ _) ?_
    exact below_setCell (below_setCell HB1.out (by simp) _) (by simp) _

def askD (d k : Int) : Bool := ([d].all (inR 1 4095) && inR 0 8 k)
theorem askD_iff {d k : Int} : askD d k = true ↔ (1 ≤ d ∧ d ≤ 4095) ∧ 0 ≤ k ∧ k ≤ 8 := by
  unfold askD
  rw [List.all_cons, List.all_nil, Bool.and_true, Bool.and_eq_true, inR_iff, inR_iff]
/-- 'fine(k, d)', the argument laid in a new slice. -/
theorem fine1 (d k : Int) (B : Nat) (w : World) (hB : w.heap.size = B) :
    Calls Tryd.prog 47 #[.int .i64 k, .slice (some ⟨B, 0, none⟩) 1 1] (w.alloc (.cells #[.int .i64 d] 3)) fun e w' => e = .returned (.bool (askD d k)) ∧ Below w.heap.size w w' := by
  subst hB
  refine (fine_any k _ _ _ [d] _ (IsL.new1 _ _ _)).mono ?_
  rintro e w' ⟨rfl, h⟩
  exact ⟨rfl, below_call (below_alloc (Below.refl _ _) _) h⟩
def bndL (d k : Int) : Int := if askD d k = true then flo d.toNat 1 (2 ^ k.toNat) else 0
def bndH (d k : Int) : Int := if askD d k = true then cei d.toNat 1 (2 ^ k.toNat) else 0
set_option maxRecDepth 100000 in
set_option maxHeartbeats 400000 in
theorem Bounds_any (d k : Int) (w : World) :
    Calls Tryd.prog 42 #[.int .i64 d, .int .i64 k] w (RetQE (bndL d k) (bndH d k) (askE (askD d k)) w) := by
  unfold bndL bndH
  cases h : askD d k
  · have HA := Lib.hid h
    clear h
    rw [if_neg (by decide), if_neg (by decide), show askE false = 1 from rfl]
    go_enter Tryd.func42, Tryd.ntmps42
    go_wp2_with fail
    refine (fine1 d k _ _ (by simp)).mono ?_
    rintro e w1 ⟨rfl, hq2⟩
    rw [HA.out]
    have HV1 := Lib.hid ((VarQ.new w 0 0 55).below hq2)
    have HB1 := Lib.hid (below_call (below_alloc (Below.refl _ _) _) hq2)
    obtain ⟨c0, c1, c2, c3⟩ := HV1.out
    clear hq2
    go_wp2_with fail
    refine bodyPost_varSE (B := w.heap.size) Tryd.results42 rfl rfl rfl (HV1.out.put _ _) ?_
    exact below_setCell (below_setCell HB1.out (by simp) _) (by simp) _
  · obtain ⟨⟨d0, d1⟩, k0, k1⟩ := askD_iff.1 h
    obtain ⟨d, rfl⟩ : ∃ n : Nat, d = (n : Int) := ⟨d.toNat, by omega⟩
    obtain ⟨k, rfl⟩ : ∃ n : Nat, k = (n : Int) := ⟨k.toNat, by omega⟩
    have HA := Lib.hid h
    clear h
    rw [if_pos rfl, if_pos rfl, Int.toNat_natCast, Int.toNat_natCast, show askE true = 0 from rfl]
    obtain ⟨m, hm⟩ : ∃ m, flo d 1 (2 ^ k) = m := ⟨_, rfl⟩
    obtain ⟨c, hc⟩ : ∃ c, cei d 1 (2 ^ k) = c := ⟨_, rfl⟩
    have HB := Lib.hid (bounds_any d k · (by omega) (by omega) (by omega))
    rw [hm, hc] at HB ⊢
    clear hm hc
    go_enter Tryd.func42, Tryd.ntmps42
    go_wp2_with fail
    refine (fine1 d k _ _ (by simp)).mono ?_
    rintro e w1 ⟨rfl, hq2⟩
    rw [HA.out]
    have HV1 := Lib.hid ((VarQ.new w 0 0 55).below hq2)
    have HB1 := Lib.hid (below_call (below_alloc (Below.refl _ _) _) hq2)
    clear hq2
    go_wp2_with fail
    refine (HB.out _).mono ?_
    rintro e w2 ⟨rfl, hq2⟩
    have HV2 := Lib.hid (HV1.out.below hq2)
    have HB2 := Lib.hid (below_call HB1.out hq2)
    obtain ⟨c0, c1, c2, c3⟩ := HV2.out
    clear hq2
    go_wp2_with fail
    refine bodyPost_varSE (B := w.heap.size) Tryd.results42 rfl rfl rfl (HV2.out.put _ _) ?_
    exact below_setCell (below_setCell HB2.out (by simp) _) (by simp) _
end Go.Proofs.YtpgnheankmlnfaaDoor
namespace Go.Proofs.YtpgnheankmlnfaaDoor
open Go.RowKit
set_option linter.unusedVariables false

set_option maxRecDepth 100000 in
set_option maxHeartbeats 1000000 in
theorem Print_405 (w : World) :
    Calls Tryd.prog 45 #[.int .i64 405, .int .i64 8] w fun e w' => e = .returned (.tuple #[.string ⟨#[49, 46, 49, 48, 48, 49, 48, 49, 48, 49]⟩, .int .i64 0]) ∧ Below w.heap.size w w' := by
  go_enter Tryd.func45, Tryd.ntmps45
  go_wp2_with fail
  refine (within1 _ _ _ _ _ (by simp)).mono ?_
  rintro e w1 ⟨rfl, hq1⟩
  rw [show inR (-4096) 4096 405 = true by decide]
  have HB1 := Lib.hid hq1
  clear hq1
  go_wp2_with fail
  refine (within1 _ _ _ _ _ (by simp)).mono ?_
  rintro e w2 ⟨rfl, hq2⟩
  rw [show inR 0 8 8 = true by decide]
  have HB2 := Lib.hid (below_call HB1.out hq2)
  clear hq2
  go_wp2_with fail
  refine (Tryd.strconv_Itoa_small 1 (by decide) _).mono ?_
  rintro e w3 ⟨rfl, rfl⟩
  rw [show Lib.decDigits 1 = [49] by rw [Lib.decDigits]; rfl]
  go_wp2_with fail
  refine wp_loop_rounds 9 ?_
  rw [rounds_succ]
  go_wp2_with fail
  refine (Tryd.strconv_Itoa_small 1 (by decide) _).mono ?_
  rintro e w4 ⟨rfl, rfl⟩
  rw [show Lib.decDigits 1 = [49] by rw [Lib.decDigits]; rfl]
  go_wp2_with fail
  rw [rounds_succ]
  go_wp2_with fail
  refine (Tryd.strconv_Itoa_small 0 (by decide) _).mono ?_
  rintro e w5 ⟨rfl, rfl⟩
  rw [show Lib.decDigits 0 = [48] by rw [Lib.decDigits]; rfl]
  go_wp2_with fail
  rw [rounds_succ]
  go_wp2_with fail
  refine (Tryd.strconv_Itoa_small 0 (by decide) _).mono ?_
  rintro e w6 ⟨rfl, rfl⟩
  rw [show Lib.decDigits 0 = [48] by rw [Lib.decDigits]; rfl]
  go_wp2_with fail
  rw [rounds_succ]
  go_wp2_with fail
  refine (Tryd.strconv_Itoa_small 1 (by decide) _).mono ?_
  rintro e w7 ⟨rfl, rfl⟩
  rw [show Lib.decDigits 1 = [49] by rw [Lib.decDigits]; rfl]
  go_wp2_with fail
  rw [rounds_succ]
  go_wp2_with fail
  refine (Tryd.strconv_Itoa_small 0 (by decide) _).mono ?_
  rintro e w8 ⟨rfl, rfl⟩
  rw [show Lib.decDigits 0 = [48] by rw [Lib.decDigits]; rfl]
  go_wp2_with fail
  rw [rounds_succ]
  go_wp2_with fail
  refine (Tryd.strconv_Itoa_small 1 (by decide) _).mono ?_
  rintro e w9 ⟨rfl, rfl⟩
  rw [show Lib.decDigits 1 = [49] by rw [Lib.decDigits]; rfl]
  go_wp2_with fail
  rw [rounds_succ]
  go_wp2_with fail
  refine (Tryd.strconv_Itoa_small 0 (by decide) _).mono ?_
  rintro e w10 ⟨rfl, rfl⟩
  rw [show Lib.decDigits 0 = [48] by rw [Lib.decDigits]; rfl]
  go_wp2_with fail
  rw [rounds_succ]
  go_wp2_with fail
  refine (Tryd.strconv_Itoa_small 1 (by decide) _).mono ?_
  rintro e w11 ⟨rfl, rfl⟩
  rw [show Lib.decDigits 1 = [49] by rw [Lib.decDigits]; rfl]
  go_wp2_with fail
  rw [rounds_succ]
  go_wp2_with fail
  go_ret2
  exact ⟨rfl, HB2.out⟩
end Go.Proofs.YtpgnheankmlnfaaDoor
