/- The walk over the law LogsBothWays. -/
import Derived.Test.YtpgnheankmlnfaaDoorLSums
namespace Go.Proofs.YtpgnheankmlnfaaDoor
open Go.RowKit
set_option linter.unusedVariables false

theorem least_iff {k d : Nat} {lo : Int} (h0 : 1 ≤ d) (h1 : d ≤ 4095) : leastL k lo ≤ d ↔ lo ≤ flo d 1 (2 ^ k) := by
  obtain ⟨_, _, h3, h4⟩ := leastL_ok k lo
  constructor
  · exact fun h => of_decide_eq_true (h4 d h h1)
  · intro h
    by_cases hc : leastL k lo ≤ d
    · exact hc
    · exact absurd h (of_decide_eq_false (h3 d h0 (by omega)))
theorem above_iff {k d : Nat} {hi : Int} (h0 : 1 ≤ d) (h1 : d ≤ 4095) : d < aboveH k hi ↔ cei d 1 (2 ^ k) ≤ hi := by
  obtain ⟨_, _, h3, h4⟩ := aboveH_ok k hi
  constructor
  · intro h
    have := of_decide_eq_false (h3 d h0 h)
    omega
  · intro h
    by_cases hc : d < aboveH k hi
    · exact hc
    · have := of_decide_eq_true (h4 d (by omega) h1)
      omega
theorem least_mono {k : Nat} {lo lo' : Int} (h : lo' ≤ lo) : leastL k lo' ≤ leastL k lo := by
  obtain ⟨a1, a2, _, _⟩ := leastL_ok k lo
  obtain ⟨b1, b2, _, _⟩ := leastL_ok k lo'
  by_cases hc : leastL k lo ≤ 4095
  · have := (least_iff (k := k) (lo := lo) a1 hc).1 (Nat.le_refl _)
    exact (least_iff a1 hc).2 (by omega)
  · omega
theorem above_mono {k : Nat} {hi hi' : Int} (h : hi ≤ hi') : aboveH k hi ≤ aboveH k hi' := by
  obtain ⟨a1, a2, _, _⟩ := aboveH_ok k hi
  obtain ⟨b1, b2, _, _⟩ := aboveH_ok k hi'
  by_cases hc : aboveH k hi ≤ aboveH k hi'
  · exact hc
  · exfalso
    have h1 := (above_iff (k := k) (hi := hi) b1 (show aboveH k hi' ≤ 4095 by omega)).1 (by omega)
    have h2 := (above_iff (k := k) (hi := hi') b1 (show aboveH k hi' ≤ 4095 by omega)).2 (by omega)
    omega
theorem divV_some {k : Nat} {lo hi : Int} (h : askS lo hi k = true) (hu : leastL k lo < aboveH k hi) : divV lo hi k = ((leastL k lo : Int), (aboveH k hi : Int) - 1, 0) := by
  unfold divV
  rw [if_pos h, Int.toNat_natCast, if_neg (by omega)]
theorem divV_none {k : Nat} {lo hi : Int} (h : askS lo hi k = true) (hu : aboveH k hi ≤ leastL k lo) : divV lo hi k = (0, 0, 4) := by
  unfold divV
  rw [if_pos h, Int.toNat_natCast, if_pos hu]

set_option maxRecDepth 100000 in
set_option maxHeartbeats 8000000 in
theorem LogsBothWays_any (d k lo hi m : Int) (w : World) :
    Calls Tryd.prog 14 #[.int .i64 d, .int .i64 k, .int .i64 lo, .int .i64 hi, .int .i64 m] w fun e w' => e = .returned (.bool true) ∧ Below w.heap.size w w' := by
  obtain ⟨v1, hv1⟩ : ∃ v, askF d 1 k = v := ⟨_, rfl⟩
  have HV1 := Lib.hid hv1
  clear hv1
  have HB0 := Lib.hid (Below.refl w.heap.size w)
  go_enter Tryd.func14, Tryd.ntmps14
  go_wp2_with fail
  refine (sane_any _).mono ?_
  rintro e w1 ⟨rfl, hq⟩
  have HB1 := Lib.hid (below_call HB0.out hq)
  clear hq HB0
  go_wp2_with fail
  refine (Right_any d 1 k _).mono ?_
  rintro e w2 ⟨rfl, hq⟩
  rw [HV1.out]
  have HB2 := Lib.hid (below_call HB1.out hq)
  clear hq HB1
  cases v1
  · go_wp2_with fail
    go_ret
    exact ⟨rfl, HB2.out⟩
  obtain ⟨⟨d0, d1⟩, _, k0, k1⟩ := askF_iff.1 HV1.out
  by_cases h1 : lo < -4096
  · go_wp2_with fail
    go_ret
    exact ⟨rfl, HB2.out⟩
  by_cases h2 : 4096 < hi
  · go_wp2_with fail
    go_ret
    exact ⟨rfl, HB2.out⟩
  by_cases h3 : hi < lo
  · go_wp2_with fail
    go_ret
    exact ⟨rfl, HB2.out⟩
  by_cases h4 : m < 0
  · go_wp2_with fail
    go_ret
    exact ⟨rfl, HB2.out⟩
  by_cases h5 : 8192 < m
  · go_wp2_with fail
    go_ret
    exact ⟨rfl, HB2.out⟩
  obtain ⟨d, rfl⟩ : ∃ n : Nat, d = (n : Int) := ⟨d.toNat, by omega⟩
  obtain ⟨k, rfl⟩ : ∃ n : Nat, k = (n : Int) := ⟨k.toNat, by omega⟩
  have k8 : k ≤ 8 := by omega
  have dd0 : 1 ≤ d := by omega
  have dd1 : d ≤ 4095 := by omega
  obtain ⟨lo', hlo'⟩ : ∃ x, max (lo - m) (-4096) = x := ⟨_, rfl⟩
  obtain ⟨hi', hhi'⟩ : ∃ x, min (hi + m) 4096 = x := ⟨_, rfl⟩
  have hS1 : askS lo hi k = true := askS_iff.2 ⟨⟨⟨by omega, by omega⟩, ⟨by omega, by omega⟩, by omega, by omega⟩, by omega⟩
  have hS4 : askS lo' hi' k = true := askS_iff.2 ⟨⟨⟨by omega, by omega⟩, ⟨by omega, by omega⟩, by omega, by omega⟩, by omega⟩
  have hf := flo_range (a := d) (b := 1) (q := 2 ^ k) (by omega) (by omega) (two_le k k8)
  have hc : flo d 1 (2 ^ k) ≤ cei d 1 (2 ^ k) ∧ cei d 1 (2 ^ k) ≤ flo d 1 (2 ^ k) + 1 := by rw [cei_flo]; split <;> omega
  have hS3 : askS (flo d 1 (2 ^ k)) (cei d 1 (2 ^ k)) k = true := askS_iff.2 ⟨⟨⟨by omega, by omega⟩, ⟨by omega, by omega⟩, by omega, by omega⟩, by omega⟩
  have q1 := (least_iff (k := k) (lo := flo d 1 (2 ^ k)) dd0 dd1).2 (Int.le_refl _)
  have q2 := (above_iff (k := k) (hi := cei d 1 (2 ^ k)) dd0 dd1).2 (Int.le_refl _)
  have HF3 := Lib.hid (fun w => Divisions_any (flo d 1 (2 ^ k)) (cei d 1 (2 ^ k)) k w)
  rw [divV_some hS3 (by omega)] at HF3
  have i1 := least_iff (k := k) (lo := lo) dd0 dd1
  have i2 := above_iff (k := k) (hi := hi) dd0 dd1
  have mo1 := least_mono (k := k) (lo := lo) (lo' := lo') (by omega)
  have mo2 := above_mono (k := k) (hi := hi) (hi' := hi') (by omega)
  obtain ⟨l1, l2, _, _⟩ := leastL_ok k lo
  obtain ⟨u1, u2, _, _⟩ := aboveH_ok k hi
  have HF1 := Lib.hid (fun w => Bounds_any d k w)
  have hD : askD d k = true := askD_iff.2 ⟨⟨by omega, by omega⟩, by omega, by omega⟩
  have e1 : bndL d k = flo d 1 (2 ^ k) := by unfold bndL; rw [if_pos hD]; rfl
  have e2 : bndH d k = cei d 1 (2 ^ k) := by unfold bndH; rw [if_pos hD]; rfl
  rw [e1, e2, hD] at HF1
  have HF2 := Lib.hid (fun w => Divisions_any lo hi k w)
  have HF4 := Lib.hid (fun w => Divisions_any lo' hi' k w)
  have hV2 := divV_none (k := k) hS1
  have hV1 := divV_some (k := k) hS1
  have hV4 := divV_some (k := k) hS4
  obtain ⟨X, hX⟩ : ∃ x, flo d 1 (2 ^ k) = x := ⟨_, rfl⟩
  obtain ⟨Y, hY⟩ : ∃ x, cei d 1 (2 ^ k) = x := ⟨_, rfl⟩
  obtain ⟨L, hL⟩ : ∃ x, leastL k lo = x := ⟨_, rfl⟩
  obtain ⟨U, hU⟩ : ∃ x, aboveH k hi = x := ⟨_, rfl⟩
  obtain ⟨L', hL'⟩ : ∃ x, leastL k lo' = x := ⟨_, rfl⟩
  obtain ⟨U', hU'⟩ : ∃ x, aboveH k hi' = x := ⟨_, rfl⟩
  rw [hX] at q1 HF1 HF3 i1 hf hc
  rw [hY] at q2 HF1 HF3 i2 hc
  obtain ⟨L3, hL3⟩ : ∃ x, leastL k X = x := ⟨_, rfl⟩
  obtain ⟨U3, hU3⟩ : ∃ x, aboveH k Y = x := ⟨_, rfl⟩
  rw [hL3] at q1 HF3
  rw [hU3] at q2 HF3
  rw [hL] at hV1 hV2 i1 mo1 l1 l2
  rw [hU] at hV1 hV2 i2 mo2 u1 u2
  rw [hL'] at hV4 mo1
  rw [hU'] at hV4 mo2
  have HLO := Lib.hid hlo'
  have HHI := Lib.hid hhi'
  clear hX hY hL hU hL' hU' hL3 hU3 e1 e2 hD hS1 hS3 hS4 hlo' hhi'
  obtain ⟨f1, f2⟩ := hf
  obtain ⟨c1, c2⟩ := hc
  obtain ⟨⟨T1, T2, T3⟩, hT⟩ : ∃ x, divV lo hi k = x := ⟨_, rfl⟩
  obtain ⟨⟨T4, T5, T6⟩, hT'⟩ : ∃ x, divV lo' hi' k = x := ⟨_, rfl⟩
  rw [hT] at HF2 hV1 hV2
  rw [hT'] at HF4 hV4
  clear hT hT'
  go_wp2_with fail
  refine (HF1.out _).mono ?_
  rintro e w3 ⟨rfl, hq⟩
  have HB3 := Lib.hid (below_alloc (below_call HB2.out hq) (.cells #[.int .i64 X, .int .i64 Y] 55))
  have HX3 := Lib.hid (VarQ.new w3 X Y 55)
  clear hq HB2
  go_wp2_with fail
  refine (HF2.out _).mono ?_
  rintro e w4 ⟨rfl, hq⟩
  dsimp only
  have HB4 := Lib.hid (below_alloc (below_call HB3.out hq) (.cells #[.int .i64 T1, .int .i64 T2] 55))
  have HX4 := Lib.hid ((HX3.out.below hq).alloc (.cells #[.int .i64 T1, .int .i64 T2] 55))
  have HY4 := Lib.hid (VarQ.new w4 T1 T2 55)
  obtain ⟨g1, hg1⟩ : ∃ g, w3.heap.size = g := ⟨_, rfl⟩
  rw [hg1] at HX4 ⊢
  clear hq HB3 HX3 hg1
  obtain ⟨e0, e1, _, _⟩ := HX4.out
  go_wp2_with fail
  refine (HF3.out _).mono ?_
  rintro e w5 ⟨rfl, hq⟩
  dsimp only
  have HB5 := Lib.hid (below_alloc (below_call HB4.out hq) (.cells #[.int .i64 L3, .int .i64 ((U3 : Int) - 1)] 55))
  have HX5 := Lib.hid ((HX4.out.below hq).alloc (.cells #[.int .i64 L3, .int .i64 ((U3 : Int) - 1)] 55))
  have HY5 := Lib.hid ((HY4.out.below hq).alloc (.cells #[.int .i64 L3, .int .i64 ((U3 : Int) - 1)] 55))
  have HZ5 := Lib.hid (VarQ.new w5 L3 ((U3 : Int) - 1) 55)
  obtain ⟨g2, hg2⟩ : ∃ g, w4.heap.size = g := ⟨_, rfl⟩
  rw [hg2] at HY5 ⊢
  clear hq HB4 HX4 HY4 hg2 e0 e1
  go_wp2_with fail
  rw [HLO.out, HHI.out]
  refine (HF4.out _).mono ?_
  rintro e w6 ⟨rfl, hq⟩
  dsimp only
  have HB6 := Lib.hid (below_alloc (below_call HB5.out hq) (.cells #[.int .i64 T4, .int .i64 T5] 55))
  have HX6 := Lib.hid ((HX5.out.below hq).alloc (.cells #[.int .i64 T4, .int .i64 T5] 55))
  have HY6 := Lib.hid ((HY5.out.below hq).alloc (.cells #[.int .i64 T4, .int .i64 T5] 55))
  have HZ6 := Lib.hid ((HZ5.out.below hq).alloc (.cells #[.int .i64 T4, .int .i64 T5] 55))
  have HW6 := Lib.hid (VarQ.new w6 T4 T5 55)
  obtain ⟨g3, hg3⟩ : ∃ g, w5.heap.size = g := ⟨_, rfl⟩
  rw [hg3] at HZ6 ⊢
  clear hq HB5 HX5 HY5 HZ5 hg3
  obtain ⟨e0, e1, _, _⟩ := HX6.out
  obtain ⟨e2, e3, _, _⟩ := HY6.out
  obtain ⟨e4, e5, _, _⟩ := HZ6.out
  obtain ⟨e6, e7, _, _⟩ := HW6.out
  have s1 : decide ((d : Int) < L3) = false := decide_eq_false (by omega)
  have s1' : ¬ d < L3 := by omega
  have s2 : decide ((U3 : Int) - 1 < d) = false := decide_eq_false (by omega)
  by_cases hUL : U ≤ L
  · have hv := hV2 hUL
    cases hv
    clear hV1 hV2 hV4
    by_cases hXl : lo ≤ X
    · have hYh : ¬ Y ≤ hi := fun h => by have := i1.2 hXl; have := i2.2 h; omega
      clear i1 i2
      go_wp2_with fail
      go_ret
      exact ⟨rfl, HB6.out⟩
    · clear i1 i2
      go_wp2_with fail
      go_ret
      exact ⟨rfl, HB6.out⟩
  · have hv := hV1 (by omega)
    cases hv
    have hv4 := hV4 (by omega)
    cases hv4
    clear hV1 hV2 hV4
    have r1 : (1 : Int) ≤ L := by omega
    have r2 : (L : Int) ≤ (U : Int) - 1 := by omega
    have r3 : (U : Int) - 1 ≤ 4095 := by omega
    have r4 : (L' : Int) ≤ L := by omega
    have r5 : (U : Int) - 1 ≤ (U' : Int) - 1 := by omega
    by_cases hXl : lo ≤ X
    · have hLd : (L : Int) ≤ d := by have := i1.2 hXl; omega
      have hLd' : L ≤ d := by omega
      by_cases hYh : Y ≤ hi
      · have hdU : (d : Int) ≤ (U : Int) - 1 := by have := i2.2 hYh; omega
        clear i1 i2
        go_wp2_with fail
        go_ret
        exact ⟨rfl, HB6.out⟩
      · have hdU : ¬ (d : Int) ≤ (U : Int) - 1 := fun h => hYh (i2.1 (by omega))
        clear i1 i2
        go_wp2_with fail
        go_ret
        exact ⟨rfl, HB6.out⟩
    · have hLd : ¬ (L : Int) ≤ d := fun h => hXl (i1.1 (by omega))
      have hLd' : ¬ L ≤ d := by omega
      clear i1 i2
      go_wp2_with fail
      go_ret
      exact ⟨rfl, HB6.out⟩
end Go.Proofs.YtpgnheankmlnfaaDoor
