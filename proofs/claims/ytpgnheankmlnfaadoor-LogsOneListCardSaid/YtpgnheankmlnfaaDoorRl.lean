/- The walks over the reference's Right, pow, bits, power, shifted, least, Low, High. The walks over the reference's shifted, least, Low, High, Floor, Ceil, Whole, CheckFloor. -/
import Derived.Test.YtpgnheankmlnfaaDoorBtw
namespace Go.Proofs.YtpgnheankmlnfaaDoor
open Go.RowKit
set_option linter.unusedVariables false

theorem In_any (n lo hi : Int) (w : World) :
    Calls Tryd.prog 53 #[.int .i64 n, .int .i64 lo, .int .i64 hi] w fun e w' => e = .returned (.bool (inR lo hi n)) ∧ Below w.heap.size w w' := by
  have HV : Hid (inR lo hi n = (decide (lo ≤ n) && decide (n ≤ hi))) := Lib.hid rfl
  rw [HV.out]
  go_enter Tryd.func53, Tryd.ntmps53
  go_wp2_with fail
  all_goals
    go_ret
    exact ⟨by first | (simp_all; done) | (simp_all; omega), Below.refl _ _⟩

theorem askF_and (a b k : Int) : askF a b k = (inR 1 4095 a && inR 1 4095 b && inR 0 8 k) := by
  unfold askF
  rw [List.all_cons, List.all_cons, List.all_nil, Bool.and_true]

set_option maxRecDepth 100000 in
set_option maxHeartbeats 400000 in
theorem Right_any (a b k : Int) (w : World) :
    Calls Tryd.prog 36 #[.int .i64 a, .int .i64 b, .int .i64 k] w fun e w' => e = .returned (.bool (askF a b k)) ∧ Below w.heap.size w w' := by
  rw [askF_and]
  obtain ⟨u, hu⟩ : ∃ u, inR 1 4095 a = u := ⟨_, rfl⟩
  obtain ⟨v, hv⟩ : ∃ v, inR 1 4095 b = v := ⟨_, rfl⟩
  obtain ⟨x, hx⟩ : ∃ x, inR 0 8 k = x := ⟨_, rfl⟩
  rw [hu, hv, hx]
  have HU := Lib.hid hu
  have HV := Lib.hid hv
  have HX := Lib.hid hx
  clear hu hv hx
  go_enter Tryd.func36, Tryd.ntmps36
  go_wp2_with fail
  refine (In_any _ _ _ _).mono ?_
  rintro e w1 ⟨rfl, hq1⟩
  rw [HU.out]
  have HB1 := Lib.hid hq1
  clear hq1
  cases u
  · go_wp2_with fail
    go_ret
    exact ⟨rfl, HB1.out⟩
  · go_wp2_with fail
    refine (In_any _ _ _ _).mono ?_
    rintro e w2 ⟨rfl, hq2⟩
    rw [HV.out]
    have HB2 := Lib.hid (below_call HB1.out hq2)
    clear hq2
    cases v
    · go_wp2_with fail
      go_ret
      exact ⟨rfl, HB2.out⟩
    · go_wp2_with fail
      refine (In_any _ _ _ _).mono ?_
      rintro e w3 ⟨rfl, hq3⟩
      rw [HX.out]
      have HB3 := Lib.hid (below_call HB2.out hq3)
      clear hq3
      go_wp2_with fail
      go_ret
      exact ⟨rfl, HB3.out⟩

set_option maxRecDepth 100000 in
set_option maxHeartbeats 400000 in
theorem rpow_any (k : Nat) (w : World) (hk : k ≤ 8) :
    Calls Tryd.prog 50 #[.int .i64 k] w fun e w' => e = .returned (.int .i64 ((2 ^ k : Nat) : Int)) ∧ Below w.heap.size w w' := by
  go_enter Tryd.func50, Tryd.ntmps50
  go_wp2_with fail
  go_loopw [3, 4] (fun s t wr => ∃ i p : Nat, s = .int .i64 p ∧ t = .int .i64 i ∧ i ≤ k ∧ Hid (p = 2 ^ i) ∧ p ≤ 256 ∧ Hid (Below w.heap.size w wr)) (fun _ t _ => k - (intOf t).toNat)
  case atStart => exact ⟨0, 1, rfl, rfl, by omega, Lib.hid rfl, by omega, Below.refl _ _⟩
  case round =>
    obtain ⟨i, p, rfl, rfl, hi, HP, hp, HB⟩ := hrel
    by_cases h : i < k
    · have h' : (i : Int) < k := by omega
      have hp2 : p * 2 ≤ 256 := by
        rw [HP.out, ← Nat.pow_succ]
        exact two_le (i + 1) (by omega)
      go_wp2_with fail
      refine ⟨⟨i + 1, p * 2, by simp, by simp, by omega, Lib.hid (by rw [HP.out, Nat.pow_succ]), by omega, HB.out⟩, ?_⟩
      simp [intOf]
      omega
    · obtain rfl : i = k := by omega
      go_wp2_with fail
      go_ret
      exact ⟨by rw [HP.out]; rfl, HB.out⟩

set_option maxRecDepth 100000 in
set_option maxHeartbeats 400000 in
theorem rlbits_any (s : Bool) (A : Option Addr) (l c : Nat) (x : Int) (w : World) (h : IsZ w s A l c x) (hl : l ≤ 128) :
    Calls Tryd.prog 79 #[.agg #[.bool s, .slice A l c]] w fun e w' => e = .returned (.int .i64 (bl x.natAbs)) ∧ Below w.heap.size w w' := by
  have H := Lib.hid h
  clear h
  go_enter Tryd.func79, Tryd.ntmps79
  go_wp2_with fail
  refine (rbits_any _ _ _ _ _ _ (H.out.below (below_alloc (Below.refl _ _) _)) hl).mono ?_
  rintro e w1 ⟨rfl, hq1⟩
  have HB := Lib.hid (below_call (below_alloc (Below.refl _ _) _) hq1)
  clear hq1
  go_wp2_with fail
  go_ret
  exact ⟨rfl, HB.out⟩

theorem half_step (N j : Nat) : N / 2 ^ (j + 1) = N / 2 ^ j / 2 := by rw [Nat.pow_succ, Nat.div_div_eq_div_mul]
theorem mod_odd {N j : Nat} (h : N / 2 ^ j % 2 = 1) : N % 2 ^ (j + 1) = N % 2 ^ j + 2 ^ j := by rw [Nat.mod_pow_succ, h, Nat.mul_one]
theorem mod_even {N j : Nat} (h : ¬ N / 2 ^ j % 2 = 1) : N % 2 ^ (j + 1) = N % 2 ^ j := by
  rw [Nat.mod_pow_succ, show N / 2 ^ j % 2 = 0 by omega, Nat.mul_zero, Nat.add_zero]
theorem pow_le_of_div {N j : Nat} (h : 0 < N / 2 ^ j) : 2 ^ j ≤ N := by
  rcases Nat.lt_or_ge N (2 ^ j) with hl | hl
  · rw [Nat.div_eq_of_lt hl] at h; omega
  · exact hl
theorem calV_fit {x : Nat} (h : x < 2 ^ lim) : calV (x : Int) = x := by unfold calV; rw [Int.natAbs_natCast, if_pos h]
theorem calE_fit {x : Nat} (h : x < 2 ^ lim) : calE (x : Int) = 0 := by unfold calE; rw [Int.natAbs_natCast, if_pos h]
theorem IsZ.fit {w : World} {s : Bool} {A : Option Addr} {l c : Nat} {x : Nat} (h : IsZ w s A l c (x : Int)) (hx : x < 2 ^ lim) : l ≤ 128 := by
  have := h.2.1
  rw [Int.natAbs_natCast] at this
  have := (fits_iff x).2 hx
  omega
theorem pow_mono {a m n : Nat} (ha : 0 < a) (h : m ≤ n) (hf : a ^ n < 2 ^ lim) : a ^ m < 2 ^ lim :=
  Nat.lt_of_le_of_lt (Nat.pow_le_pow_right ha h) hf

set_option maxRecDepth 100000 in
set_option maxHeartbeats 2000000 in
theorem rpower_any (a N : Nat) (w : World) (ha0 : 0 < a) (ha : a ≤ 4095) (hN : N ≤ 4096) (hf : a ^ N < 2 ^ lim) :
    Calls Tryd.prog 70 #[.int .i64 a, .int .i64 N] w (RetZ ((a ^ N : Nat) : Int) w) := by
  have HF := Lib.hid hf
  clear hf
  go_enter Tryd.func70, Tryd.ntmps70
  go_wp2_with fail
  refine (rof_any 1 (by decide) (by decide) _).mono ?_
  rintro e w1 ⟨s1, A1, n1, c1, rfl, hz1, hq1⟩
  have HB1 := Lib.hid (below_call (below_alloc (Below.refl _ _) _) hq1)
  have HR1 : Hid (VarZ w1 w.heap.size 0) := (VarZ.new (IsZ.zero w 0) 87).below hq1
  have HO1 := Lib.hid (VarZ.new hz1 87)
  clear hz1 hq1
  obtain ⟨g, hg⟩ : ∃ g, w1.heap.size = g := ⟨_, rfl⟩
  rw [hg] at HO1
  have hg0 : w.heap.size < g := by have := HR1.out.lt; omega
  have HG := Lib.hid hg
  clear hg
  go_wp2_with fail
  rw [HG.out]
  refine (rof_any a (by omega) (by omega) _).mono ?_
  rintro e w2 ⟨s2, A2, n2, c2, rfl, hz2, hq2⟩
  have HB2 := Lib.hid (below_call (below_alloc HB1.out _) hq2)
  have HR2 := Lib.hid ((HR1.out.alloc (.cells #[.bool s1, .slice A1 n1 c1] 87)).below hq2)
  have HO2 := Lib.hid (HO1.out.below hq2)
  have HX2 := Lib.hid (VarZ.new hz2 87)
  clear hz2 hq2 HB1 HR1 HO1
  obtain ⟨x, hx⟩ : ∃ x, w2.heap.size = x := ⟨_, rfl⟩
  rw [hx] at HX2
  have hx0 : g < x := by have := HO2.out.lt; omega
  have HG2 := Lib.hid hx
  clear hx
  go_wp2_with fail
  rw [HG2.out]
  go_loopw [1] (fun s wr => ∃ j n : Nat, s = .int .i64 n ∧ n ≤ 4096 ∧ Hid (n = N / 2 ^ j) ∧ Hid (VarZ wr g ((a ^ (N % 2 ^ j) : Nat) : Int)) ∧ Hid (∃ v : Int, VarZ wr x v ∧ (0 < n → v = ((a ^ 2 ^ j : Nat) : Int))) ∧ Hid (VarZ wr w.heap.size 0) ∧ Hid (Below w.heap.size w wr)) (fun s _ => (intOf s).toNat)
  case atStart =>
    refine ⟨0, N, rfl, hN, Lib.hid (by simp), Lib.hid ?_, Lib.hid ⟨_, HX2.out, fun _ => by simp⟩, Lib.hid (HR2.out.alloc _), below_alloc HB2.out _⟩
    rw [Nat.pow_zero, Nat.mod_one, Nat.pow_zero]
    exact HO2.out.alloc _
  case round =>
    clear HO2 HX2 HR2 HB2 HG HG2
    obtain ⟨j, n, rfl, hn, HN, HO, HX, HR, HB⟩ := hrel
    have hgl := HO.out.lt
    have hrl := HR.out.lt
    obtain ⟨v, hv, hve⟩ := HX.out
    have HX0 := Lib.hid hv
    have HE := Lib.hid hve
    have hxl := hv.lt
    clear HX hve hv
    obtain ⟨s3, A3, n3, c3, h0, h1, f0, f1, hz⟩ := HO.out
    obtain ⟨s4, A4, n4, c4, r0, r1, k0, k1, hr⟩ := HR.out
    obtain ⟨s5, A5, n5, c5, x0, x1, y0, y1, hzx⟩ := HX0.out
    have HZ := Lib.hid hz
    have HZX := Lib.hid hzx
    clear hz hr hzx
    by_cases hn0 : n = 0
    · have hlt : N < 2 ^ j := by
        rcases Nat.lt_or_ge N (2 ^ j) with hl | hl
        · exact hl
        · have := Nat.div_pos hl (Nat.two_pow_pos j); have := HN.out; omega
      rw [Nat.mod_eq_of_lt hlt] at HZ
      subst hn0
      clear hlt
      go_wp2_with fail
      refine bodyPost_varZ (w2 := _) (B := w.heap.size) Tryd.results70 rfl rfl (HR.out.put HZ.out) ?_
      exact below_setCell (below_setCell HB.out (by simp) _) (by simp) _
    · have hnp : 0 < n := by omega
      have hnz : (0 : Int) < n := by omega
      have hv := HE.out hnp
      rw [hv] at HZX
      have HVV := Lib.hid hv
      clear HE
      have hle : 2 ^ j ≤ N := pow_le_of_div (by rw [← HN.out]; exact hnp)
      have hmle : N % 2 ^ j ≤ N := Nat.mod_le _ _
      have hn3 : n3 ≤ 128 := IsZ.fit HZ.out (pow_mono ha0 hmle HF.out)
      have hn5 : n5 ≤ 128 := IsZ.fit HZX.out (pow_mono ha0 hle HF.out)
      have HLE := Lib.hid hle
      clear hle hmle hv
      by_cases hodd : n % 2 = 1
      · have hm : (n : Int).tmod 2 = 1 := by have := Int.ofNat_tmod n 2; rw [hodd] at this; exact this.symm
        have hmm : N % 2 ^ (j + 1) = N % 2 ^ j + 2 ^ j := mod_odd (by rw [← HN.out]; exact hodd)
        have hmul : ((a ^ (N % 2 ^ j) : Nat) : Int) * ((a ^ 2 ^ j : Nat) : Int) = ((a ^ (N % 2 ^ (j + 1)) : Nat) : Int) := by
          rw [hmm, Nat.pow_add, Int.natCast_mul]
        have hfit : a ^ (N % 2 ^ (j + 1)) < 2 ^ lim := pow_mono ha0 (Nat.mod_le _ _) HF.out
        have HMUL := Lib.hid hmul
        have HFIT := Lib.hid hfit
        clear hmul hmm hfit
        go_wp2_with fail
        refine (rMul_ok _ _ _ _ _ _ _ _ _ _ _ HZ.out HZX.out hn3 hn5).mono ?_
        rintro e w3 ⟨s6, A6, n6, c6, rfl, hz6, hq3⟩
        rw [HMUL.out, calV_fit HFIT.out] at hz6
        rw [HMUL.out, calE_fit HFIT.out]
        have HO3 := Lib.hid (HO.out.below hq3)
        have HX3 := Lib.hid (HX0.out.below hq3)
        have HR3 := Lib.hid (HR.out.below hq3)
        have HB3 := Lib.hid (below_call HB.out hq3)
        have HZ6 := Lib.hid hz6
        clear h0 h1 f0 f1 x0 x1 y0 y1 r0 r1 k0 k1 hq3 hz6 HZ HO HX0 HR HB
        obtain ⟨_, _, _, _, h0, h1, f0, f1, _⟩ := HO3.out
        obtain ⟨s7, A7, n7, c7, x0, x1, y0, y1, hz7⟩ := HX3.out
        rw [HVV.out] at hz7
        have hn7 : n7 ≤ 128 := IsZ.fit hz7 (pow_mono ha0 HLE.out HF.out)
        have HZ7 := Lib.hid (two_isZ h0 h1 (NoInt.bool _) (NoInt.slice _ _ _) hz7 (.bool s6) (.slice A6 n6 c6))
        have HO4 := Lib.hid (HO3.out.put HZ6.out)
        have HX4 := Lib.hid (HX3.out.other HO3.out (show x ≠ g by omega) (.bool s6) (.slice A6 n6 c6))
        have HR4 := Lib.hid (HR3.out.other HO3.out (show w.heap.size ≠ g by omega) (.bool s6) (.slice A6 n6 c6))
        have HB4 := Lib.hid (below_setCell (below_setCell HB3.out (p := ⟨g, 0, none⟩) (by simp; omega) (.bool s6)) (p := ⟨g, 1, none⟩) (by simp; omega) (.slice A6 n6 c6))
        clear hz7
        go_wp2_with fail
        · refine (rMul_ok _ _ _ _ _ _ _ _ _ _ _ HZ7.out HZ7.out hn7 hn7).mono ?_
          rintro e w5 ⟨s8, A8, n8, c8, rfl, hz8, hq5⟩
          have hsq : ((a ^ 2 ^ j : Nat) : Int) * ((a ^ 2 ^ j : Nat) : Int) = ((a ^ 2 ^ (j + 1) : Nat) : Int) := by rw [← Int.natCast_mul, ← Nat.pow_add, Nat.pow_succ, Nat.mul_two]
          have hdiv : 0 < N / 2 ^ (j + 1) := by rw [half_step, ← HN.out]; omega
          have hfit2 : a ^ 2 ^ (j + 1) < 2 ^ lim := pow_mono ha0 (pow_le_of_div hdiv) HF.out
          rw [hsq, calV_fit hfit2] at hz8
          rw [hsq, calE_fit hfit2]
          have HO5 := Lib.hid (HO4.out.below hq5)
          have HX5 := Lib.hid (HX4.out.below hq5)
          have HR5 := Lib.hid (HR4.out.below hq5)
          have HB5 := Lib.hid (below_call HB4.out hq5)
          have HZ8 := Lib.hid hz8
          clear h0 h1 f0 f1 x0 x1 y0 y1 hq5 hz8 HO4 HX4 HR4 HB4 HZ7 hsq hdiv hfit2
          obtain ⟨_, _, _, _, x0, x1, y0, y1, _⟩ := HX5.out
          go_wp2_with fail
          refine ⟨⟨j + 1, n / 2, congrArg (Value.int .i64) (by omega), by omega, Lib.hid (by rw [half_step, ← HN.out]), Lib.hid (HO5.out.other HX5.out (by omega) _ _), Lib.hid ⟨_, HX5.out.put HZ8.out, fun _ => rfl⟩, Lib.hid (HR5.out.other HX5.out (by omega) _ _), below_setCell (below_setCell HB5.out (by simp; omega) _) (by simp; omega) _⟩, ?_⟩
          simp [intOf]
          omega
        · refine ⟨⟨j + 1, n / 2, congrArg (Value.int .i64) (by omega), by omega, Lib.hid (by rw [half_step, ← HN.out]), Lib.hid (HO4.out), Lib.hid ⟨_, HX4.out, fun h => absurd h (by omega)⟩, HR4, HB4⟩, ?_⟩
          simp [intOf]
          omega
      · have hm : ¬ (n : Int).tmod 2 = 1 := by intro h; have := Int.ofNat_tmod n 2; rw [show ((2 : Nat) : Int) = 2 from rfl, h] at this; omega
        have HMM : Hid (N % 2 ^ (j + 1) = N % 2 ^ j) := Lib.hid (mod_even (by rw [← HN.out]; exact hodd))
        have HO4 := HO
        have HX4 := HX0
        have HR4 := HR
        have HB4 := HB
        have HZ7 := HZX
        have hn7 := hn5
        go_wp2_with fail
        · refine (rMul_ok _ _ _ _ _ _ _ _ _ _ _ HZ7.out HZ7.out hn7 hn7).mono ?_
          rintro e w5 ⟨s8, A8, n8, c8, rfl, hz8, hq5⟩
          have hsq : ((a ^ 2 ^ j : Nat) : Int) * ((a ^ 2 ^ j : Nat) : Int) = ((a ^ 2 ^ (j + 1) : Nat) : Int) := by rw [← Int.natCast_mul, ← Nat.pow_add, Nat.pow_succ, Nat.mul_two]
          have hdiv : 0 < N / 2 ^ (j + 1) := by rw [half_step, ← HN.out]; omega
          have hfit2 : a ^ 2 ^ (j + 1) < 2 ^ lim := pow_mono ha0 (pow_le_of_div hdiv) HF.out
          rw [hsq, calV_fit hfit2] at hz8
          rw [hsq, calE_fit hfit2]
          have HO5 := Lib.hid (HO4.out.below hq5)
          have HX5 := Lib.hid (HX4.out.below hq5)
          have HR5 := Lib.hid (HR4.out.below hq5)
          have HB5 := Lib.hid (below_call HB4.out hq5)
          have HZ8 := Lib.hid hz8
          clear h0 h1 f0 f1 x0 x1 y0 y1 r0 r1 k0 k1 hq5 hz8 HO4 HX4 HR4 HB4 HZ7 hsq hdiv hfit2
          obtain ⟨_, _, _, _, x0, x1, y0, y1, _⟩ := HX5.out
          go_wp2_with fail
          refine ⟨⟨j + 1, n / 2, congrArg (Value.int .i64) (by omega), by omega, Lib.hid (by rw [half_step, ← HN.out]), Lib.hid (by rw [HMM.out]; exact HO5.out.other HX5.out (by omega) _ _), Lib.hid ⟨_, HX5.out.put HZ8.out, fun _ => rfl⟩, Lib.hid (HR5.out.other HX5.out (by omega) _ _), below_setCell (below_setCell HB5.out (by simp; omega) _) (by simp; omega) _⟩, ?_⟩
          simp [intOf]
          omega
end Go.Proofs.YtpgnheankmlnfaaDoor
namespace Go.Proofs.YtpgnheankmlnfaaDoor
open Go.RowKit
set_option linter.unusedVariables false

/-- A variable is written, and then copied into another one. -/
theorem put_two {W : World} {g r : Nat} {y y' z : Int} (ht : VarZ W g y) (hr : VarZ W r y') (hne : r ≠ g) {s : Bool} {A : Option Addr} {n c : Nat} (hz : IsZ W s A n c z) :
    VarZ ((((W.setCell ⟨g, 0, none⟩ (.bool s)).setCell ⟨g, 1, none⟩ (.slice A n c)).setCell ⟨r, 0, none⟩ (.bool s)).setCell ⟨r, 1, none⟩ (.slice A n c)) r z := by
  have h := ht
  obtain ⟨_, _, _, _, h0, h1, _, _, _⟩ := h
  exact (hr.other ht hne _ _).put (two_isZ h0 h1 (NoInt.bool _) (NoInt.slice _ _ _) hz _ _)
theorem below_put4 {g r : Nat} {w W : World} (h : Below w.heap.size w W) (hg : w.heap.size ≤ g) (hr : w.heap.size ≤ r) (u0 u1 u2 u3 : Value) :
    Below w.heap.size w ((((W.setCell ⟨g, 0, none⟩ u0).setCell ⟨g, 1, none⟩ u1).setCell ⟨r, 0, none⟩ u2).setCell ⟨r, 1, none⟩ u3) :=
  below_setCell (below_setCell (below_setCell (below_setCell h hg _) hg _) hr _) hr _

set_option maxRecDepth 100000 in
set_option maxHeartbeats 2000000 in
theorem rshifted_any (s : Bool) (A : Option Addr) (l c : Nat) (x m : Nat) (w : World) (h : IsZ w s A l c x) (hx : 0 < x) (hm : m ≤ 4096) (hf : x * 2 ^ m < 2 ^ lim) :
    Calls Tryd.prog 80 #[.agg #[.bool s, .slice A l c], .int .i64 m] w (RetZ ((x * 2 ^ m : Nat) : Int) w) := by
  have H := Lib.hid h
  have hf2 : 2 ^ m < 2 ^ lim := Nat.lt_of_le_of_lt (by have := Nat.mul_le_mul_right (2 ^ m) hx; omega) hf
  have hf1 : x < 2 ^ lim := Nat.lt_of_le_of_lt (Nat.le_mul_of_pos_right _ (Nat.two_pow_pos m)) hf
  have hl : l ≤ 128 := IsZ.fit h hf1
  have HF := Lib.hid hf
  have HF2 := Lib.hid hf2
  have HMUL : Hid ((x : Int) * ((2 ^ m : Nat) : Int) = ((x * 2 ^ m : Nat) : Int)) := Lib.hid (Int.natCast_mul _ _).symm
  clear h hf hf2 hf1
  have HB0 := Lib.hid (below_alloc (below_alloc (Below.refl w.heap.size w) (.cells #[.bool s, .slice A l c] 87)) (.cells #[.bool false, .slice none 0 0] 87))
  have e0 : w.heap.size < w.heap.size + 1 + 1 := by omega
  have e1 : w.heap.size + 1 < w.heap.size + 1 + 1 := by omega
  have e2 : w.heap.size < w.heap.size + 1 + 1 + 1 := by omega
  have e3 : ¬ (w.heap.size = w.heap.size + 1 + 1) := by omega
  have e4 : ¬ (w.heap.size + 1 + 1 = w.heap.size) := by omega
  go_enter Tryd.func80, Tryd.ntmps80
  go_wp2_with fail
  go_region_held3 (fun w' => w'.cell? ⟨w.heap.size, 0, none⟩ = some (.bool s) ∧ w'.cell? ⟨w.heap.size, 1, none⟩ = some (.slice A l c)) (go_keep)
    (first | (go_at_call 70; refine (rpower_any 2 m _ (by omega) (by omega) hm HF2.out).mono ?_; rintro e w1 ⟨s1, A1, n1, c1, rfl, hz1, hq1⟩; have HZ1 := Lib.hid hz1; have HQ1 := Lib.hid hq1; clear hz1; obtain ⟨hc_hq1, hf_hq1⟩ := bcell hq1; have sz_hq1 : w.heap.size + 2 ≤ w1.heap.size := (by have := hq1.size; (try simp at this); omega); have s0_hq1 : w.heap.size < w1.heap.size := (by omega); have s1_hq1 : w.heap.size + 1 < w1.heap.size := (by omega); have t0 : w.heap.size < w1.heap.size + 1 := (by omega); have t1 : ¬ (w.heap.size = w1.heap.size) := (by omega); have t2 : ¬ (w1.heap.size = w.heap.size) := (by omega); have t7 : w1.heap.size < w1.heap.size + 1 := (by omega); (try (have s2_hq1 : w.heap.size + 1 + 1 < w1.heap.size := (by have := hq1.size; simp at this; omega))); clear hq1) | (go_at_call 83; refine (rMul_ok _ _ _ _ (x : Int) _ _ _ _ ((2 ^ m : Nat) : Int) _ ?_ ?_ hl ?_).mono ?_; (first | exact H.out.below (below_call HB0.out.drew HQ1.out) | exact H.out.below (below_alloc (below_call HB0.out.drew HQ1.out) _) | exact H.out.below (below_call (below_alloc HB0.out.drew _) HQ1.out)); (first | exact HZ1.out | exact HZ1.out.below (below_alloc (Below.refl _ _) _)); (exact IsZ.fit HZ1.out HF2.out); rintro e w2 ⟨s2, A2, n2, c2, rfl, hz2, hq2⟩; have HZ2 := Lib.hid hz2; have HQ2 := Lib.hid hq2; clear hz2; obtain ⟨hc_hq2, hf_hq2⟩ := bcell hq2; have sz_hq2 : w.heap.size + 2 ≤ w2.heap.size := (by have := hq2.size; (try simp at this); omega); have s0_hq2 : w.heap.size < w2.heap.size := (by omega); have s1_hq2 : w.heap.size + 1 < w2.heap.size := (by omega); have t3 : ¬ (w.heap.size = w2.heap.size) := (by omega); have t4 : ¬ (w2.heap.size = w.heap.size) := (by omega); (try (have t6 : w1.heap.size < w2.heap.size := (by have := hq2.size; simp at this; omega))); (try (have s2_hq2 : w.heap.size + 1 + 1 < w2.heap.size := (by omega))); clear hq2))
  all_goals
    have hz3 := HZ2.out
    rw [HMUL.out, calV_fit HF.out] at hz3
    have HZ3 := Lib.hid hz3
    clear hz3
    have HR0 : Hid (VarZ ((w.alloc (.cells #[.bool s, .slice A l c] 87)).alloc (.cells #[.bool false, .slice none 0 0] 87)).drew (w.heap.size + 1) 0) := by
      have := VarZ.new (IsZ.zero (w.alloc (.cells #[.bool s, .slice A l c] 87)) 0) 87
      rw [World.size_alloc] at this
      exact Lib.hid this.drew
    go_wp2_with fail
  · refine bodyPost_varZ (w2 := _) (B := w.heap.size + 1) Tryd.results80 rfl rfl ((((HR0.out.below HQ1.out).below HQ2.out).put HZ3.out).alloc _) ?_
    exact below_alloc (below_setCell (below_setCell (below_call (below_call HB0.out.drew HQ1.out) HQ2.out) (by simp) _) (by simp) _) _
  · refine bodyPost_varZ (w2 := _) (B := w.heap.size + 1) Tryd.results80 rfl rfl (put_two ((VarZ.new (IsZ.zero w1 0) 87).below HQ2.out) (((HR0.out.below HQ1.out).alloc _).below HQ2.out) (by omega) HZ3.out) ?_
    exact below_put4 (below_call (below_alloc (below_call HB0.out.drew HQ1.out) _) HQ2.out) (by omega) (by omega) _ _ _ _
  · refine bodyPost_varZ (w2 := _) (B := w.heap.size + 1) Tryd.results80 rfl rfl (put_two (g := w.heap.size + 1 + 1) (y := 0) ?_ (((HR0.out.alloc _).below HQ1.out).below HQ2.out) (by omega) HZ3.out) ?_
    · have := VarZ.new (IsZ.zero ((w.alloc (.cells #[.bool s, .slice A l c] 87)).alloc (.cells #[.bool false, .slice none 0 0] 87)).drew 0) 87
      rw [show (((w.alloc (.cells #[.bool s, .slice A l c] 87)).alloc (.cells #[.bool false, .slice none 0 0] 87)).drew).heap.size = w.heap.size + 1 + 1 by simp] at this
      exact (this.below HQ1.out).below HQ2.out
    · exact below_put4 (below_call (below_call (below_alloc HB0.out.drew _) HQ1.out) HQ2.out) (by omega) (by omega) _ _ _ _

/-- By which power of 2 x has to be multiplied at most to stay at most y. -/
def leaV (x y : Nat) : Int :=
  if 0 ≤ (bl y : Int) - bl x then (if 0 < cmpI ((x * 2 ^ (bl y - bl x) : Nat) : Int) y then (bl y : Int) - bl x - 1 else (bl y : Int) - bl x)
  else (if 0 < cmpI (x : Int) ((y * 2 ^ (bl x - bl y) : Nat) : Int) then (bl y : Int) - bl x - 1 else (bl y : Int) - bl x)
theorem shift_fit {x y : Nat} (hy : y < 2 ^ lim) (h : bl x ≤ bl y) : x * 2 ^ (bl y - bl x) < 2 ^ lim := by
  have h1 := bl_lt x
  have h2 := bl_le hy
  have h3 : 2 ^ bl x * 2 ^ (bl y - bl x) = 2 ^ bl y := by rw [← Nat.pow_add]; congr 1; omega
  have h4 : 2 ^ bl y ≤ 2 ^ lim := Nat.pow_le_pow_right (by decide) h2
  have h5 := Nat.mul_lt_mul_of_pos_right h1 (Nat.two_pow_pos (bl y - bl x))
  omega

set_option maxRecDepth 100000 in
set_option maxHeartbeats 2000000 in
theorem least_any (s1 : Bool) (A1 : Option Addr) (l1 c1 : Nat) (x : Nat) (s2 : Bool) (A2 : Option Addr) (l2 c2 : Nat) (y : Nat) (w : World)
    (h1 : IsZ w s1 A1 l1 c1 x) (h2 : IsZ w s2 A2 l2 c2 y) (hx : 0 < x) (hy : 0 < y) (fx : x < 2 ^ lim) (fy : y < 2 ^ lim) :
    Calls Tryd.prog 69 #[.agg #[.bool s1, .slice A1 l1 c1], .agg #[.bool s2, .slice A2 l2 c2]] w fun e w' => e = .returned (.int .i64 (leaV x y)) ∧ Below w.heap.size w w' := by
  have H1 := Lib.hid h1
  have H2 := Lib.hid h2
  have hl1 := h1.fit fx
  have hl2 := h2.fit fy
  have hbx := bl_le fx
  have hby := bl_le fy
  rw [lim_eq] at hbx hby
  have HFX := Lib.hid fx
  have HFY := Lib.hid fy
  clear h1 h2 fx fy
  obtain ⟨v, hv⟩ : ∃ v, leaV x y = v := ⟨_, rfl⟩
  rw [hv]
  have HV := Lib.hid hv
  clear hv
  have HB0 := Lib.hid (below_alloc (below_alloc (Below.refl w.heap.size w) (.cells #[.bool s1, .slice A1 l1 c1] 87)) (.cells #[.bool s2, .slice A2 l2 c2] 87))
  have e0 : w.heap.size < w.heap.size + 1 + 1 := by omega
  have e1 : w.heap.size + 1 < w.heap.size + 1 + 1 := by omega
  go_enter Tryd.func69, Tryd.ntmps69
  go_wp2_with fail
  go_region_held3 (fun w' => w'.cell? ⟨w.heap.size, 0, none⟩ = some (.bool s1) ∧ w'.cell? ⟨w.heap.size, 1, none⟩ = some (.slice A1 l1 c1) ∧ w'.cell? ⟨w.heap.size + 1, 0, none⟩ = some (.bool s2) ∧ w'.cell? ⟨w.heap.size + 1, 1, none⟩ = some (.slice A2 l2 c2)) (go_keep)
    ((go_at_call 79; first | (((with_reducible refine (rlbits_any s2 A2 l2 c2 (y : Int) _ ?_ hl2).mono ?_)); (exact H2.out.below HB0.out.drew); rintro e w1 ⟨rfl, hq1⟩; have HQ1 := Lib.hid hq1; obtain ⟨hc_hq1, hf_hq1⟩ := bcell hq1; have sz_hq1 : w.heap.size + 2 ≤ w1.heap.size := (by have := hq1.size; (try simp at this); omega); have s0_hq1 : w.heap.size < w1.heap.size := (by omega); have s1_hq1 : w.heap.size + 1 < w1.heap.size := (by omega); clear hq1) | (((with_reducible refine (rlbits_any s1 A1 l1 c1 (x : Int) _ ?_ hl1).mono ?_)); (exact H1.out.below (below_call HB0.out.drew HQ1.out)); rintro e w2 ⟨rfl, hq2⟩; have HQ2 := Lib.hid hq2; obtain ⟨hc_hq2, hf_hq2⟩ := bcell hq2; have sz_hq2 : w.heap.size + 2 ≤ w2.heap.size := (by have := hq2.size; (try simp at this); omega); have s0_hq2 : w.heap.size < w2.heap.size := (by omega); have s1_hq2 : w.heap.size + 1 < w2.heap.size := (by omega); clear hq2)))
  have HB2 := Lib.hid (below_call (below_call HB0.out.drew HQ1.out) HQ2.out)
  have HP : Hid (VarZ ((w2.alloc (.cells #[.bool s1, .slice A1 l1 c1] 87)).alloc (.cells #[.bool s2, .slice A2 l2 c2] 87)) w2.heap.size x) := (VarZ.new (H1.out.below HB2.out) _).alloc _
  have HQ : Hid (VarZ ((w2.alloc (.cells #[.bool s1, .slice A1 l1 c1] 87)).alloc (.cells #[.bool s2, .slice A2 l2 c2] 87)) (w2.heap.size + 1) y) := by
    have := VarZ.new (H2.out.below (below_alloc HB2.out (.cells #[.bool s1, .slice A1 l1 c1] 87))) 87
    rw [World.size_alloc] at this
    exact Lib.hid this
  by_cases hc : bl x ≤ bl y
  · obtain ⟨m, hm⟩ : ∃ m : Nat, bl y - bl x = m := ⟨_, rfl⟩
    have hw : IntKind.i64.wrap ((bl y : Int) - bl x) = (m : Int) := by rw [IntKind.wrap_i64]; omega
    have hv : v = if 0 < cmpI ((x * 2 ^ m : Nat) : Int) y then (m : Int) - 1 else m := by
      rw [← HV.out]; unfold leaV; rw [if_pos (by omega), hm, show (bl y : Int) - bl x = m by omega]
    have hfit := shift_fit HFY.out hc
    rw [hm] at hfit
    have hm0 : m ≤ 4096 := by omega
    have HFIT := Lib.hid hfit
    have HVV := Lib.hid hv
    rw [hw]
    clear hw hfit hv HV hm hbx hby hc
    have hg0 : w.heap.size < w2.heap.size := by omega
    go_wp2_with fail
    refine (rshifted_any s1 A1 l1 c1 x m _ (H1.out.below (below_alloc (below_alloc HB2.out _) _)) hx hm0 HFIT.out).mono ?_
    rintro e w3 ⟨s3, A3, l3, c3, rfl, hz3, hq3⟩
    have HZ3 := Lib.hid hz3
    have HB3 := Lib.hid (below_call (below_alloc (below_alloc HB2.out _) _) hq3)
    have HP3 := Lib.hid (HP.out.below hq3)
    have HQ3 := Lib.hid (HQ.out.below hq3)
    obtain ⟨_, _, _, _, p0, p1, p2, p3, _⟩ := HP3.out
    obtain ⟨s5, A5, l5, c5, q0, q1, q2, q3, hzq⟩ := HQ3.out
    clear hz3 hq3 HP HQ
    have HZ4 := Lib.hid (two_isZ p0 p1 (NoInt.bool _) (NoInt.slice _ _ _) HZ3.out (.bool s3) (.slice A3 l3 c3))
    have HZ5 := Lib.hid (two_isZ p0 p1 (NoInt.bool _) (NoInt.slice _ _ _) hzq (.bool s3) (.slice A3 l3 c3))
    have hl5 : l5 ≤ 128 := IsZ.fit hzq HFY.out
    have hl3 : l3 ≤ 128 := IsZ.fit HZ3.out HFIT.out
    clear hzq
    go_wp2_with fail
    refine (rCompare_ok _ _ _ _ _ _ _ _ _ _ _ HZ4.out HZ5.out hl3 hl5).mono ?_
    rintro e w4 ⟨rfl, hq4⟩
    have HB4 := Lib.hid (below_call (below_setCell (below_setCell HB3.out (p := ⟨w2.heap.size, 0, none⟩) (by simp; omega) (.bool s3)) (p := ⟨w2.heap.size, 1, none⟩) (by simp; omega) (.slice A3 l3 c3)) hq4)
    clear hq4
    obtain ⟨t, ht⟩ : ∃ t, cmpI ((x * 2 ^ m : Nat) : Int) y = t := ⟨_, rfl⟩
    have hvv := HVV.out
    rw [ht] at hvv ⊢
    have HVF := Lib.hid hvv
    clear ht hvv HVV
    go_wp2_with fail
    · go_ret
      exact ⟨by rw [HVF.out, if_pos (by assumption)]; rfl, HB4.out⟩
    · go_ret
      exact ⟨by rw [HVF.out, if_neg (by omega)]; rfl, HB4.out⟩
  · obtain ⟨m, hm⟩ : ∃ m : Nat, bl x - bl y = m := ⟨_, rfl⟩
    have hw : IntKind.i64.wrap ((bl y : Int) - bl x) = -(m : Int) := by rw [IntKind.wrap_i64]; omega
    have hv : v = if 0 < cmpI (x : Int) ((y * 2 ^ m : Nat) : Int) then -(m : Int) - 1 else -(m : Int) := by
      rw [← HV.out]; unfold leaV; rw [if_neg (by omega), hm, show (bl y : Int) - bl x = -(m : Int) by omega]
    have hfit := shift_fit (y := x) (x := y) HFX.out (by omega)
    rw [hm] at hfit
    have hm0 : m ≤ 4096 := by omega
    have hm1 : 0 < m := by omega
    have HFIT := Lib.hid hfit
    have HVV := Lib.hid hv
    rw [hw]
    clear hw hfit hv HV hm hbx hby hc
    have hg0 : w.heap.size < w2.heap.size := by omega
    go_wp2_with fail
    refine (rshifted_any s2 A2 l2 c2 y m _ (H2.out.below (below_alloc (below_alloc HB2.out _) _)) hy hm0 HFIT.out).mono ?_
    rintro e w3 ⟨s3, A3, l3, c3, rfl, hz3, hq3⟩
    have HZ3 := Lib.hid hz3
    have HB3 := Lib.hid (below_call (below_alloc (below_alloc HB2.out _) _) hq3)
    have HP3 := Lib.hid (HP.out.below hq3)
    have HQ3 := Lib.hid (HQ.out.below hq3)
    obtain ⟨s5, A5, l5, c5, p0, p1, p2, p3, hzp⟩ := HP3.out
    obtain ⟨_, _, _, _, q0, q1, q2, q3, _⟩ := HQ3.out
    clear hz3 hq3 HP HQ
    have HZ4 := Lib.hid (two_isZ q0 q1 (NoInt.bool _) (NoInt.slice _ _ _) HZ3.out (.bool s3) (.slice A3 l3 c3))
    have HZ5 := Lib.hid (two_isZ q0 q1 (NoInt.bool _) (NoInt.slice _ _ _) hzp (.bool s3) (.slice A3 l3 c3))
    have hl5 : l5 ≤ 128 := IsZ.fit hzp HFX.out
    have hl3 : l3 ≤ 128 := IsZ.fit HZ3.out HFIT.out
    clear hzp
    go_wp2_with fail
    refine (rCompare_ok _ _ _ _ _ _ _ _ _ _ _ HZ5.out HZ4.out hl5 hl3).mono ?_
    rintro e w4 ⟨rfl, hq4⟩
    have HB4 := Lib.hid (below_call (below_setCell (below_setCell HB3.out (p := ⟨w2.heap.size + 1, 0, none⟩) (by simp; omega) (.bool s3)) (p := ⟨w2.heap.size + 1, 1, none⟩) (by simp; omega) (.slice A3 l3 c3)) hq4)
    clear hq4
    obtain ⟨t, ht⟩ : ∃ t, cmpI (x : Int) ((y * 2 ^ m : Nat) : Int) = t := ⟨_, rfl⟩
    have hvv := HVV.out
    rw [ht] at hvv ⊢
    have HVF := Lib.hid hvv
    clear ht hvv HVV
    go_wp2_with fail
    · go_ret
      exact ⟨by rw [HVF.out, if_pos (by assumption)]; rfl, HB4.out⟩
    · go_ret
      exact ⟨by rw [HVF.out, if_neg (by omega)]; rfl, HB4.out⟩
end Go.Proofs.YtpgnheankmlnfaaDoor
