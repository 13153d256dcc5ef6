/- The walk over the law LogsBest. -/
import Derived.Test.YtpgnheankmlnfaaDoorLQ
namespace Go.Proofs.YtpgnheankmlnfaaDoor
open Go.RowKit
set_option linter.unusedVariables false

theorem CheckBetween_ok (a b o : Nat) (w : World) (h : askO a b o = true) {P R : Int} {Q S : Nat} (hx : nearS a b o = (P, Q, R, S)) :
    Calls Tryd.prog 40 #[.int .i64 a, .int .i64 b, .int .i64 o, .agg #[.int .i64 P, .int .i64 Q], .agg #[.int .i64 R, .int .i64 S]] w fun e w' => e = .returned (.int .i64 0) ∧ Below w.heap.size w w' := by
  have h1 := chk_near h
  rw [hx] at h1
  exact (CheckBetween_any a b o P Q R S w).mono fun e w' hh => ⟨by rw [hh.1]; exact congrArg (fun z => Ending.returned (.int .i64 z)) h1, hh.2⟩
theorem small_ok {p q : Int} (w : World) (h : smlB p q = true) :
    Calls Tryd.prog 39 #[.agg #[.int .i64 p, .int .i64 q]] w fun e w' => e = .returned (.bool true) ∧ Below w.heap.size w w' :=
  (small_any p q w).mono fun e w' hh => ⟨by rw [hh.1, h], hh.2⟩
theorem mul_le4 {x : Int} {k : Nat} (h0 : -4096 ≤ x) (h1 : x ≤ 4096) (h2 : k ≤ 256) : -1048576 ≤ x * k ∧ x * k ≤ 1048576 := by
  have a1 : -4096 * (k : Int) ≤ x * k := Int.mul_le_mul_of_nonneg_right h0 (by omega)
  have a2 : x * (k : Int) ≤ 4096 * k := Int.mul_le_mul_of_nonneg_right h1 (by omega)
  omega

set_option maxRecDepth 100000 in
set_option maxHeartbeats 8000000 in
theorem LogsBest_any (a b o p q r s : Int) (w : World) :
    Calls Tryd.prog 12 #[.int .i64 a, .int .i64 b, .int .i64 o, .agg #[.int .i64 p, .int .i64 q], .agg #[.int .i64 r, .int .i64 s]] w fun e w' => e = .returned (.bool true) ∧ Below w.heap.size w w' := by
  obtain ⟨v1, hv1⟩ : ∃ v, askF a b 0 = v := ⟨_, rfl⟩
  obtain ⟨v2, hv2⟩ : ∃ v, smlB p q = v := ⟨_, rfl⟩
  have HV1 := Lib.hid hv1
  have HV2 := Lib.hid hv2
  clear hv1 hv2
  have HB0 := Lib.hid (below_alloc (below_alloc (Below.refl w.heap.size w) (.cells #[.int .i64 p, .int .i64 q] 39)) (.cells #[.int .i64 r, .int .i64 s] 39))
  have HX0 := Lib.hid ((VarQ.new w p q 39).alloc (.cells #[.int .i64 r, .int .i64 s] 39))
  have HY0 := Lib.hid (VarQ.new (w.alloc (.cells #[.int .i64 p, .int .i64 q] 39)) r s 39)
  rw [World.size_alloc] at HY0
  go_enter Tryd.func12, Tryd.ntmps12
  go_wp2_with fail
  refine (sane_any _).mono ?_
  rintro e w1 ⟨rfl, hq⟩
  have HB1 := Lib.hid (below_call HB0.out hq)
  have HX1 := Lib.hid (HX0.out.below hq)
  have HY1 := Lib.hid (HY0.out.below hq)
  clear hq HB0 HX0 HY0
  obtain ⟨g, hg⟩ : ∃ g, w.heap.size = g := ⟨_, rfl⟩
  rw [hg] at HX1 HY1 ⊢
  have HG := Lib.hid hg
  clear hg
  go_wp2_with fail
  refine (Right_any a b 0 _).mono ?_
  rintro e w2 ⟨rfl, hq⟩
  rw [HV1.out]
  have HB2 := Lib.hid (below_call HB1.out hq)
  have HX2 := Lib.hid (HX1.out.below hq)
  have HY2 := Lib.hid (HY1.out.below hq)
  clear hq HB1 HX1 HY1
  cases v1
  · go_wp2_with fail
    go_ret
    exact ⟨rfl, HB2.out⟩
  obtain ⟨⟨a0, a1⟩, ⟨b0, b1⟩, _, _⟩ := askF_iff.1 HV1.out
  by_cases ho0 : o < 1
  · have t1 : decide (o < 1) = true := decide_eq_true ho0
    go_wp2_with fail
    go_ret
    exact ⟨rfl, HB2.out⟩
  by_cases ho1 : 64 < o
  · have t1 : decide (o < 1) = false := decide_eq_false ho0
    have t2 : decide (64 < o) = true := decide_eq_true ho1
    go_wp2_with fail
    go_ret
    exact ⟨rfl, HB2.out⟩
  obtain ⟨a, rfl⟩ : ∃ n : Nat, a = (n : Int) := ⟨a.toNat, by omega⟩
  obtain ⟨b, rfl⟩ : ∃ n : Nat, b = (n : Int) := ⟨b.toNat, by omega⟩
  obtain ⟨o, rfl⟩ : ∃ n : Nat, o = (n : Int) := ⟨o.toNat, by omega⟩
  have ha0 : 0 < a := by omega
  have hb0 : 0 < b := by omega
  have HA := Lib.hid (askO_of (a := a) (b := b) (o := o) ha0 (by omega) hb0 (by omega) (by omega) (by omega))
  have hnf := near_facts HA.out
  have HLO := Lib.hid (fun (p : Int) (q : Nat) (h1 : 1 ≤ q) (h2 : q ≤ o) (h3 : 0 ≤ sd a b q p) => near_lo HA.out h1 h2 h3)
  have HHI := Lib.hid (fun (p : Int) (q : Nat) (h1 : 1 ≤ q) (h2 : q ≤ o) (h3 : sd a b q p ≤ 0) => near_hi HA.out h1 h2 h3)
  have HONE := Lib.hid (fun h : chkW a b o p q r s = 0 => chk_one h)
  obtain ⟨⟨P, Q, R, S⟩, hnear⟩ : ∃ x, nearS a b o = x := ⟨_, rfl⟩
  have HF1 := Lib.hid (Between_ok2 a b o · HA.out hnear)
  have HF2 := Lib.hid (CheckBetween_ok a b o · HA.out hnear)
  rw [hnear] at hnf HLO HHI HONE
  dsimp only at hnf HLO HHI HONE
  obtain ⟨n1, n2, n3, n4, n5, n6, n7, n8, n9, n10⟩ := hnf
  have HS1 := Lib.hid (small_ok (p := P) (q := Q) · (smlB_iff.2 ⟨⟨⟨by omega, by omega⟩, by omega⟩, by omega⟩))
  have HS2 := Lib.hid (small_ok (p := R) (q := S) · (smlB_iff.2 ⟨⟨⟨by omega, by omega⟩, by omega⟩, by omega⟩))
  have HC := Lib.hid (fun w => CheckBetween_any a b o p q r s w)
  obtain ⟨c, hc⟩ : ∃ c, chkW a b o p q r s = c := ⟨_, rfl⟩
  rw [hc] at HC HONE
  clear hc hnear n9 n10
  have s1 : decide ((o : Int) < 1) = false := decide_eq_false (by omega)
  have s2 : decide ((64 : Int) < o) = false := decide_eq_false (by omega)
  go_wp2_with fail
  refine (HF1.out _).mono ?_
  rintro e w3 ⟨rfl, hq⟩
  dsimp only
  have HB3 := Lib.hid (below_alloc (below_alloc (below_call HB2.out hq) (.cells #[.int .i64 P, .int .i64 Q] 39)) (.cells #[.int .i64 R, .int .i64 S] 39))
  have HX3 := Lib.hid (((HX2.out.below hq).alloc (.cells #[.int .i64 P, .int .i64 Q] 39)).alloc (.cells #[.int .i64 R, .int .i64 S] 39))
  have HY3 := Lib.hid (((HY2.out.below hq).alloc (.cells #[.int .i64 P, .int .i64 Q] 39)).alloc (.cells #[.int .i64 R, .int .i64 S] 39))
  have HU3 := Lib.hid ((VarQ.new w3 P Q 39).alloc (.cells #[.int .i64 R, .int .i64 S] 39))
  have HW3 := Lib.hid (VarQ.new (w3.alloc (.cells #[.int .i64 P, .int .i64 Q] 39)) R S 39)
  rw [World.size_alloc] at HW3
  clear hq HB2 HX2 HY2
  go_wp2_with fail
  refine (HS1.out _).mono ?_
  rintro e w4 ⟨rfl, hq⟩
  have HB4 := Lib.hid (below_call HB3.out hq)
  have HX4 := Lib.hid (HX3.out.below hq)
  have HY4 := Lib.hid (HY3.out.below hq)
  have HU4 := Lib.hid (HU3.out.below hq)
  have HW4 := Lib.hid (HW3.out.below hq)
  clear hq HB3 HX3 HY3 HU3 HW3
  obtain ⟨h, hh⟩ : ∃ h, w3.heap.size = h := ⟨_, rfl⟩
  rw [hh] at HU4 HW4 ⊢
  clear hh
  obtain ⟨e0, e1, _, _⟩ := HU4.out
  obtain ⟨e2, e3, _, _⟩ := HW4.out
  go_wp2_with fail
  refine (HS2.out _).mono ?_
  rintro e w5 ⟨rfl, hq⟩
  have HB5 := Lib.hid (below_call HB4.out hq)
  have HX5 := Lib.hid (HX4.out.below hq)
  have HY5 := Lib.hid (HY4.out.below hq)
  have HU5 := Lib.hid (HU4.out.below hq)
  have HW5 := Lib.hid (HW4.out.below hq)
  clear hq HB4 HX4 HY4 HU4 HW4 e0 e1 e2 e3
  obtain ⟨e0, e1, _, _⟩ := HU5.out
  obtain ⟨e2, e3, _, _⟩ := HW5.out
  go_wp2_with fail
  refine (HF2.out _).mono ?_
  rintro e w6 ⟨rfl, hq⟩
  have HB6 := Lib.hid (below_call HB5.out hq)
  have HX6 := Lib.hid (HX5.out.below hq)
  have HY6 := Lib.hid (HY5.out.below hq)
  have HU6 := Lib.hid (HU5.out.below hq)
  have HW6 := Lib.hid (HW5.out.below hq)
  clear hq HB5 HX5 HY5 HU5 HW5 e0 e1 e2 e3
  obtain ⟨e0, e1, _, _⟩ := HX6.out
  obtain ⟨e2, e3, _, _⟩ := HY6.out
  go_wp2_with fail
  refine (HC.out _).mono ?_
  rintro e w7 ⟨rfl, hq⟩
  have HB7 := Lib.hid (below_call HB6.out hq)
  have HX7 := Lib.hid (HX6.out.below hq)
  have HY7 := Lib.hid (HY6.out.below hq)
  have HU7 := Lib.hid (HU6.out.below hq)
  have HW7 := Lib.hid (HW6.out.below hq)
  clear hq HB6 HX6 HY6 HU6 HW6 e0 e1 e2 e3
  obtain ⟨e0, e1, _, _⟩ := HX7.out
  obtain ⟨e2, e3, _, _⟩ := HY7.out
  obtain ⟨e4, e5, _, _⟩ := HU7.out
  obtain ⟨e6, e7, _, _⟩ := HW7.out
  by_cases hc0 : c = 0
  · obtain ⟨i1, i2, i3, i4⟩ := HONE.out hc0
    clear HONE
    subst hc0 i1 i2 i3 i4
    clear HV2
    have hsm : smlB p Q = true := smlB_iff.2 ⟨⟨⟨by omega, by omega⟩, by omega⟩, by omega⟩
    have HSM := Lib.hid hsm
    clear hsm
    go_wp2_with fail
    refine (HS1.out _).mono ?_
    rintro e w8 ⟨rfl, hq⟩
    have HB8 := Lib.hid (below_call HB7.out hq)
    have HX8 := Lib.hid (HX7.out.below hq)
    have HU8 := Lib.hid (HU7.out.below hq)
    have HW8 := Lib.hid (HW7.out.below hq)
    clear hq HB7 HX7 HY7 HU7 HW7 e0 e1 e2 e3 e4 e5 e6 e7
    obtain ⟨e0, e1, _, _⟩ := HX8.out
    obtain ⟨e4, e5, _, _⟩ := HU8.out
    obtain ⟨e6, e7, _, _⟩ := HW8.out
    have s3 : decide ((o : Int) < Q) = false := decide_eq_false (by omega)
    have HCo := Lib.hid (Compare_ok2 a b Q p · (askC_of ha0 (by omega) hb0 (by omega) HSM.out))
    have hhi := HHI.out p Q (by omega) (by omega)
    have h3 := sd_3 a b Q p
    obtain ⟨sv, hsv⟩ : ∃ v, sd a b Q p = v := ⟨_, rfl⟩
    rw [hsv] at hhi HCo h3
    obtain ⟨b5, b6⟩ := mul_le4 (x := p) (k := S) (by omega) (by omega) (by omega)
    obtain ⟨b7, b8⟩ := mul_le4 (x := r) (k := Q) (by omega) (by omega) (by omega)
    obtain ⟨z3, hz3⟩ : ∃ z : Int, p * (S : Int) = z := ⟨_, rfl⟩
    obtain ⟨z4, hz4⟩ : ∃ z : Int, r * (Q : Int) = z := ⟨_, rfl⟩
    rw [hz3] at hhi b5 b6
    rw [hz4] at hhi b7 b8
    have m3 : wrap64 (p * (S : Int)) = z3 := by rw [hz3]; exact wrap64_id (by omega) (by omega)
    have m4 : wrap64 (r * (Q : Int)) = z4 := by rw [hz4]; exact wrap64_id (by omega) (by omega)
    clear hz3 hz4 hsv b5 b6 b7 b8
    go_wp2_with fail
    refine (HCo.out _).mono ?_
    rintro e w9 ⟨rfl, hq⟩
    have HB9 := Lib.hid (below_call HB8.out hq)
    have HX9 := Lib.hid (HX8.out.below hq)
    have HU9 := Lib.hid (HU8.out.below hq)
    have HW9 := Lib.hid (HW8.out.below hq)
    clear hq HB8 HX8 HU8 HW8 e0 e1 e4 e5 e6 e7
    obtain ⟨e0, e1, _, _⟩ := HX9.out
    obtain ⟨e4, e5, _, _⟩ := HU9.out
    obtain ⟨e6, e7, _, _⟩ := HW9.out
    rcases h3 with rfl | rfl | rfl
    · have s5 : decide (z3 < z4) = false := decide_eq_false (by have := hhi (by omega); omega)
      clear hhi
      go_wp2_with fail
      go_ret
      exact ⟨rfl, HB9.out⟩
    · have s5 : decide (z3 < z4) = false := decide_eq_false (by have := hhi (by omega); omega)
      clear hhi
      go_wp2_with fail
      go_ret
      exact ⟨rfl, HB9.out⟩
    · clear hhi
      go_wp2_with fail
      go_ret
      exact ⟨rfl, HB9.out⟩
  · have hc1 : (c == 0) = false := by simpa using hc0
    clear HONE
    go_wp2_with fail
    refine (small_any p q _).mono ?_
    rintro e w8 ⟨rfl, hq⟩
    rw [HV2.out]
    have HB8 := Lib.hid (below_call HB7.out hq)
    have HX8 := Lib.hid (HX7.out.below hq)
    have HU8 := Lib.hid (HU7.out.below hq)
    have HW8 := Lib.hid (HW7.out.below hq)
    clear hq HB7 HX7 HY7 HU7 HW7 e0 e1 e2 e3 e4 e5 e6 e7
    cases v2
    · go_wp2_with fail
      go_ret
      exact ⟨rfl, HB8.out⟩
    obtain ⟨⟨⟨q0, q1⟩, p0⟩, p1⟩ := smlB_iff.1 HV2.out
    obtain ⟨q, rfl⟩ : ∃ n : Nat, q = (n : Int) := ⟨q.toNat, by omega⟩
    obtain ⟨e0, e1, _, _⟩ := HX8.out
    by_cases hqo : (o : Int) < q
    · have s3 : decide ((o : Int) < q) = true := decide_eq_true hqo
      go_wp2_with fail
      go_ret
      exact ⟨rfl, HB8.out⟩
    have s3 : decide ((o : Int) < q) = false := decide_eq_false hqo
    have HCo := Lib.hid (Compare_ok2 a b q p · (askC_of ha0 (by omega) hb0 (by omega) HV2.out))
    have hlo := HLO.out p q (by omega) (by omega)
    have hhi := HHI.out p q (by omega) (by omega)
    have h3 := sd_3 a b q p
    obtain ⟨sv, hsv⟩ : ∃ v, sd a b q p = v := ⟨_, rfl⟩
    rw [hsv] at hlo hhi HCo h3
    obtain ⟨b1, b2⟩ := mul_le4 (x := p) (k := Q) (by omega) (by omega) (by omega)
    obtain ⟨b3, b4⟩ := mul_le4 (x := P) (k := q) (by omega) (by omega) (by omega)
    obtain ⟨b5, b6⟩ := mul_le4 (x := p) (k := S) (by omega) (by omega) (by omega)
    obtain ⟨b7, b8⟩ := mul_le4 (x := R) (k := q) (by omega) (by omega) (by omega)
    obtain ⟨z1, hz1⟩ : ∃ z : Int, p * (Q : Int) = z := ⟨_, rfl⟩
    obtain ⟨z2, hz2⟩ : ∃ z : Int, P * (q : Int) = z := ⟨_, rfl⟩
    obtain ⟨z3, hz3⟩ : ∃ z : Int, p * (S : Int) = z := ⟨_, rfl⟩
    obtain ⟨z4, hz4⟩ : ∃ z : Int, R * (q : Int) = z := ⟨_, rfl⟩
    rw [hz1] at hlo b1 b2
    rw [hz2] at hlo b3 b4
    rw [hz3] at hhi b5 b6
    rw [hz4] at hhi b7 b8
    have m1 : wrap64 (p * (Q : Int)) = z1 := by rw [hz1]; exact wrap64_id (by omega) (by omega)
    have m2 : wrap64 (P * (q : Int)) = z2 := by rw [hz2]; exact wrap64_id (by omega) (by omega)
    have m3 : wrap64 (p * (S : Int)) = z3 := by rw [hz3]; exact wrap64_id (by omega) (by omega)
    have m4 : wrap64 (R * (q : Int)) = z4 := by rw [hz4]; exact wrap64_id (by omega) (by omega)
    clear hz1 hz2 hz3 hz4 hsv b1 b2 b3 b4 b5 b6 b7 b8
    obtain ⟨e4, e5, _, _⟩ := HU8.out
    obtain ⟨e6, e7, _, _⟩ := HW8.out
    go_wp2_with fail
    refine (HCo.out _).mono ?_
    rintro e w9 ⟨rfl, hq⟩
    have HB9 := Lib.hid (below_call HB8.out hq)
    have HX9 := Lib.hid (HX8.out.below hq)
    have HU9 := Lib.hid (HU8.out.below hq)
    have HW9 := Lib.hid (HW8.out.below hq)
    clear hq HB8 HX8 HU8 HW8 e0 e1 e4 e5 e6 e7
    obtain ⟨e0, e1, _, _⟩ := HX9.out
    obtain ⟨e4, e5, _, _⟩ := HU9.out
    obtain ⟨e6, e7, _, _⟩ := HW9.out
    rcases h3 with rfl | rfl | rfl
    · have s5 : decide (z3 < z4) = false := decide_eq_false (by have := hhi (by omega); omega)
      clear hlo hhi
      go_wp2_with fail
      go_ret
      exact ⟨rfl, HB9.out⟩
    · have s4 : decide (z2 < z1) = false := decide_eq_false (by have := hlo (by omega); omega)
      have s5 : decide (z3 < z4) = false := decide_eq_false (by have := hhi (by omega); omega)
      clear hlo hhi
      go_wp2_with fail
      go_ret
      exact ⟨rfl, HB9.out⟩
    · have s4 : decide (z2 < z1) = false := decide_eq_false (by have := hlo (by omega); omega)
      clear hlo hhi
      go_wp2_with fail
      go_ret
      exact ⟨rfl, HB9.out⟩
end Go.Proofs.YtpgnheankmlnfaaDoor
