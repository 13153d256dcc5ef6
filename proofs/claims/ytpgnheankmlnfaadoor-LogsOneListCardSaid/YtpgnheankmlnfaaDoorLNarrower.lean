/- The walk over the law LogsNarrower. -/
import Derived.Test.YtpgnheankmlnfaaDoorLBest
namespace Go.Proofs.YtpgnheankmlnfaaDoor
open Go.RowKit
set_option linter.unusedVariables false

theorem Expand_ok2 (a b o : Nat) (w : World) (h : askO a b o = true) {xs : List Int} (hx : expL a b o = xs) :
    Calls Tryd.prog 32 #[.int .i64 a, .int .i64 b, .int .i64 o] w (RetSE xs 0 w) := by
  have := Expand_any a b o w
  rw [h, hx] at this
  exact this

set_option maxRecDepth 100000 in
set_option maxHeartbeats 8000000 in
theorem LogsNarrower_any (a b o m : Int) (w : World) :
    Calls Tryd.prog 11 #[.int .i64 a, .int .i64 b, .int .i64 o, .int .i64 m] w fun e w' => e = .returned (.bool true) ∧ Below w.heap.size w w' := by
  obtain ⟨v1, hv1⟩ : ∃ v, askF a b 0 = v := ⟨_, rfl⟩
  have HV1 := Lib.hid hv1
  clear hv1
  have HB0 := Lib.hid (Below.refl w.heap.size w)
  go_enter Tryd.func11, Tryd.ntmps11
  go_wp2_with fail
  refine (sane_any _).mono ?_
  rintro e w1 ⟨rfl, hq⟩
  have HB1 := Lib.hid (below_call HB0.out hq)
  clear hq HB0
  go_wp2_with fail
  refine (Right_any a b 0 _).mono ?_
  rintro e w2 ⟨rfl, hq⟩
  rw [HV1.out]
  have HB2 := Lib.hid (below_call HB1.out hq)
  clear hq HB1
  cases v1
  · go_wp2_with fail
    go_ret
    exact ⟨rfl, HB2.out⟩
  obtain ⟨⟨a0, a1⟩, ⟨b0, b1⟩, _, _⟩ := askF_iff.1 HV1.out
  by_cases ho0 : o < 1
  · have t1 : decide (o < 1) = true := decide_eq_true ho0
    go_wp2_with fail
    go_ret
    exact ⟨rfl, HB2.out⟩
  have t1 : decide (o < 1) = false := decide_eq_false ho0
  by_cases hmo : m < o
  · have t2 : decide (m < o) = true := decide_eq_true hmo
    go_wp2_with fail
    go_ret
    exact ⟨rfl, HB2.out⟩
  have t2 : decide (m < o) = false := decide_eq_false hmo
  by_cases ho1 : 64 < m
  · have t3 : decide (64 < m) = true := decide_eq_true ho1
    go_wp2_with fail
    go_ret
    exact ⟨rfl, HB2.out⟩
  clear t1 t2
  obtain ⟨a, rfl⟩ : ∃ n : Nat, a = (n : Int) := ⟨a.toNat, by omega⟩
  obtain ⟨b, rfl⟩ : ∃ n : Nat, b = (n : Int) := ⟨b.toNat, by omega⟩
  obtain ⟨o, rfl⟩ : ∃ n : Nat, o = (n : Int) := ⟨o.toNat, by omega⟩
  obtain ⟨m, rfl⟩ : ∃ n : Nat, m = (n : Int) := ⟨m.toNat, by omega⟩
  have ha0 : 0 < a := by omega
  have hb0 : 0 < b := by omega
  have hom : o ≤ m := by omega
  have HA := Lib.hid (askO_of (a := a) (b := b) (o := o) ha0 (by omega) hb0 (by omega) (by omega) (by omega))
  have HAm := Lib.hid (askO_of (a := a) (b := b) (o := m) ha0 (by omega) hb0 (by omega) (by omega) (by omega))
  have hnf := near_facts HA.out
  have hnm := near_facts HAm.out
  have hnar := nearS_narrow HA.out HAm.out hom
  have hlo := near_lo HAm.out hnf.1 (Nat.le_trans hnf.2.1 hom) hnf.2.2.2.2.2.2.2.2.1
  have hhi := near_hi HAm.out hnf.2.2.1 (Nat.le_trans hnf.2.2.2.1 hom) hnf.2.2.2.2.2.2.2.2.2
  obtain ⟨zs, hzs⟩ := expL_more HA.out HAm.out hom
  obtain ⟨xs, hxs⟩ : ∃ xs, expL a b o = xs := ⟨_, rfl⟩
  rw [hxs] at hzs
  obtain ⟨⟨P, Q, R, S⟩, hnear⟩ : ∃ x, nearS a b o = x := ⟨_, rfl⟩
  obtain ⟨⟨P', Q', R', S'⟩, hnear'⟩ : ∃ x, nearS a b m = x := ⟨_, rfl⟩
  have HF1 := Lib.hid (Between_ok2 a b o · HA.out hnear)
  have HF2 := Lib.hid (Between_ok2 a b m · HAm.out hnear')
  have HF3 := Lib.hid (Expand_ok2 a b o · HA.out hxs)
  have HF4 := Lib.hid (Expand_ok2 a b m · HAm.out hzs)
  rw [hnear] at hnf hnar hlo hhi
  rw [hnear'] at hnm hnar hlo hhi
  dsimp only at hnf hnm hlo hhi
  obtain ⟨n1, n2, n3, n4, n5, n6, n7, n8, n9, n10⟩ := hnf
  obtain ⟨k1, k2, k3, k4, k5, k6, k7, k8, k9, k10⟩ := hnm
  have HS1 := Lib.hid (small_ok (p := P) (q := Q) · (smlB_iff.2 ⟨⟨⟨by omega, by omega⟩, by omega⟩, by omega⟩))
  have HS2 := Lib.hid (small_ok (p := R) (q := S) · (smlB_iff.2 ⟨⟨⟨by omega, by omega⟩, by omega⟩, by omega⟩))
  have HS3 := Lib.hid (small_ok (p := P') (q := Q') · (smlB_iff.2 ⟨⟨⟨by omega, by omega⟩, by omega⟩, by omega⟩))
  have HS4 := Lib.hid (small_ok (p := R') (q := S') · (smlB_iff.2 ⟨⟨⟨by omega, by omega⟩, by omega⟩, by omega⟩))
  clear hzs hxs hnear hnear' n9 n10 k9 k10
  obtain ⟨b1', b2'⟩ := mul_le4 (x := P) (k := Q') (by omega) (by omega) (by omega)
  obtain ⟨b3, b4⟩ := mul_le4 (x := P') (k := Q) (by omega) (by omega) (by omega)
  obtain ⟨b5, b6⟩ := mul_le4 (x := R) (k := S') (by omega) (by omega) (by omega)
  obtain ⟨b7, b8⟩ := mul_le4 (x := R') (k := S) (by omega) (by omega) (by omega)
  have hQm : Q ≤ 64 := by omega
  have hQm' : Q' ≤ 64 := by omega
  have s1 : decide ((o : Int) < 1) = false := decide_eq_false (by omega)
  have s2 : decide ((m : Int) < o) = false := decide_eq_false (by omega)
  have s2' : ¬ m < o := by omega
  have s3 : decide ((64 : Int) < m) = false := decide_eq_false (by omega)
  have hl : xs.length ≤ (xs ++ zs).length := by rw [List.length_append]; omega
  have HTK := Lib.hid (show (xs ++ zs).take xs.length = xs by simp)
  obtain ⟨ys, hys⟩ : ∃ ys, xs ++ zs = ys := ⟨_, rfl⟩
  rw [hys] at HF4 hl HTK
  clear hys
  obtain ⟨z1, hz1⟩ : ∃ z : Int, P * (Q' : Int) = z := ⟨_, rfl⟩
  obtain ⟨z2, hz2⟩ : ∃ z : Int, P' * (Q : Int) = z := ⟨_, rfl⟩
  obtain ⟨z3, hz3⟩ : ∃ z : Int, R * (S' : Int) = z := ⟨_, rfl⟩
  obtain ⟨z4, hz4⟩ : ∃ z : Int, R' * (S : Int) = z := ⟨_, rfl⟩
  rw [hz1] at hlo b1' b2'
  rw [hz2] at hlo b3 b4
  rw [hz3] at hhi b5 b6
  rw [hz4] at hhi b7 b8
  have s4 : decide (z2 < z1) = false := decide_eq_false (by omega)
  have s5 : decide (z3 < z4) = false := decide_eq_false (by omega)
  have HM := Lib.hid (show wrap64 (P * (Q' : Int)) = z1 ∧ wrap64 (P' * (Q : Int)) = z2 ∧ wrap64 (R * (S' : Int)) = z3 ∧ wrap64 (R' * (S : Int)) = z4 by
    rw [hz1, hz2, hz3, hz4]; exact ⟨wrap64_id (by omega) (by omega), wrap64_id (by omega) (by omega), wrap64_id (by omega) (by omega), wrap64_id (by omega) (by omega)⟩)
  have HNAR := Lib.hid hnar
  clear hz1 hz2 hz3 hz4 hlo hhi b1' b2' b3 b4 b5 b6 b7 b8 hnar ho0 hmo ho1
  go_wp2_with fail
  refine (HF1.out _).mono ?_
  rintro e w3 ⟨rfl, hq⟩
  dsimp only
  have HB3 := Lib.hid (below_alloc (below_alloc (below_call HB2.out hq) (.cells #[.int .i64 P, .int .i64 Q] 39)) (.cells #[.int .i64 R, .int .i64 S] 39))
  have HU3 := Lib.hid ((VarQ.new w3 P Q 39).alloc (.cells #[.int .i64 R, .int .i64 S] 39))
  have HW3 := Lib.hid (VarQ.new (w3.alloc (.cells #[.int .i64 P, .int .i64 Q] 39)) R S 39)
  rw [World.size_alloc] at HW3
  clear hq HB2
  go_wp2_with fail
  refine (HF2.out _).mono ?_
  rintro e w4 ⟨rfl, hq⟩
  dsimp only
  have HB4 := Lib.hid (below_alloc (below_alloc (below_call HB3.out hq) (.cells #[.int .i64 P', .int .i64 Q'] 39)) (.cells #[.int .i64 R', .int .i64 S'] 39))
  have HU4 := Lib.hid (((HU3.out.below hq).alloc (.cells #[.int .i64 P', .int .i64 Q'] 39)).alloc (.cells #[.int .i64 R', .int .i64 S'] 39))
  have HW4 := Lib.hid (((HW3.out.below hq).alloc (.cells #[.int .i64 P', .int .i64 Q'] 39)).alloc (.cells #[.int .i64 R', .int .i64 S'] 39))
  have HX4 := Lib.hid ((VarQ.new w4 P' Q' 39).alloc (.cells #[.int .i64 R', .int .i64 S'] 39))
  have HY4 := Lib.hid (VarQ.new (w4.alloc (.cells #[.int .i64 P', .int .i64 Q'] 39)) R' S' 39)
  rw [World.size_alloc] at HY4
  obtain ⟨h, hh⟩ : ∃ h, w3.heap.size = h := ⟨_, rfl⟩
  rw [hh] at HU4 HW4 ⊢
  clear hq HB3 HU3 HW3 hh
  go_wp2_with fail
  refine (HF3.out _).mono ?_
  rintro e w5 ⟨A5, n5', c5, rfl, hE, hq⟩
  have HL5 := Lib.hid hE
  have HB5 := Lib.hid (below_call HB4.out hq)
  have HU5 := Lib.hid (HU4.out.below hq)
  have HW5 := Lib.hid (HW4.out.below hq)
  have HX5 := Lib.hid (HX4.out.below hq)
  have HY5 := Lib.hid (HY4.out.below hq)
  obtain ⟨h', hh'⟩ : ∃ h, w4.heap.size = h := ⟨_, rfl⟩
  rw [hh'] at HX5 HY5 ⊢
  clear hq hE HB4 HU4 HW4 HX4 HY4 hh'
  go_wp2_with fail
  refine (HF4.out _).mono ?_
  rintro e w6 ⟨A6, n6', c6, rfl, hE, hq⟩
  have HM6 := Lib.hid hE
  have HL6 := Lib.hid (HL5.out.below hq)
  have HB6 := Lib.hid (below_call HB5.out hq)
  have HU6 := Lib.hid (HU5.out.below hq)
  have HW6 := Lib.hid (HW5.out.below hq)
  have HX6 := Lib.hid (HX5.out.below hq)
  have HY6 := Lib.hid (HY5.out.below hq)
  have hn5 := HL6.out.1
  have hn6 := HM6.out.1
  have hc6 := HM6.out.2.1
  have q1 : decide ((n6' : Int) < n5') = false := decide_eq_false (by omega)
  have q2 : ¬ n6' < n5' := by omega
  have q3 : (n5' : Int) ≤ c6 := by omega
  have q4 : n5' ≤ c6 := by omega
  have q5 : (0 : Int) ≤ n5' := by omega
  clear hq hE HB5 HU5 HW5 HX5 HY5 HL5
  obtain ⟨e0, e1, _, _⟩ := HU6.out
  go_wp2_with fail
  refine (HS1.out _).mono ?_
  rintro e w7 ⟨rfl, hq⟩
  have HB7 := Lib.hid (below_call HB6.out hq)
  have HU7 := Lib.hid (HU6.out.below hq)
  have HW7 := Lib.hid (HW6.out.below hq)
  have HX7 := Lib.hid (HX6.out.below hq)
  have HY7 := Lib.hid (HY6.out.below hq)
  have HL7 := Lib.hid (HL6.out.below hq)
  have HM7 := Lib.hid (HM6.out.below hq)
  clear hq HB6 HU6 HW6 HX6 HY6 HL6 HM6 e0 e1
  obtain ⟨e0, e1, _, _⟩ := HW7.out
  go_wp2_with fail
  refine (HS2.out _).mono ?_
  rintro e w8 ⟨rfl, hq⟩
  have HB8 := Lib.hid (below_call HB7.out hq)
  have HU8 := Lib.hid (HU7.out.below hq)
  have HW8 := Lib.hid (HW7.out.below hq)
  have HX8 := Lib.hid (HX7.out.below hq)
  have HY8 := Lib.hid (HY7.out.below hq)
  have HL8 := Lib.hid (HL7.out.below hq)
  have HM8 := Lib.hid (HM7.out.below hq)
  clear hq HB7 HU7 HW7 HX7 HY7 HL7 HM7 e0 e1
  obtain ⟨e0, e1, _, _⟩ := HX8.out
  go_wp2_with fail
  refine (HS3.out _).mono ?_
  rintro e w9 ⟨rfl, hq⟩
  have HB9 := Lib.hid (below_call HB8.out hq)
  have HU9 := Lib.hid (HU8.out.below hq)
  have HW9 := Lib.hid (HW8.out.below hq)
  have HX9 := Lib.hid (HX8.out.below hq)
  have HY9 := Lib.hid (HY8.out.below hq)
  have HL9 := Lib.hid (HL8.out.below hq)
  have HM9 := Lib.hid (HM8.out.below hq)
  clear hq HB8 HU8 HW8 HX8 HY8 HL8 HM8 e0 e1
  obtain ⟨e0, e1, _, _⟩ := HY9.out
  go_wp2_with fail
  obtain ⟨e0, e1, _, _⟩ := HU9.out
  refine (HS4.out _).mono ?_
  rintro e w10 ⟨rfl, hq⟩
  have HB10 := Lib.hid (below_call HB9.out hq)
  have HU10 := Lib.hid (HU9.out.below hq)
  have HW10 := Lib.hid (HW9.out.below hq)
  have HX10 := Lib.hid (HX9.out.below hq)
  have HY10 := Lib.hid (HY9.out.below hq)
  have HL10 := Lib.hid (HL9.out.below hq)
  have HM10 := Lib.hid (HM9.out.below hq)
  clear hq HB9 HU9 HW9 HX9 HY9 HL9 HM9 e0 e1
  go_wp2_with fail
  have hT : IsL w10 A6 n5' c6 xs := ⟨hn5, q4, by have := HM10.out.2.2.take xs.length; rw [HTK.out] at this; exact this⟩
  refine Calls.mono (equalI_same hT HL10.out) ?_
  rintro e w11 ⟨rfl, hq⟩
  have HB11 := Lib.hid (below_call HB10.out hq)
  have HU11 := Lib.hid (HU10.out.below hq)
  have HW11 := Lib.hid (HW10.out.below hq)
  have HX11 := Lib.hid (HX10.out.below hq)
  have HY11 := Lib.hid (HY10.out.below hq)
  clear hq HB10 HU10 HW10 HX10 HY10 HL10 HM10 hT HTK q1 q2 q3 q4 q5 hn5 hn6 hc6 hl
  obtain ⟨c0, c1, _, _⟩ := HU11.out
  obtain ⟨c2, c3, _, _⟩ := HW11.out
  obtain ⟨c4, c5', _, _⟩ := HX11.out
  obtain ⟨c6', c7, _, _⟩ := HY11.out
  have hcase : (P' = P ∧ Q' = Q ∧ R' = R ∧ S' = S) ∨ o < Q' ∨ o < S' := by
    rcases HNAR.out with h | h | h
    · left
      simp only [Prod.mk.injEq] at h
      exact h
    · exact .inr (.inl h)
    · exact .inr (.inr h)
  obtain ⟨m1, m2, m3, m4⟩ := HM.out
  clear HM HNAR HF1 HF2 HF3 HF4 HS1 HS2 HS3 HS4
  rcases hcase with ⟨rfl, rfl, rfl, rfl⟩ | hc
  · go_wp2_with fail
    go_ret
    exact ⟨rfl, HB11.out⟩
  by_cases hP : P = P'
  · subst hP
    by_cases hQ : Q = Q'
    · subst hQ
      by_cases hR : R = R'
      · subst hR
        have hq1 : o < S' := by omega
        have hq2 : decide ((o : Int) < S') = true := decide_eq_true (by omega)
        have hq3 : ¬ S = S' := by omega
        have hq4 : ((S : Int) == S') = false := by simpa using (show ¬ (S : Int) = S' by omega)
        have hq5 : (S == S') = false := by simpa using hq3
        clear hc
        go_wp2_with fail
        go_ret
        exact ⟨rfl, HB11.out⟩
      · have hq1 : o < S' := by omega
        have hq2 : decide ((o : Int) < S') = true := decide_eq_true (by omega)
        have hq5 : (R == R') = false := by simpa using hR
        clear hc
        go_wp2_with fail
        go_ret
        exact ⟨rfl, HB11.out⟩
    · have hq4 : ((Q : Int) == Q') = false := by simpa using (show ¬ (Q : Int) = Q' by omega)
      have hq5 : (Q == Q') = false := by simpa using hQ
      by_cases hoq : o < Q'
      · have q1 : decide ((o : Int) < Q') = true := decide_eq_true (by omega)
        clear hc
        go_wp2_with fail
        go_ret
        exact ⟨rfl, HB11.out⟩
      · have q1 : decide ((o : Int) < Q') = false := decide_eq_false (by omega)
        have q2 : ¬ o < Q' := hoq
        have q3 : o < S' := by omega
        have q4 : decide ((o : Int) < S') = true := decide_eq_true (by omega)
        clear hc
        go_wp2_with fail
        go_ret
        exact ⟨rfl, HB11.out⟩
  · have hq5 : (P == P') = false := by simpa using hP
    by_cases hoq : o < Q'
    · have q1 : decide ((o : Int) < Q') = true := decide_eq_true (by omega)
      clear hc
      go_wp2_with fail
      go_ret
      exact ⟨rfl, HB11.out⟩
    · have q1 : decide ((o : Int) < Q') = false := decide_eq_false (by omega)
      have q2 : ¬ o < Q' := hoq
      have q3 : o < S' := by omega
      have q4 : decide ((o : Int) < S') = true := decide_eq_true (by omega)
      clear hc
      go_wp2_with fail
      go_ret
      exact ⟨rfl, HB11.out⟩
end Go.Proofs.YtpgnheankmlnfaaDoor
