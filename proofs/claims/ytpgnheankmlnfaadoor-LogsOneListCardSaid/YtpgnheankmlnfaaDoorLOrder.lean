/- The walk over the law LogsOrder. -/
import Derived.Test.YtpgnheankmlnfaaDoorLSums
namespace Go.Proofs.YtpgnheankmlnfaaDoor
open Go.RowKit
set_option linter.unusedVariables false

theorem CheckFloor_ok (a b k : Nat) (m : Int) (w : World) (h : askF a b k = true) :
    Calls Tryd.prog 23 #[.int .i64 a, .int .i64 b, .int .i64 k, .int .i64 m] w fun e w' => e = .returned (.int .i64 (if m = flo a b (2 ^ k) then 0 else 32)) ∧ Below w.heap.size w w' :=
  (CheckFloor_any a b k m w).mono fun e w' hh => ⟨by rw [hh.1]; unfold chkF floV; rw [h, if_pos rfl, if_pos rfl]; rfl, hh.2⟩

set_option maxRecDepth 100000 in
set_option maxHeartbeats 4000000 in
theorem LogsOrder_any (a b c d k m : Int) (w : World) :
    Calls Tryd.prog 8 #[.int .i64 a, .int .i64 b, .int .i64 c, .int .i64 d, .int .i64 k, .int .i64 m] w fun e w' => e = .returned (.bool true) ∧ Below w.heap.size w w' := by
  obtain ⟨v1, hv1⟩ : ∃ v, askF a b k = v := ⟨_, rfl⟩
  obtain ⟨v2, hv2⟩ : ∃ v, askF c d k = v := ⟨_, rfl⟩
  have HV1 := Lib.hid hv1
  have HV2 := Lib.hid hv2
  clear hv1 hv2
  have HB0 := Lib.hid (Below.refl w.heap.size w)
  go_enter Tryd.func8, Tryd.ntmps8
  go_wp2_with fail
  refine (sane_any _).mono ?_
  rintro e w1 ⟨rfl, hq⟩
  have HB1 := Lib.hid (below_call HB0.out hq)
  clear hq HB0
  go_wp2_with fail
  refine (Right_any a b k _).mono ?_
  rintro e w2 ⟨rfl, hq⟩
  rw [HV1.out]
  have HB2 := Lib.hid (below_call HB1.out hq)
  clear hq HB1
  cases v1
  · go_wp2_with fail
    go_ret
    exact ⟨rfl, HB2.out⟩
  go_wp2_with fail
  refine (Right_any c d k _).mono ?_
  rintro e w3 ⟨rfl, hq⟩
  rw [HV2.out]
  have HB3 := Lib.hid (below_call HB2.out hq)
  clear hq HB2
  cases v2
  · go_wp2_with fail
    go_ret
    exact ⟨rfl, HB3.out⟩
  obtain ⟨⟨a0, a1⟩, ⟨b0, b1⟩, k0, k1⟩ := askF_iff.1 HV1.out
  obtain ⟨⟨c0, c1⟩, ⟨d0, d1⟩, _, _⟩ := askF_iff.1 HV2.out
  obtain ⟨a, rfl⟩ : ∃ n : Nat, a = (n : Int) := ⟨a.toNat, by omega⟩
  obtain ⟨b, rfl⟩ : ∃ n : Nat, b = (n : Int) := ⟨b.toNat, by omega⟩
  obtain ⟨c, rfl⟩ : ∃ n : Nat, c = (n : Int) := ⟨c.toNat, by omega⟩
  obtain ⟨d, rfl⟩ : ∃ n : Nat, d = (n : Int) := ⟨d.toNat, by omega⟩
  obtain ⟨k, rfl⟩ : ∃ n : Nat, k = (n : Int) := ⟨k.toNat, by omega⟩
  have k8 : k ≤ 8 := by omega
  have HF1 := Lib.hid (Floor_ok a b k · HV1.out)
  have HF2 := Lib.hid (Floor_ok c d k · HV2.out)
  obtain ⟨a', ha'⟩ : ∃ a' : Nat, (a < 4095 ∧ a' = a + 1 ∨ a = 4095 ∧ a' = a) := by
    by_cases h : a < 4095
    · exact ⟨_, .inl ⟨h, rfl⟩⟩
    · exact ⟨_, .inr ⟨by omega, rfl⟩⟩
  obtain ⟨b', hb'⟩ : ∃ b' : Nat, (b < 4095 ∧ b' = b + 1 ∨ b = 4095 ∧ b' = b) := by
    by_cases h : b < 4095
    · exact ⟨_, .inl ⟨h, rfl⟩⟩
    · exact ⟨_, .inr ⟨by omega, rfl⟩⟩
  have HF3 := Lib.hid (Floor_ok a' b k · (askF_of (by omega) (by omega) (by omega) (by omega) k8))
  have HF4 := Lib.hid (Floor_ok a b' k · (askF_of (by omega) (by omega) (by omega) (by omega) k8))
  have HC1 := Lib.hid (CheckFloor_ok a b k (flo a b (2 ^ k)) · HV1.out)
  have HC2 := Lib.hid (CheckFloor_ok a b k m · HV1.out)
  have hf1 := flo_range (a := a) (b := b) (q := 2 ^ k) (by omega) (by omega) (two_le k k8)
  have hf2 := flo_range (a := c) (b := d) (q := 2 ^ k) (by omega) (by omega) (two_le k k8)
  have g1 : flo a b (2 ^ k) ≤ flo a' b (2 ^ k) := flo_cross (by omega) (by omega) (by omega) (by omega) (Nat.mul_le_mul_right _ (by omega))
  have g2 : flo a b' (2 ^ k) ≤ flo a b (2 ^ k) := flo_cross (by omega) (by omega) (by omega) (by omega) (Nat.mul_le_mul_left _ (by omega))
  have g3 : a * d ≤ c * b → flo a b (2 ^ k) ≤ flo c d (2 ^ k) := fun h => flo_cross (by omega) (by omega) (by omega) (by omega) h
  have g4 : c * b ≤ a * d → flo c d (2 ^ k) ≤ flo a b (2 ^ k) := fun h => flo_cross (by omega) (by omega) (by omega) (by omega) h
  obtain ⟨x, hx⟩ : ∃ x, flo a b (2 ^ k) = x := ⟨_, rfl⟩
  obtain ⟨y, hy⟩ : ∃ y, flo c d (2 ^ k) = y := ⟨_, rfl⟩
  obtain ⟨u, hu⟩ : ∃ u, flo a' b (2 ^ k) = u := ⟨_, rfl⟩
  obtain ⟨v, hv⟩ : ∃ v, flo a b' (2 ^ k) = v := ⟨_, rfl⟩
  rw [hx] at HF1 hf1 g1 g2 g3 g4 HC1 HC2
  rw [hy] at HF2 hf2 g3 g4
  rw [hu] at HF3 g1
  rw [hv] at HF4 g2
  rw [if_pos rfl] at HC1
  clear hx hy hu hv HV1 HV2
  have e1 : ((a * d : Nat) : Int) = a * d := Int.natCast_mul ..
  have e2 : ((c * b : Nat) : Int) = c * b := Int.natCast_mul ..
  have l1 : a * d ≤ 4095 * 4095 := Nat.mul_le_mul (by omega) (by omega)
  have l2 : c * b ≤ 4095 * 4095 := Nat.mul_le_mul (by omega) (by omega)
  obtain ⟨ad, had⟩ : ∃ z : Int, (a : Int) * d = z := ⟨_, rfl⟩
  obtain ⟨cb, hcb⟩ : ∃ z : Int, (c : Int) * b = z := ⟨_, rfl⟩
  have r1 : 0 ≤ ad ∧ ad ≤ 16769025 := by omega
  have r2 : 0 ≤ cb ∧ cb ≤ 16769025 := by omega
  have t1 : decide (u < x) = false := decide_eq_false (by omega)
  have t2 : decide (x < v) = false := decide_eq_false (by omega)
  have t3 : ad ≤ cb → x ≤ y := fun h => g3 (by omega)
  have t4 : cb ≤ ad → y ≤ x := fun h => g4 (by omega)
  have m1 : wrap64 ((a : Int) * d) = ad := by rw [had]; exact wrap64_id (by omega) (by omega)
  have m2 : wrap64 ((c : Int) * b) = cb := by rw [hcb]; exact wrap64_id (by omega) (by omega)
  obtain ⟨f1, f2⟩ := hf1
  obtain ⟨f3, f4⟩ := hf2
  clear had hcb g1 g2 g3 g4 e1 e2 l1 l2 r1 r2 f1 f2 f3 f4
  go_wp2_with fail
  refine (HF1.out _).mono ?_
  rintro e w4 ⟨rfl, hq⟩
  have HB4 := Lib.hid (below_call HB3.out hq)
  clear hq HB3
  go_wp2_with fail
  refine (HF2.out _).mono ?_
  rintro e w5 ⟨rfl, hq⟩
  have HB5 := Lib.hid (below_call HB4.out hq)
  clear hq HB4
  go_wp2_with fail
  rw [show min ((a : Int) + 1) 4095 = (a' : Int) by omega]
  refine (HF3.out _).mono ?_
  rintro e w6 ⟨rfl, hq⟩
  have HB6 := Lib.hid (below_call HB5.out hq)
  clear hq HB5
  go_wp2_with fail
  rw [show min ((b : Int) + 1) 4095 = (b' : Int) by omega]
  rcases Int.lt_trichotomy x y with h | h | h
  · have s1 : decide (y < x) = false := decide_eq_false (by omega)
    have s2 : decide (x < y) = true := decide_eq_true h
    have s3 : decide (cb ≤ ad) = false := decide_eq_false (by omega)
    clear t3 t4 h
    refine (HF4.out _).mono ?_
    rintro e w7 ⟨rfl, hq⟩
    have HB7 := Lib.hid (below_call HB6.out hq)
    clear hq HB6
    go_wp2_with fail
    by_cases hm : m = x
    · subst hm
      refine (HC1.out _).mono ?_
      rintro e w8 ⟨rfl, hq⟩
      have HB8 := Lib.hid (below_call HB7.out hq)
      clear hq HB7
      go_wp2_with fail
      go_ret
      exact ⟨rfl, HB8.out⟩
    · rw [if_neg hm] at HC2
      refine (HC1.out _).mono ?_
      rintro e w8 ⟨rfl, hq⟩
      have HB8 := Lib.hid (below_call HB7.out hq)
      clear hq HB7
      go_wp2_with fail
      refine (HC2.out _).mono ?_
      rintro e w9 ⟨rfl, hq⟩
      have HB9 := Lib.hid (below_call HB8.out hq)
      clear hq HB8
      go_wp2_with fail
      go_ret
      exact ⟨rfl, HB9.out⟩
  · subst h
    have s1 : decide (x < x) = false := decide_eq_false (by omega)
    clear t3 t4
    refine (HF4.out _).mono ?_
    rintro e w7 ⟨rfl, hq⟩
    have HB7 := Lib.hid (below_call HB6.out hq)
    clear hq HB6
    go_wp2_with fail
    by_cases hm : m = x
    · subst hm
      refine (HC1.out _).mono ?_
      rintro e w8 ⟨rfl, hq⟩
      have HB8 := Lib.hid (below_call HB7.out hq)
      clear hq HB7
      go_wp2_with fail
      go_ret
      exact ⟨rfl, HB8.out⟩
    · rw [if_neg hm] at HC2
      refine (HC1.out _).mono ?_
      rintro e w8 ⟨rfl, hq⟩
      have HB8 := Lib.hid (below_call HB7.out hq)
      clear hq HB7
      go_wp2_with fail
      refine (HC2.out _).mono ?_
      rintro e w9 ⟨rfl, hq⟩
      have HB9 := Lib.hid (below_call HB8.out hq)
      clear hq HB8
      go_wp2_with fail
      go_ret
      exact ⟨rfl, HB9.out⟩
  · have s1 : decide (x < y) = false := decide_eq_false (by omega)
    have s2 : decide (y < x) = true := decide_eq_true h
    have s3 : decide (ad ≤ cb) = false := decide_eq_false (by omega)
    clear t3 t4 h
    refine (HF4.out _).mono ?_
    rintro e w7 ⟨rfl, hq⟩
    have HB7 := Lib.hid (below_call HB6.out hq)
    clear hq HB6
    go_wp2_with fail
    by_cases hm : m = x
    · subst hm
      refine (HC1.out _).mono ?_
      rintro e w8 ⟨rfl, hq⟩
      have HB8 := Lib.hid (below_call HB7.out hq)
      clear hq HB7
      go_wp2_with fail
      go_ret
      exact ⟨rfl, HB8.out⟩
    · rw [if_neg hm] at HC2
      refine (HC1.out _).mono ?_
      rintro e w8 ⟨rfl, hq⟩
      have HB8 := Lib.hid (below_call HB7.out hq)
      clear hq HB7
      go_wp2_with fail
      refine (HC2.out _).mono ?_
      rintro e w9 ⟨rfl, hq⟩
      have HB9 := Lib.hid (below_call HB8.out hq)
      clear hq HB8
      go_wp2_with fail
      go_ret
      exact ⟨rfl, HB9.out⟩
end Go.Proofs.YtpgnheankmlnfaaDoor
