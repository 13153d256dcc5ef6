/- The walk over the law LogsSums. -/
import Derived.Test.YtpgnheankmlnfaaDoorSane
import Derived.Test.YtpgnheankmlnfaaDoorLaw
import Derived.Test.YtpgnheankmlnfaaDoorRl
namespace Go.Proofs.YtpgnheankmlnfaaDoor
open Go.RowKit
set_option linter.unusedVariables false

theorem askF_nat {a b k : Nat} (h : askF a b k = true) : 0 < a ∧ a ≤ 4095 ∧ 0 < b ∧ b ≤ 4095 ∧ k ≤ 8 := by
  obtain ⟨⟨a0, a1⟩, ⟨b0, b1⟩, k0, k1⟩ := askF_iff.1 h
  omega
theorem askF_of {a b k : Nat} (a0 : 0 < a) (a1 : a ≤ 4095) (b0 : 0 < b) (b1 : b ≤ 4095) (hk : k ≤ 8) : askF a b k = true := askF_iff.2 ⟨⟨by omega, by omega⟩, ⟨by omega, by omega⟩, by omega, by omega⟩
theorem wrap64_id {x : Int} (h1 : -9223372036854775808 ≤ x) (h2 : x < 9223372036854775808) : wrap64 x = x := by unfold wrap64; omega
/-- 'Floor' where it may be asked. -/
theorem Floor_ok (a b k : Nat) (w : World) (h : askF a b k = true) :
    Calls Tryd.prog 17 #[.int .i64 a, .int .i64 b, .int .i64 k] w fun e w' => e = .returned (.tuple #[.int .i64 (flo a b (2 ^ k)), .int .i64 0]) ∧ Below w.heap.size w w' :=
  (Floor_any a b k w).mono fun e w' hh => ⟨by rw [hh.1]; unfold floV; rw [h, if_pos rfl]; rfl, hh.2⟩
theorem Ceil_ok (a b k : Nat) (w : World) (h : askF a b k = true) :
    Calls Tryd.prog 19 #[.int .i64 a, .int .i64 b, .int .i64 k] w fun e w' => e = .returned (.tuple #[.int .i64 (cei a b (2 ^ k)), .int .i64 0]) ∧ Below w.heap.size w w' :=
  (Ceil_any a b k w).mono fun e w' hh => ⟨by rw [hh.1]; unfold ceiV; rw [h, if_pos rfl]; rfl, hh.2⟩

set_option maxRecDepth 100000 in
set_option maxHeartbeats 4000000 in
theorem LogsSums_any (a b c k : Int) (w : World) :
    Calls Tryd.prog 6 #[.int .i64 a, .int .i64 b, .int .i64 c, .int .i64 k] w fun e w' => e = .returned (.bool true) ∧ Below w.heap.size w w' := by
  obtain ⟨v1, hv1⟩ : ∃ v, askF a b k = v := ⟨_, rfl⟩
  obtain ⟨v2, hv2⟩ : ∃ v, askF b c k = v := ⟨_, rfl⟩
  have HV1 := Lib.hid hv1
  have HV2 := Lib.hid hv2
  clear hv1 hv2
  have HB0 := Lib.hid (Below.refl w.heap.size w)
  go_enter Tryd.func6, Tryd.ntmps6
  go_wp2_with fail
  refine (sane_any _).mono ?_
  rintro e w1 ⟨rfl, hq⟩
  have HB1 := Lib.hid (below_call HB0.out hq)
  clear hq HB0
  go_wp2_with fail
  refine (Right_any a b k _).mono ?_
  rintro e w2 ⟨rfl, hq⟩
  rw [HV1.out]
  have HB2 := Lib.hid (below_call HB1.out hq)
  clear hq HB1
  cases v1
  · go_wp2_with fail
    go_ret
    exact ⟨rfl, HB2.out⟩
  go_wp2_with fail
  refine (Right_any b c k _).mono ?_
  rintro e w3 ⟨rfl, hq⟩
  rw [HV2.out]
  have HB3 := Lib.hid (below_call HB2.out hq)
  clear hq HB2
  cases v2
  · go_wp2_with fail
    go_ret
    exact ⟨rfl, HB3.out⟩
  obtain ⟨⟨a0, a1⟩, ⟨b0, b1⟩, k0, k1⟩ := askF_iff.1 HV1.out
  obtain ⟨_, ⟨c0, c1⟩, _, _⟩ := askF_iff.1 HV2.out
  obtain ⟨a, rfl⟩ : ∃ n : Nat, a = (n : Int) := ⟨a.toNat, by omega⟩
  obtain ⟨b, rfl⟩ : ∃ n : Nat, b = (n : Int) := ⟨b.toNat, by omega⟩
  obtain ⟨c, rfl⟩ : ∃ n : Nat, c = (n : Int) := ⟨c.toNat, by omega⟩
  obtain ⟨k, rfl⟩ : ∃ n : Nat, k = (n : Int) := ⟨k.toNat, by omega⟩
  have k8 : k ≤ 8 := by omega
  have HF1 := Lib.hid (Floor_ok a b k · HV1.out)
  have HF2 := Lib.hid (Floor_ok b c k · HV2.out)
  have HF3 := Lib.hid (Floor_ok a c k · (askF_of (by omega) (by omega) (by omega) (by omega) k8))
  have HF4 := Lib.hid (Ceil_ok b a k · (askF_of (by omega) (by omega) (by omega) (by omega) k8))
  have hf1 := flo_range (a := a) (b := b) (q := 2 ^ k) (by omega) (by omega) (two_le k k8)
  have hf2 := flo_range (a := b) (b := c) (q := 2 ^ k) (by omega) (by omega) (two_le k k8)
  have hf3 := flo_range (a := a) (b := c) (q := 2 ^ k) (by omega) (by omega) (two_le k k8)
  obtain ⟨g1, g2⟩ := flo_add (a := a) (b := b) (c := c) (q := 2 ^ k) (by omega) (by omega) (by omega)
  have g3 := cei_neg (a := b) (b := a) (q := 2 ^ k) (by omega) (by omega)
  have HD : Hid (2 * a ≤ 4095 → ∀ w : World, Calls Tryd.prog 17 #[.int .i64 (2 * (a : Int)), .int .i64 b, .int .i64 k] w fun e w' => e = .returned (.tuple #[.int .i64 (flo a b (2 ^ k) + 2 ^ k), .int .i64 0]) ∧ Below w.heap.size w w') := by
    refine Lib.hid fun h w => ?_
    have := Floor_ok (2 * a) b k w (askF_of (by omega) (by omega) (by omega) (by omega) k8)
    rw [flo_dbl (by omega) (by omega)] at this
    simpa using this
  obtain ⟨x, hx⟩ : ∃ x, flo a b (2 ^ k) = x := ⟨_, rfl⟩
  obtain ⟨y, hy⟩ : ∃ y, flo b c (2 ^ k) = y := ⟨_, rfl⟩
  obtain ⟨z, hz⟩ : ∃ z, flo a c (2 ^ k) = z := ⟨_, rfl⟩
  rw [g3, hx] at HF4
  rw [hx] at HF1 hf1 g1 g2 HD
  rw [hy] at HF2 hf2 g1 g2
  rw [hz] at HF3 hf3 g1 g2
  clear g3 hx hy hz HV1 HV2
  have HW := Lib.hid (wrap_two k k8)
  obtain ⟨f1, f2⟩ := hf1
  obtain ⟨f3, f4⟩ := hf2
  obtain ⟨f5, f6⟩ := hf3
  have t1 : decide (z - x - y < 0) = false := decide_eq_false (by omega)
  have t2 : decide (1 < z - x - y) = false := decide_eq_false (by omega)
  go_wp2_with fail
  refine (HF1.out _).mono ?_
  rintro e w4 ⟨rfl, hq⟩
  have HB4 := Lib.hid (below_call HB3.out hq)
  clear hq HB3
  go_wp2_with fail
  refine (HF2.out _).mono ?_
  rintro e w5 ⟨rfl, hq⟩
  have HB5 := Lib.hid (below_call HB4.out hq)
  clear hq HB4
  go_wp2_with fail
  refine (HF3.out _).mono ?_
  rintro e w6 ⟨rfl, hq⟩
  have HB6 := Lib.hid (below_call HB5.out hq)
  clear hq HB5
  go_wp2_with fail
  by_cases h2 : 2 * a ≤ 4095
  · have t3 : decide ((4095 : Int) < 2 * (a : Int)) = false := decide_eq_false (by omega)
    refine (HF4.out _).mono ?_
    rintro e w7 ⟨rfl, hq⟩
    have HB7 := Lib.hid (below_call HB6.out hq)
    clear hq HB6
    go_wp2_with fail
    refine (HD.out h2 _).mono ?_
    rintro e w8 ⟨rfl, hq⟩
    have HB8 := Lib.hid (below_call HB7.out hq)
    clear hq HB7
    go_wp2_with fail
    have ht : (x + 2 ^ k == wrap64 (x + wrap64 (2 ^ k))) = true := by
      have e1 := two_le k k8
      have e2 : ((2 ^ k : Nat) : Int) = (2 : Int) ^ k := Int.natCast_pow 2 k
      have e3 : (0 : Int) ≤ ((2 ^ k : Nat) : Int) := Int.natCast_nonneg _
      rw [HW.out, wrap64_id (by omega) (by omega), e2, beq_self_eq_true]
    rw [ht]
    go_ret
    exact ⟨rfl, HB8.out⟩
  · have t3 : decide ((4095 : Int) < 2 * (a : Int)) = true := decide_eq_true (by omega)
    refine (HF4.out _).mono ?_
    rintro e w7 ⟨rfl, hq⟩
    have HB7 := Lib.hid (below_call HB6.out hq)
    clear hq HB6
    go_wp2_with fail
    go_ret
    exact ⟨rfl, HB7.out⟩
end Go.Proofs.YtpgnheankmlnfaaDoor
