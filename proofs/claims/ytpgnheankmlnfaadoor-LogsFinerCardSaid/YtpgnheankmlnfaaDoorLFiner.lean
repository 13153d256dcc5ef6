/- The walk over the law LogsFiner. -/
import Derived.Test.YtpgnheankmlnfaaDoorLSums
import Derived.Test.YtpgnheankmlnfaaDoorDig
namespace Go.Proofs.YtpgnheankmlnfaaDoor
open Go.RowKit
set_option linter.unusedVariables false

theorem apFrom_ok (a b c d : Nat) : ∀ n k0, (apFrom a b c d k0 n = none ∧ ∀ k, k0 ≤ k → k < k0 + n → flo a b (2 ^ k) = flo c d (2 ^ k)) ∨
    ∃ t, apFrom a b c d k0 n = some t ∧ k0 ≤ t ∧ t < k0 + n ∧ flo a b (2 ^ t) ≠ flo c d (2 ^ t) ∧ ∀ k, k0 ≤ k → k < t → flo a b (2 ^ k) = flo c d (2 ^ k)
  | 0, k0 => .inl ⟨rfl, fun k h1 h2 => by omega⟩
  | n + 1, k0 => by
    by_cases h : flo a b (2 ^ k0) = flo c d (2 ^ k0)
    · have e : apFrom a b c d k0 (n + 1) = apFrom a b c d (k0 + 1) n := by rw [apFrom, if_pos h]
      rw [e]
      rcases apFrom_ok a b c d n (k0 + 1) with ⟨h1, h2⟩ | ⟨t, h1, h2, h3, h4, h5⟩
      · refine .inl ⟨h1, fun k k1 k2 => ?_⟩
        by_cases hk : k = k0
        · rw [hk]; exact h
        · exact h2 k (by omega) (by omega)
      · refine .inr ⟨t, h1, by omega, by omega, h4, fun k k1 k2 => ?_⟩
        by_cases hk : k = k0
        · rw [hk]; exact h
        · exact h5 k (by omega) (by omega)
    · exact .inr ⟨k0, by rw [apFrom, if_neg h], by omega, by omega, h, fun k h1 h2 => by omega⟩
/-- At which k two logarithms are told apart. -/
theorem apO_ok {a b c d k : Nat} (h1 : askF a b k = true) (h2 : askF c d k = true) : (apO a b c d = none ∧ flo a b (2 ^ k) = flo c d (2 ^ k)) ∨ ∃ t : Nat, apO a b c d = some t ∧ t ≤ 8 ∧ (flo a b (2 ^ k) ≠ flo c d (2 ^ k) ↔ t ≤ k) := by
  obtain ⟨a0, a1, b0, b1, k8⟩ := askF_nat h1
  obtain ⟨c0, c1, d0, d1, _⟩ := askF_nat h2
  have hA : askA a b c d = true := askA_iff.2 ⟨⟨⟨by omega, by omega⟩, by omega, by omega⟩, ⟨by omega, by omega⟩, by omega, by omega⟩
  have e : apO a b c d = apFrom a b c d 0 9 := by unfold apO; rw [hA, if_pos rfl]; rfl
  rw [e]
  rcases apFrom_ok a b c d 9 0 with ⟨h1, h2⟩ | ⟨t, h1, h2, h3, h4, h5⟩
  · exact .inl ⟨h1, h2 k (by omega) (by omega)⟩
  · refine .inr ⟨t, h1, by omega, fun h => ?_, fun h h' => h4 (flo_apart h a0 b0 c0 d0 h')⟩
    by_cases ht : t ≤ k
    · exact ht
    · exact absurd (h5 k (by omega) (by omega)) h
theorem div_range {x : Int} {d : Nat} (h0 : -3073 ≤ x) (h1 : x ≤ 3072) (hd : 0 < d) : -3073 ≤ x / d ∧ x / d ≤ 3072 := by
  constructor
  · rw [Int.le_ediv_iff_mul_le (by omega)]; omega
  · exact Int.ediv_le_of_le_mul (by omega) (by omega)
theorem digs_step (x : Int) (k i : Nat) (hi : i < k) : x / ((2 ^ (k - (i + 1)) : Nat) : Int) = 2 * (x / ((2 ^ (k - i) : Nat) : Int)) + (digs x k).getD i 0 ∧ ((digs x k).getD i 0 = 0 ∨ (digs x k).getD i 0 = 1) := by
  have e : (digs x k).getD i 0 = (x / 2 ^ (k - 1 - i)) % 2 := by
    unfold digs
    rw [List.getD_eq_getElem?_getD, List.getElem?_map, List.getElem?_range hi]
    rfl
  have e2 : x / ((2 ^ (k - i) : Nat) : Int) = x / ((2 ^ (k - (i + 1)) : Nat) : Int) / 2 := by
    rw [show k - i = (k - (i + 1)) + 1 by omega, Nat.pow_succ, Int.natCast_mul, Int.ediv_ediv_of_nonneg (Int.natCast_nonneg _)]
    rfl
  have e3 : (2 : Int) ^ (k - 1 - i) = ((2 ^ (k - (i + 1)) : Nat) : Int) := by rw [show k - 1 - i = k - (i + 1) by omega, Int.natCast_pow]; rfl
  rw [e, e2, e3]
  omega
theorem digs_length (x : Int) (k : Nat) : (digs x k).length = k := by unfold digs; rw [List.length_map, List.length_range]

/-- 'Coarse' of a rounded logarithm, and 'Digits', where they may be asked. -/
theorem Coarse_ok (a b k j : Nat) (w : World) (h : askF a b k = true) (hj : j ≤ k) :
    Calls Tryd.prog 27 #[.int .i64 (flo a b (2 ^ k)), .int .i64 k, .int .i64 j] w fun e w' => e = .returned (.tuple #[.int .i64 (flo a b (2 ^ j)), .int .i64 0]) ∧ Below w.heap.size w w' := by
  obtain ⟨a0, a1, b0, b1, k8⟩ := askF_nat h
  have hf := flo_range (a := a) (b := b) (q := 2 ^ k) a1 b1 (two_le k k8)
  have hK : askK (flo a b (2 ^ k)) k j = true := by
    unfold askK
    rw [Bool.and_eq_true, Bool.and_eq_true, Bool.and_eq_true, inR_iff, inR_iff, inR_iff, decide_eq_true_eq]
    omega
  refine (Coarse_any _ k j w).mono fun e w' hh => ⟨?_, hh.2⟩
  rw [hh.1]
  have e : coaV (flo a b (2 ^ k)) k j = flo a b (2 ^ j) := by
    unfold coaV
    rw [if_pos hK, ← flo_coarse hj a0 b0, show ((k : Int) - j).toNat = k - j by omega, Int.natCast_pow]
    rfl
  rw [e, hK]
  rfl
theorem Digits_ok2 (a b k : Nat) (w : World) (h : askF a b k = true) :
    Calls Tryd.prog 25 #[.int .i64 a, .int .i64 b, .int .i64 k] w (RetISE (flo a b (2 ^ k) / ((2 ^ k : Nat) : Int)) (digs (flo a b (2 ^ k)) k) 0 w) := by
  have := Digits_ok a b k w h
  rw [Int.natCast_pow]
  exact this

set_option maxRecDepth 100000 in
set_option maxHeartbeats 4000000 in
theorem LogsFiner_any (a b c d k j : Int) (w : World) :
    Calls Tryd.prog 7 #[.int .i64 a, .int .i64 b, .int .i64 c, .int .i64 d, .int .i64 k, .int .i64 j] w fun e w' => e = .returned (.bool true) ∧ Below w.heap.size w w' := by
  obtain ⟨v1, hv1⟩ : ∃ v, askF a b k = v := ⟨_, rfl⟩
  obtain ⟨v2, hv2⟩ : ∃ v, askF c d k = v := ⟨_, rfl⟩
  have HV1 := Lib.hid hv1
  have HV2 := Lib.hid hv2
  clear hv1 hv2
  have HB0 := Lib.hid (Below.refl w.heap.size w)
  go_enter Tryd.func7, Tryd.ntmps7
  go_wp2_with fail
  refine (sane_any _).mono ?_
  rintro e w1 ⟨rfl, hq⟩
  have HB1 := Lib.hid (below_call HB0.out hq)
  clear hq HB0
  go_wp2_with fail
  refine (Right_any a b k _).mono ?_
  rintro e w2 ⟨rfl, hq⟩
  rw [HV1.out]
  have HB2 := Lib.hid (below_call HB1.out hq)
  clear hq HB1
  cases v1
  · go_wp2_with fail
    go_ret
    exact ⟨rfl, HB2.out⟩
  go_wp2_with fail
  refine (Right_any c d k _).mono ?_
  rintro e w3 ⟨rfl, hq⟩
  rw [HV2.out]
  have HB3 := Lib.hid (below_call HB2.out hq)
  clear hq HB2
  cases v2
  · go_wp2_with fail
    go_ret
    exact ⟨rfl, HB3.out⟩
  obtain ⟨⟨a0, a1⟩, ⟨b0, b1⟩, k0, k1⟩ := askF_iff.1 HV1.out
  obtain ⟨⟨c0, c1⟩, ⟨d0, d1⟩, _, _⟩ := askF_iff.1 HV2.out
  by_cases hj0 : j < 0
  · have t1 : decide (j < 0) = true := decide_eq_true hj0
    go_wp2_with fail
    go_ret
    exact ⟨rfl, HB3.out⟩
  by_cases hjk : k < j
  · have t1 : decide (j < 0) = false := decide_eq_false hj0
    have t2 : decide (k < j) = true := decide_eq_true hjk
    go_wp2_with fail
    go_ret
    exact ⟨rfl, HB3.out⟩
  obtain ⟨a, rfl⟩ : ∃ n : Nat, a = (n : Int) := ⟨a.toNat, by omega⟩
  obtain ⟨b, rfl⟩ : ∃ n : Nat, b = (n : Int) := ⟨b.toNat, by omega⟩
  obtain ⟨c, rfl⟩ : ∃ n : Nat, c = (n : Int) := ⟨c.toNat, by omega⟩
  obtain ⟨d, rfl⟩ : ∃ n : Nat, d = (n : Int) := ⟨d.toNat, by omega⟩
  obtain ⟨k, rfl⟩ : ∃ n : Nat, k = (n : Int) := ⟨k.toNat, by omega⟩
  obtain ⟨j, rfl⟩ : ∃ n : Nat, j = (n : Int) := ⟨j.toNat, by omega⟩
  have k8 : k ≤ 8 := by omega
  have hjk' : j ≤ k := by omega
  have t2 : decide (k < j) = false := decide_eq_false (by omega)
  have t2' : ¬ k < j := by omega
  have HF1 := Lib.hid (Floor_ok a b k · HV1.out)
  have HF2 := Lib.hid (Floor_ok a b j · (askF_of (by omega) (by omega) (by omega) (by omega) (by omega)))
  have HF3 := Lib.hid (Coarse_ok a b k j · HV1.out hjk')
  have HF4 := Lib.hid (Digits_ok2 a b k · HV1.out)
  have HF5 := Lib.hid (Floor_ok c d k · HV2.out)
  have HF6 := Lib.hid (Apart_any a b c d)
  have hap := apO_ok HV1.out HV2.out
  have hA : askA a b c d = true := askA_iff.2 ⟨⟨⟨by omega, by omega⟩, by omega, by omega⟩, ⟨by omega, by omega⟩, by omega, by omega⟩
  rw [hA] at HF6
  have hf1 := flo_range (a := a) (b := b) (q := 2 ^ k) (by omega) (by omega) (two_le k k8)
  have hf2 := flo_range (a := a) (b := b) (q := 2 ^ j) (by omega) (by omega) (two_le j (by omega))
  have hc := flo_coarse (a := a) (b := b) hjk' (by omega) (by omega)
  obtain ⟨x, hx⟩ : ∃ x, flo a b (2 ^ k) = x := ⟨_, rfl⟩
  obtain ⟨y, hy⟩ : ∃ y, flo a b (2 ^ j) = y := ⟨_, rfl⟩
  obtain ⟨z, hz⟩ : ∃ z, flo c d (2 ^ k) = z := ⟨_, rfl⟩
  obtain ⟨o, ho⟩ : ∃ o, apO a b c d = o := ⟨_, rfl⟩
  rw [hx] at HF1 hf1 HF3 HF4 hap hc
  rw [hy] at HF2 HF3 hc hf2
  rw [hz] at HF5 hap
  rw [ho] at HF6 hap
  have hj1 : j + 1 = k → 0 ≤ x - 2 * y ∧ x - 2 * y ≤ 1 := fun h => by
    rw [show k - j = 1 by omega] at hc
    omega
  have HJ1 := Lib.hid hj1
  have HAP := Lib.hid hap
  clear hx hy hz ho HV1 HV2 hA hc hap hj1 hj0 hjk
  obtain ⟨f1, f2⟩ := hf1
  obtain ⟨f3, f4⟩ := hf2
  have t1 : ¬ ((j : Int) < 0) := by omega
  go_wp2_with fail
  refine (HF1.out _).mono ?_
  rintro e w4 ⟨rfl, hq⟩
  have HB4 := Lib.hid (below_call HB3.out hq)
  clear hq HB3
  go_wp2_with fail
  refine (HF2.out _).mono ?_
  rintro e w5 ⟨rfl, hq⟩
  have HB5 := Lib.hid (below_call HB4.out hq)
  clear hq HB4
  go_wp2_with fail
  refine (HF3.out _).mono ?_
  rintro e w6 ⟨rfl, hq⟩
  have HB6 := Lib.hid (below_call HB5.out hq)
  clear hq HB5
  go_wp2_with fail
  refine (HF4.out _).mono ?_
  rintro e w7 ⟨A, n, cp, rfl, hL, hq⟩
  have hn : k = n := by rw [← hL.1, digs_length]
  subst hn
  have HL7 := Lib.hid hL
  have HB7 := Lib.hid (below_call HB6.out hq)
  clear hq HB6 hL
  have hr0 := div_range f1 f2 (Nat.two_pow_pos k)
  obtain ⟨r1, r2⟩ := hr0
  obtain ⟨n0, hn0⟩ : ∃ n0, x / ((2 ^ k : Nat) : Int) = n0 := ⟨_, rfl⟩
  rw [hn0] at r1 r2 ⊢
  have HN0 := Lib.hid hn0
  clear hn0
  go_wp2_with fail
  go_loopw [106, 19] (fun s v wr => ∃ i : Nat, ∃ m : Int, s = .int .i64 i ∧ v = .int .i64 m ∧ i ≤ k ∧ Hid (x / ((2 ^ (k - i) : Nat) : Int) = m) ∧ -3073 ≤ m ∧ m ≤ 3072 ∧ wr = w7) (fun s _ _ => 20 - (intOf s).toNat)
  case atStart => exact ⟨0, n0, rfl, rfl, by omega, HN0, r1, r2, rfl⟩
  case round =>
    obtain ⟨i, m, rfl, rfl, hi, HM, m1, m2, rfl⟩ := hrel
    by_cases hlt : i < k
    · have hlt' : (i : Int) < k := by omega
      obtain ⟨b', off, rfl, hc⟩ := HL7.out.2.2.2 (by rw [digs_length]; omega)
      have hc := hc i (by rw [digs_length]; exact hlt)
      obtain ⟨e1, e2⟩ := digs_step x k i hlt
      rw [HM.out] at e1
      have hr := div_range f1 f2 (Nat.two_pow_pos (k - (i + 1)))
      rw [e1] at hr
      have HE := Lib.hid e1
      clear e1
      obtain ⟨bit, hbit⟩ : ∃ z, (digs x k).getD i 0 = z := ⟨_, rfl⟩
      rw [hbit] at HE hc e2 hr
      obtain ⟨h1, h2⟩ := hr
      clear hbit
      rcases e2 with rfl | rfl
      all_goals
        (try simp only [Int.add_zero] at HE h1 h2)
        go_wp2_with fail
        refine ⟨⟨i + 1, _, rfl, rfl, by omega, HE, h1, h2, trivial⟩, ?_⟩
        simp [intOf]
        omega
    · obtain rfl : i = k := by omega
      have hxm : x = m := by have := HM.out; rw [Nat.sub_self] at this; simpa using this
      subst hxm
      have fin : Hid (∀ (W : World), Below w.heap.size w W → True) := Lib.hid fun _ _ => trivial
      clear fin HF1 HF2 HF3 HF4 HN0 HM
      by_cases hjk1 : j + 1 = i
      · have hjk1' : (j : Int) + 1 = i := by omega
        have hj := HJ1.out hjk1
        have s1 : decide (x - 2 * y < 0) = false := decide_eq_false (by omega)
        have s2 : decide (1 < x - 2 * y) = false := decide_eq_false (by omega)
        clear HJ1 hj
        go_wp2_with fail
        refine (HF5.out _).mono ?_
        rintro e w8 ⟨rfl, hq⟩
        have HB8 := Lib.hid (below_call HB7.out hq)
        clear hq HB7
        go_wp2_with fail
        refine (HF6.out _).mono ?_
        rintro e w9 ⟨rfl, hq⟩
        have HB9 := Lib.hid (below_call HB8.out hq)
        clear hq HB8
        rcases HAP.out with ⟨rfl, rfl⟩ | ⟨t, rfl, t8, ht⟩
        · clear HAP
          dsimp only [apV, apB]
          go_wp2_with fail
          go_ret
          exact ⟨rfl, HB9.out⟩
        · clear HAP
          dsimp only [apV, apB]
          have t8' : (t : Int) ≤ 8 := by omega
          have t8'' : decide ((8 : Int) < t) = false := decide_eq_false (by omega)
          have t9 : decide ((t : Int) < 0) = false := decide_eq_false (by omega)
          by_cases htk : t ≤ i
          · have htk' : (t : Int) ≤ i := by omega
            have hne : ¬ x = z := ht.2 htk
            have hne2 : (x != z) = true := by simpa using hne
            clear ht
            go_wp2_with fail
            go_ret
            exact ⟨rfl, HB9.out⟩
          · have htk' : ¬ (t : Int) ≤ i := by omega
            have hne : x = z := Decidable.byContradiction fun h => htk (ht.1 h)
            subst hne
            clear ht
            go_wp2_with fail
            go_ret
            exact ⟨rfl, HB9.out⟩
      · have hjk1' : ¬ (j : Int) + 1 = i := by omega
        clear HJ1
        go_wp2_with fail
        refine (HF5.out _).mono ?_
        rintro e w8 ⟨rfl, hq⟩
        have HB8 := Lib.hid (below_call HB7.out hq)
        clear hq HB7
        go_wp2_with fail
        refine (HF6.out _).mono ?_
        rintro e w9 ⟨rfl, hq⟩
        have HB9 := Lib.hid (below_call HB8.out hq)
        clear hq HB8
        rcases HAP.out with ⟨rfl, rfl⟩ | ⟨t, rfl, t8, ht⟩
        · clear HAP
          dsimp only [apV, apB]
          go_wp2_with fail
          go_ret
          exact ⟨rfl, HB9.out⟩
        · clear HAP
          dsimp only [apV, apB]
          have t8' : (t : Int) ≤ 8 := by omega
          have t8'' : decide ((8 : Int) < t) = false := decide_eq_false (by omega)
          have t9 : decide ((t : Int) < 0) = false := decide_eq_false (by omega)
          by_cases htk : t ≤ i
          · have htk' : (t : Int) ≤ i := by omega
            have hne : ¬ x = z := ht.2 htk
            have hne2 : (x != z) = true := by simpa using hne
            clear ht
            go_wp2_with fail
            go_ret
            exact ⟨rfl, HB9.out⟩
          · have htk' : ¬ (t : Int) ≤ i := by omega
            have hne : x = z := Decidable.byContradiction fun h => htk (ht.1 h)
            subst hne
            clear ht
            go_wp2_with fail
            go_ret
            exact ⟨rfl, HB9.out⟩
end Go.Proofs.YtpgnheankmlnfaaDoor
