/- Plain laws: sums of logarithms, finer units, and when a logarithm is a fraction. Plain laws of the pair next to a logarithm. Plain laws of the checker of pairs, of turned, doubled and narrower pairs. Plain laws of the terms that Expand returns. Plain laws of convergents: the fractions of the first terms. Plain laws of Fold: one fraction, one list of terms. -/
import Derived.Test.YtpgnheankmlnfaaDoorDivs
import Derived.Test.YtpgnheankmlnfaaDoorNear
import Derived.Test.YtpgnheankmlnfaaDoorExp
import Derived.Test.YtpgnheankmlnfaaDoorFold
namespace Go.Proofs.YtpgnheankmlnfaaDoor
open Go.RowKit
set_option linter.unusedVariables false

theorem ef (m : Int) : ∃ e f : Nat, m = (e : Int) - f := ⟨m.toNat, (-m).toNat, by omega⟩
theorem sd_ge (a b q e f : Nat) : 0 ≤ sd a b q ((e : Int) - f) ↔ b ^ q * 2 ^ e ≤ a ^ q * 2 ^ f := by
  rw [sd_ef, cmpI_nonneg]; exact Int.ofNat_le
theorem sd_lt (a b q e f : Nat) : sd a b q ((e : Int) - f) < 0 ↔ a ^ q * 2 ^ f < b ^ q * 2 ^ e := by
  rw [sd_ef, cmpI_neg_iff]; exact Int.ofNat_lt
theorem sd_z (a b q e f : Nat) : sd a b q ((e : Int) - f) = 0 ↔ a ^ q * 2 ^ f = b ^ q * 2 ^ e := by
  rw [sd_ef, cmpI_zero]; exact Int.ofNat_inj

/-! ### Sums -/
theorem sd_add_ge {a b c q : Nat} {m n : Int} (h1 : 0 ≤ sd a b q m) (h2 : 0 ≤ sd b c q n) : 0 ≤ sd a c q (m + n) := by
  obtain ⟨e, f, rfl⟩ := ef m
  obtain ⟨e', f', rfl⟩ := ef n
  rw [show (e : Int) - f + (e' - f') = ((e + e' : Nat) : Int) - ((f + f' : Nat) : Int) by omega]
  rw [sd_ge] at h1 h2 ⊢
  rw [Nat.pow_add, Nat.pow_add]
  calc c ^ q * (2 ^ e * 2 ^ e') = c ^ q * 2 ^ e' * 2 ^ e := by ac_rfl
    _ ≤ b ^ q * 2 ^ f' * 2 ^ e := Nat.mul_le_mul_right _ h2
    _ = b ^ q * 2 ^ e * 2 ^ f' := by ac_rfl
    _ ≤ a ^ q * 2 ^ f * 2 ^ f' := Nat.mul_le_mul_right _ h1
    _ = a ^ q * (2 ^ f * 2 ^ f') := by ac_rfl
theorem sd_add_lt {a b c q : Nat} {m n : Int} (h1 : sd a b q m < 0) (h2 : sd b c q n < 0) : sd a c q (m + n) < 0 := by
  obtain ⟨e, f, rfl⟩ := ef m
  obtain ⟨e', f', rfl⟩ := ef n
  rw [show (e : Int) - f + (e' - f') = ((e + e' : Nat) : Int) - ((f + f' : Nat) : Int) by omega]
  rw [sd_lt] at h1 h2 ⊢
  rw [Nat.pow_add, Nat.pow_add]
  calc a ^ q * (2 ^ f * 2 ^ f') = a ^ q * 2 ^ f * 2 ^ f' := by ac_rfl
    _ < b ^ q * 2 ^ e * 2 ^ f' := Nat.mul_lt_mul_of_pos_right h1 (Nat.two_pow_pos _)
    _ = b ^ q * 2 ^ f' * 2 ^ e := by ac_rfl
    _ < c ^ q * 2 ^ e' * 2 ^ e := Nat.mul_lt_mul_of_pos_right h2 (Nat.two_pow_pos _)
    _ = c ^ q * (2 ^ e * 2 ^ e') := by ac_rfl
theorem flo_add {a b c q : Nat} (ha : 0 < a) (hb : 0 < b) (hc : 0 < c) : flo a b q + flo b c q ≤ flo a c q ∧ flo a c q ≤ flo a b q + flo b c q + 1 := by
  obtain ⟨h1, h2⟩ := flo_ok (q := q) ha hb
  obtain ⟨h3, h4⟩ := flo_ok (q := q) hb hc
  refine ⟨(le_flo ha hc).2 (sd_add_ge h1 h3), ?_⟩
  have := (flo_lt ha hc).2 (sd_add_lt h2 h4)
  omega
theorem sd_dbl (a b q : Nat) (m : Int) : sd (2 * a) b q (m + q) = sd a b q m := by
  obtain ⟨e, f, rfl⟩ := ef m
  rw [show (e : Int) - f + q = ((e + q : Nat) : Int) - (f : Int) by omega, sd_ef, sd_ef]
  refine Eq.trans ?_ (cmpI_mul (c := ((2 ^ q : Nat) : Int)) (by have := Nat.two_pow_pos q; omega) _ _)
  rw [← Int.natCast_mul, ← Int.natCast_mul]
  congr 2
  · rw [Nat.mul_pow]; ac_rfl
  · rw [Nat.pow_add]; ac_rfl
theorem flo_dbl {a b q : Nat} (ha : 0 < a) (hb : 0 < b) : flo (2 * a) b q = flo a b q + q := by
  have h : ∀ m, m ≤ flo (2 * a) b q ↔ m ≤ flo a b q + q := fun m => by
    rw [le_flo (by omega) hb, show m = m - q + q by omega, sd_dbl, ← le_flo ha hb]; omega
  have h1 := (h (flo (2 * a) b q)).1 (Int.le_refl _)
  have h2 := (h (flo a b q + q)).2 (Int.le_refl _)
  omega

/-! ### Finer units -/
theorem cmpI_pow {t : Nat} (ht : 0 < t) (x y : Nat) : cmpI ((x ^ t : Nat) : Int) ((y ^ t : Nat) : Int) = cmpI (x : Int) (y : Int) := by
  have h1 : x ^ t < y ^ t ↔ x < y := Nat.pow_lt_pow_iff_left (by omega)
  have h2 : y ^ t < x ^ t ↔ y < x := Nat.pow_lt_pow_iff_left (by omega)
  unfold cmpI
  split
  · rename_i h; rw [if_pos (by omega)]
  · split
    · rename_i h h'
      rw [if_neg (by omega), if_pos (by omega)]
    · rename_i h h'
      rw [if_neg (by omega), if_neg (by omega)]
theorem sd_scale {t : Nat} (ht : 0 < t) (a b q : Nat) (m : Int) : sd a b (q * t) (m * t) = sd a b q m := by
  obtain ⟨e, f, rfl⟩ := ef m
  rw [Int.sub_mul, ← Int.natCast_mul, ← Int.natCast_mul, sd_ef, sd_ef]
  refine Eq.trans ?_ (cmpI_pow ht _ _)
  congr 2
  · rw [Nat.mul_pow, Nat.pow_mul, Nat.pow_mul]
  · rw [Nat.mul_pow, Nat.pow_mul, Nat.pow_mul]
theorem flo_div {a b q t : Nat} (ht : 0 < t) (ha : 0 < a) (hb : 0 < b) : flo a b (q * t) / t = flo a b q := by
  have h : ∀ m : Int, m ≤ flo a b (q * t) / t ↔ m ≤ flo a b q := fun m => by
    rw [Int.le_ediv_iff_mul_le (by omega), le_flo ha hb, sd_scale ht, ← le_flo ha hb]
  have h1 := (h _).1 (Int.le_refl _)
  have h2 := (h _).2 (Int.le_refl _)
  omega
theorem flo_coarse {a b j k : Nat} (hj : j ≤ k) (ha : 0 < a) (hb : 0 < b) : flo a b (2 ^ k) / ((2 ^ (k - j) : Nat) : Int) = flo a b (2 ^ j) := by
  have := flo_div (q := 2 ^ j) (t := 2 ^ (k - j)) (Nat.two_pow_pos _) ha hb
  rw [← Nat.pow_add, show j + (k - j) = k by omega] at this
  exact this
/-- What lies apart stays apart. -/
theorem flo_apart {a b c d j k : Nat} (hj : j ≤ k) (ha : 0 < a) (hb : 0 < b) (hc : 0 < c) (hd : 0 < d) (h : flo a b (2 ^ k) = flo c d (2 ^ k)) : flo a b (2 ^ j) = flo c d (2 ^ j) := by
  rw [← flo_coarse hj ha hb, ← flo_coarse hj hc hd, h]

/-! ### Fractions -/
theorem sd_le_of {a b q s : Nat} {p r : Int} (hb : 0 < b) (hq : 0 < q) (hs : 0 < s) (h : p * s ≤ r * q) (h0 : 0 ≤ sd a b s r) : 0 ≤ sd a b q p := by
  rw [← sd_scale hq] at h0
  rw [← sd_scale hs, Nat.mul_comm q s]
  exact sd_anti' hb h h0
theorem sd_lt_of {a b q s : Nat} {p r : Int} (hb : 0 < b) (hq : 0 < q) (hs : 0 < s) (h : p * s < r * q) (h0 : sd a b q p ≤ 0) : sd a b s r < 0 := by
  rw [← sd_scale hs] at h0
  rw [← sd_scale hq, Nat.mul_comm s q]
  exact sd_anti hb h h0
theorem exact_root {A B q r : Nat} (hq : 0 < q) (hr : r < q) (hB : 0 < B) (h : A ^ q = B ^ q * 2 ^ r) : r = 0 ∧ A = B := by
  have hd : B ∣ A := (Nat.pow_dvd_pow_iff (by omega)).1 ⟨2 ^ r, h⟩
  obtain ⟨C, rfl⟩ := hd
  rw [Nat.mul_pow] at h
  have h' : C ^ q = 2 ^ r := Nat.eq_of_mul_eq_mul_left (Nat.pow_pos hB) h
  rcases C with _ | _ | C
  · rw [Nat.zero_pow hq] at h'; have := Nat.two_pow_pos r; omega
  · rw [Nat.zero_add, Nat.one_pow] at h'
    have : r = 0 := by
      rcases r with _ | r
      · rfl
      · exfalso; rw [Nat.pow_succ] at h'; omega
    exact ⟨this, by simp⟩
  · have h1 : 2 ^ q ≤ (C + 1 + 1) ^ q := Nat.pow_le_pow_left (by omega) q
    have h2 : 2 ^ r < 2 ^ q := Nat.pow_lt_pow_right (by decide) hr
    omega
theorem flo_of_zero {a b q : Nat} {m : Int} (ha : 0 < a) (hb : 0 < b) (h : sd a b q m = 0) : flo a b q = m := by
  have h1 := (le_flo (q := q) ha hb (m := m)).2 (by omega)
  have h2 := (flo_lt (q := q) ha hb (m := m + 1)).2 (sd_anti (a := a) (q := q) hb (show m < m + 1 by omega) (Int.le_of_eq h))
  omega
/-- A logarithm is a fraction only if it is whole. -/
theorem sd_zero {a b q : Nat} {m : Int} (ha : 0 < a) (hb : 0 < b) (hq : 0 < q) : sd a b q m = 0 ↔ isW a b 1 = true ∧ m = flo a b 1 * q := by
  constructor
  · intro h
    have h1 := flo_of_zero ha hb h
    have h2 := flo_div (q := 1) hq ha hb
    rw [Nat.one_mul, h1] at h2
    obtain ⟨n, hn⟩ : ∃ n, flo a b 1 = n := ⟨_, rfl⟩
    rw [isW_iff]
    rw [hn] at h2 ⊢
    have h3 := Int.emod_nonneg m (show (q : Int) ≠ 0 by omega)
    have h4 := Int.emod_lt_of_pos m (show (0 : Int) < q by omega)
    have h5 := Int.mul_ediv_add_emod m q
    rw [h2] at h5
    obtain ⟨r, hr⟩ : ∃ r : Nat, m % q = r := ⟨(m % q).toNat, by omega⟩
    rw [hr] at h3 h4 h5
    obtain ⟨e, f, rfl⟩ := ef m
    obtain ⟨e', f', rfl⟩ := ef n
    rw [sd_z] at h ⊢
    have key : (a * 2 ^ f') ^ q = (b * 2 ^ e') ^ q * 2 ^ r := by
      refine Nat.eq_of_mul_eq_mul_right (Nat.two_pow_pos f) ?_
      have hx : e + f' * q = f + e' * q + r := by
        have : (e : Int) + f' * q = f + e' * q + r := by rw [Int.mul_sub] at h5; rw [Int.mul_comm (f' : Int), Int.mul_comm (e' : Int)]; omega
        rw [← Int.natCast_mul, ← Int.natCast_mul] at this; omega
      calc (a * 2 ^ f') ^ q * 2 ^ f = a ^ q * 2 ^ f * 2 ^ (f' * q) := by rw [Nat.mul_pow, ← Nat.pow_mul]; ac_rfl
        _ = b ^ q * 2 ^ e * 2 ^ (f' * q) := by rw [h]
        _ = b ^ q * 2 ^ (f + e' * q + r) := by rw [Nat.mul_assoc, ← Nat.pow_add, hx]
        _ = (b * 2 ^ e') ^ q * 2 ^ r * 2 ^ f := by rw [Nat.mul_pow, ← Nat.pow_mul, Nat.pow_add, Nat.pow_add]; ac_rfl
    obtain ⟨k1, k2⟩ := exact_root hq (by omega) (Nat.mul_pos hb (Nat.two_pow_pos _)) key
    refine ⟨by rw [Nat.pow_one, Nat.pow_one]; exact k2, ?_⟩
    rw [Int.mul_comm]; omega
  · rintro ⟨h, rfl⟩
    rw [isW_iff] at h
    have := sd_scale hq a b 1 (flo a b 1)
    rw [Nat.one_mul] at this
    rw [this, h]
theorem isW_any {a b q : Nat} (ha : 0 < a) (hb : 0 < b) (hq : 0 < q) : isW a b q = isW a b 1 := by
  rw [Bool.eq_iff_iff, isW_iff, sd_zero ha hb hq]
  constructor
  · exact fun h => h.1
  · intro h
    refine ⟨h, flo_of_zero ha hb ?_⟩
    exact (sd_zero ha hb hq).2 ⟨h, rfl⟩
theorem flo_whole {a b q : Nat} (ha : 0 < a) (hb : 0 < b) (hq : 0 < q) (h : isW a b 1 = true) : flo a b q = flo a b 1 * q :=
  flo_of_zero ha hb ((sd_zero ha hb hq).2 ⟨h, rfl⟩)
theorem cei_flo (a b q : Nat) : cei a b q = if isW a b q = true then flo a b q else flo a b q + 1 := rfl
end Go.Proofs.YtpgnheankmlnfaaDoor
namespace Go.Proofs.YtpgnheankmlnfaaDoor
open Go.RowKit
set_option linter.unusedVariables false

/-- The pair next to a logarithm that is not whole. -/
structure Next (a b o : Nat) (x : Quad) : Prop where
  q1 : 1 ≤ x.2.1
  s1 : 1 ≤ x.2.2.2
  qo : x.2.1 ≤ o
  so : x.2.2.2 ≤ o
  lo : 0 < sd a b x.2.1 x.1
  hi : sd a b x.2.2.2 x.2.2.1 < 0
  det : x.2.2.1 * x.2.1 - x.1 * x.2.2.2 = 1
  far : o < x.2.1 + x.2.2.2

theorem sd_ne {a b q : Nat} {m : Int} (ha : 0 < a) (hb : 0 < b) (hq : 0 < q) (hw : isW a b 1 = false) : sd a b q m ≠ 0 := by
  intro h
  have := ((sd_zero ha hb hq).1 h).1
  rw [hw] at this
  cases this

theorem nearT_next {a b o : Nat} (ha : 0 < a) (hb : 0 < b) (hw : isW a b 1 = false) (p : Int) (q : Nat) (r : Int) (s : Nat) (q1 : 1 ≤ q) (s1 : 1 ≤ s) (qo : q ≤ o) (so : s ≤ o)
    (lo : 0 < sd a b q p) (hi : sd a b s r < 0) (det : r * q - p * s = 1) : Next a b o (nearT a b o p q r s) := by
  rw [nearT]
  by_cases h : q + s ≤ o ∧ ¬ (p = r ∧ q = s) ∧ 1 ≤ q ∧ 1 ≤ s
  · rw [dif_pos h]
    obtain ⟨h1, _⟩ := h
    have hne := sd_ne (m := p + r) ha hb (show 0 < q + s by omega) hw
    split
    · rename_i h2
      exact nearT_next ha hb hw (p + r) (q + s) r s (by omega) s1 h1 so h2 hi (by rw [Int.natCast_add, Int.mul_add, Int.add_mul]; omega)
    · rename_i h2
      exact nearT_next ha hb hw p q (p + r) (q + s) q1 (by omega) qo h1 lo (by omega) (by rw [Int.natCast_add, Int.mul_add, Int.add_mul]; omega)
  · rw [dif_neg h]
    refine ⟨q1, s1, qo, so, lo, hi, det, ?_⟩
    by_cases hk : q + s ≤ o
    · exfalso
      refine h ⟨hk, ?_, q1, s1⟩
      rintro ⟨rfl, rfl⟩
      omega
    · show o < q + s
      omega
termination_by 2 * o - (q + s)
decreasing_by all_goals omega

theorem nearS_next {a b o : Nat} (ha : 0 < a) (hb : 0 < b) (hw : isW a b 1 = false) (ho : 1 ≤ o) : Next a b o (nearS a b o) := by
  obtain ⟨h1, h2⟩ := flo_ok (q := 1) ha hb
  have h3 := sd_ne (q := 1) (m := flo a b 1) ha hb (by decide) hw
  unfold nearS
  rw [hw, if_neg (by decide)]
  exact nearT_next ha hb hw _ _ _ _ (by omega) (by omega) ho ho (by omega) h2 (by omega)
theorem nearS_whole {a b o : Nat} (hw : isW a b 1 = true) : nearS a b o = (flo a b 1, 1, flo a b 1, 1) := by
  unfold nearS
  rw [hw, if_pos rfl, nearT, dif_neg]
  rintro ⟨_, h, _⟩
  exact h ⟨rfl, rfl⟩

theorem far_of {q Q S p P R : Int} (hQ : 0 ≤ Q) (hS : 0 ≤ S) (det : R * Q - P * S = 1) (h1 : P * q < p * Q) (h2 : p * S < R * q) : Q + S ≤ q := by
  have hX : 1 ≤ R * q - p * S := by omega
  have hY : 1 ≤ p * Q - P * q := by omega
  have e : Q * (R * q - p * S) + S * (p * Q - P * q) = q * (R * Q - P * S) := by
    simp only [Int.mul_sub, Int.mul_comm, Int.mul_left_comm]; omega
  rw [det, Int.mul_one] at e
  have e1 : Q * 1 ≤ Q * (R * q - p * S) := Int.mul_le_mul_of_nonneg_left hX hQ
  have e2 : S * 1 ≤ S * (p * Q - P * q) := Int.mul_le_mul_of_nonneg_left hY hS
  omega

theorem Next.best_lo {a b o : Nat} {x : Quad} (h : Next a b o x) (hb : 0 < b) {p : Int} {q : Nat} (hq : 1 ≤ q) (hqo : q ≤ o) (h0 : 0 ≤ sd a b q p) : p * x.2.1 ≤ x.1 * q := by
  obtain ⟨P, Q, R, S⟩ := x
  obtain ⟨q1, s1, qo, so, lo, hi, det, far⟩ := h
  dsimp only at *
  by_cases hc : p * Q ≤ P * q
  · exact hc
  · exfalso
    have h2 : p * S < R * q := by
      by_cases hd : R * q ≤ p * S
      · have := sd_le_of hb (by omega) (by omega) hd h0; omega
      · omega
    have := far_of (by omega) (by omega) det (by omega) h2
    omega
theorem Next.best_hi {a b o : Nat} {x : Quad} (h : Next a b o x) (hb : 0 < b) {p : Int} {q : Nat} (hq : 1 ≤ q) (hqo : q ≤ o) (h0 : sd a b q p ≤ 0) : x.2.2.1 * q ≤ p * x.2.2.2 := by
  obtain ⟨P, Q, R, S⟩ := x
  obtain ⟨q1, s1, qo, so, lo, hi, det, far⟩ := h
  dsimp only at *
  by_cases hc : R * q ≤ p * S
  · exact hc
  · exfalso
    have h2 : P * q < p * Q := by
      by_cases hd : p * Q ≤ P * q
      · have := sd_le_of (a := a) hb (by omega) (by omega) hd (by omega)
        have hz : sd a b q p = 0 := by omega
        by_cases he : p * Q = P * q
        · have := sd_scale (t := Q) (by omega) a b q p
          have h4 := sd_scale (t := q) (by omega) a b Q P
          rw [Nat.mul_comm Q q, ← he, this] at h4
          omega
        · have := sd_lt_of (a := a) hb (show 0 < q by omega) (show 0 < Q by omega) (show p * Q < P * q by omega) h0
          omega
      · omega
    have := far_of (by omega) (by omega) det h2 (by omega)
    omega

theorem same_of {P P' : Int} {Q Q' : Nat} (hQ : 1 ≤ Q) (hQ' : 1 ≤ Q') {u v u' v' : Int} (det : u * Q - P * v = 1) (det' : u' * Q' - P' * v' = 1) (h : P * Q' = P' * Q) : P = P' ∧ Q = Q' := by
  have d1 : (Q : Int) ∣ Q' := ⟨Q' * u - v * P', by
    have e : (Q : Int) * (Q' * u - v * P') = Q' * (u * Q - P * v) + v * (P * Q' - P' * Q) := by simp only [Int.mul_sub, Int.sub_mul, Int.mul_assoc, Int.mul_comm, Int.mul_left_comm]; omega
    rw [e, det, h]; omega⟩
  have d2 : (Q' : Int) ∣ Q := ⟨Q * u' - v' * P, by
    have e : (Q' : Int) * (Q * u' - v' * P) = Q * (u' * Q' - P' * v') - v' * (P * Q' - P' * Q) := by simp only [Int.mul_sub, Int.sub_mul, Int.mul_assoc, Int.mul_comm, Int.mul_left_comm]; omega
    rw [e, det', h]; omega⟩
  have e : Q = Q' := Nat.dvd_antisymm (Int.natCast_dvd_natCast.1 d1) (Int.natCast_dvd_natCast.1 d2)
  subst e
  exact ⟨Int.eq_of_mul_eq_mul_right (by omega) h, rfl⟩

/-- There is one pair. -/
theorem Next.one {a b o : Nat} (hb : 0 < b) {x y : Quad} (hx : Next a b o x) (hy : Next a b o y) : x = y := by
  have h1 := hx.best_lo hb hy.q1 hy.qo (Int.le_of_lt hy.lo)
  have h2 := hy.best_lo hb hx.q1 hx.qo (Int.le_of_lt hx.lo)
  have h3 := hx.best_hi hb hy.s1 hy.so (Int.le_of_lt hy.hi)
  have h4 := hy.best_hi hb hx.s1 hx.so (Int.le_of_lt hx.hi)
  obtain ⟨P, Q, R, S⟩ := x
  obtain ⟨P', Q', R', S'⟩ := y
  obtain ⟨q1, s1, _, _, _, _, det, _⟩ := hx
  obtain ⟨q1', s1', _, _, _, _, det', _⟩ := hy
  dsimp only at *
  obtain ⟨rfl, rfl⟩ := same_of q1 q1' det det' (by omega)
  obtain ⟨rfl, rfl⟩ := same_of (P := R) (P' := R') (u := -P) (v := -Q) (u' := -P) (v' := -Q) s1 s1' (by rw [Int.neg_mul, Int.mul_neg]; omega) (by rw [Int.neg_mul, Int.mul_neg]; omega) (by omega)
  rfl
theorem gcd_one {P : Int} {Q : Nat} {u v : Int} (det : u * Q - P * v = 1) : Nat.gcd P.natAbs (Q : Int).natAbs = 1 := by
  have h1 : ((Int.gcd P Q : Nat) : Int) ∣ P := Int.gcd_dvd_left ..
  have h2 : ((Int.gcd P Q : Nat) : Int) ∣ Q := Int.gcd_dvd_right ..
  have h3 : ((Int.gcd P Q : Nat) : Int) ∣ 1 := by
    rw [← det]
    exact Int.dvd_sub (Int.dvd_mul_of_dvd_right h2) (Int.dvd_mul_of_dvd_left h1)
  have h4 : Int.gcd P Q ∣ 1 := Int.natCast_dvd_natCast.1 h3
  exact Nat.dvd_one.1 h4

theorem flo_12 {a b : Nat} (ha : 0 < a) (hb : 0 < b) (ha1 : a ≤ 4095) (hb1 : b ≤ 4095) : -12 ≤ flo a b 1 ∧ flo a b 1 ≤ 12 := by
  constructor
  · rw [le_flo ha hb, show (-12 : Int) = ((0 : Nat) : Int) - ((12 : Nat) : Int) by omega, sd_ge, Nat.pow_one, Nat.pow_one]; omega
  · have : flo a b 1 < 13 := by
      rw [flo_lt ha hb, show (13 : Int) = ((13 : Nat) : Int) - ((0 : Nat) : Int) by omega, sd_lt, Nat.pow_one, Nat.pow_one]; omega
    omega
/-- How large the numerators are. -/
theorem Next.range {a b o : Nat} {x : Quad} (h : Next a b o x) (ha : 0 < a) (hb : 0 < b) (ha1 : a ≤ 4095) (hb1 : b ≤ 4095) (ho : 1 ≤ o) (ho1 : o ≤ 64) : -4096 ≤ x.1 ∧ x.1 ≤ 4096 ∧ -4096 ≤ x.2.2.1 ∧ x.2.2.1 ≤ 4096 := by
  obtain ⟨f1, f2⟩ := flo_12 ha hb ha1 hb1
  obtain ⟨h1, h2⟩ := flo_ok (q := 1) ha hb
  have k1 := h.best_lo hb (p := flo a b 1) (q := 1) (by omega) ho h1
  have k2 := h.best_hi hb (p := flo a b 1 + 1) (q := 1) (by omega) ho (by omega)
  obtain ⟨P, Q, R, S⟩ := x
  obtain ⟨q1, s1, qo, so, lo, hi, det, far⟩ := h
  dsimp only at *
  have k3 : P * (1 : Nat) < (flo a b 1 + 1) * Q := by
    by_cases hd : (flo a b 1 + 1) * Q ≤ P * (1 : Nat)
    · have := sd_le_of (a := a) hb (by omega) (by omega) hd (Int.le_of_lt lo); omega
    · omega
  have k4 : flo a b 1 * S < R * (1 : Nat) := by
    by_cases hd : R * (1 : Nat) ≤ flo a b 1 * S
    · have := sd_le_of (a := a) hb (by omega) (by omega) hd h1; omega
    · omega
  obtain ⟨m, hm⟩ : ∃ m, flo a b 1 = m := ⟨_, rfl⟩
  rw [hm] at k1 k2 k3 k4 f1 f2
  have b1 : -12 * (Q : Int) ≤ m * Q := Int.mul_le_mul_of_nonneg_right f1 (by omega)
  have b2 : (m + 1) * (Q : Int) ≤ 13 * Q := Int.mul_le_mul_of_nonneg_right (by omega) (by omega)
  have b3 : -12 * (S : Int) ≤ m * S := Int.mul_le_mul_of_nonneg_right f1 (by omega)
  have b4 : (m + 1) * (S : Int) ≤ 13 * S := Int.mul_le_mul_of_nonneg_right (by omega) (by omega)
  omega
end Go.Proofs.YtpgnheankmlnfaaDoor
namespace Go.Proofs.YtpgnheankmlnfaaDoor
open Go.RowKit
set_option linter.unusedVariables false

theorem sd_ge_of {a b q s : Nat} {p r : Int} (hb : 0 < b) (hq : 0 < q) (hs : 0 < s) (h : p * s ≤ r * q) (h0 : sd a b q p ≤ 0) : sd a b s r ≤ 0 := by
  by_cases he : p * s = r * q
  · rw [← sd_scale hq a b s r, ← he, Nat.mul_comm s q, sd_scale hs]; exact h0
  · have := sd_lt_of (a := a) hb hq hs (show p * s < r * q by omega) h0
    omega

theorem chkW_iff {a b o p q r s : Int} : chkW a b o p q r s = 0 ↔ askO a b o = true ∧ lowB p q o = true ∧ lowB r s o = true ∧ 0 ≤ sd a.toNat b.toNat q.toNat p ∧ sd a.toNat b.toNat s.toNat r ≤ 0 ∧
    (p = r ∧ q = s ∨ sd a.toNat b.toNat q.toNat p ≠ 0 ∧ sd a.toNat b.toNat s.toNat r ≠ 0 ∧ r * q - p * s = 1 ∧ o < q + s) := by
  unfold chkW
  cases askO a b o
  · simp
  cases lowB p q o
  · simp
  cases lowB r s o
  · simp
  simp only [Bool.true_eq_false, if_false, true_and]
  by_cases h1 : sd a.toNat b.toNat q.toNat p < 0
  · rw [if_pos h1]; constructor
    · intro h; omega
    · rintro ⟨h, _⟩; omega
  rw [if_neg h1]
  by_cases h2 : 0 < sd a.toNat b.toNat s.toNat r
  · rw [if_pos h2]; constructor
    · intro h; omega
    · rintro ⟨_, h, _⟩; omega
  rw [if_neg h2]
  by_cases h3 : p = r ∧ q = s
  · rw [if_pos h3]; exact ⟨fun _ => ⟨by omega, by omega, .inl h3⟩, fun _ => rfl⟩
  rw [if_neg h3]
  by_cases h4 : sd a.toNat b.toNat q.toNat p = 0
  · rw [if_pos h4]; constructor
    · intro h; omega
    · rintro ⟨_, _, h | h⟩
      · exact absurd h h3
      · exact absurd h4 h.1
  rw [if_neg h4]
  by_cases h5 : sd a.toNat b.toNat s.toNat r = 0
  · rw [if_pos h5]; constructor
    · intro h; omega
    · rintro ⟨_, _, h | h⟩
      · exact absurd h h3
      · exact absurd h5 h.2.1
  rw [if_neg h5]
  by_cases h6 : r * q - p * s ≠ 1
  · rw [if_pos h6]; constructor
    · intro h; omega
    · rintro ⟨_, _, h | h⟩
      · exact absurd h h3
      · exact absurd h.2.2.1 h6
  rw [if_neg h6]
  by_cases h7 : q + s ≤ o
  · rw [if_pos h7]; constructor
    · intro h; omega
    · rintro ⟨_, _, h | h⟩
      · exact absurd h h3
      · exact absurd h.2.2.2 (by omega)
  · rw [if_neg h7]
    exact ⟨fun _ => ⟨by omega, by omega, .inr ⟨h4, h5, by omega, by omega⟩⟩, fun _ => rfl⟩

theorem askO_nat {a b o : Nat} (h : askO a b o = true) : 0 < a ∧ a ≤ 4095 ∧ 0 < b ∧ b ≤ 4095 ∧ 1 ≤ o ∧ o ≤ 64 := by
  obtain ⟨⟨⟨a0, a1⟩, b0, b1⟩, o0, o1⟩ := askO_iff.1 h
  omega

/-- The checker takes the pair. -/
theorem chk_near {a b o : Nat} (h : askO a b o = true) : chkW a b o (nearS a b o).1 (nearS a b o).2.1 (nearS a b o).2.2.1 (nearS a b o).2.2.2 = 0 := by
  obtain ⟨a0, a1, b0, b1, o0, o1⟩ := askO_nat h
  rw [chkW_iff]
  cases hw : isW a b 1
  · have hn := nearS_next a0 b0 hw o0
    obtain ⟨r1, r2, r3, r4⟩ := hn.range a0 b0 a1 b1 o0 o1
    obtain ⟨⟨P, Q, R, S⟩, hx⟩ : ∃ x, nearS a b o = x := ⟨_, rfl⟩
    rw [hx] at hn r1 r2 r3 r4 ⊢
    obtain ⟨q1, s1, qo, so, lo, hi, det, far⟩ := hn
    dsimp only at *
    refine ⟨h, lowB_iff.2 ⟨by omega, by omega, gcd_one det⟩, lowB_iff.2 ⟨by omega, by omega, gcd_one (u := -P) (v := -Q) (by rw [Int.neg_mul, Int.mul_neg]; omega)⟩, ?_, ?_, .inr ⟨?_, ?_, det, by omega⟩⟩ <;>
      simp only [Int.toNat_natCast] <;> omega
  · rw [nearS_whole hw]
    obtain ⟨f1, f2⟩ := flo_12 a0 b0 a1 b1
    rw [isW_iff] at hw
    have hl : lowB (flo a b 1) 1 o = true := lowB_iff.2 ⟨by omega, by omega, by rw [show (1 : Int).natAbs = 1 from rfl, Nat.gcd_one_right]⟩
    refine ⟨h, hl, hl, ?_, ?_, .inl ⟨rfl, rfl⟩⟩ <;> simp only [Int.toNat_natCast]
    · show 0 ≤ sd a b 1 _; omega
    · show sd a b 1 _ ≤ 0; omega
/-- And no other one. -/
theorem chk_one {a b o : Nat} {p q r s : Int} (h : chkW a b o p q r s = 0) : p = (nearS a b o).1 ∧ q = (nearS a b o).2.1 ∧ r = (nearS a b o).2.2.1 ∧ s = (nearS a b o).2.2.2 := by
  obtain ⟨hA, hl1, hl2, hs1, hs2, hE⟩ := chkW_iff.1 h
  obtain ⟨a0, a1, b0, b1, o0, o1⟩ := askO_nat hA
  obtain ⟨lq, lp, lg⟩ := lowB_iff.1 hl1
  obtain ⟨ls, lr, lg2⟩ := lowB_iff.1 hl2
  obtain ⟨q, rfl⟩ : ∃ k : Nat, q = k := ⟨q.toNat, by omega⟩
  obtain ⟨s, rfl⟩ : ∃ k : Nat, s = k := ⟨s.toNat, by omega⟩
  simp only [Int.toNat_natCast] at hs1 hs2 hE
  cases hw : isW a b 1
  · rcases hE with ⟨rfl, hE⟩ | ⟨e1, e2, e3, e4⟩
    · have : q = s := by omega
      subst this
      exact absurd (show sd a b q p = 0 by omega) (sd_ne a0 b0 (by omega) hw)
    · have hn : Next a b o (p, q, r, s) := ⟨by show 1 ≤ q; omega, by show 1 ≤ s; omega, by show q ≤ o; omega, by show s ≤ o; omega, by show 0 < sd a b q p; omega, by show sd a b s r < 0; omega, e3, by show o < q + s; omega⟩
      rw [← hn.one b0 (nearS_next a0 b0 hw o0)]
      exact ⟨rfl, rfl, rfl, rfl⟩
  · rw [nearS_whole hw]
    have hz := isW_iff.1 hw
    rcases hE with ⟨rfl, hE⟩ | ⟨e1, e2, e3, e4⟩
    · have : q = s := by omega
      subst this
      obtain ⟨_, hm⟩ := (sd_zero a0 b0 (show 0 < q by omega)).1 (show sd a b q p = 0 by omega)
      have hd : (q : Int).natAbs ∣ p.natAbs := by rw [hm, Int.natAbs_mul]; exact Nat.dvd_mul_left _ _
      rw [Nat.gcd_eq_right hd] at lg
      have hq1 : q = 1 := by omega
      subst hq1
      dsimp only
      exact ⟨by omega, rfl, by omega, rfl⟩
    · exfalso
      have hn : Next a b o (p, q, r, s) := ⟨by show 1 ≤ q; omega, by show 1 ≤ s; omega, by show q ≤ o; omega, by show s ≤ o; omega, by show 0 < sd a b q p; omega, by show sd a b s r < 0; omega, e3, by show o < q + s; omega⟩
      have k1 := hn.best_lo b0 (p := flo a b 1) (q := 1) (by omega) o0 (by omega)
      have k2 := sd_ge_of (a := a) (q := 1) (s := q) (p := flo a b 1) (r := p) b0 (by omega) (by omega) k1 (by omega)
      omega

/-- No fraction lies between. -/
theorem near_lo {a b o : Nat} (h : askO a b o = true) {p : Int} {q : Nat} (hq : 1 ≤ q) (hqo : q ≤ o) (h0 : 0 ≤ sd a b q p) : p * (nearS a b o).2.1 ≤ (nearS a b o).1 * q := by
  obtain ⟨a0, a1, b0, b1, o0, o1⟩ := askO_nat h
  cases hw : isW a b 1
  · exact (nearS_next a0 b0 hw o0).best_lo b0 hq hqo h0
  · rw [nearS_whole hw]
    have h1 := (le_flo a0 b0).2 h0
    rw [flo_whole a0 b0 (by omega) hw] at h1
    show p * (1 : Nat) ≤ flo a b 1 * q
    omega
theorem near_hi {a b o : Nat} (h : askO a b o = true) {p : Int} {q : Nat} (hq : 1 ≤ q) (hqo : q ≤ o) (h0 : sd a b q p ≤ 0) : (nearS a b o).2.2.1 * q ≤ p * (nearS a b o).2.2.2 := by
  obtain ⟨a0, a1, b0, b1, o0, o1⟩ := askO_nat h
  cases hw : isW a b 1
  · exact (nearS_next a0 b0 hw o0).best_hi b0 hq hqo h0
  · rw [nearS_whole hw]
    have h1 := (cei_le a0 b0).2 h0
    rw [cei_flo, isW_any a0 b0 (by omega), hw, if_pos rfl, flo_whole a0 b0 (by omega) hw] at h1
    show flo a b 1 * q ≤ p * (1 : Nat)
    omega
/-- Sides, ranges, denominators of the pair. -/
theorem near_facts {a b o : Nat} (h : askO a b o = true) : 1 ≤ (nearS a b o).2.1 ∧ (nearS a b o).2.1 ≤ o ∧ 1 ≤ (nearS a b o).2.2.2 ∧ (nearS a b o).2.2.2 ≤ o ∧ -4096 ≤ (nearS a b o).1 ∧ (nearS a b o).1 ≤ 4096 ∧ -4096 ≤ (nearS a b o).2.2.1 ∧ (nearS a b o).2.2.1 ≤ 4096 ∧
    0 ≤ sd a b (nearS a b o).2.1 (nearS a b o).1 ∧ sd a b (nearS a b o).2.2.2 (nearS a b o).2.2.1 ≤ 0 := by
  obtain ⟨a0, a1, b0, b1, o0, o1⟩ := askO_nat h
  cases hw : isW a b 1
  · have hn := nearS_next a0 b0 hw o0
    obtain ⟨r1, r2, r3, r4⟩ := hn.range a0 b0 a1 b1 o0 o1
    obtain ⟨q1, s1, qo, so, lo, hi, det, far⟩ := hn
    omega
  · rw [nearS_whole hw]
    obtain ⟨f1, f2⟩ := flo_12 a0 b0 a1 b1
    rw [isW_iff] at hw
    dsimp only
    omega

/-! ### Turned and doubled -/
theorem isW_turn {a b : Nat} (ha : 0 < a) (hb : 0 < b) : isW b a 1 = isW a b 1 ∧ (isW a b 1 = true → flo b a 1 = -flo a b 1) := by
  have h : ∀ {a b : Nat}, 0 < a → 0 < b → isW a b 1 = true → isW b a 1 = true ∧ flo b a 1 = -flo a b 1 := fun {a b} ha hb hw => by
    rw [isW_iff] at hw
    have h0 : sd b a 1 (-flo a b 1) = 0 := by rw [sd_neg]; omega
    have h1 := flo_of_zero hb ha h0
    exact ⟨isW_iff.2 (by rw [h1]; exact h0), h1⟩
  refine ⟨?_, fun hw => (h ha hb hw).2⟩
  rw [Bool.eq_iff_iff]
  exact ⟨fun hw => (h hb ha hw).1, fun hw => (h ha hb hw).1⟩
theorem nearS_turn {a b o : Nat} (ha : 0 < a) (hb : 0 < b) (ho : 1 ≤ o) : nearS b a o = (-(nearS a b o).2.2.1, (nearS a b o).2.2.2, -(nearS a b o).1, (nearS a b o).2.1) := by
  obtain ⟨t1, t2⟩ := isW_turn ha hb
  cases hw : isW a b 1
  · have hn := nearS_next ha hb hw ho
    rw [hw] at t1
    refine (nearS_next hb ha t1 ho).one ha ?_
    obtain ⟨⟨P, Q, R, S⟩, hx⟩ : ∃ x, nearS a b o = x := ⟨_, rfl⟩
    rw [hx] at hn ⊢
    obtain ⟨q1, s1, qo, so, lo, hi, det, far⟩ := hn
    refine ⟨s1, q1, so, qo, ?_, ?_, ?_, ?_⟩
    · show 0 < sd b a S (-R); rw [sd_neg]; dsimp only at hi; omega
    · show sd b a Q (-P) < 0; rw [sd_neg]; dsimp only at lo; omega
    · show -P * S - -R * Q = 1; dsimp only at det; rw [Int.neg_mul, Int.neg_mul]; omega
    · show o < S + Q; dsimp only at far; omega
  · rw [nearS_whole hw, nearS_whole (by rw [t1, hw]), t2 hw]
theorem isW_dbl {a b : Nat} (ha : 0 < a) (hb : 0 < b) : isW (2 * a) b 1 = isW a b 1 := by
  rw [Bool.eq_iff_iff, isW_iff, isW_iff, flo_dbl ha hb, sd_dbl]
theorem nearS_dbl {a b o : Nat} (ha : 0 < a) (hb : 0 < b) (ho : 1 ≤ o) : nearS (2 * a) b o = ((nearS a b o).1 + (nearS a b o).2.1, (nearS a b o).2.1, (nearS a b o).2.2.1 + (nearS a b o).2.2.2, (nearS a b o).2.2.2) := by
  have t1 := isW_dbl ha hb
  cases hw : isW a b 1
  · have hn := nearS_next ha hb hw ho
    rw [hw] at t1
    refine (nearS_next (by omega) hb t1 ho).one hb ?_
    obtain ⟨⟨P, Q, R, S⟩, hx⟩ : ∃ x, nearS a b o = x := ⟨_, rfl⟩
    rw [hx] at hn ⊢
    obtain ⟨q1, s1, qo, so, lo, hi, det, far⟩ := hn
    refine ⟨q1, s1, qo, so, ?_, ?_, ?_, far⟩
    · show 0 < sd (2 * a) b Q (P + Q); rw [sd_dbl]; exact lo
    · show sd (2 * a) b S (R + S) < 0; rw [sd_dbl]; exact hi
    · show (R + S) * Q - (P + Q) * S = 1
      dsimp only at det
      rw [Int.add_mul, Int.add_mul, Int.mul_comm (S : Int) Q]; omega
  · rw [nearS_whole hw, nearS_whole (by rw [t1, hw]), flo_dbl ha hb]
/-- With a greater order: the same pair, or a greater denominator. -/
theorem nearS_narrow {a b o o' : Nat} (h : askO a b o = true) (h' : askO a b o' = true) (hle : o ≤ o') : nearS a b o' = nearS a b o ∨ o < (nearS a b o').2.1 ∨ o < (nearS a b o').2.2.2 := by
  obtain ⟨a0, a1, b0, b1, o0, o1⟩ := askO_nat h
  cases hw : isW a b 1
  · have hn := nearS_next a0 b0 hw o0
    have hn' := nearS_next a0 b0 hw (o := o') (by omega)
    by_cases h1 : o < (nearS a b o').2.1
    · exact .inr (.inl h1)
    by_cases h2 : o < (nearS a b o').2.2.2
    · exact .inr (.inr h2)
    left
    refine Next.one b0 (o := o) ?_ hn
    obtain ⟨q1, s1, qo, so, lo, hi, det, far⟩ := hn'
    exact ⟨q1, s1, by omega, by omega, lo, hi, det, by omega⟩
  · rw [nearS_whole hw, nearS_whole hw]; exact .inl rfl
end Go.Proofs.YtpgnheankmlnfaaDoor
namespace Go.Proofs.YtpgnheankmlnfaaDoor
open Go.RowKit
set_option linter.unusedVariables false

theorem inT_go {a b o : Nat} {up lp : Int} {lq : Nat} {xp : Int} {xq : Nat} {t : Int} (h : xq ≤ o ∧ 0 < lq ∧ sd a b (xq + lq) (xp + lp) ≠ up) :
    inT a b o up lp lq xp xq t = inT a b o up lp lq (xp + lp) (xq + lq) (t + 1) := by
  rw [inT, dif_pos h]
theorem inT_no {a b o : Nat} {up lp : Int} {lq : Nat} {xp : Int} {xq : Nat} {t : Int} (h : ¬ (xq ≤ o ∧ 0 < lq ∧ sd a b (xq + lq) (xp + lp) ≠ up)) :
    inT a b o up lp lq xp xq t = (xp, xq, t) := by
  rw [inT, dif_neg h]
theorem exT_no {a b o : Nat} {ap : Int} {aq : Nat} {lp : Int} {lq : Nat} {up : Int} {xp : Int} {xq : Nat} {t : Int} (h : inT a b o up lp lq ap aq 0 = (xp, xq, t)) (h1 : ¬ (xq ≤ o ∧ aq < xq ∧ lq ≤ o)) :
    exT a b o ap aq lp lq up = [] := by
  rw [exT, h, dif_neg h1]

/-- The steps: all of them at once. -/
theorem inT_spec (a b o : Nat) (up lp : Int) (lq : Nat) (hl : 0 < lq) (xp : Int) (xq : Nat) (t : Int) :
    ∃ n : Nat, inT a b o up lp lq xp xq t = (xp + n * lp, xq + n * lq, t + n) ∧ (o < xq + n * lq ∨ sd a b (xq + (n + 1) * lq) (xp + ((n : Int) + 1) * lp) = up) ∧
      ∀ i : Nat, i < n → xq + i * lq ≤ o ∧ sd a b (xq + (i + 1) * lq) (xp + ((i : Int) + 1) * lp) ≠ up := by
  by_cases h : xq ≤ o ∧ sd a b (xq + lq) (xp + lp) ≠ up
  · obtain ⟨n, h1, h2, h3⟩ := inT_spec a b o up lp lq hl (xp + lp) (xq + lq) (t + 1)
    have e1 : ∀ k : Nat, xq + lq + k * lq = xq + (k + 1) * lq := fun k => by rw [Nat.add_mul]; omega
    have e2 : ∀ k : Nat, xp + lp + (k : Int) * lp = xp + ((k : Int) + 1) * lp := fun k => by rw [Int.add_mul]; omega
    refine ⟨n + 1, ?_, ?_, ?_⟩
    · rw [inT_on h.1 hl h.2, h1, e1, e2]
      refine Prod.ext ?_ (Prod.ext rfl ?_)
      · show xp + ((n : Int) + 1) * lp = xp + ((n + 1 : Nat) : Int) * lp; rfl
      · show t + 1 + (n : Int) = t + ((n + 1 : Nat) : Int); omega
    · rcases h2 with h2 | h2
      · left; rw [e1] at h2; exact h2
      · right
        rw [e1 (n + 1)] at h2
        have := e2 (n + 1)
        rw [Int.natCast_add] at this
        simp only [Int.natCast_add, Int.natCast_one] at this h2 ⊢
        rw [this] at h2
        exact h2
    · rintro (_ | i) hi
      · refine ⟨by omega, ?_⟩
        simpa using h.2
      · obtain ⟨k1, k2⟩ := h3 i (by omega)
        rw [e1] at k1
        rw [e1 (i + 1)] at k2
        refine ⟨k1, ?_⟩
        have := e2 (i + 1)
        simp only [Int.natCast_add, Int.natCast_one] at this k2 ⊢
        rw [this] at k2
        exact k2
  · refine ⟨0, ?_, ?_, ?_⟩
    · rw [inT_off (by by_cases h1 : xq ≤ o; exact .inr (Decidable.byContradiction fun h2 => h ⟨h1, h2⟩); exact .inl (by omega))]
      simp
    · by_cases h1 : xq ≤ o
      · right
        have := Decidable.byContradiction fun h2 => h ⟨h1, h2⟩
        simpa using this
      · left; simp; omega
    · intro i hi; omega
termination_by o + 1 - xq
decreasing_by omega

/-- Doubled: the same further terms. -/
theorem inT_dbl (a b o : Nat) (up lp : Int) (lq : Nat) (xp : Int) (xq : Nat) (t : Int) :
    inT (2 * a) b o up (lp + lq) lq (xp + xq) xq t = ((inT a b o up lp lq xp xq t).1 + (inT a b o up lp lq xp xq t).2.1, (inT a b o up lp lq xp xq t).2.1, (inT a b o up lp lq xp xq t).2.2) := by
  have e : xp + (xq : Int) + (lp + lq) = xp + lp + ((xq + lq : Nat) : Int) := by omega
  by_cases h : xq ≤ o ∧ 0 < lq ∧ sd a b (xq + lq) (xp + lp) ≠ up
  · rw [inT_go h, inT_go (by rw [e, sd_dbl]; exact h), e]
    exact inT_dbl a b o up lp lq (xp + lp) (xq + lq) (t + 1)
  · rw [inT_no h, inT_no (by rw [e, sd_dbl]; exact h)]
termination_by o + 1 - xq
decreasing_by omega
theorem exT_dbl (a b o : Nat) (ap : Int) (aq : Nat) (lp : Int) (lq : Nat) (up : Int) : exT (2 * a) b o (ap + aq) aq (lp + lq) lq up = exT a b o ap aq lp lq up := by
  have e := inT_dbl a b o up lp lq ap aq 0
  obtain ⟨⟨xp, xq, t⟩, hx⟩ : ∃ x, inT a b o up lp lq ap aq 0 = x := ⟨_, rfl⟩
  rw [hx] at e
  dsimp only at e
  by_cases h : xq ≤ o ∧ aq < xq ∧ lq ≤ o
  · rw [exT_on hx h.1 h.2.1 h.2.2, exT_on e h.1 h.2.1 h.2.2, exT_dbl a b o lp lq xp xq (-up)]
  · rw [exT_no hx h, exT_no e h]
termination_by 2 * o - (aq + lq)
decreasing_by omega
theorem expL_dbl {a b o : Nat} (h : askO a b o = true) (h2 : askO (2 * a : Nat) b o = true) : ∃ t ts, expL a b o = t :: ts ∧ expL (2 * a : Nat) b o = (t + 1) :: ts := by
  obtain ⟨a0, a1, b0, b1, o0, o1⟩ := askO_nat h
  refine ⟨flo a b 1, if isW a b 1 = true then [] else exT a b o 1 0 (flo a b 1) 1 1, ?_, ?_⟩
  · unfold expL; rw [if_pos h]; rfl
  · unfold expL
    rw [if_pos h2]
    simp only [Int.toNat_natCast]
    rw [flo_dbl a0 b0, isW_dbl a0 b0]
    congr 1
    split
    · rfl
    · exact exT_dbl a b o 1 0 (flo a b 1) 1 1

/-- With a greater order: the same terms first. -/
theorem inT_more {a b o o' : Nat} (hle : o ≤ o') (up lp : Int) (lq : Nat) (xp : Int) (xq : Nat) (t : Int) (h : (inT a b o up lp lq xp xq t).2.1 ≤ o) :
    inT a b o' up lp lq xp xq t = inT a b o up lp lq xp xq t := by
  by_cases hc : xq ≤ o ∧ 0 < lq ∧ sd a b (xq + lq) (xp + lp) ≠ up
  · rw [inT_go hc] at h ⊢
    rw [inT_go ⟨by omega, hc.2⟩]
    exact inT_more hle up lp lq (xp + lp) (xq + lq) (t + 1) h
  · rw [inT_no hc] at h ⊢
    rw [inT_no]
    rintro ⟨k1, k2⟩
    exact hc ⟨h, k2⟩
termination_by o + 1 - xq
decreasing_by omega
theorem exT_more {a b o o' : Nat} (hle : o ≤ o') (ap : Int) (aq : Nat) (lp : Int) (lq : Nat) (up : Int) : ∃ l, exT a b o' ap aq lp lq up = exT a b o ap aq lp lq up ++ l := by
  obtain ⟨⟨xp, xq, t⟩, hx⟩ : ∃ x, inT a b o up lp lq ap aq 0 = x := ⟨_, rfl⟩
  by_cases h : xq ≤ o ∧ aq < xq ∧ lq ≤ o
  · obtain ⟨l, hl⟩ := exT_more hle lp lq xp xq (-up)
    have hx' : inT a b o' up lp lq ap aq 0 = (xp, xq, t) := by rw [inT_more hle up lp lq ap aq 0 (by rw [hx]; exact h.1), hx]
    exact ⟨l, by rw [exT_on hx h.1 h.2.1 h.2.2, exT_on hx' (by omega) h.2.1 (by omega), hl]; rfl⟩
  · refine ⟨exT a b o' ap aq lp lq up, ?_⟩
    have : exT a b o ap aq lp lq up = [] := by rw [exT, hx, dif_neg h]
    rw [this]; rfl
termination_by 2 * o - (aq + lq)
decreasing_by omega
theorem expL_more {a b o o' : Nat} (h : askO a b o = true) (h' : askO a b o' = true) (hle : o ≤ o') : ∃ l, expL a b o' = expL a b o ++ l := by
  unfold expL
  rw [if_pos h, if_pos h']
  simp only [Int.toNat_natCast]
  split
  · exact ⟨[], rfl⟩
  · obtain ⟨l, hl⟩ := exT_more (a := a) (b := b) hle 1 0 (flo a b 1) 1 1
    exact ⟨l, by rw [hl]; rfl⟩
end Go.Proofs.YtpgnheankmlnfaaDoor
namespace Go.Proofs.YtpgnheankmlnfaaDoor
open Go.RowKit
set_option linter.unusedVariables false

theorem sd_3 (a b q : Nat) (m : Int) : sd a b q m = -1 ∨ sd a b q m = 0 ∨ sd a b q m = 1 := by
  obtain ⟨e, f, rfl⟩ := ef m
  rw [sd_ef]
  unfold cmpI
  split
  · exact .inl rfl
  · split
    · exact .inr (.inl rfl)
    · exact .inr (.inr rfl)

/-- What is known between two terms. -/
structure Conv (a b o : Nat) (up : Int) (ap : Int) (aq : Nat) (lp : Int) (lq : Nat) : Prop where
  u : up = 1 ∨ up = -1
  l0 : 1 ≤ lq
  l1 : lq ≤ o
  a1 : aq ≤ o
  s0 : -13 * ((aq : Int) + lq) ≤ ap + lp
  s1 : ap + lp ≤ 13 * ((aq : Int) + lq)
  p0 : -13 * (lq : Int) ≤ lp
  p1 : lp ≤ 13 * (lq : Int)
  m : sd a b (aq + lq) (ap + lp) = -up
  sl : sd a b lq lp = up
  sa : sd a b aq ap = -up
  det : lp * aq - ap * lq = -up

/-- What the steps come to. -/
theorem Conv.steps {a b o : Nat} {up ap : Int} {aq : Nat} {lp : Int} {lq : Nat} (h : Conv a b o up ap aq lp lq) (ha : 0 < a) (hb : 0 < b) (hw : isW a b 1 = false) :
    ∃ n : Nat, 1 ≤ n ∧ inT a b o up lp lq ap aq 0 = (ap + n * lp, aq + n * lq, (n : Int)) ∧ aq + (n - 1) * lq ≤ o ∧ (1 ≤ n - 1 → sd a b (aq + (n - 1) * lq) (ap + ((n - 1 : Nat) : Int) * lp) = -up) ∧
      sd a b (aq + n * lq) (ap + n * lp) = -up ∧ (o < aq + n * lq ∨ sd a b (aq + n * lq + lq) (ap + n * lp + lp) = up) := by
  obtain ⟨n, h1, h2, h3⟩ := inT_spec a b o up lp lq h.l0 ap aq 0
  have hu := h.u
  have h0 := h.l0
  have e1 : ∀ k : Nat, aq + (k + 1) * lq = aq + k * lq + lq := fun k => by rw [Nat.add_mul]; omega
  have e2 : ∀ k : Nat, ap + ((k : Int) + 1) * lp = ap + k * lp + lp := fun k => by rw [Int.add_mul]; omega
  have hs : ∀ i : Nat, i < n → sd a b (aq + (i + 1) * lq) (ap + ((i : Int) + 1) * lp) = -up := fun i hi => by
    have k1 := (h3 i hi).2
    have k2 := sd_ne (q := aq + (i + 1) * lq) (m := ap + ((i : Int) + 1) * lp) ha hb (by rw [e1]; omega) hw
    have k3 := sd_3 a b (aq + (i + 1) * lq) (ap + ((i : Int) + 1) * lp)
    omega
  have hn : 1 ≤ n := by
    rcases n with _ | n
    · exfalso
      have hm := h.m
      have ha1 := h.a1
      rcases h2 with h2 | h2
      · simp at h2; omega
      · have e : sd a b (aq + lq) (ap + lp) = up := by simpa using h2
        rw [e] at hm
        omega
    · omega
  obtain ⟨n, rfl⟩ : ∃ k, n = k + 1 := ⟨n - 1, by omega⟩
  refine ⟨n + 1, hn, ?_, ?_, ?_, ?_, ?_⟩
  · rw [h1]
    refine Prod.ext rfl (Prod.ext rfl ?_)
    show (0 : Int) + ((n + 1 : Nat) : Int) = ((n + 1 : Nat) : Int)
    omega
  · exact (h3 n (by omega)).1
  · intro hk
    show sd a b (aq + n * lq) (ap + (n : Int) * lp) = -up
    rcases n with _ | n
    · simp at hk
    · exact hs n (by omega)
  · exact hs n (by omega)
  · rcases h2 with h2 | h2
    · exact .inl h2
    · right
      rw [e1 (n + 1), e2 (n + 1)] at h2
      exact h2

/-- One term more. -/
theorem Conv.step {a b o : Nat} {up ap : Int} {aq : Nat} {lp : Int} {lq : Nat} (h : Conv a b o up ap aq lp lq) (ha : 0 < a) (hb : 0 < b) (hw : isW a b 1 = false) {xp : Int} {xq : Nat} {t : Int}
    (hi : inT a b o up lp lq ap aq 0 = (xp, xq, t)) (hx : xq ≤ o) : aq < xq ∧ xp = t * lp + ap ∧ (xq : Int) = t * lq + aq ∧ Conv a b o (-up) lp lq xp xq := by
  obtain ⟨n, h1, h2, h3, h4, h5, h6⟩ := h.steps ha hb hw
  rw [h2] at hi
  injection hi with e1 e2
  injection e2 with e2 e3
  have l0 := h.l0
  have k1 : lq ≤ n * lq := Nat.le_mul_of_pos_left lq h1
  have hn1 : ((n : Int) - 1) * lq + lq = n * lq := by rw [Int.sub_mul]; omega
  have hn2 : ((n : Int) - 1) * lp + lp = n * lp := by rw [Int.sub_mul]; omega
  have hq : (xq : Int) = aq + n * lq := by rw [← e2, Int.natCast_add, Int.natCast_mul]
  have b1 : ((n : Int) - 1) * (-13 * lq) ≤ ((n : Int) - 1) * lp := Int.mul_le_mul_of_nonneg_left h.p0 (by omega)
  have b2 : ((n : Int) - 1) * lp ≤ ((n : Int) - 1) * (13 * lq) := Int.mul_le_mul_of_nonneg_left h.p1 (by omega)
  have b3 : ((n : Int) - 1) * (-13 * lq) = -13 * (((n : Int) - 1) * lq) := by rw [Int.mul_left_comm]
  have b4 : ((n : Int) - 1) * (13 * lq) = 13 * (((n : Int) - 1) * lq) := by rw [Int.mul_left_comm]
  have s0 := h.s0
  have s1 := h.s1
  have p0 := h.p0
  have p1 := h.p1
  have hu := h.u
  refine ⟨by omega, by rw [← e1, ← e3]; omega, by rw [hq, ← e3]; omega, ?_⟩
  have x0 : -13 * (xq : Int) ≤ xp := by rw [hq, ← e1]; omega
  have x1 : xp ≤ 13 * (xq : Int) := by rw [hq, ← e1]; omega
  refine ⟨by omega, by omega, hx, h.l1, by omega, by omega, x0, x1, ?_, ?_, ?_, ?_⟩
  · rcases h6 with h6 | h6
    · omega
    · rw [e1, e2] at h6
      rw [Nat.add_comm lq, Int.add_comm lp, h6]; omega
  · rw [e1, e2] at h5; exact h5
  · rw [h.sl]; omega
  · have det := h.det
    rw [hq, ← e1, Int.add_mul, Int.mul_add]
    have : (n : Int) * lp * lq = lp * (n * lq) := by rw [Int.mul_comm (n : Int) lp, Int.mul_assoc]
    omega

/-- At the end the last fraction is one of the pair. -/
theorem Conv.last {a b o : Nat} {up ap : Int} {aq : Nat} {lp : Int} {lq : Nat} (h : Conv a b o up ap aq lp lq) (ha : 0 < a) (hb : 0 < b) (hw : isW a b 1 = false) (ho : 1 ≤ o) (he : exT a b o ap aq lp lq up = []) :
    ((nearS a b o).1 = lp ∧ (nearS a b o).2.1 = lq) ∨ ((nearS a b o).2.2.1 = lp ∧ (nearS a b o).2.2.2 = lq) := by
  obtain ⟨n, h1, h2, h3, h4, h5, h6⟩ := h.steps ha hb hw
  have l0 := h.l0
  have l1 := h.l1
  have k1 : lq ≤ n * lq := Nat.le_mul_of_pos_left lq h1
  have hfar : o < aq + n * lq := by
    by_cases hc : o < aq + n * lq
    · exact hc
    · rw [exT_on (xq := aq + n * lq) (t := (n : Int)) h2 (by omega) (by omega) l1] at he
      cases he
  obtain ⟨n, rfl⟩ : ∃ k, n = k + 1 := ⟨n - 1, by omega⟩
  rw [Nat.add_sub_cancel] at h3 h4
  rw [Nat.add_mul] at hfar k1
  have hu := h.u
  have hs : sd a b (aq + n * lq) (ap + (n : Int) * lp) = -up := by
    rcases n with _ | n
    · have := h.sa; simpa using this
    · exact h4 (by omega)
  have hd : (ap + (n : Int) * lp) * lq - lp * ((aq + n * lq : Nat) : Int) = up := by
    have det := h.det
    rw [Int.natCast_add, Int.natCast_mul, Int.add_mul, Int.mul_add]
    have : (n : Int) * lp * lq = lp * (n * lq) := by rw [Int.mul_comm (n : Int) lp, Int.mul_assoc]
    omega
  obtain ⟨yp, hyp⟩ : ∃ y, ap + (n : Int) * lp = y := ⟨_, rfl⟩
  obtain ⟨yq, hyq⟩ : ∃ y, aq + n * lq = y := ⟨_, rfl⟩
  rw [hyp, hyq] at hs hd
  rw [hyq] at h3
  have sl := h.sl
  have y1 : 1 ≤ yq := by omega
  rcases hu with rfl | rfl
  · have hn : Next a b o (lp, lq, yp, yq) := ⟨l0, y1, l1, h3, by show 0 < sd a b lq lp; omega, by show sd a b yq yp < 0; omega, hd, by show o < lq + yq; omega⟩
    rw [← hn.one hb (nearS_next ha hb hw ho)]
    exact .inl ⟨rfl, rfl⟩
  · have hn : Next a b o (yp, yq, lp, lq) := ⟨y1, l0, h3, l1, by show 0 < sd a b yq yp; omega, by show sd a b lq lp < 0; omega, by show lp * (yq : Int) - yp * lq = 1; omega, by show o < yq + lq; omega⟩
    rw [← hn.one hb (nearS_next ha hb hw ho)]
    exact .inr ⟨rfl, rfl⟩

def alt (up : Int) : Nat → Int
  | 0 => up
  | i + 1 => alt (-up) i

/-- The fractions of the first terms. -/
theorem conv_ok {a b o : Nat} (ha : 0 < a) (hb : 0 < b) (hw : isW a b 1 = false) (ho : o ≤ 64) (i : Nat) : ∀ {up ap : Int} {aq : Nat} {lp : Int} {lq : Nat}, Conv a b o up ap aq lp lq → i ≤ (exT a b o ap aq lp lq up).length →
    ∃ ap' aq' lp' lq', foldR ((exT a b o ap aq lp lq up).take i) ap aq lp lq = (lp', ((lq' : Nat) : Int), 0) ∧ Conv a b o (alt up i) ap' aq' lp' lq' ∧
      (i = 0 → ap' = ap ∧ aq' = aq) ∧ (0 < i → foldR ((exT a b o ap aq lp lq up).take (i - 1)) ap aq lp lq = (ap', (aq' : Int), 0)) ∧ (i = (exT a b o ap aq lp lq up).length → exT a b o ap' aq' lp' lq' (alt up i) = []) := by
  induction i with
  | zero =>
    intro up ap aq lp lq h hi
    have l1 := h.l1
    have p0 := h.p0
    have p1 := h.p1
    refine ⟨ap, aq, lp, lq, ?_, h, fun _ => ⟨rfl, rfl⟩, fun hh => absurd hh (by omega), fun hh => ?_⟩
    · rw [List.take_zero]; unfold foldR; rw [if_neg (by omega)]
    · exact List.eq_nil_of_length_eq_zero hh.symm
  | succ i ih =>
    intro up ap aq lp lq h hi
    have l1 := h.l1
    have p0 := h.p0
    have p1 := h.p1
    have hnil : foldR [] ap aq lp lq = (lp, (lq : Int), 0) := by
      unfold foldR; rw [if_neg (by omega)]
    obtain ⟨⟨xp, xq, t⟩, hx⟩ : ∃ x, inT a b o up lp lq ap aq 0 = x := ⟨_, rfl⟩
    by_cases hc : xq ≤ o
    · obtain ⟨g1, g2, g3, g4⟩ := h.step ha hb hw hx hc
      have he := exT_on hx hc g1 l1
      rw [he] at hi ⊢
      obtain ⟨ap', aq', lp', lq', c1, c2, c3, c4, c5⟩ := ih g4 (by simpa using hi)
      have hstep : ∀ l, foldR (t :: l) ap aq lp lq = foldR l lp lq xp xq := fun l => by
        rw [foldR, if_neg (by omega), ← g2, ← g3]
      refine ⟨ap', aq', lp', lq', ?_, c2, fun hh => absurd hh (by omega), fun _ => ?_, fun hh => c5 (by simpa using hh)⟩
      · rw [List.take_succ_cons, hstep, c1]
      · rw [Nat.add_sub_cancel]
        rcases i with _ | i
        · obtain ⟨rfl, rfl⟩ := c3 rfl
          rw [List.take_zero]; exact hnil
        · rw [List.take_succ_cons, hstep]
          exact c4 (by omega)
    · exfalso
      rw [exT_off hx (by omega)] at hi
      simp at hi

theorem alt_ok (up : Int) (i : Nat) : alt up i = if i % 2 = 0 then up else -up := by
  induction i generalizing up with
  | zero => rfl
  | succ i ih =>
    rw [alt, ih]
    by_cases h : i % 2 = 0
    · rw [if_pos h, if_neg (by omega)]
    · rw [if_neg h, if_pos (by omega)]; omega

theorem conv_start {a b o : Nat} (ha : 0 < a) (hb : 0 < b) (ha1 : a ≤ 4095) (hb1 : b ≤ 4095) (hw : isW a b 1 = false) (ho : 1 ≤ o) : Conv a b o 1 1 0 (flo a b 1) 1 := by
  obtain ⟨f1, f2⟩ := flo_12 ha hb ha1 hb1
  obtain ⟨h1, h2⟩ := flo_ok (q := 1) ha hb
  have h3 := sd_ne (q := 1) (m := flo a b 1) ha hb (by decide) hw
  have h4 := sd_3 a b 1 (flo a b 1)
  have h5 := sd_3 a b 1 (flo a b 1 + 1)
  refine ⟨.inl rfl, by omega, ho, by omega, by omega, by omega, by omega, by omega, ?_, by omega, ?_, by omega⟩
  · rw [Nat.zero_add, Int.add_comm]; omega
  · rfl
end Go.Proofs.YtpgnheankmlnfaaDoor
namespace Go.Proofs.YtpgnheankmlnfaaDoor
open Go.RowKit
set_option linter.unusedVariables false

/-- The fraction of terms, from the last one back. -/
def cf : List Int → Int × Int
  | [] => (1, 0)
  | t :: ts => (t * (cf ts).1 + (cf ts).2, (cf ts).1)

theorem foldR_cf : ∀ (ts : List Int) (p' q' p q P Q : Int), foldR ts p' q' p q = (P, Q, 0) → P = p * (cf ts).1 + p' * (cf ts).2 ∧ Q = q * (cf ts).1 + q' * (cf ts).2 ∧ Q ≤ 1073741824 ∧ P ≤ 1073741824 ∧ -1073741824 ≤ P
  | [], p', q', p, q, P, Q, h => by
    unfold foldR at h
    split at h
    · cases h
    · rename_i hc
      injection h with h1 h2
      injection h2 with h2 _
      subst h1 h2
      simp only [cf, Int.mul_one, Int.mul_zero, Int.add_zero]
      exact ⟨trivial, trivial, by omega, by omega, by omega⟩
  | t :: ts, p', q', p, q, P, Q, h => by
    unfold foldR at h
    split at h
    · cases h
    · obtain ⟨h1, h2, h3⟩ := foldR_cf ts p q (t * p + p') (t * q + q') P Q h
      refine ⟨?_, ?_, h3⟩
      · rw [h1]; simp only [cf, Int.add_mul, Int.mul_add, Int.mul_assoc, Int.mul_left_comm]; omega
      · rw [h2]; simp only [cf, Int.add_mul, Int.mul_add, Int.mul_assoc, Int.mul_left_comm]; omega

/-- Terms in the one form: all at least 1, the last one at least 2. -/
def Tidy (ts : List Int) : Prop := (∀ t ∈ ts, 1 ≤ t) ∧ (ts = [] ∨ 2 ≤ ts.getD (ts.length - 1) 0)
theorem Tidy.tail {t : Int} {ts : List Int} (h : Tidy (t :: ts)) : Tidy ts := by
  obtain ⟨h1, h2⟩ := h
  refine ⟨fun x hx => h1 x (List.mem_cons_of_mem _ hx), ?_⟩
  rcases ts with _ | ⟨u, us⟩
  · exact .inl rfl
  · right
    rcases h2 with h2 | h2
    · cases h2
    · simpa using h2
theorem cf_pos : ∀ ts : List Int, (∀ t ∈ ts, 1 ≤ t) → 1 ≤ (cf ts).1 ∧ 0 ≤ (cf ts).2
  | [], _ => by simp [cf]
  | t :: ts, h => by
    obtain ⟨h1, h2⟩ := cf_pos ts fun x hx => h x (List.mem_cons_of_mem _ hx)
    have h3 := h t (List.mem_cons_self ..)
    have h4 : 1 * (cf ts).1 ≤ t * (cf ts).1 := Int.mul_le_mul_of_nonneg_right h3 (by omega)
    simp only [cf]
    omega
theorem cf_lt : ∀ ts : List Int, Tidy ts → (cf ts).2 < (cf ts).1 ∧ (ts ≠ [] → 1 ≤ (cf ts).2)
  | [], _ => by simp [cf]
  | t :: ts, h => by
    obtain ⟨h1, h2⟩ := cf_lt ts h.tail
    obtain ⟨h3, h4⟩ := cf_pos ts h.tail.1
    have h5 := h.1 t (List.mem_cons_self ..)
    simp only [cf]
    refine ⟨?_, fun _ => h3⟩
    rcases ts with _ | ⟨u, us⟩
    · have : 2 ≤ t := by
        rcases h.2 with h6 | h6
        · cases h6
        · simpa using h6
      simp only [cf] at *
      omega
    · have h7 := h2 (by simp)
      have h8 : 1 * (cf (u :: us)).1 ≤ t * (cf (u :: us)).1 := Int.mul_le_mul_of_nonneg_right h5 (by omega)
      omega
/-- One fraction, one list. -/
theorem cf_one : ∀ (ts us : List Int) (t u : Int), Tidy ts → Tidy us → cf (t :: ts) = cf (u :: us) → t = u ∧ ts = us
  | ts, us, t, u, ht, hu, h => by
    simp only [cf] at h
    injection h with h1 h2
    obtain ⟨a1, a2⟩ := cf_pos ts ht.1
    obtain ⟨b1, b2⟩ := cf_pos us hu.1
    obtain ⟨a3, a4⟩ := cf_lt ts ht
    obtain ⟨b3, b4⟩ := cf_lt us hu
    rw [h2] at h1 a1 a3
    have e1 : (cf ts).2 = (cf us).2 := by
      have k1 := Int.emod_eq_of_lt a2 a3
      have k2 := Int.emod_eq_of_lt b2 b3
      rw [← k1, ← k2, ← Int.add_mul_emod_self_right (cf ts).2 t (cf us).1, ← Int.add_mul_emod_self_right (cf us).2 u (cf us).1]
      rw [show (cf ts).2 + t * (cf us).1 = (cf us).2 + u * (cf us).1 by omega]
    have e2 : t = u := Int.eq_of_mul_eq_mul_right (show (cf us).1 ≠ 0 by omega) (by omega)
    refine ⟨e2, ?_⟩
    rcases ts with _ | ⟨t', ts⟩
    · rcases us with _ | ⟨u', us⟩
      · rfl
      · have := b4 (by simp)
        rw [← e1] at this
        simp [cf] at this
    · rcases us with _ | ⟨u', us⟩
      · have := a4 (by simp)
        rw [e1] at this
        simp [cf] at this
      · obtain ⟨rfl, rfl⟩ := cf_one ts us t' u' ht.tail hu.tail (Prod.ext h2 e1)
        rfl
theorem cf_gcd : ∀ ts : List Int, Nat.gcd (cf ts).1.natAbs (cf ts).2.natAbs = 1
  | [] => rfl
  | t :: ts => by
    have h := cf_gcd ts
    simp only [cf]
    have h1 : Int.gcd (t * (cf ts).1 + (cf ts).2) (cf ts).1 = Int.gcd (cf ts).1 (cf ts).2 := by
      rw [Int.add_comm, Int.gcd_add_mul_right_left, Int.gcd_comm]
    exact h1.trans h

theorem folV_ok {xs : List Int} {P Q : Int} (h : folV xs = (P, Q, 0)) : ∃ t ts, xs = t :: ts ∧ (∀ x ∈ ts, 1 ≤ x) ∧ cf xs = (P, Q) ∧ 1 ≤ Q ∧ Q ≤ 1073741824 ∧ P ≤ 1073741824 ∧ -1073741824 ≤ P := by
  unfold folV at h
  split at h
  · rename_i hc
    unfold chkT at hc
    simp only [Bool.and_eq_true, decide_eq_true_eq, List.all_eq_true] at hc
    obtain ⟨⟨⟨c1, c2⟩, c3⟩, c4⟩ := hc
    rcases xs with _ | ⟨t, ts⟩
    · simp at c1
    · have h5 : ∀ x ∈ ts, 1 ≤ x := fun x hx => (inR_iff.1 (c4 x (by simpa using hx))).1
      obtain ⟨h1, h2, h3, h4⟩ := foldR_cf _ _ _ _ _ _ _ h
      have h6 := (cf_pos ts h5).1
      simp only [List.drop_succ_cons, List.drop_zero, List.getD_cons_zero] at h1 h2
      refine ⟨t, ts, rfl, h5, ?_, by omega, h3, h4⟩
      simp only [cf]
      exact Prod.ext (by omega) (by omega)
  · cases h

/-- Beyond the limit there is no way back. -/
theorem foldR_far : ∀ (ts : List Int) (p' q' p q : Int), (∀ t ∈ ts, 1 ≤ t) → (0 ≤ p' ∧ 1073741824 < p ∨ p' ≤ 0 ∧ p < -1073741824) → foldR ts p' q' p q = (0, 0, 2)
  | [], p', q', p, q, h, hc => by
    unfold foldR
    rw [if_pos (by omega)]
  | t :: ts, p', q', p, q, h, hc => by
    unfold foldR
    split
    · rfl
    · have h1 := h t (List.mem_cons_self ..)
      refine foldR_far ts p q (t * p + p') (t * q + q') (fun x hx => h x (List.mem_cons_of_mem _ hx)) ?_
      rcases hc with hc | hc
      · have : 1 * p ≤ t * p := Int.mul_le_mul_of_nonneg_right h1 (by omega)
        omega
      · have : 1 * (-p) ≤ t * (-p) := Int.mul_le_mul_of_nonneg_right h1 (by omega)
        have e : t * -p = -(t * p) := Int.mul_neg t p
        omega
theorem foldR_farq (ts : List Int) (p' q' p q : Int) (h : 1073741824 < q) : foldR ts p' q' p q = (0, 0, 2) := by
  rcases ts with _ | ⟨t, ts⟩
  · unfold foldR; rw [if_pos (by omega)]
  · unfold foldR; rw [if_pos h]
end Go.Proofs.YtpgnheankmlnfaaDoor
