/- Plain laws of convergents: what the fractions of the first terms are. -/
import Derived.Test.YtpgnheankmlnfaaDoorLaw
namespace Go.Proofs.YtpgnheankmlnfaaDoor
open Go.RowKit
set_option linter.unusedVariables false

theorem exT_len {a b o : Nat} (ha : 0 < a) (hb : 0 < b) (hw : isW a b 1 = false) (k : Nat) : ∀ {up ap : Int} {aq : Nat} {lp : Int} {lq : Nat}, Conv a b o up ap aq lp lq → 2 * o < (aq + lq) * 2 ^ k → (exT a b o ap aq lp lq up).length < 2 * k := by
  induction k with
  | zero =>
    intro up ap aq lp lq h hs
    have := h.a1
    have := h.l1
    omega
  | succ k ih =>
    intro up ap aq lp lq h hs
    obtain ⟨⟨xp, xq, t⟩, hx⟩ : ∃ x, inT a b o up lp lq ap aq 0 = x := ⟨_, rfl⟩
    by_cases hc : xq ≤ o
    · obtain ⟨g1, g2, g3, g4⟩ := h.step ha hb hw hx hc
      rw [exT_on hx hc g1 h.l1]
      have l0 := h.l0
      have t1 : 1 ≤ t := by
        by_cases ht : 1 ≤ t
        · exact ht
        · have : t * (lq : Int) ≤ 0 * lq := Int.mul_le_mul_of_nonneg_right (by omega) (by omega)
          omega
      have e1 : 1 * (lq : Int) ≤ t * lq := Int.mul_le_mul_of_nonneg_right t1 (by omega)
      obtain ⟨⟨yp, yq, u⟩, hy⟩ : ∃ x, inT a b o (-up) xp xq lp lq 0 = x := ⟨_, rfl⟩
      by_cases hd : yq ≤ o
      · obtain ⟨k1, k2, k3, k4⟩ := g4.step ha hb hw hy hd
        rw [exT_on hy hd k1 g4.l1]
        have u1 : 1 ≤ u := by
          by_cases hu : 1 ≤ u
          · exact hu
          · have : u * (xq : Int) ≤ 0 * xq := Int.mul_le_mul_of_nonneg_right (by omega) (by omega)
            omega
        have e2 : 1 * (xq : Int) ≤ u * xq := Int.mul_le_mul_of_nonneg_right u1 (by omega)
        have hsum : 2 * (aq + lq) ≤ xq + yq := by omega
        have hs2 : 2 * o < (xq + yq) * 2 ^ k := by
          have := Nat.mul_le_mul_right (2 ^ k) hsum
          rw [Nat.pow_succ] at hs
          have e3 : (aq + lq) * (2 ^ k * 2) = 2 * (aq + lq) * 2 ^ k := by rw [Nat.mul_comm (2 ^ k) 2, ← Nat.mul_assoc, Nat.mul_comm (aq + lq) 2]
          omega
        have := ih k4 hs2
        simp only [List.length_cons]
        omega
      · rw [exT_off hy (by omega)]
        simp only [List.length_cons, List.length_nil]
        rcases k with _ | k
        · exfalso
          rw [Nat.zero_add, Nat.pow_one] at hs
          omega
        · omega
    · rw [exT_off hx (by omega)]
      simp
theorem exT_mem {a b o : Nat} (ha : 0 < a) (hb : 0 < b) (hw : isW a b 1 = false) (n : Nat) : ∀ {up ap : Int} {aq : Nat} {lp : Int} {lq : Nat}, Conv a b o up ap aq lp lq → (exT a b o ap aq lp lq up).length ≤ n → ∀ x ∈ exT a b o ap aq lp lq up, 1 ≤ x ∧ x ≤ o := by
  induction n with
  | zero =>
    intro up ap aq lp lq h hn x hx
    rw [List.eq_nil_of_length_eq_zero (show (exT a b o ap aq lp lq up).length = 0 by omega)] at hx
    cases hx
  | succ n ih =>
    intro up ap aq lp lq h hn x hm
    obtain ⟨⟨xp, xq, t⟩, hx⟩ : ∃ x, inT a b o up lp lq ap aq 0 = x := ⟨_, rfl⟩
    by_cases hc : xq ≤ o
    · obtain ⟨g1, g2, g3, g4⟩ := h.step ha hb hw hx hc
      rw [exT_on hx hc g1 h.l1] at hm hn
      have l0 := h.l0
      rcases List.mem_cons.1 hm with rfl | hm
      · constructor
        · by_cases ht : 1 ≤ x
          · exact ht
          · have : x * (lq : Int) ≤ 0 * lq := Int.mul_le_mul_of_nonneg_right (by omega) (by omega)
            omega
        · by_cases ht : 0 ≤ x
          · have : x * 1 ≤ x * (lq : Int) := Int.mul_le_mul_of_nonneg_left (by omega) ht
            omega
          · omega
      · exact ih g4 (by simpa using hn) x hm
    · rw [exT_off hx (by omega)] at hm
      cases hm

/-- The fraction of the first terms, as the law asks for it. -/
structure ConvOk (a b o : Nat) (xs : List Int) (i : Nat) (P : Int) (Q : Nat) (P' : Int) (Q' : Nat) : Prop where
  fold : folV (xs.take (i + 1)) = (P, (Q : Int), 0)
  q1 : 1 ≤ Q
  qo : Q ≤ o
  p0 : -4096 ≤ P
  p1 : P ≤ 4096
  even : i % 2 = 0 → 0 ≤ sd a b Q P
  odd : i % 2 = 1 → sd a b Q P ≤ 0
  zero : sd a b Q P = 0 → i + 1 = xs.length
  last : i + 1 = xs.length → (nearS a b o).1 = P ∧ (nearS a b o).2.1 = Q ∨ (nearS a b o).2.2.1 = P ∧ (nearS a b o).2.2.2 = Q
  prev : 0 < i → folV (xs.take i) = (P', (Q' : Int), 0)
  det : 0 < i → P * Q' - P' * Q = if i % 2 = 1 then 1 else -1

theorem expL_conv {a b o : Nat} (h : askO a b o = true) : 1 ≤ (expL a b o).length ∧ (expL a b o).length ≤ 16 ∧ ∀ i, i < (expL a b o).length → ∃ P Q P' Q', ConvOk a b o (expL a b o) i P Q P' Q' := by
  obtain ⟨a0, a1, b0, b1, o0, o1⟩ := askO_nat h
  obtain ⟨f1, f2⟩ := flo_12 a0 b0 a1 b1
  have e : expL a b o = flo a b 1 :: (if isW a b 1 = true then [] else exT a b o 1 0 (flo a b 1) 1 1) := by unfold expL; rw [if_pos h]; rfl
  rw [e]
  cases hw : isW a b 1
  · rw [if_neg (by decide)]
    have hc := conv_start a0 b0 a1 b1 hw o0
    have hlen := exT_len a0 b0 hw 8 hc (by omega)
    have hmem := exT_mem a0 b0 hw _ hc (Nat.le_refl _)
    obtain ⟨ts, hts⟩ : ∃ ts, exT a b o 1 0 (flo a b 1) 1 1 = ts := ⟨_, rfl⟩
    have hco := fun i => conv_ok a0 b0 hw o1 i hc
    rw [hts] at hlen hmem hco ⊢
    have hfold : ∀ i, i ≤ ts.length → folV ((flo a b 1 :: ts).take (i + 1)) = foldR (ts.take i) 1 0 (flo a b 1) 1 := fun i hi => by
      unfold folV
      rw [List.take_succ_cons, if_pos]
      · rfl
      · refine chkT_iff.2 ⟨by simp, by rw [List.length_cons, List.length_take]; omega, by simp only [List.getD_cons_zero]; omega, ?_⟩
        rw [List.drop_succ_cons, List.drop_zero, List.all_eq_true]
        intro x hx
        have := hmem x (List.mem_of_mem_take hx)
        exact inR_iff.2 (by omega)
    refine ⟨by simp, by rw [List.length_cons]; omega, fun i hi => ?_⟩
    rw [List.length_cons] at hi
    obtain ⟨ap', aq', lp', lq', c1, c2, c3, c4, c5⟩ := hco i (by omega)
    have hal := alt_ok 1 i
    have hne := sd_ne (m := lp') (q := lq') a0 b0 c2.l0 hw
    have hsl := c2.sl
    have hu := c2.u
    have q0 := c2.p0
    have q1 := c2.p1
    have ql := c2.l1
    refine ⟨lp', lq', ap', aq', by rw [hfold i (by omega)]; exact c1, c2.l0, c2.l1, by omega, by omega, fun he => ?_, fun he => ?_, fun hz => absurd hz hne, fun hl => ?_, fun h0 => ?_, fun h0 => ?_⟩
    · rw [if_pos he] at hal; omega
    · rw [if_neg (by omega)] at hal; omega
    · rw [List.length_cons] at hl
      exact c2.last a0 b0 hw o0 (c5 (by omega))
    · have := hfold (i - 1) (by omega)
      rw [show i - 1 + 1 = i by omega] at this
      rw [this]; exact c4 h0
    · rw [c2.det, hal]
      by_cases he : i % 2 = 0
      · rw [if_pos he, if_neg (by omega)]
      · rw [if_neg he, if_pos (by omega)]; rfl
  · rw [if_pos rfl]
    refine ⟨by simp, by simp, fun i hi => ?_⟩
    obtain rfl : i = 0 := by simpa using hi
    have hz := isW_iff.1 hw
    refine ⟨flo a b 1, 1, 0, 0, ?_, by omega, o0, by omega, by omega, fun _ => by omega, fun h => by omega, fun _ => rfl, fun _ => ?_, fun h0 => absurd h0 (by omega), fun h0 => absurd h0 (by omega)⟩
    · unfold folV
      rw [if_pos]
      · show foldR [] 1 0 (flo a b 1) 1 = _
        unfold foldR
        rw [if_neg (by omega)]
        rfl
      · exact chkT_iff.2 ⟨by simp, by simp, by simp only [List.take_succ_cons, List.getD_cons_zero]; omega, by simp⟩
    · rw [nearS_whole hw]; exact .inl ⟨rfl, rfl⟩
end Go.Proofs.YtpgnheankmlnfaaDoor
