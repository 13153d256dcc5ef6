/- The walk over exact.Power. -/
import Derived.Test.YtpgnheankmlnfaaDoorExactC
namespace Go.Proofs.YtpgnheankmlnfaaDoor
open Go.RowKit
set_option linter.unusedVariables false

/-- How many binary digits an integer can have. -/
def lim : Nat := 3072
def way : Nat := 300
theorem lim_eq : lim = 3072 := rfl
theorem way_eq : way = 300 := rfl
theorem pow24 (k : Nat) : (16777216 : Nat) ^ k = 2 ^ (24 * k) := by rw [show (16777216 : Nat) = 2 ^ 24 from rfl, ← Nat.pow_mul]
theorem lim24 : 24 * 128 = lim := rfl
attribute [irreducible] lim way
/-- What Power returns. -/
def powV (x : Int) (n : Nat) : Int := if x.natAbs ^ n < 2 ^ lim then x ^ n else 0
def powE (x : Int) (n : Nat) : Int := if x.natAbs ^ n < 2 ^ lim then 0 else 2

set_option maxRecDepth 100000 in
set_option maxHeartbeats 1000000 in
theorem power_arg (s : Bool) (A : Option Addr) (l c : Nat) (x n : Int) (w : World) (h : IsZ w s A l c x) (hl : l ≤ 128) (hn : n < 0 ∨ 4096 < n) :
    Calls Tryd.prog 75 #[.agg #[.bool s, .slice A l c], .int .i64 n] w (RetZE 0 1 w) := by
  have H := Lib.hid h
  clear h
  have e0 : w.heap.size < w.heap.size + 1 + 1 := by omega
  rcases hn with hn | hn
  case' inl => have b1 : decide (n < 0) = true := decide_eq_true hn
  case' inr =>
    have b1 : decide (n < 0) = false := decide_eq_false (by omega)
    have b2 : decide (4096 < n) = true := decide_eq_true hn
  all_goals
    go_enter Tryd.func75, Tryd.ntmps75
    go_wp2_with fail
    refine (check_ok _ _ _ _ _ _ (H.out.below (below_alloc (below_alloc (Below.refl _ _) _) _)) hl).mono ?_
    rintro e w1 ⟨rfl, hq1⟩
    obtain ⟨hc_hq1, hf_hq1⟩ := bcell hq1; have sz_hq1 : w.heap.size + 2 ≤ w1.heap.size := (by have := hq1.size; (try simp at this); omega); have s0_hq1 : w.heap.size < w1.heap.size := (by omega); have s1_hq1 : w.heap.size + 1 < w1.heap.size := (by omega)
    go_wp2_with fail
    refine bodyPost_retZE (w2 := w1) Tryd.results75 rfl rfl rfl (x0 := .bool false) (x1 := .slice none 0 0) (by simp [go_sem, hc_hq1]) (by simp [go_sem, hc_hq1]) (NoInt.bool _) (NoInt.slice _ _ _) (IsZ.zero _ _) (below_call (below_alloc (below_alloc (Below.refl _ _) _) _) hq1) (by omega)

theorem pow_step (x : Int) (n j : Nat) : x ^ (n / 2 ^ (j + 1)) * x ^ (n / 2 ^ (j + 1)) = if (n / 2 ^ j) % 2 = 1 then x ^ (n / 2 ^ j - 1) else x ^ (n / 2 ^ j) := by
  rw [← Int.pow_add, Nat.pow_succ, ← Nat.div_div_eq_div_mul]
  generalize n / 2 ^ j = m
  split <;> congr 1 <;> omega
theorem pow_odd (x : Int) (e : Nat) (h : e % 2 = 1) : x ^ (e - 1) * x = x ^ e := by
  rw [← Int.pow_succ]
  congr 1
  omega
theorem and_at (n j : Nat) (hn : n ≤ 4096) (hj : j ≤ 12) : bits .and .i64 (n : Int) ((2 ^ j : Nat) : Int) = if (n / 2 ^ j) % 2 = 1 then ((2 ^ j : Nat) : Int) else 0 := by
  have h2 : 2 ^ j ≤ 2 ^ 12 := Nat.pow_le_pow_right (by decide) hj
  have e := (bits_nat .i64 63 (by decide) (fun z h0 h1 => by rw [IntKind.wrap_i64]; omega) n (2 ^ j) (by omega) (by omega)).1
  have t : n.testBit j = decide ((n / 2 ^ j) % 2 = 1) := by rw [Nat.testBit_eq_decide_div_mod_eq]
  have k : n &&& 2 ^ j = if n.testBit j then 2 ^ j else 0 := by
    apply Nat.eq_of_testBit_eq
    intro i
    rw [Nat.testBit_and, Nat.testBit_two_pow]
    by_cases hji : j = i
    · subst hji
      cases hb : n.testBit j <;> simp
    · cases hb : n.testBit j <;> simp [hji]
  rw [e, k, t]
  by_cases h : n / 2 ^ j % 2 = 1
  · rw [if_pos h, decide_eq_true h]; rfl
  · rw [if_neg h, decide_eq_false h]; rfl
/-- The count that is left of n factors, where x is 0, 1 or -1. -/
theorem pow_small (x : Int) (n : Nat) (hx : x.natAbs ≤ 1) (hn : 2 < n) : x ^ (2 - n % 2) = x ^ n := by
  obtain ⟨k, hk⟩ : ∃ k, n = (2 - n % 2) + 2 * k := ⟨(n - (2 - n % 2)) / 2, by omega⟩
  rcases (show x = 0 ∨ x = 1 ∨ x = -1 by omega) with rfl | rfl | rfl
  · rw [Int.zero_pow (by omega), Int.zero_pow (by omega)]
  · rw [Int.one_pow, Int.one_pow]
  · conv => rhs; rw [hk, Int.pow_add, Int.pow_mul, show (-1 : Int) ^ 2 = 1 from rfl, Int.one_pow, Int.mul_one]
/-- The binary digit at hand: 2^(j-1), and 0 behind the last one. -/
def atJ (j : Nat) : Nat := 2 ^ j / 2
theorem atJ_zero : atJ 0 = 0 := rfl
theorem atJ_succ (j : Nat) : atJ (j + 1) = 2 ^ j := by unfold atJ; rw [Nat.pow_succ]; omega
theorem atJ_half (j : Nat) : atJ (j + 1) / 2 = atJ j := by rw [atJ_succ]; rfl
theorem atJ_le {j : Nat} (h : j ≤ 13) : atJ j ≤ 4096 := by
  cases j with
  | zero => decide
  | succ j =>
    rw [atJ_succ]
    have : 2 ^ j ≤ 2 ^ 12 := Nat.pow_le_pow_right (by decide) (by omega)
    omega
theorem atJ_pos (j : Nat) : 0 < atJ (j + 1) := by rw [atJ_succ]; exact Nat.two_pow_pos j
theorem and_atJ (n j : Nat) (hn : n ≤ 4096) (hj : j ≤ 12) : (bits .and .i64 (n : Int) (atJ (j + 1) : Int) != 0) = decide ((n / 2 ^ j) % 2 = 1) := by
  have hp := Nat.two_pow_pos j
  rw [atJ_succ, and_at n j hn hj]
  by_cases h : n / 2 ^ j % 2 = 1
  · rw [if_pos h, decide_eq_true h, bne_iff_ne]; omega
  · rw [if_neg h, decide_eq_false h]; rfl
theorem natAbs_pow' (x : Int) (n : Nat) : (x ^ n).natAbs = x.natAbs ^ n := Int.natAbs_pow x n
theorem powV_of {x : Int} {m n : Nat} (h : x ^ m = x ^ n) : powV x n = powV x m ∧ powE x n = powE x m := by
  unfold powV powE
  rw [← natAbs_pow', ← natAbs_pow', h]
  exact ⟨rfl, rfl⟩
/-- How great the powers on the way can be. -/
theorem pow_way {m e n : Nat} (hn : n ≤ 4096) (he : e ≤ n) (h : bl m ≤ 1 ∨ (bl m - 1) * n < 3072) : m ^ e < 16777216 ^ way := by
  have h1 := bl_lt m
  rw [pow24]
  have e1 := way_eq
  rcases h with h | h
  · have : m ≤ 1 := by
      have : 2 ^ bl m ≤ 2 ^ 1 := Nat.pow_le_pow_right (by decide) h
      omega
    have h2 : m ^ e ≤ 1 ^ e := Nat.pow_le_pow_left this e
    rw [Nat.one_pow] at h2
    exact Nat.lt_of_le_of_lt h2 (Nat.one_lt_two_pow (by omega))
  · have h2 : m ^ e ≤ (2 ^ bl m) ^ e := Nat.pow_le_pow_left (Nat.le_of_lt h1) e
    rw [← Nat.pow_mul] at h2
    refine Nat.lt_of_le_of_lt h2 (Nat.pow_lt_pow_right (by decide) ?_)
    have h3 : bl m * e ≤ bl m * n := Nat.mul_le_mul_left _ he
    by_cases hb : bl m = 0
    · rw [hb]; omega
    · obtain ⟨k, hk⟩ : ∃ k, bl m = k + 1 := ⟨bl m - 1, by omega⟩
      rw [hk] at h h3 ⊢
      rw [Nat.add_sub_cancel] at h
      have h4 : (k + 1) * n = k * n + n := by rw [Nat.add_mul, Nat.one_mul]
      omega
/-- Too great without being calculated. -/
theorem pow_big {m n : Nat} (h : 3072 ≤ (bl m - 1) * n) : 2 ^ lim ≤ m ^ n := by
  have hm : m ≠ 0 := fun e => by subst e; simp [bl] at h
  have h1 := bl_ge hm
  have h2 : (2 ^ (bl m - 1)) ^ n ≤ m ^ n := Nat.pow_le_pow_left h1 n
  rw [← Nat.pow_mul] at h2
  exact Nat.le_trans (Nat.pow_le_pow_right (by decide) (by rw [lim_eq]; exact h)) h2
theorem fits_iff (m : Nat) : (dig m).length ≤ 128 ↔ m < 2 ^ lim := by
  rw [dig_length_le_iff]
  rw [pow24, lim24]

set_option maxRecDepth 100000 in
set_option maxHeartbeats 4000000 in
theorem power_any (s : Bool) (A : Option Addr) (l c : Nat) (x : Int) (n : Nat) (w : World) (h : IsZ w s A l c x) (hl : l ≤ 128) (hn : n ≤ 4096) :
    Calls Tryd.prog 75 #[.agg #[.bool s, .slice A l c], .int .i64 n] w (RetZE (powV x n) (powE x n) w) := by
  have H := Lib.hid h
  clear h
  have e0 : w.heap.size < w.heap.size + 1 + 1 := by omega
  have b1 : decide ((n : Int) < 0) = false := decide_eq_false (by omega)
  have b2 : decide (4096 < (n : Int)) = false := decide_eq_false (by omega)
  obtain ⟨W, hW⟩ : ∃ W, bl x.natAbs = W := ⟨_, rfl⟩
  have HW := Lib.hid hW
  have hWb : W ≤ 3072 := by
    rw [← hW]
    have := (fits_iff x.natAbs).1 (by rw [H.out.2.1]; exact hl)
    have k := bl_le this
    rw [lim_eq] at k
    exact k
  clear hW
  have hp : 1 ≤ W → ((W : Int) - 1) * n = (((W - 1) * n : Nat) : Int) := fun h => by
    rw [Int.natCast_mul]
    congr 1
    omega
  have hq : (W - 1) * n ≤ 3072 * 4096 := Nat.mul_le_mul (by omega) hn
  by_cases hbig : 1 < W ∧ 3072 ≤ (W - 1) * n
  · have HBig := Lib.hid (pow_big (m := x.natAbs) (n := n) (by rw [HW.out]; exact hbig.2))
    obtain ⟨hb1, hb2⟩ := hbig
    have ew := hp (by omega)
    have p0 : 3072 ≤ ((W : Int) - 1) * n := by rw [ew]; omega
    have p1 : ((W : Int) - 1) * n ≤ 13000000 := by rw [ew]; omega
    clear hp hq hb2 ew
    go_enter Tryd.func75, Tryd.ntmps75
    go_wp2_with fail
    refine (check_ok _ _ _ _ _ _ (H.out.below (below_alloc (below_alloc (Below.refl _ _) _) _)) hl).mono ?_
    rintro e w1 ⟨rfl, hq1⟩
    obtain ⟨hc_hq1, hf_hq1⟩ := bcell hq1; have sz_hq1 : w.heap.size + 2 ≤ w1.heap.size := (by have := hq1.size; (try simp at this); omega); have s0_hq1 : w.heap.size < w1.heap.size := (by omega); have s1_hq1 : w.heap.size + 1 < w1.heap.size := (by omega)
    have H1 := Lib.hid (H.out.below (below_call (below_alloc (below_alloc (Below.refl _ _) _) _) hq1))
    go_wp2_with fail
    refine (width_any _ _ _ _ _ H1.out.2 (by omega)).mono ?_
    rintro e w' ⟨rfl, rfl⟩
    rw [HW.out]
    go_wp2_with fail
    have hbb := HBig.out
    have ev : powV x n = 0 := by unfold powV; rw [if_neg (by omega)]
    have ee : powE x n = 2 := by unfold powE; rw [if_neg (by omega)]
    rw [ev, ee]
    exact bodyPost_retZE (w2 := w1) Tryd.results75 rfl rfl rfl (x0 := .bool false) (x1 := .slice none 0 0) (by simp [go_sem, hc_hq1]) (by simp [go_sem, hc_hq1]) (NoInt.bool _) (NoInt.slice _ _ _) (IsZ.zero _ _) (below_call (below_alloc (below_alloc (Below.refl _ _) _) _) hq1) (by omega)
  · have hway : ∀ e, e ≤ n → Hid ((dig (x.natAbs ^ e)).length ≤ 300) := fun e he => by
      refine Lib.hid ?_
      rw [← way_eq]
      exact dig_length_le (pow_way hn he (by rw [HW.out]; omega))
    have HWay := Lib.hid hway
    clear hway
    have hM : Hid (∃ M : Nat, M ≤ n ∧ x ^ M = x ^ n ∧ M = if W ≤ 1 ∧ 2 < n then 2 - n % 2 else n) := by
      by_cases hsm : W ≤ 1 ∧ 2 < n
      · refine ⟨2 - n % 2, by omega, pow_small x n ?_ hsm.2, by rw [if_pos hsm]⟩
        have h1 := bl_lt x.natAbs
        rw [HW.out] at h1
        have : 2 ^ W ≤ 2 ^ 1 := Nat.pow_le_pow_right (by decide) hsm.1
        omega
      · exact ⟨n, Nat.le_refl _, rfl, by rw [if_neg hsm]⟩
    obtain ⟨M, hMn, hMx, hMe⟩ := hM.out
    rw [(powV_of hMx).1, (powV_of hMx).2]
    clear hM hMx
    have q0 := hp
    by_cases hw1 : 1 < W
    case' pos =>
      have p0 : 0 ≤ ((W : Int) - 1) * n := by rw [hp (by omega)]; omega
      have p1 : ((W : Int) - 1) * n < 3072 := by rw [hp (by omega)]; omega
      obtain rfl : M = n := by rw [hMe, if_neg (by omega)]
    case' neg =>
      by_cases hn2 : 2 < n
      case' pos => have HMe := Lib.hid (show (2 - (n : Int) % 2) = (M : Int) by rw [hMe, if_pos (by omega)]; omega)
      case' neg => obtain rfl : M = n := by rw [hMe, if_neg (by omega)]
    all_goals
      clear hp hq hbig hMe q0
      go_enter Tryd.func75, Tryd.ntmps75
      go_wp2_with fail
      refine (check_ok _ _ _ _ _ _ (H.out.below (below_alloc (below_alloc (Below.refl _ _) _) _)) hl).mono ?_
      rintro e w1 ⟨rfl, hq1⟩
      obtain ⟨hc_hq1, hf_hq1⟩ := bcell hq1; have sz_hq1 : w.heap.size + 2 ≤ w1.heap.size := (by have := hq1.size; (try simp at this); omega); have s0_hq1 : w.heap.size < w1.heap.size := (by omega); have s1_hq1 : w.heap.size + 1 < w1.heap.size := (by omega)
      have H1 := Lib.hid (H.out.below (below_call (below_alloc (below_alloc (Below.refl _ _) _) _) hq1))
      go_wp2_with fail
      refine (width_any _ _ _ _ _ H1.out.2 (by omega)).mono ?_
      rintro e w' ⟨rfl, rfl⟩
      rw [HW.out]
      go_wp2_with fail
      refine (of_any 1 (by decide) (by decide) _).mono ?_
      rintro e w2 ⟨s2, A2, n2, c2, rfl, hz2, hq2⟩
      try rw [HMe.out]
      obtain ⟨g, hg⟩ : ∃ g, w2.heap.size = g := ⟨_, rfl⟩
      have HV0 : Hid (VarZ (w2.alloc (.cells #[.bool s2, .slice A2 n2 c2] 87)) g (x ^ (M / 2 ^ 13))) := by
        rw [Nat.div_eq_of_lt (show M < 2 ^ 13 by omega), ← hg, Int.pow_zero]
        exact VarZ.new hz2 _
      have HB0 : Hid (Below w.heap.size w w2) := below_call (below_call (below_alloc (below_alloc (Below.refl _ _) _) _) hq1) hq2
      have HX0 : Hid (VarZ w2 w.heap.size x) := by
        have k := (VarZ.new (H.out) 87).alloc (.cells #[.bool false, .slice none 0 0] 87)
        exact (k.below hq1).below hq2
      have HR0 : Hid (VarZ w2 (w.heap.size + 1) 0) := by
        have k := VarZ.new (IsZ.zero (w.alloc (.cells #[.bool s, .slice A l c] 87)) 0) 87
        rw [World.size_alloc] at k
        exact (k.below hq1).below hq2
      have hg1 : w.heap.size + 1 < g := by have := HR0.out.lt; omega
      clear hq1 hq2 hc_hq1 hf_hq1 sz_hq1 s0_hq1 s1_hq1 hz2 H1
      have HG := Lib.hid hg; clear hg
      go_wp2_with fail
      rw [HG.out]
      go_loopw [9] (fun s wr => ∃ j : Nat, j ≤ 13 ∧ s = .int .i64 (atJ j) ∧ Hid (VarZ wr g (x ^ (M / 2 ^ j))) ∧ Hid (VarZ wr w.heap.size x) ∧ Hid (VarZ wr (w.heap.size + 1) 0) ∧ Hid (Below w.heap.size w wr)) (fun s _ => (intOf s).toNat)
    all_goals try
      case atStart => exact ⟨13, Nat.le_refl _, rfl, HV0, HX0.out.alloc _, HR0.out.alloc _, below_alloc HB0.out _⟩
    all_goals
      clear HV0 HX0 HR0 HB0
      obtain ⟨j, hj, rfl, HV, HX, HR, HB⟩ := hrel
      cases j with
      | zero =>
        rw [atJ_zero]
        have hv := HV.out
        rw [Nat.pow_zero, Nat.div_one] at hv
        have hgl := hv.lt
        have hrl := HR.out.lt
        obtain ⟨s1, A1, n1, c1, h0, h1, f0, f1, hz⟩ := hv
        obtain ⟨s4, A4, n4, c4, r0, r1, k0, k1, hr⟩ := HR.out
        have HZ := Lib.hid hz
        clear hz hr
        have hfit := fits_iff (x ^ M).natAbs
        rw [HZ.out.2.1, natAbs_pow'] at hfit
        by_cases hf : n1 ≤ 128
        · have e1 : powV x M = x ^ M := by unfold powV; rw [if_pos (hfit.1 hf)]
          have e2 : powE x M = 0 := by unfold powE; rw [if_pos (hfit.1 hf)]
          have E1 := Lib.hid e1
          have E2 := Lib.hid e2
          clear e1 e2 hfit
          go_wp2_with fail
          refine (fits_any _ _ _ _ _ hf).mono ?_
          rintro e w3 ⟨rfl, hq3⟩
          obtain ⟨hc3, hf3⟩ := bcell hq3
          go_wp2_with fail
          rw [E1.out, E2.out]
          refine bodyPost_varZE (w2 := _) (B := w.heap.size + 1) Tryd.results75 rfl rfl rfl ((HR.out.below hq3).put (HZ.out.below hq3)) ?_
          exact below_setCell (below_setCell (below_call HB.out hq3) (by simp) _) (by simp) _
        · have e1 : powV x M = 0 := by unfold powV; rw [if_neg (fun k => hf (hfit.2 k))]
          have e2 : powE x M = 2 := by unfold powE; rw [if_neg (fun k => hf (hfit.2 k))]
          have E1 := Lib.hid e1
          have E2 := Lib.hid e2
          clear e1 e2 hfit
          go_wp2_with fail
          refine (fits_not _ _ _ _ _ (by omega)).mono ?_
          rintro e w3 ⟨rfl, hq3⟩
          obtain ⟨hc3, hf3⟩ := bcell hq3
          go_wp2_with fail
          rw [E1.out, E2.out]
          refine bodyPost_varZE (w2 := _) (B := w.heap.size + 1) Tryd.results75 rfl rfl rfl ((HR.out.below hq3).put (IsZ.zero _ _)) ?_
          exact below_setCell (below_setCell (below_call HB.out hq3) (by simp) _) (by simp) _
      | succ j =>
        have hat1 := atJ_le hj
        have hat0 := atJ_pos j
        obtain ⟨at', hat⟩ : ∃ k, atJ (j + 1) = k := ⟨_, rfl⟩
        have HAt := Lib.hid hat
        rw [hat] at hat0 hat1 ⊢
        clear hat
        have hgl := HV.out.lt
        obtain ⟨s1, A1, n1, c1, h0, h1, f0, f1, hz⟩ := HV.out
        have HZ := Lib.hid hz
        clear hz
        have hl1 : n1 ≤ 1000000 := by
          have k := HZ.out.2.1
          rw [natAbs_pow'] at k
          have := (HWay.out (M / 2 ^ (j + 1)) (Nat.le_trans (Nat.div_le_self _ _) hMn)).out
          omega
        go_wp2_with fail
        refine (mul_any _ _ _ _ _ _ _ _ _ _ _ HZ.out HZ.out hl1 hl1).mono ?_
        rintro e w3 ⟨s3, A3, n3, c3, rfl, hz3, hq3⟩
        rw [pow_step] at hz3
        have hand := and_atJ M j (by omega) (by omega)
        rw [HAt.out] at hand
        have HV3 := Lib.hid (HV.out.below hq3)
        have HX3 := Lib.hid (HX.out.below hq3)
        have HR3 := Lib.hid (HR.out.below hq3)
        have HB3 := Lib.hid (below_call HB.out hq3)
        clear h0 h1 f0 f1 hq3 HV HX HR HB HZ
        obtain ⟨_, _, _, _, h0, h1, f0, f1, _⟩ := HV3.out
        by_cases hodd : (M / 2 ^ j) % 2 = 1
        · rw [if_pos hodd] at hz3
          rw [decide_eq_true hodd] at hand
          have HZ3 := Lib.hid hz3
          clear hz3
          have hgx : g ≠ w.heap.size := by omega
          have hgx' : w.heap.size ≠ g := by omega
          obtain ⟨s5, A5, n5, c5, x0, x1, y0, y1, hzx⟩ := HX3.out
          have HZ4 := Lib.hid (two_isZ h0 h1 (NoInt.bool _) (NoInt.slice _ _ _) HZ3.out (.bool s3) (.slice A3 n3 c3))
          have HZX := Lib.hid (two_isZ h0 h1 (NoInt.bool _) (NoInt.slice _ _ _) hzx (.bool s3) (.slice A3 n3 c3))
          have HV4 := Lib.hid (HV3.out.put HZ3.out)
          have HX4 := Lib.hid (HX3.out.other HV3.out hgx' (.bool s3) (.slice A3 n3 c3))
          have HR4 := Lib.hid (HR3.out.other HV3.out (show w.heap.size + 1 ≠ g by omega) (.bool s3) (.slice A3 n3 c3))
          have HB4 := Lib.hid (below_setCell (below_setCell HB3.out (p := ⟨g, 0, none⟩) (by simp; omega) (.bool s3)) (p := ⟨g, 1, none⟩) (by simp; omega) (.slice A3 n3 c3))
          have hl3 : n3 ≤ 1000000 := by
            have k := HZ3.out.2.1
            rw [natAbs_pow'] at k
            have := (HWay.out (M / 2 ^ j - 1) (Nat.le_trans (Nat.sub_le _ _) (Nat.le_trans (Nat.div_le_self _ _) hMn))).out
            omega
          have hl5 : n5 ≤ 1000000 := by
            have k := hzx.2.1
            have := H.out.2.1
            omega
          clear hzx
          go_wp2_with fail
          refine (mul_any _ _ _ _ _ _ _ _ _ _ _ HZ4.out HZX.out hl3 hl5).mono ?_
          rintro e w5 ⟨s6, A6, n6, c6, rfl, hz6, hq6⟩
          rw [pow_odd _ _ hodd] at hz6
          have HZ6 := Lib.hid hz6
          have HV6 := Lib.hid (HV4.out.below hq6)
          have HX6 := Lib.hid (HX4.out.below hq6)
          have HR6 := Lib.hid (HR4.out.below hq6)
          have HB6 := Lib.hid (below_call HB4.out hq6)
          clear h0 h1 f0 f1 x0 x1 y0 y1 hz6 hq6
          obtain ⟨_, _, _, _, h0, h1, f0, f1, _⟩ := HV6.out
          go_wp2_with fail
          refine ⟨⟨j, by omega, congrArg (Value.int .i64) (by have := atJ_half j; rw [HAt.out] at this; omega), HV6.out.put HZ6.out, HX6.out.other HV6.out hgx' _ _, HR6.out.other HV6.out (by omega) _ _, below_setCell (below_setCell HB6.out (by simp; omega) _) (by simp; omega) _⟩, ?_⟩
          simp [intOf]
          omega
        · rw [if_neg hodd] at hz3
          rw [decide_eq_false hodd] at hand
          have HZ3 := Lib.hid hz3
          clear hz3
          go_wp2_with fail
          refine ⟨⟨j, by omega, congrArg (Value.int .i64) (by have := atJ_half j; rw [HAt.out] at this; omega), HV3.out.put HZ3.out, HX3.out.other HV3.out (by omega) _ _, HR3.out.other HV3.out (by omega) _ _, below_setCell (below_setCell HB3.out (by simp; omega) _) (by simp; omega) _⟩, ?_⟩
          simp [intOf]
          omega
end Go.Proofs.YtpgnheankmlnfaaDoor
