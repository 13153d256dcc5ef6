/- The walks over the reference's Low, High, Floor, Ceil, Whole, CheckFloor. The walks over the reference's Whole, CheckFloor, down, Coarse, Apart, Order. -/
import Derived.Test.YtpgnheankmlnfaaDoorRl
import Derived.Test.YtpgnheankmlnfaaDoorFloor
namespace Go.Proofs.YtpgnheankmlnfaaDoor
open Go.RowKit
set_option linter.unusedVariables false

theorem leaV_flo (a b q : Nat) : leaV (b ^ q) (a ^ q) = flo a b q := by
  have hw : (bl (a ^ q) : Int) - bl (b ^ q) = wid a b q := rfl
  unfold leaV flo sd
  rw [hw]
  split
  · rename_i h
    rw [show (wid a b q).toNat = bl (a ^ q) - bl (b ^ q) by omega]
    by_cases hc : 0 < cmpI ((b ^ q * 2 ^ (bl (a ^ q) - bl (b ^ q)) : Nat) : Int) ((a ^ q : Nat) : Int)
    · rw [if_pos hc, if_pos (by have := cmpI_neg ((a ^ q : Nat) : Int) ((b ^ q * 2 ^ (bl (a ^ q) - bl (b ^ q)) : Nat) : Int); omega)]
    · rw [if_neg hc, if_neg (by have := cmpI_neg ((a ^ q : Nat) : Int) ((b ^ q * 2 ^ (bl (a ^ q) - bl (b ^ q)) : Nat) : Int); omega)]
  · rename_i h
    rw [show (-wid a b q).toNat = bl (b ^ q) - bl (a ^ q) by omega]
    by_cases hc : 0 < cmpI ((b ^ q : Nat) : Int) ((a ^ q * 2 ^ (bl (b ^ q) - bl (a ^ q)) : Nat) : Int)
    · rw [if_pos hc, if_pos (by omega)]
    · rw [if_neg hc, if_neg (by omega)]

set_option maxRecDepth 100000 in
set_option maxHeartbeats 400000 in
theorem Low_any (a b q : Nat) (w : World) (ha0 : 0 < a) (ha : a ≤ 4095) (hb0 : 0 < b) (hb : b ≤ 4095) (hq : q ≤ 256) :
    Calls Tryd.prog 49 #[.int .i64 a, .int .i64 b, .int .i64 q] w fun e w' => e = .returned (.int .i64 (flo a b q)) ∧ Below w.heap.size w w' := by
  have HFA := Lib.hid (small_pow ha hq)
  have HFB := Lib.hid (small_pow hb hq)
  have HPA := Lib.hid (pow_pos' ha0 q)
  have HPB := Lib.hid (pow_pos' hb0 q)
  rw [← leaV_flo]
  obtain ⟨x, hx⟩ : ∃ x, a ^ q = x := ⟨_, rfl⟩
  obtain ⟨y, hy⟩ : ∃ y, b ^ q = y := ⟨_, rfl⟩
  rw [hx] at HFA HPA ⊢
  rw [hy] at HFB HPB ⊢
  have HX := Lib.hid hx
  have HY := Lib.hid hy
  clear hx hy
  go_enter Tryd.func49, Tryd.ntmps49
  go_wp2_with fail
  refine (rpower_any b q _ hb0 hb (by omega) (by rw [HY.out]; exact HFB.out)).mono ?_
  rintro e w1 ⟨s1, A1, n1, c1, rfl, hz1, hq1⟩
  rw [HY.out] at hz1
  have HB1 := Lib.hid hq1
  have HZ1 := Lib.hid hz1
  clear hz1 hq1
  go_wp2_with fail
  refine (rpower_any a q _ ha0 ha (by omega) (by rw [HX.out]; exact HFA.out)).mono ?_
  rintro e w2 ⟨s2, A2, n2, c2, rfl, hz2, hq2⟩
  rw [HX.out] at hz2
  have HZ2 := Lib.hid hz2
  have HZ3 := Lib.hid (HZ1.out.below hq2)
  have HB2 := Lib.hid (below_call HB1.out hq2)
  clear hz2 hq2
  go_wp2_with fail
  refine (least_any _ _ _ _ y _ _ _ _ x _ HZ3.out HZ2.out HPB.out HPA.out HFB.out HFA.out).mono ?_
  rintro e w3 ⟨rfl, hq3⟩
  have HB3 := Lib.hid (below_call HB2.out hq3)
  clear hq3
  go_wp2_with fail
  go_ret
  exact ⟨rfl, HB3.out⟩

set_option maxRecDepth 100000 in
set_option maxHeartbeats 400000 in
theorem High_any (a b q : Nat) (w : World) (ha0 : 0 < a) (ha : a ≤ 4095) (hb0 : 0 < b) (hb : b ≤ 4095) (hq : q ≤ 256) :
    Calls Tryd.prog 51 #[.int .i64 a, .int .i64 b, .int .i64 q] w fun e w' => e = .returned (.int .i64 (cei a b q)) ∧ Below w.heap.size w w' := by
  rw [cei_neg ha0 hb0]
  obtain ⟨h0, h1⟩ := flo_range hb ha hq
  obtain ⟨v, hv⟩ : ∃ v, flo b a q = v := ⟨_, rfl⟩
  rw [hv] at h0 h1 ⊢
  have HV := Lib.hid hv
  clear hv
  go_enter Tryd.func51, Tryd.ntmps51
  go_wp2_with fail
  refine (Low_any b a q _ hb0 hb ha0 ha hq).mono ?_
  rintro e w1 ⟨rfl, hq1⟩
  rw [HV.out]
  have HB1 := Lib.hid hq1
  clear hq1
  go_wp2_with fail
  go_ret
  exact ⟨rfl, HB1.out⟩

theorem cei_range {a b q : Nat} (ha0 : 0 < a) (ha : a ≤ 4095) (hb0 : 0 < b) (hb : b ≤ 4095) (hq : q ≤ 256) : -3072 ≤ cei a b q ∧ cei a b q ≤ 3073 := by
  rw [cei_neg ha0 hb0]
  obtain ⟨h0, h1⟩ := flo_range hb ha hq
  omega

set_option maxRecDepth 100000 in
set_option maxHeartbeats 400000 in
theorem rFloor_any (a b k : Int) (w : World) :
    Calls Tryd.prog 18 #[.int .i64 a, .int .i64 b, .int .i64 k] w fun e w' => e = .returned (.tuple #[.int .i64 (floV a b k), .int .i64 (askE (askF a b k))]) ∧ Below w.heap.size w w' := by
  cases h : askF a b k
  · have HA := Lib.hid h
    have HV : Hid (floV a b k = 0) := Lib.hid (by unfold floV; rw [h]; rfl)
    rw [HV.out]
    clear h
    go_enter Tryd.func18, Tryd.ntmps18
    go_wp2_with fail
    refine (Right_any _ _ _ _).mono ?_
    rintro e w1 ⟨rfl, hq1⟩
    rw [HA.out]
    have HB1 := Lib.hid hq1
    clear hq1
    go_wp2_with fail
    go_ret2
    exact ⟨rfl, HB1.out⟩
  · obtain ⟨⟨a0, a1⟩, ⟨b0, b1⟩, k0, k1⟩ := askF_iff.1 h
    obtain ⟨a, rfl⟩ : ∃ n : Nat, a = (n : Int) := ⟨a.toNat, by omega⟩
    obtain ⟨b, rfl⟩ : ∃ n : Nat, b = (n : Int) := ⟨b.toNat, by omega⟩
    obtain ⟨k, rfl⟩ : ∃ n : Nat, k = (n : Int) := ⟨k.toNat, by omega⟩
    have HA := Lib.hid h
    have HV : Hid (floV a b k = flo a b (2 ^ k)) := Lib.hid (by unfold floV; rw [h, if_pos rfl]; rfl)
    rw [HV.out]
    have h2 := two_le k (by omega)
    obtain ⟨q, hq⟩ : ∃ q, 2 ^ k = q := ⟨_, rfl⟩
    rw [hq] at h2 ⊢
    have HQ := Lib.hid hq
    clear h hq
    go_enter Tryd.func18, Tryd.ntmps18
    go_wp2_with fail
    refine (Right_any _ _ _ _).mono ?_
    rintro e w1 ⟨rfl, hq1⟩
    rw [HA.out]
    have HB1 := Lib.hid hq1
    clear hq1
    go_wp2_with fail
    refine (rpow_any k _ (by omega)).mono ?_
    rintro e w2 ⟨rfl, hq2⟩
    rw [HQ.out]
    have HB2 := Lib.hid (below_call HB1.out hq2)
    clear hq2
    go_wp2_with fail
    refine (Low_any a b q _ (by omega) (by omega) (by omega) (by omega) h2).mono ?_
    rintro e w3 ⟨rfl, hq3⟩
    have HB3 := Lib.hid (below_call HB2.out hq3)
    clear hq3
    go_wp2_with fail
    go_ret2
    exact ⟨rfl, HB3.out⟩

set_option maxRecDepth 100000 in
set_option maxHeartbeats 400000 in
theorem rCeil_any (a b k : Int) (w : World) :
    Calls Tryd.prog 20 #[.int .i64 a, .int .i64 b, .int .i64 k] w fun e w' => e = .returned (.tuple #[.int .i64 (ceiV a b k), .int .i64 (askE (askF a b k))]) ∧ Below w.heap.size w w' := by
  cases h : askF a b k
  · have HA := Lib.hid h
    have HV : Hid (ceiV a b k = 0) := Lib.hid (by unfold ceiV; rw [h]; rfl)
    rw [HV.out]
    clear h
    go_enter Tryd.func20, Tryd.ntmps20
    go_wp2_with fail
    refine (Right_any _ _ _ _).mono ?_
    rintro e w1 ⟨rfl, hq1⟩
    rw [HA.out]
    have HB1 := Lib.hid hq1
    clear hq1
    go_wp2_with fail
    go_ret2
    exact ⟨rfl, HB1.out⟩
  · obtain ⟨⟨a0, a1⟩, ⟨b0, b1⟩, k0, k1⟩ := askF_iff.1 h
    obtain ⟨a, rfl⟩ : ∃ n : Nat, a = (n : Int) := ⟨a.toNat, by omega⟩
    obtain ⟨b, rfl⟩ : ∃ n : Nat, b = (n : Int) := ⟨b.toNat, by omega⟩
    obtain ⟨k, rfl⟩ : ∃ n : Nat, k = (n : Int) := ⟨k.toNat, by omega⟩
    have HA := Lib.hid h
    have HV : Hid (ceiV a b k = cei a b (2 ^ k)) := Lib.hid (by unfold ceiV; rw [h, if_pos rfl]; rfl)
    rw [HV.out]
    have h2 := two_le k (by omega)
    obtain ⟨q, hq⟩ : ∃ q, 2 ^ k = q := ⟨_, rfl⟩
    rw [hq] at h2 ⊢
    have HQ := Lib.hid hq
    clear h hq
    go_enter Tryd.func20, Tryd.ntmps20
    go_wp2_with fail
    refine (Right_any _ _ _ _).mono ?_
    rintro e w1 ⟨rfl, hq1⟩
    rw [HA.out]
    have HB1 := Lib.hid hq1
    clear hq1
    go_wp2_with fail
    refine (rpow_any k _ (by omega)).mono ?_
    rintro e w2 ⟨rfl, hq2⟩
    rw [HQ.out]
    have HB2 := Lib.hid (below_call HB1.out hq2)
    clear hq2
    go_wp2_with fail
    refine (High_any a b q _ (by omega) (by omega) (by omega) (by omega) h2).mono ?_
    rintro e w3 ⟨rfl, hq3⟩
    have HB3 := Lib.hid (below_call HB2.out hq3)
    clear hq3
    go_wp2_with fail
    go_ret2
    exact ⟨rfl, HB3.out⟩
end Go.Proofs.YtpgnheankmlnfaaDoor
namespace Go.Proofs.YtpgnheankmlnfaaDoor
open Go.RowKit
set_option linter.unusedVariables false

theorem flo_eq_cei {a b q : Nat} : flo a b q = cei a b q ↔ isW a b q = true := by
  unfold cei
  split
  · rename_i h; exact ⟨fun _ => h, fun _ => rfl⟩
  · rename_i h; exact ⟨fun k => by omega, fun k => absurd k h⟩

set_option maxRecDepth 100000 in
set_option maxHeartbeats 400000 in
theorem rWhole_any (a b : Int) (w : World) :
    Calls Tryd.prog 22 #[.int .i64 a, .int .i64 b] w fun e w' => e = .returned (.tuple #[.int .i64 (whoV a b), .bool (whoB a b), .int .i64 (askE (askF a b 0))]) ∧ Below w.heap.size w w' := by
  cases hask : askF a b 0
  · have HA := Lib.hid hask
    have HV : Hid (whoV a b = 0 ∧ whoB a b = false ∧ askE false = 1) := ⟨by unfold whoV; rw [hask]; rfl, by unfold whoB; rw [hask]; rfl, rfl⟩
    clear hask
    go_enter Tryd.func22, Tryd.ntmps22
    go_wp2_with fail
    refine (Right_any _ _ _ _).mono ?_
    rintro e w1 ⟨rfl, hq1⟩
    rw [HA.out]
    have HB1 := Lib.hid hq1
    clear hq1
    go_wp2_with fail
    go_ret3
    rw [HV.out.1, HV.out.2.1, HV.out.2.2]
    exact ⟨rfl, HB1.out⟩
  · obtain ⟨⟨a0, a1⟩, ⟨b0, b1⟩, _, _⟩ := askF_iff.1 hask
    obtain ⟨a, rfl⟩ : ∃ n : Nat, a = (n : Int) := ⟨a.toNat, by omega⟩
    obtain ⟨b, rfl⟩ : ∃ n : Nat, b = (n : Int) := ⟨b.toNat, by omega⟩
    have HA := Lib.hid hask
    have hfc := flo_eq_cei (a := a) (b := b) (q := 1)
    obtain ⟨m, hm⟩ : ∃ m, flo a b 1 = m := ⟨_, rfl⟩
    obtain ⟨c, hc⟩ : ∃ c, cei a b 1 = c := ⟨_, rfl⟩
    obtain ⟨t, ht⟩ : ∃ t, isW a b 1 = t := ⟨_, rfl⟩
    have HM := Lib.hid hm
    have HC := Lib.hid hc
    have HV : Hid (whoV a b = (if t = true then m else 0) ∧ whoB a b = t ∧ askE true = 0) := ⟨by unfold whoV; rw [hask, Int.toNat_natCast, Int.toNat_natCast, ht, hm]; simp, by unfold whoB; rw [hask, Int.toNat_natCast, Int.toNat_natCast, ht]; rfl, rfl⟩
    rw [hm, hc, ht] at hfc
    clear hask hm ht hc
    cases t
    case' false =>
      have hne : m ≠ c := fun e => by have := hfc.1 e; simp at this
      have b1 : (m != c) = true := bne_iff_ne.2 hne
      clear hne
    case' true =>
      have hne : m = c := hfc.2 rfl
      have b1 : (m != c) = false := bne_eq_false_iff_eq.2 hne
      clear hne
    all_goals
      clear hfc
      go_enter Tryd.func22, Tryd.ntmps22
      go_wp2_with fail
      refine (Right_any _ _ _ _).mono ?_
      rintro e w1 ⟨rfl, hq1⟩
      rw [HA.out]
      have HB1 := Lib.hid hq1
      clear hq1
      go_wp2_with fail
      refine (Low_any a b 1 _ (by omega) (by omega) (by omega) (by omega) (by decide)).mono ?_
      rintro e w2 ⟨rfl, hq2⟩
      rw [HM.out]
      have HB2 := Lib.hid (below_call HB1.out hq2)
      clear hq2
      go_wp2_with fail
      refine (High_any a b 1 _ (by omega) (by omega) (by omega) (by omega) (by decide)).mono ?_
      rintro e w3 ⟨rfl, hq3⟩
      rw [HC.out]
      have HB3 := Lib.hid (below_call HB2.out hq3)
      clear hq3
      go_wp2_with fail
      go_ret3
      rw [HV.out.1, HV.out.2.1, HV.out.2.2]
      exact ⟨rfl, HB3.out⟩

set_option maxRecDepth 100000 in
set_option maxHeartbeats 400000 in
theorem rCheckFloor_any (a b k m : Int) (w : World) :
    Calls Tryd.prog 24 #[.int .i64 a, .int .i64 b, .int .i64 k, .int .i64 m] w fun e w' => e = .returned (.int .i64 (chkF a b k m)) ∧ Below w.heap.size w w' := by
  have HF := Lib.hid (rFloor_any a b k)
  obtain ⟨v, hv⟩ : ∃ v, floV a b k = v := ⟨_, rfl⟩
  have HC : Hid (chkF a b k m = if askF a b k = true then (if m = v then 0 else 32) else 1) := by unfold chkF; rw [hv]; exact Lib.hid rfl
  rw [hv] at HF
  clear hv
  cases hask : askF a b k
  · rw [hask] at HC HF
    have HC2 : Hid (chkF a b k m = 1) := HC.out
    clear hask HC
    go_enter Tryd.func24, Tryd.ntmps24
    go_wp2_with fail
    refine (HF.out _).mono ?_
    rintro e w1 ⟨rfl, hq1⟩
    rw [show askE false = 1 from rfl]
    have HB1 := Lib.hid hq1
    clear hq1
    go_wp2_with fail
    go_ret
    rw [HC2.out]
    exact ⟨rfl, HB1.out⟩
  · rw [hask] at HC HF
    have HC2 : Hid (chkF a b k m = if m = v then 0 else 32) := HC.out
    clear hask HC
    by_cases hmv : m = v
    case' pos => have b1 : (v != m) = false := bne_eq_false_iff_eq.2 hmv.symm
    case' neg => have b1 : (v != m) = true := bne_iff_ne.2 (fun e => hmv e.symm)
    all_goals
      have HMV := Lib.hid hmv
      clear hmv
      go_enter Tryd.func24, Tryd.ntmps24
      go_wp2_with fail
      refine (HF.out _).mono ?_
      rintro e w1 ⟨rfl, hq1⟩
      rw [show askE true = 0 from rfl]
      have HB1 := Lib.hid hq1
      clear hq1
      go_wp2_with fail
      go_ret
      rw [HC2.out]
      first | (rw [if_pos HMV.out]; exact ⟨rfl, HB1.out⟩) | (rw [if_neg HMV.out]; exact ⟨rfl, HB1.out⟩)

set_option maxRecDepth 100000 in
set_option maxHeartbeats 400000 in
theorem down_any (n : Int) (d : Nat) (w : World) (hn0 : -1000000 ≤ n) (hn1 : n ≤ 1000000) (hd0 : 0 < d) (hd1 : d ≤ 256) :
    Calls Tryd.prog 54 #[.int .i64 n, .int .i64 d] w fun e w' => e = .returned (.int .i64 (n / (d : Int))) ∧ Below w.heap.size w w' := by
  obtain ⟨t, ht⟩ : ∃ t, n.tdiv d = t := ⟨_, rfl⟩
  have e1 : n.tdiv d * d + n.tmod d = n := Int.tdiv_mul_add_tmod n d
  have hlt := Int.tmod_lt_of_pos n (show (0 : Int) < d by omega)
  have hgt : -(d : Int) < n.tmod d := by
    have h1 := Int.natAbs_tmod n d
    have h2 := Nat.mod_lt n.natAbs hd0
    rw [Int.natAbs_natCast] at h1
    omega
  rw [ht] at e1
  have hV : n / (d : Int) = if n < t * d then t - 1 else t := by
    split
    · rename_i h
      refine Int.ediv_eq_iff_of_pos (by omega) |>.2 ⟨?_, ?_⟩
      · rw [Int.sub_mul, Int.one_mul]; omega
      · rw [Int.sub_mul, Int.one_mul]; omega
    · rename_i h
      refine Int.ediv_eq_iff_of_pos (by omega) |>.2 ⟨by omega, by omega⟩
  have ht0 : -2000000 ≤ t * d := by omega
  have ht1 : t * d ≤ 2000000 := by omega
  have ht2 : -2000000 ≤ t := by
    by_cases h : t < -2000000
    · have := Int.mul_le_mul_of_nonneg_right (show t ≤ -2000001 by omega) (show (0:Int) ≤ d by omega); omega
    · omega
  have ht3 : t ≤ 2000000 := by
    by_cases h : 2000000 < t
    · have := Int.mul_le_mul_of_nonneg_right (show 2000001 ≤ t by omega) (show (0:Int) ≤ d by omega); omega
    · omega
  have HV := Lib.hid hV
  have HT := Lib.hid ht
  clear e1 hlt hgt hV ht
  go_enter Tryd.func54, Tryd.ntmps54
  have h' : (d : Int) ≠ 0 := by omega
  have hne : ¬ (d : Int) = -1 := by omega
  go_wp2_with fail
  · rename_i hlt
    have hw : wrap64 (t * d) = t * d := by unfold wrap64; omega
    have hw2 : wrap64 (t - 1) = t - 1 := by unfold wrap64; omega
    rw [HT.out, hw] at hlt
    go_ret
    refine ⟨?_, Below.refl _ _⟩
    show Ending.returned (.int .i64 (wrap64 (n.tdiv d - 1))) = _
    rw [HT.out, hw2, HV.out, if_pos hlt]
  · rename_i hlt
    have hw : wrap64 (t * d) = t * d := by unfold wrap64; omega
    rw [HT.out, hw] at hlt
    go_ret
    refine ⟨?_, Below.refl _ _⟩
    show Ending.returned (.int .i64 (n.tdiv d)) = _
    rw [HT.out, HV.out, if_neg (by omega)]

theorem inR_false {lo hi x : Int} : inR lo hi x = false ↔ ¬ (lo ≤ x ∧ x ≤ hi) := by
  rw [← inR_iff]; simp
/-- The reference's order of the tests. -/
theorem askK_ref (m k j : Int) : askK m k j = (inR (-4096) 4096 m && inR 0 8 k && inR 0 k j) := by
  unfold askK
  rw [Bool.eq_iff_iff]
  simp only [Bool.and_eq_true, inR_iff, decide_eq_true_eq]
  omega

set_option maxRecDepth 100000 in
set_option maxHeartbeats 1000000 in
theorem rCoarse_any (m k j : Int) (w : World) :
    Calls Tryd.prog 28 #[.int .i64 m, .int .i64 k, .int .i64 j] w fun e w' => e = .returned (.tuple #[.int .i64 (coaV m k j), .int .i64 (askE (askK m k j))]) ∧ Below w.heap.size w w' := by
  obtain ⟨v, hv⟩ : ∃ v, coaV m k j = v := ⟨_, rfl⟩
  have hv2 : v = if askK m k j = true then m / 2 ^ (k - j).toNat else 0 := by rw [← hv]; rfl
  rw [hv]
  rw [askK_ref] at hv2 ⊢
  clear hv
  obtain ⟨b1, h1⟩ : ∃ b, inR (-4096) 4096 m = b := ⟨_, rfl⟩
  obtain ⟨b2, h2⟩ : ∃ b, inR 0 8 k = b := ⟨_, rfl⟩
  obtain ⟨b3, h3⟩ : ∃ b, inR 0 k j = b := ⟨_, rfl⟩
  rw [h1, h2, h3] at hv2 ⊢
  have HV := Lib.hid hv2
  have H1 := Lib.hid h1
  have H2 := Lib.hid h2
  have H3 := Lib.hid h3
  clear h1 h2 h3 hv2
  go_enter Tryd.func28, Tryd.ntmps28
  go_wp2_with fail
  refine (In_any _ _ _ _).mono ?_
  rintro e w1 ⟨rfl, hq1⟩
  rw [H1.out]
  have HB1 := Lib.hid hq1
  clear hq1
  cases b1
  · go_wp2_with fail
    go_ret2
    exact ⟨by rw [HV.out]; rfl, HB1.out⟩
  · go_wp2_with fail
    refine (In_any _ _ _ _).mono ?_
    rintro e w2 ⟨rfl, hq2⟩
    rw [H2.out]
    have HB2 := Lib.hid (below_call HB1.out hq2)
    clear hq2
    cases b2
    · go_wp2_with fail
      go_ret2
      exact ⟨by rw [HV.out]; rfl, HB2.out⟩
    · go_wp2_with fail
      refine (In_any _ _ _ _).mono ?_
      rintro e w3 ⟨rfl, hq3⟩
      rw [H3.out]
      have HB3 := Lib.hid (below_call HB2.out hq3)
      clear hq3
      cases b3
      · go_wp2_with fail
        go_ret2
        exact ⟨by rw [HV.out]; rfl, HB3.out⟩
      · obtain ⟨m0, m1⟩ := inR_iff.1 H1.out
        obtain ⟨k0, k1⟩ := inR_iff.1 H2.out
        obtain ⟨j0, j1⟩ := inR_iff.1 H3.out
        obtain ⟨d, hd⟩ : ∃ d : Nat, k - j = d := ⟨(k - j).toNat, by omega⟩
        have hd8 : d ≤ 8 := by omega
        have h2 := two_le d hd8
        have h20 := Nat.two_pow_pos d
        obtain ⟨q, hq⟩ : ∃ q, 2 ^ d = q := ⟨_, rfl⟩
        rw [hq] at h2 h20
        have HV2 : Hid (v = m / (q : Int)) := Lib.hid (by rw [HV.out, hd, ← hq, Int.natCast_pow]; rfl)
        have HD := Lib.hid hd
        have HQ := Lib.hid hq
        clear hd hq
        go_wp2_with fail
        rw [HD.out]
        refine (rpow_any d _ hd8).mono ?_
        rintro e w4 ⟨rfl, hq4⟩
        rw [HQ.out]
        have HB4 := Lib.hid (below_call HB3.out hq4)
        clear hq4
        go_wp2_with fail
        refine (down_any m q _ (by omega) (by omega) h20 h2).mono ?_
        rintro e w5 ⟨rfl, hq5⟩
        have HB5 := Lib.hid (below_call HB4.out hq5)
        clear hq5
        go_wp2_with fail
        go_ret2
        exact ⟨by rw [HV2.out]; rfl, HB5.out⟩

theorem askA_two (a b c d : Int) : askA a b c d = (askF a b 0 && askF c d 0) := by
  rw [Bool.eq_iff_iff, Bool.and_eq_true, askA_iff, askF_zero, askF_zero]

set_option maxRecDepth 100000 in
set_option maxHeartbeats 1000000 in
theorem rApart_any (a b c d : Int) (w : World) :
    Calls Tryd.prog 30 #[.int .i64 a, .int .i64 b, .int .i64 c, .int .i64 d] w fun e w' => e = .returned (.tuple #[.int .i64 (apV (apO a b c d)), .bool (apB (apO a b c d)), .int .i64 (askE (askA a b c d))]) ∧ Below w.heap.size w w' := by
  obtain ⟨o, ho⟩ : ∃ o, apO a b c d = o := ⟨_, rfl⟩
  have ho2 : o = if askA a b c d = true then apFrom a.toNat b.toNat c.toNat d.toNat 0 9 else none := by rw [← ho]; rfl
  rw [ho]
  rw [askA_two] at ho2 ⊢
  clear ho
  obtain ⟨b1, h1⟩ : ∃ v, askF a b 0 = v := ⟨_, rfl⟩
  obtain ⟨b2, h2⟩ : ∃ v, askF c d 0 = v := ⟨_, rfl⟩
  rw [h1, h2] at ho2 ⊢
  have HO := Lib.hid ho2
  have H1 := Lib.hid h1
  have H2 := Lib.hid h2
  clear h1 h2 ho2
  go_enter Tryd.func30, Tryd.ntmps30
  go_wp2_with fail
  refine (Right_any _ _ _ _).mono ?_
  rintro e w1 ⟨rfl, hq1⟩
  rw [H1.out]
  have HB1 := Lib.hid hq1
  clear hq1
  cases b1
  · go_wp2_with fail
    go_ret3
    exact ⟨by rw [HO.out]; rfl, HB1.out⟩
  · go_wp2_with fail
    refine (Right_any _ _ _ _).mono ?_
    rintro e w2 ⟨rfl, hq2⟩
    rw [H2.out]
    have HB2 := Lib.hid (below_call HB1.out hq2)
    clear hq2
    cases b2
    · go_wp2_with fail
      go_ret3
      exact ⟨by rw [HO.out]; rfl, HB2.out⟩
    · obtain ⟨⟨a0, a1⟩, b0, b1⟩ := askF_zero.1 H1.out
      obtain ⟨⟨c0, c1⟩, d0, d1⟩ := askF_zero.1 H2.out
      obtain ⟨a, rfl⟩ : ∃ n : Nat, a = (n : Int) := ⟨a.toNat, by omega⟩
      obtain ⟨b, rfl⟩ : ∃ n : Nat, b = (n : Int) := ⟨b.toNat, by omega⟩
      obtain ⟨c, rfl⟩ : ∃ n : Nat, c = (n : Int) := ⟨c.toNat, by omega⟩
      obtain ⟨d, rfl⟩ : ∃ n : Nat, d = (n : Int) := ⟨d.toNat, by omega⟩
      have HO2 : Hid (apFrom a b c d 0 9 = o) := Lib.hid (by rw [HO.out]; rfl)
      clear HO
      go_wp2_with fail
      go_loopw [11] (fun s wr => ∃ k : Nat, k ≤ 9 ∧ s = .int .i64 k ∧ Hid (apFrom a b c d k (9 - k) = o) ∧ Hid (Below w.heap.size w wr)) (fun s _ => 9 - (intOf s).toNat)
      case atStart => exact ⟨0, by decide, rfl, HO2.out, HB2.out⟩
      case round =>
        clear HB1 HB2 HO2
        obtain ⟨k, hk, rfl, HP, HB⟩ := hrel
        by_cases hlt : k < 9
        · have hf1 := flo_range (a := a) (b := b) (q := 2 ^ k) (by omega) (by omega) (two_le k (by omega))
          have hf2 := flo_range (a := c) (b := d) (q := 2 ^ k) (by omega) (by omega) (two_le k (by omega))
          obtain ⟨m, hm⟩ : ∃ m, flo a b (2 ^ k) = m := ⟨_, rfl⟩
          obtain ⟨n, hn⟩ : ∃ m, flo c d (2 ^ k) = m := ⟨_, rfl⟩
          have HM := Lib.hid hm
          have HN := Lib.hid hn
          rw [hm] at hf1
          rw [hn] at hf2
          have HS : Hid ((if m = n then apFrom a b c d (k + 1) (9 - (k + 1)) else some k) = o) := by
            have := HP.out
            rw [show 9 - k = (9 - (k + 1)) + 1 by omega] at this
            unfold apFrom at this
            rw [hm, hn] at this
            exact this
          obtain ⟨q, hq⟩ : ∃ q, 2 ^ k = q := ⟨_, rfl⟩
          have h2 := two_le k (by omega)
          rw [hq] at HM HN h2
          have HQ := Lib.hid hq
          clear hm hn HP hq
          by_cases hmn : m = n
          case' pos => have b1 : (m != n) = false := bne_eq_false_iff_eq.2 hmn
          case' neg => have b1 : (m != n) = true := bne_iff_ne.2 hmn
          all_goals
            have HMN := Lib.hid hmn
            clear hmn
            go_wp2_with fail
            refine (rpow_any k _ (by omega)).mono ?_
            rintro e w3 ⟨rfl, hq3⟩
            rw [HQ.out]
            have HB3 := Lib.hid (below_call HB.out hq3)
            clear hq3
            go_wp2_with fail
            refine (Low_any a b q _ (by omega) (by omega) (by omega) (by omega) h2).mono ?_
            rintro e w4 ⟨rfl, hq4⟩
            rw [HM.out]
            have HB4 := Lib.hid (below_call HB3.out hq4)
            clear hq4
            go_wp2_with fail
            refine (rpow_any k _ (by omega)).mono ?_
            rintro e w5 ⟨rfl, hq5⟩
            rw [HQ.out]
            have HB5 := Lib.hid (below_call HB4.out hq5)
            clear hq5
            go_wp2_with fail
            refine (Low_any c d q _ (by omega) (by omega) (by omega) (by omega) h2).mono ?_
            rintro e w6 ⟨rfl, hq6⟩
            rw [HN.out]
            have HB6 := Lib.hid (below_call HB5.out hq6)
            clear hq6
            go_wp2_with fail
          · go_ret3
            have := HS.out
            rw [if_neg HMN.out] at this
            rw [← this]
            exact ⟨rfl, HB6.out⟩
          · go_roundw
            case rel => exact ⟨k + 1, by omega, by go_num, by have := HS.out; rw [if_pos HMN.out] at this; exact this, HB6.out⟩
            case measure => simp [intOf]; omega
        · obtain rfl : k = 9 := by omega
          go_wp2_with fail
          go_ret3
          rw [← HP.out]
          exact ⟨rfl, HB.out⟩
end Go.Proofs.YtpgnheankmlnfaaDoor
