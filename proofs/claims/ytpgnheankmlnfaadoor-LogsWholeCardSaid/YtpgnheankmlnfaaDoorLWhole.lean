/- The walk over the law LogsWhole. -/
import Derived.Test.YtpgnheankmlnfaaDoorLQ
namespace Go.Proofs.YtpgnheankmlnfaaDoor
open Go.RowKit
set_option linter.unusedVariables false

theorem ne_wrap (x : Int) : (wrap64 x != IntKind.i64.wrap x) = false := by rw [IntKind.wrap_i64]; unfold wrap64; exact bne_self_eq_false _
attribute [local go_sem] ne_wrap

set_option maxRecDepth 100000 in
set_option maxHeartbeats 8000000 in
theorem LogsWhole_any (a b k o p q : Int) (w : World) :
    Calls Tryd.prog 13 #[.int .i64 a, .int .i64 b, .int .i64 k, .int .i64 o, .agg #[.int .i64 p, .int .i64 q]] w fun e w' => e = .returned (.bool true) ∧ Below w.heap.size w w' := by
  obtain ⟨v1, hv1⟩ : ∃ v, askF a b k = v := ⟨_, rfl⟩
  obtain ⟨v2, hv2⟩ : ∃ v, smlB p q = v := ⟨_, rfl⟩
  have HV1 := Lib.hid hv1
  have HV2 := Lib.hid hv2
  clear hv1 hv2
  have HB0 := Lib.hid (below_alloc (Below.refl w.heap.size w) (.cells #[.int .i64 p, .int .i64 q] 39))
  have HX0 := Lib.hid (VarQ.new w p q 39)
  go_enter Tryd.func13, Tryd.ntmps13
  go_wp2_with fail
  refine (sane_any _).mono ?_
  rintro e w1 ⟨rfl, hq⟩
  have HB1 := Lib.hid (below_call HB0.out hq)
  have HX1 := Lib.hid (HX0.out.below hq)
  clear hq HB0 HX0
  obtain ⟨g, hg⟩ : ∃ g, w.heap.size = g := ⟨_, rfl⟩
  rw [hg] at HX1 ⊢
  have HG := Lib.hid hg
  clear hg
  go_wp2_with fail
  refine (Right_any a b k _).mono ?_
  rintro e w2 ⟨rfl, hq⟩
  rw [HV1.out]
  have HB2 := Lib.hid (below_call HB1.out hq)
  have HX2 := Lib.hid (HX1.out.below hq)
  clear hq HB1 HX1
  cases v1
  · go_wp2_with fail
    go_ret
    exact ⟨rfl, HB2.out⟩
  obtain ⟨⟨a0, a1⟩, ⟨b0, b1⟩, k0, k1⟩ := askF_iff.1 HV1.out
  by_cases ho0 : o < 1
  · have t1 : decide (o < 1) = true := decide_eq_true ho0
    go_wp2_with fail
    go_ret
    exact ⟨rfl, HB2.out⟩
  by_cases ho1 : 64 < o
  · have t1 : decide (o < 1) = false := decide_eq_false ho0
    have t2 : decide (64 < o) = true := decide_eq_true ho1
    go_wp2_with fail
    go_ret
    exact ⟨rfl, HB2.out⟩
  obtain ⟨a, rfl⟩ : ∃ n : Nat, a = (n : Int) := ⟨a.toNat, by omega⟩
  obtain ⟨b, rfl⟩ : ∃ n : Nat, b = (n : Int) := ⟨b.toNat, by omega⟩
  obtain ⟨k, rfl⟩ : ∃ n : Nat, k = (n : Int) := ⟨k.toNat, by omega⟩
  obtain ⟨o, rfl⟩ : ∃ n : Nat, o = (n : Int) := ⟨o.toNat, by omega⟩
  have k8 : k ≤ 8 := by omega
  have ha0 : 0 < a := by omega
  have hb0 : 0 < b := by omega
  have HA := Lib.hid (askO_of (a := a) (b := b) (o := o) ha0 (by omega) hb0 (by omega) (by omega) (by omega))
  have HF1 := Lib.hid (Whole_ok a b · (askF_of (k := 0) ha0 (by omega) hb0 (by omega) (by omega)))
  have HF2 := Lib.hid (Floor_ok a b k · HV1.out)
  have HF3 := Lib.hid (Ceil_ok a b k · HV1.out)
  have HF5 := Lib.hid (fun h : smlB p q = true => Compare_ok2 a b q.toNat p · (askC_of (q := q.toNat) ha0 (by omega) hb0 (by omega) (by rw [show ((q.toNat : Nat) : Int) = q by have := smlB_iff.1 h; omega]; exact h)))
  have HW := Lib.hid (wrap_two k k8)
  have hp2 : 0 < 2 ^ k := Nat.two_pow_pos k
  cases ht : isW a b 1
  · have HN := Lib.hid (nearS_next ha0 hb0 ht (show 1 ≤ o by omega))
    obtain ⟨⟨P, Q, R, S⟩, hnear⟩ : ∃ x, nearS a b o = x := ⟨_, rfl⟩
    have HF4 := Lib.hid (Between_ok2 a b o · HA.out hnear)
    rw [hnear] at HN
    have hdet := HN.out.det
    dsimp only at hdet
    have hne : ¬ (P = R ∧ (Q : Int) = S) := by rintro ⟨rfl, hh⟩; rw [hh] at hdet; omega
    have hc : cei a b (2 ^ k) = flo a b (2 ^ k) + 1 := by rw [cei_flo, isW_any ha0 hb0 hp2, ht, if_neg (by decide)]
    have hf1 := flo_range (a := a) (b := b) (q := 2 ^ k) (by omega) (by omega) (two_le k k8)
    obtain ⟨m, hm⟩ : ∃ m, flo a b (2 ^ k) = m := ⟨_, rfl⟩
    rw [hc] at HF3
    rw [hm] at HF2 HF3 hf1
    obtain ⟨m', hm'⟩ : ∃ m', m + 1 = m' := ⟨_, rfl⟩
    rw [hm'] at HF3
    have s1 : decide (m' - m < 0) = false := decide_eq_false (by omega)
    have s2 : decide (1 < m' - m) = false := decide_eq_false (by omega)
    have s3 : ¬ m' = m := by omega
    have s4 : (m' == m) = false := by simpa using s3
    have f3 : m' ≤ 3073 := by omega
    have f4 : -3073 ≤ m' := by omega
    rw [ht] at HF1
    have hsd : smlB p q = true → sd a b q.toNat p ≠ 0 := fun h => sd_ne ha0 hb0 (by have := smlB_iff.1 h; omega) ht
    have HSD := Lib.hid hsd
    clear hm hm' hc ht hnear hdet HN hsd
    obtain ⟨f1, f2⟩ := hf1
    go_wp2_with fail
    refine (HF1.out _).mono ?_
    rintro e w3 ⟨rfl, hq⟩
    have HB3 := Lib.hid (below_call HB2.out hq)
    have HX3 := Lib.hid (HX2.out.below hq)
    clear hq HB2 HX2
    go_wp2_with fail
    refine (HF2.out _).mono ?_
    rintro e w4 ⟨rfl, hq⟩
    have HB4 := Lib.hid (below_call HB3.out hq)
    have HX4 := Lib.hid (HX3.out.below hq)
    clear hq HB3 HX3
    go_wp2_with fail
    refine (HF3.out _).mono ?_
    rintro e w5 ⟨rfl, hq⟩
    have HB5 := Lib.hid (below_call HB4.out hq)
    have HX5 := Lib.hid (HX4.out.below hq)
    clear hq HB4 HX4
    go_wp2_with fail
    refine (HF4.out _).mono ?_
    rintro e w6 ⟨rfl, hq⟩
    have HB6 := Lib.hid (below_call HB5.out hq)
    have HX6 := Lib.hid (HX5.out.below hq)
    clear hq HB5 HX5
    obtain ⟨c0, c1, _, _⟩ := (HX6.out.alloc (.cells #[.int .i64 P, .int .i64 Q] 39)).alloc (.cells #[.int .i64 R, .int .i64 S] 39)
    dsimp only
    have hs6 : g < w6.heap.size := HX6.out.lt
    have HBD := Lib.hid (below_alloc (below_alloc HB6.out (.cells #[.int .i64 P, .int .i64 Q] 39)) (.cells #[.int .i64 R, .int .i64 S] 39))
    have HXD := Lib.hid ((HX6.out.alloc (.cells #[.int .i64 P, .int .i64 Q] 39)).alloc (.cells #[.int .i64 R, .int .i64 S] 39))
    by_cases hPR : P = R
    · subst hPR
      have hQS : ¬ (Q : Int) = S := fun h => hne ⟨rfl, h⟩
      have hQS2 : ((Q : Int) == S) = false := by simpa using hQS
      clear hne
      go_wp2_with fail
      go_quiet (fail)
      rename_i nq
      have HBE := Lib.hid (below_drewN HBD.out nq)
      have HXE := Lib.hid (HXD.out.below (below_drewN (Below.refl _ _) nq))
      clear HBD HXD c0 c1
      obtain ⟨c0, c1, _, _⟩ := HXE.out
      go_wp2_with fail
      refine (small_any p q _).mono ?_
      rintro e w7 ⟨rfl, hq⟩
      rw [HV2.out]
      have HB7 := Lib.hid (below_call HBE.out hq)
      have HX7 := Lib.hid (HXE.out.below hq)
      clear hq HBE HXE c0 c1
      cases v2
      · go_wp2_with fail
        go_ret
        exact ⟨rfl, HB7.out⟩
      obtain ⟨⟨⟨q0, q1⟩, p0⟩, p1⟩ := smlB_iff.1 HV2.out
      obtain ⟨q, rfl⟩ : ∃ n : Nat, q = (n : Int) := ⟨q.toNat, by omega⟩
      have HC := Lib.hid (HF5.out · HV2.out)
      have hsd := HSD.out HV2.out
      rw [Int.toNat_natCast] at HC hsd
      obtain ⟨sv, hsv⟩ : ∃ v, sd a b q p = v := ⟨_, rfl⟩
      rw [hsv] at HC hsd
      have hsd2 : (sv == 0) = false := by simpa using hsd
      clear hsv
      obtain ⟨c0, c1, _, _⟩ := HX7.out
      go_wp2_with fail
      refine (HC.out _).mono ?_
      rintro e w8 ⟨rfl, hq⟩
      have HB8 := Lib.hid (below_call HB7.out hq)
      clear hq HB7 c0 c1
      go_wp2_with fail
      go_ret
      exact ⟨rfl, HB8.out⟩
    · have hPR2 : (P == R) = false := by simpa using hPR
      clear hne
      go_wp2_with fail
      go_quiet (fail)
      rename_i nq
      have HBE := Lib.hid (below_drewN HBD.out nq)
      have HXE := Lib.hid (HXD.out.below (below_drewN (Below.refl _ _) nq))
      clear HBD HXD c0 c1
      obtain ⟨c0, c1, _, _⟩ := HXE.out
      go_wp2_with fail
      refine (small_any p q _).mono ?_
      rintro e w7 ⟨rfl, hq⟩
      rw [HV2.out]
      have HB7 := Lib.hid (below_call HBE.out hq)
      have HX7 := Lib.hid (HXE.out.below hq)
      clear hq HBE HXE c0 c1
      cases v2
      · go_wp2_with fail
        go_ret
        exact ⟨rfl, HB7.out⟩
      obtain ⟨⟨⟨q0, q1⟩, p0⟩, p1⟩ := smlB_iff.1 HV2.out
      obtain ⟨q, rfl⟩ : ∃ n : Nat, q = (n : Int) := ⟨q.toNat, by omega⟩
      have HC := Lib.hid (HF5.out · HV2.out)
      have hsd := HSD.out HV2.out
      rw [Int.toNat_natCast] at HC hsd
      obtain ⟨sv, hsv⟩ : ∃ v, sd a b q p = v := ⟨_, rfl⟩
      rw [hsv] at HC hsd
      have hsd2 : (sv == 0) = false := by simpa using hsd
      clear hsv
      obtain ⟨c0, c1, _, _⟩ := HX7.out
      go_wp2_with fail
      refine (HC.out _).mono ?_
      rintro e w8 ⟨rfl, hq⟩
      have HB8 := Lib.hid (below_call HB7.out hq)
      clear hq HB7 c0 c1
      go_wp2_with fail
      go_ret
      exact ⟨rfl, HB8.out⟩
  · have hnear := nearS_whole (o := o) ht
    have HF4 := Lib.hid (Between_ok2 a b o · HA.out hnear)
    have hc : cei a b (2 ^ k) = flo a b 1 * 2 ^ k := by rw [cei_flo, isW_any ha0 hb0 hp2, ht, if_pos rfl, flo_whole ha0 hb0 hp2 ht, Int.natCast_pow]; rfl
    have hf : flo a b (2 ^ k) = flo a b 1 * 2 ^ k := by rw [flo_whole ha0 hb0 hp2 ht, Int.natCast_pow]; rfl
    have hf1 := flo_12 ha0 hb0 (by omega) (by omega)
    have hf2 := flo_range (a := a) (b := b) (q := 2 ^ k) (by omega) (by omega) (two_le k k8)
    have hsd : ∀ h : smlB p q = true, (sd a b q.toNat p = 0 ↔ p = flo a b 1 * q) := fun h => by
      have h2 := smlB_iff.1 h
      rw [sd_zero ha0 hb0 (by omega), ht, show ((q.toNat : Nat) : Int) = q by omega]
      exact ⟨fun h => h.2, fun h => ⟨rfl, h⟩⟩
    rw [ht, if_pos rfl] at HF1
    rw [hc] at HF3
    rw [hf] at HF2 hf2
    obtain ⟨n, hn⟩ : ∃ n, flo a b 1 = n := ⟨_, rfl⟩
    rw [hn] at HF1 HF2 HF3 HF4 hf1 hf2 hsd
    have hw : n * 2 ^ k = wrap64 (n * 2 ^ k) := (wrap64_id (by omega) (by omega)).symm
    rw [hw] at HF2 HF3
    have HSD := Lib.hid hsd
    clear hw hn hc ht hnear hsd hf hf2
    obtain ⟨f1, f2⟩ := hf1
    go_wp2_with fail
    refine (HF1.out _).mono ?_
    rintro e w3 ⟨rfl, hq⟩
    have HB3 := Lib.hid (below_call HB2.out hq)
    have HX3 := Lib.hid (HX2.out.below hq)
    clear hq HB2 HX2
    go_wp2_with fail
    refine (HF2.out _).mono ?_
    rintro e w4 ⟨rfl, hq⟩
    have HB4 := Lib.hid (below_call HB3.out hq)
    have HX4 := Lib.hid (HX3.out.below hq)
    clear hq HB3 HX3
    go_wp2_with fail
    refine (HF3.out _).mono ?_
    rintro e w5 ⟨rfl, hq⟩
    have HB5 := Lib.hid (below_call HB4.out hq)
    have HX5 := Lib.hid (HX4.out.below hq)
    clear hq HB4 HX4
    go_wp2_with fail
    refine (HF4.out _).mono ?_
    rintro e w6 ⟨rfl, hq⟩
    have HB6 := Lib.hid (below_call HB5.out hq)
    have HX6 := Lib.hid (HX5.out.below hq)
    clear hq HB5 HX5
    dsimp only
    have hs6 : g < w6.heap.size := HX6.out.lt
    have HBD := Lib.hid (below_alloc (below_alloc HB6.out (.cells #[.int .i64 n, .int .i64 1] 39)) (.cells #[.int .i64 n, .int .i64 1] 39))
    have HXD := Lib.hid ((HX6.out.alloc (.cells #[.int .i64 n, .int .i64 1] 39)).alloc (.cells #[.int .i64 n, .int .i64 1] 39))
    have HU := Lib.hid ((VarQ.new w6 n 1 39).alloc (.cells #[.int .i64 n, .int .i64 1] 39))
    obtain ⟨u0, u1, _, _⟩ := HU.out
    obtain ⟨c0, c1, _, _⟩ := HXD.out
    have hl1 : w6.heap.size < ((w6.alloc (.cells #[.int .i64 n, .int .i64 1] 39)).alloc (.cells #[.int .i64 n, .int .i64 1] 39)).heap.size := HU.out.lt
    go_wp2_with fail
    go_region_held3 (fun w' => w'.cell? ⟨w6.heap.size, 0, none⟩ = some (.int .i64 n) ∧ w'.cell? ⟨w6.heap.size, 1, none⟩ = some (.int .i64 1)) (go_keep)
      (first | (go_at_call 38; refine (quot_any _ _ _).mono ?_; rintro e w7 ⟨rfl, hq7⟩; have kk0 : w7.cell? ⟨w6.heap.size, 0, none⟩ = some (.int .i64 n) := (hq7.cell (p := ⟨w6.heap.size, 0, none⟩) hl1).trans u0; have kk1 : w7.cell? ⟨w6.heap.size, 1, none⟩ = some (.int .i64 1) := (hq7.cell (p := ⟨w6.heap.size, 1, none⟩) hl1).trans u1))
    have HB7 := Lib.hid (below_call (Below.drew HBD.out) hq7)
    have HX7 := Lib.hid ((VarQ.drew HXD.out).below hq7)
    clear hq7 u0 u1 c0 c1 hl1 kk0 kk1 HBD HXD HU
    obtain ⟨c0, c1, _, _⟩ := HX7.out
    go_wp2_with fail
    refine (small_any p q _).mono ?_
    rintro e w8 ⟨rfl, hq⟩
    rw [HV2.out]
    have HB8 := Lib.hid (below_call HB7.out hq)
    have HX8 := Lib.hid (HX7.out.below hq)
    clear hq HB7 HX7 c0 c1
    cases v2
    · go_wp2_with fail
      go_ret
      exact ⟨rfl, HB8.out⟩
    obtain ⟨⟨⟨q0, q1⟩, p0⟩, p1⟩ := smlB_iff.1 HV2.out
    obtain ⟨q, rfl⟩ : ∃ n : Nat, q = (n : Int) := ⟨q.toNat, by omega⟩
    have HC := Lib.hid (HF5.out · HV2.out)
    have hsd := HSD.out HV2.out
    rw [Int.toNat_natCast] at HC hsd
    obtain ⟨sv, hsv⟩ : ∃ v, sd a b q p = v := ⟨_, rfl⟩
    rw [hsv] at HC hsd
    clear hsv
    have hnq : -3072 ≤ n * (q : Int) ∧ n * (q : Int) ≤ 3072 := by
      have a1 : -12 * (q : Int) ≤ n * q := Int.mul_le_mul_of_nonneg_right f1 (by omega)
      have a2 : n * (q : Int) ≤ 12 * q := Int.mul_le_mul_of_nonneg_right f2 (by omega)
      omega
    obtain ⟨z, hz⟩ : ∃ z, n * (q : Int) = z := ⟨_, rfl⟩
    have m1 : wrap64 (n * (q : Int)) = z := by rw [hz]; exact wrap64_id (by omega) (by omega)
    rw [hz] at hsd
    clear hz hnq
    obtain ⟨c0, c1, _, _⟩ := HX8.out
    by_cases hpz : p = z
    · have hs0 : sv = 0 := hsd.2 hpz
      subst hs0
      clear hsd
      subst hpz
      go_wp2_with fail
      refine (HC.out _).mono ?_
      rintro e w9 ⟨rfl, hq⟩
      have HB9 := Lib.hid (below_call HB8.out hq)
      have HX9 := Lib.hid (HX8.out.below hq)
      clear hq HB8 HX8 c0 c1
      obtain ⟨c0, c1, _, _⟩ := HX9.out
      go_wp2_with fail
      go_ret
      exact ⟨rfl, HB9.out⟩
    · have hs0 : ¬ sv = 0 := fun h => hpz (hsd.1 h)
      have hs1 : (sv == 0) = false := by simpa using hs0
      have hb2 : (p == z) = false := by simpa using hpz
      clear hsd hs0 hpz
      go_wp2_with fail
      refine (HC.out _).mono ?_
      rintro e w9 ⟨rfl, hq⟩
      have HB9 := Lib.hid (below_call HB8.out hq)
      have HX9 := Lib.hid (HX8.out.below hq)
      clear hq HB8 HX8 c0 c1
      obtain ⟨c0, c1, _, _⟩ := HX9.out
      go_wp2_with fail
      go_ret
      exact ⟨rfl, HB9.out⟩
end Go.Proofs.YtpgnheankmlnfaaDoor
