/- The walks over the layer of logarithms' powers: power, bits, shifted, against, whole. The walks over logs.against and logs.whole. -/
import Derived.Test.YtpgnheankmlnfaaDoorRefC
namespace Go.Proofs.YtpgnheankmlnfaaDoor
open Go.RowKit
set_option linter.unusedVariables false

/-- An integer and a truth value are returned. -/
def RetZB (z : Int) (k : Bool) (w : World) (e : Ending) (w' : World) : Prop := ∃ s A n c, e = .returned (.tuple #[.agg #[.bool s, .slice A n c], .bool k]) ∧ IsZ w' s A n c z ∧ Below w.heap.size w w'

theorem bodyPost_varZB {fn : Func} {p q : Tmp} {a : Act} {k : Bool} {B : Nat} {w w2 : World} {z : Int} (hres : fn.results = #[.cell p 87, .tmp q]) (hp : a.tmps.getD p undef = .pointer (some ⟨B, 0, none⟩)) (hq : a.tmps.getD q undef = .bool k) (hd : a.defers = [])
    (h : VarZ w2 B z) (hb : Below w.heap.size w w2) : bodyPost Tryd.prog fn (RetZB z k w) .ret a w2 := by
  obtain ⟨s, A, n, c, k0, k1, _, _, hz⟩ := h
  have hp2 : a.tmps[p]?.getD undef = .pointer (some ⟨B, 0, none⟩) := by simpa using hp
  have hq2 : a.tmps[q]?.getD undef = .bool k := by simpa using hq
  refine bodyPost_ret (v := .tuple #[.agg #[.bool s, .slice A n c], .bool k]) (by simp only [results, hres]; simp [go_sem, hp2, hq2, k0, k1]) hd ?_
  exact ⟨_, _, _, _, rfl, hz, hb⟩

/-- Whether a power of a number from 1 to 4095 can be had. -/
def powB (n t : Nat) : Bool := decide (t ≤ 4096) && decide (n ^ t < 2 ^ lim)
def powR (n t : Nat) : Int := if powB n t then ((n ^ t : Nat) : Int) else 0

theorem powB_big {n t : Nat} (h : ¬ t ≤ 4096) : powB n t = false := by unfold powB; rw [decide_eq_false h]; rfl
theorem powR_big {n t : Nat} (h : ¬ t ≤ 4096) : powR n t = 0 := by unfold powR; rw [powB_big h]; rfl
theorem powB_all {n t : Nat} (h : t ≤ 4096) : powB n t = (powE n t == 0) := by
  unfold powB powE
  rw [decide_eq_true h, Bool.true_and, Int.natAbs_natCast]
  by_cases hf : n ^ t < 2 ^ lim
  · rw [if_pos hf, decide_eq_true hf]; rfl
  · rw [if_neg hf, decide_eq_false hf]; rfl
theorem powR_all {n t : Nat} (h : t ≤ 4096) : powR n t = powV n t := by
  unfold powR powV powB
  rw [decide_eq_true h, Bool.true_and, Int.natAbs_natCast]
  by_cases hf : n ^ t < 2 ^ lim
  · rw [if_pos hf, decide_eq_true hf, if_pos rfl, Int.natCast_pow]
  · rw [if_neg hf, decide_eq_false hf]; rfl

set_option maxRecDepth 100000 in
set_option maxHeartbeats 1000000 in
theorem lpower_any (n t : Nat) (h1 : n ≤ 4095) (ht : t ≤ 9223372036854775807) (w : World) :
    Calls Tryd.prog 66 #[.int .i64 n, .int .i64 t] w (RetZB (powR n t) (powB n t) w) := by
  have e0 : w.heap.size < w.heap.size + 1 := by omega
  have HB0 := Lib.hid (below_alloc (Below.refl w.heap.size w) (.cells #[.bool false, .slice none 0 0] 87))
  go_enter Tryd.func66, Tryd.ntmps66
  go_wp2_with fail
  refine (of_any n (by omega) (by omega) _).mono ?_
  rintro e w1 ⟨s1, A1, l1, c1, rfl, hz1, hq1⟩
  have HB1 := Lib.hid (below_call HB0.out hq1)
  have HZ1 := Lib.hid hz1
  have hl1 : l1 ≤ 128 := by
    have := hz1.2.1
    have := dig_length_le (n := (n : Int).natAbs) (k := 128) (by rw [Int.natAbs_natCast, pow24, lim24]; exact Nat.lt_of_le_of_lt h1 (Nat.lt_of_lt_of_le (by decide : 4095 < 2 ^ 12) (Nat.pow_le_pow_right (by decide) (by rw [lim_eq]; decide))))
    omega
  have HR1 : Hid (VarZ w1 w.heap.size 0) := (VarZ.new (IsZ.zero w 0) 87).below hq1
  clear hz1 hq1
  by_cases hbig : t ≤ 4096
  case' pos => have HP := fun w' h => power_any s1 A1 l1 c1 (n : Int) t w' h hl1 hbig
  case' neg => have HP := fun w' h => power_arg s1 A1 l1 c1 (n : Int) t w' h hl1 (by omega)
  all_goals
    have HPP := Lib.hid HP
    clear HP
    go_wp2_with fail
    refine (HPP.out _ HZ1.out).mono ?_
    rintro e w2 ⟨s2, A2, l2, c2, rfl, hz2, hq2⟩
    have HB2 := Lib.hid (below_call HB1.out hq2)
    have HZ2 := Lib.hid hz2
    have HR2 := Lib.hid (HR1.out.below hq2)
    clear hz2 hq2
    obtain ⟨_, _, _, _, k0, k1, f0, f1, _⟩ := HR2.out
    have hlt := HR2.out.lt
    go_wp2_with fail
    have HV := (HR2.out.put HZ2.out).alloc (.cells #[.bool s2, .slice A2 l2 c2] 87)
    have HBB := below_alloc (below_setCell (below_setCell HB2.out (p := ⟨w.heap.size, 0, none⟩) (by simp) (.bool s2)) (p := ⟨w.heap.size, 1, none⟩) (by simp) (.slice A2 l2 c2)) (.cells #[.bool s2, .slice A2 l2 c2] 87)
    try rw [powB_big hbig, powR_big hbig]
    try rw [powB_all hbig, powR_all hbig]
    exact bodyPost_varZB Tryd.results66 rfl rfl rfl HV HBB
theorem powB_true {n t : Nat} (h1 : t ≤ 4096) (h2 : n ^ t < 2 ^ lim) : powB n t = true := by unfold powB; rw [decide_eq_true h1, decide_eq_true h2]; rfl
theorem powR_true {n t : Nat} (h1 : t ≤ 4096) (h2 : n ^ t < 2 ^ lim) : powR n t = ((n ^ t : Nat) : Int) := by unfold powR; rw [powB_true h1 h2]; rfl
/-- A number from 1 to 4095, up to 256 times. -/
theorem small_pow {n t : Nat} (h1 : n ≤ 4095) (ht : t ≤ 256) : n ^ t < 2 ^ lim := by
  by_cases h0 : t = 0
  · subst h0
    rw [Nat.pow_zero]
    exact Nat.one_lt_two_pow (by rw [lim_eq]; decide)
  · refine Nat.lt_of_lt_of_le (Nat.pow_lt_pow_left (show n < 2 ^ 12 by omega) h0) ?_
    rw [← Nat.pow_mul]
    exact Nat.pow_le_pow_right (by decide) (by rw [lim_eq]; omega)
/-- A number from 1 to 4095 as a factor. -/
theorem lpower_small (n t : Nat) (h1 : n ≤ 4095) (ht : t ≤ 256) (w : World) :
    Calls Tryd.prog 66 #[.int .i64 n, .int .i64 t] w (RetZB ((n ^ t : Nat) : Int) true w) := by
  have := lpower_any n t h1 (by omega) w
  rw [powB_true (by omega) (small_pow h1 ht), powR_true (by omega) (small_pow h1 ht)] at this
  exact this

set_option maxRecDepth 100000 in
set_option maxHeartbeats 400000 in
theorem lbits_any (s : Bool) (A : Option Addr) (l c : Nat) (x : Int) (w : World) (h : IsZ w s A l c x) (hl : l ≤ 128) :
    Calls Tryd.prog 67 #[.agg #[.bool s, .slice A l c]] w fun e w' => e = .returned (.int .i64 (bl x.natAbs)) ∧ Below w.heap.size w w' := by
  have H := Lib.hid h
  clear h
  go_enter Tryd.func67, Tryd.ntmps67
  go_wp2_with fail
  refine (bits_any _ _ _ _ _ _ (H.out.below (below_alloc (Below.refl _ _) _)) hl).mono ?_
  rintro e w1 ⟨rfl, hq1⟩
  have HB := Lib.hid (below_call (below_alloc (Below.refl _ _) _) hq1)
  go_wp2_with fail
  go_ret
  exact ⟨rfl, HB.out⟩

set_option maxRecDepth 100000 in
set_option maxHeartbeats 1000000 in
theorem shifted_any (s1 : Bool) (A1 : Option Addr) (l1 c1 : Nat) (x : Nat) (s2 : Bool) (A2 : Option Addr) (l2 c2 : Nat) (y : Nat) (m : Nat) (w : World)
    (h1 : IsZ w s1 A1 l1 c1 x) (h2 : IsZ w s2 A2 l2 c2 y) (hl1 : l1 ≤ 128) (hl2 : l2 ≤ 128) (hy : 0 < y) (hm : m ≤ 9223372036854775807) :
    Calls Tryd.prog 78 #[.agg #[.bool s1, .slice A1 l1 c1], .agg #[.bool s2, .slice A2 l2 c2], .int .i64 m] w fun e w' => e = .returned (.int .i64 (cmpI x ((y * 2 ^ m : Nat) : Int))) ∧ Below w.heap.size w w' := by
  have H1 := Lib.hid h1
  have H2 := Lib.hid h2
  have hx : x < 2 ^ lim := (fits_iff x).1 (by have := h1.2.1; rw [Int.natAbs_natCast] at this; omega)
  clear h1 h2
  have HB0 := Lib.hid (below_alloc (below_alloc (Below.refl w.heap.size w) (.cells #[.bool s1, .slice A1 l1 c1] 87)) (.cells #[.bool s2, .slice A2 l2 c2] 87))
  have HBig : Hid (2 ^ lim ≤ 2 ^ m → cmpI x ((y * 2 ^ m : Nat) : Int) = -1) := fun h => cmpI_lt (by
    have h3 : 1 * 2 ^ m ≤ y * 2 ^ m := Nat.mul_le_mul_right _ hy
    omega)
  cases hf : powB 2 m
  · have HP := lpower_any 2 m (by decide) hm
    rw [hf] at HP
    have hbig : 2 ^ lim ≤ 2 ^ m := by
      unfold powB at hf
      rw [Bool.and_eq_false_iff, decide_eq_false_iff_not, decide_eq_false_iff_not] at hf
      rcases hf with hf | hf
      · exact Nat.pow_le_pow_right (by decide) (by rw [lim_eq]; omega)
      · omega
    have HE := Lib.hid (HBig.out hbig)
    have HPP := Lib.hid HP
    clear hf HP hbig hx
    go_enter Tryd.func78, Tryd.ntmps78
    go_wp2_with fail
    refine (HPP.out _).mono ?_
    rintro e w1 ⟨s3, A3, l3, c3, rfl, hz3, hq1⟩
    have HB1 := Lib.hid (below_call HB0.out hq1)
    clear hz3 hq1
    go_wp2_with fail
    go_ret
    exact ⟨ret_int HE.out.symm, below_alloc HB1.out _⟩
  · have HP := lpower_any 2 m (by decide) hm
    have hmm : m ≤ 4096 ∧ 2 ^ m < 2 ^ lim := by
      unfold powB at hf
      rw [Bool.and_eq_true, decide_eq_true_eq, decide_eq_true_eq] at hf
      exact hf
    rw [hf, powR_true hmm.1 hmm.2] at HP
    have HPP := Lib.hid HP
    have HMM := Lib.hid hmm
    clear hf HP hmm
    go_enter Tryd.func78, Tryd.ntmps78
    go_wp2_with fail
    refine (HPP.out _).mono ?_
    rintro e w1 ⟨s3, A3, l3, c3, rfl, hz3, hq1⟩
    obtain ⟨hc_hq1, hf_hq1⟩ := bcell hq1; have sz_hq1 : w.heap.size + 2 ≤ w1.heap.size := (by have := hq1.size; (try simp at this); omega); have s0_hq1 : w.heap.size < w1.heap.size := (by omega); have s1_hq1 : w.heap.size + 1 < w1.heap.size := (by omega)
    have HB1 := Lib.hid (below_call HB0.out hq1)
    have HZ3 := Lib.hid (hz3.below (below_alloc (Below.refl _ _) (.cells #[.bool s3, .slice A3 l3 c3] 87)))
    have hl3 : l3 ≤ 128 := by
      have := hz3.2.1
      rw [Int.natAbs_natCast] at this
      have := (fits_iff (2 ^ m)).2 HMM.out.2
      omega
    have u0 : w.heap.size + 1 < w1.heap.size + 1 := by omega
    have u1 : w.heap.size < w1.heap.size + 1 := by omega
    clear hz3
    go_wp2_with fail
    refine (Mul_ok _ _ _ _ _ _ _ _ _ _ _ (H2.out.below (below_alloc HB1.out _)) HZ3.out hl2 hl3).mono ?_
    rintro e w2 ⟨s4, A4, l4, c4, rfl, hz4, hq2⟩
    have ev : (y : Int) * ((2 ^ m : Nat) : Int) = ((y * 2 ^ m : Nat) : Int) := (Int.natCast_mul _ _).symm
    rw [ev] at hz4 ⊢
    obtain ⟨hc_hq2, hf_hq2⟩ := bcell hq2; have sz_hq2 : w.heap.size + 2 ≤ w2.heap.size := (by have := hq2.size; (try simp at this); omega); have s0_hq2 : w.heap.size < w2.heap.size := (by omega); have s1_hq2 : w.heap.size + 1 < w2.heap.size := (by omega)
    have HB2 := Lib.hid (below_call (below_alloc HB1.out _) hq2)
    by_cases hfit : y * 2 ^ m < 2 ^ lim
    · have E1 : Hid (calV ((y * 2 ^ m : Nat) : Int) = ((y * 2 ^ m : Nat) : Int) ∧ calE ((y * 2 ^ m : Nat) : Int) = 0) := ⟨by unfold calV; rw [Int.natAbs_natCast, if_pos hfit], by unfold calE; rw [Int.natAbs_natCast, if_pos hfit]⟩
      rw [E1.out.1] at hz4
      rw [E1.out.2]
      have hl4 : l4 ≤ 128 := by
        have := hz4.2.1
        rw [Int.natAbs_natCast] at this
        have := (fits_iff (y * 2 ^ m)).2 hfit
        omega
      have HZ4 := Lib.hid (hz4.below (below_alloc (Below.refl _ _) (.cells #[.bool s4, .slice A4 l4 c4] 87)))
      have v0 : w.heap.size < w2.heap.size + 1 := by omega
      clear hz4 ev
      go_wp2_with fail
      refine (Compare_ok _ _ _ _ _ _ _ _ _ _ _ (H1.out.below (below_alloc HB2.out _)) HZ4.out hl1 hl4).mono ?_
      rintro e w3 ⟨rfl, hq3⟩
      have HB3 := Lib.hid (below_call (below_alloc HB2.out _) hq3)
      go_wp2_with fail
      go_ret
      exact ⟨rfl, HB3.out⟩
    · have E1 : Hid (calE ((y * 2 ^ m : Nat) : Int) = 2) := by unfold calE; rw [Int.natAbs_natCast, if_neg hfit]; rfl
      rw [E1.out]
      have HE : Hid (cmpI x ((y * 2 ^ m : Nat) : Int) = -1) := cmpI_lt (by omega)
      clear hz4 ev
      go_wp2_with fail
      go_ret
      exact ⟨ret_int HE.out.symm, below_alloc HB2.out _⟩
end Go.Proofs.YtpgnheankmlnfaaDoor
namespace Go.Proofs.YtpgnheankmlnfaaDoor
open Go.RowKit
set_option linter.unusedVariables false

/-- How (a / b)^q compares with 2^m. -/
def sd (a b q : Nat) (m : Int) : Int := if 0 ≤ m then cmpI ((a ^ q : Nat) : Int) ((b ^ q * 2 ^ m.toNat : Nat) : Int) else -cmpI ((b ^ q : Nat) : Int) ((a ^ q * 2 ^ (-m).toNat : Nat) : Int)
/-- The difference of the binary digits. -/
def wid (a b q : Nat) : Int := (bl (a ^ q) : Int) - bl (b ^ q)
/-- q times the logarithm of a / b, rounded down. -/
def flo (a b q : Nat) : Int := if sd a b q (wid a b q) < 0 then wid a b q - 1 else wid a b q
theorem cmpI_range (a b : Int) : -1 ≤ cmpI a b ∧ cmpI a b ≤ 1 := by unfold cmpI; split <;> (try split) <;> omega
theorem sd_range (a b q : Nat) (m : Int) : -1 ≤ sd a b q m ∧ sd a b q m ≤ 1 := by
  unfold sd
  split
  · exact cmpI_range _ _
  · have := cmpI_range ((b ^ q : Nat) : Int) ((a ^ q * 2 ^ (-m).toNat : Nat) : Int); omega
theorem bl_small {n t : Nat} (h1 : n ≤ 4095) (ht : t ≤ 256) : bl (n ^ t) ≤ 3072 := by
  have := bl_le (small_pow h1 ht)
  rw [lim_eq] at this
  exact this
theorem wid_range {a b q : Nat} (ha : a ≤ 4095) (hb : b ≤ 4095) (hq : q ≤ 256) : -3072 ≤ wid a b q ∧ wid a b q ≤ 3072 := by
  have h1 := bl_small ha hq
  have h2 := bl_small hb hq
  unfold wid
  omega

theorem IsZ.len {w : World} {s : Bool} {A : Option Addr} {l c : Nat} {n t : Nat} (h : IsZ w s A l c ((n ^ t : Nat) : Int)) (h1 : n ≤ 4095) (ht : t ≤ 256) : l ≤ 128 := by
  have := h.2.1
  rw [Int.natAbs_natCast] at this
  have := (fits_iff (n ^ t)).2 (small_pow h1 ht)
  omega

set_option maxRecDepth 100000 in
set_option maxHeartbeats 1000000 in
theorem against_any (a b q : Nat) (m : Int) (w : World) (ha : a ≤ 4095) (hb : b ≤ 4095) (ha0 : 0 < a) (hb0 : 0 < b) (hq : q ≤ 256) (hm0 : -1000000000 ≤ m) (hm1 : m ≤ 1000000000) :
    Calls Tryd.prog 68 #[.int .i64 a, .int .i64 b, .int .i64 q, .int .i64 m] w fun e w' => e = .returned (.int .i64 (sd a b q m)) ∧ Below w.heap.size w w' := by
  have hap : 0 < a ^ q := Nat.pow_pos ha0
  have hbp : 0 < b ^ q := Nat.pow_pos hb0
  go_enter Tryd.func68, Tryd.ntmps68
  go_wp2_with fail
  refine (lpower_small a q ha hq _).mono ?_
  rintro e w1 ⟨s1, A1, l1, c1, rfl, hz1, hq1⟩
  have hl1 := hz1.len ha hq
  have HZ1 := Lib.hid hz1
  have HB1 := Lib.hid (below_alloc hq1 (.cells #[.bool s1, .slice A1 l1 c1] 87))
  clear hz1 hq1
  go_wp2_with fail
  refine (lpower_small b q hb hq _).mono ?_
  rintro e w2 ⟨s2, A2, l2, c2, rfl, hz2, hq2⟩
  have hl2 := hz2.len hb hq
  have HZ2 := Lib.hid (hz2.below (below_alloc (Below.refl _ _) (.cells #[.bool s2, .slice A2 l2 c2] 87)))
  have HZ1' := Lib.hid ((HZ1.out.below (below_alloc (Below.refl _ _) _)).below (below_alloc hq2 (.cells #[.bool s2, .slice A2 l2 c2] 87)))
  have HB2 := Lib.hid (below_alloc (below_call HB1.out hq2) (.cells #[.bool s2, .slice A2 l2 c2] 87))
  obtain ⟨hc2, hf2⟩ := bcell hq2
  have sz2 := hq2.size
  rw [World.size_alloc] at sz2
  have u0 : w1.heap.size < w1.heap.size + 1 := by omega
  have u1 : w1.heap.size < w2.heap.size + 1 := by omega
  have u2 : w1.heap.size < w2.heap.size := by omega
  have k0 : w2.cell? ⟨w1.heap.size, 0, none⟩ = some (.bool s1) := by simp [go_sem, hc2]
  have k1 : w2.cell? ⟨w1.heap.size, 1, none⟩ = some (.slice A1 l1 c1) := by simp [go_sem, hc2]
  clear hz2 hq2 hc2 hf2
  by_cases hm : 0 ≤ m
  · obtain ⟨M, rfl⟩ : ∃ M : Nat, m = (M : Int) := ⟨m.toNat, by omega⟩
    have HE : Hid (sd a b q M = cmpI ((a ^ q : Nat) : Int) ((b ^ q * 2 ^ M : Nat) : Int)) := by unfold sd; rw [if_pos hm, Int.toNat_natCast]; rfl
    go_wp2_with fail
    refine (shifted_any _ _ _ _ (a ^ q) _ _ _ _ (b ^ q) M _ HZ1'.out HZ2.out hl1 hl2 hbp (by omega)).mono ?_
    rintro e w3 ⟨rfl, hq3⟩
    have HB3 := Lib.hid (below_call HB2.out hq3)
    go_wp2_with fail
    go_ret
    exact ⟨ret_int HE.out.symm, HB3.out⟩
  · obtain ⟨M, rfl⟩ : ∃ M : Nat, m = -(M : Int) := ⟨(-m).toNat, by omega⟩
    have HE : Hid (sd a b q (-(M : Int)) = -cmpI ((b ^ q : Nat) : Int) ((a ^ q * 2 ^ M : Nat) : Int)) := by unfold sd; rw [if_neg hm, Int.neg_neg, Int.toNat_natCast]; rfl
    have hr := cmpI_range ((b ^ q : Nat) : Int) ((a ^ q * 2 ^ M : Nat) : Int)
    obtain ⟨v, hv⟩ : ∃ v, cmpI ((b ^ q : Nat) : Int) ((a ^ q * 2 ^ M : Nat) : Int) = v := ⟨_, rfl⟩
    rw [hv] at hr HE
    have HV := Lib.hid hv
    clear hv
    have hMp : ¬ M = 0 := by omega
    go_wp2_with fail
    refine (shifted_any _ _ _ _ (b ^ q) _ _ _ _ (a ^ q) M _ HZ2.out HZ1'.out hl2 hl1 hap (by omega)).mono ?_
    rintro e w3 ⟨rfl, hq3⟩
    rw [HV.out]
    have HB3 := Lib.hid (below_call HB2.out hq3)
    go_wp2_with fail
    go_ret
    exact ⟨ret_int HE.out.symm, HB3.out⟩

set_option maxRecDepth 100000 in
set_option maxHeartbeats 1000000 in
theorem whole_any (a b q : Nat) (w : World) (ha : a ≤ 4095) (hb : b ≤ 4095) (ha0 : 0 < a) (hb0 : 0 < b) (hq : q ≤ 256) :
    Calls Tryd.prog 48 #[.int .i64 a, .int .i64 b, .int .i64 q] w fun e w' => e = .returned (.tuple #[.int .i64 (flo a b q), .bool (sd a b q (flo a b q) == 0)]) ∧ Below w.heap.size w w' := by
  go_enter Tryd.func48, Tryd.ntmps48
  go_wp2_with fail
  refine (lpower_small a q ha hq _).mono ?_
  rintro e w1 ⟨s1, A1, l1, c1, rfl, hz1, hq1⟩
  have hl1 := hz1.len ha hq
  have HZ1 := Lib.hid hz1
  have HB1 := Lib.hid (below_alloc hq1 (.cells #[.bool s1, .slice A1 l1 c1] 87))
  clear hz1 hq1
  go_wp2_with fail
  refine (lpower_small b q hb hq _).mono ?_
  rintro e w2 ⟨s2, A2, l2, c2, rfl, hz2, hq2⟩
  have hl2 := hz2.len hb hq
  have HZ2 := Lib.hid (hz2.below (below_alloc (Below.refl _ _) (.cells #[.bool s2, .slice A2 l2 c2] 87)))
  have HZ1' := Lib.hid ((HZ1.out.below (below_alloc (Below.refl _ _) _)).below (below_alloc hq2 (.cells #[.bool s2, .slice A2 l2 c2] 87)))
  have HB2 := Lib.hid (below_alloc (below_call HB1.out hq2) (.cells #[.bool s2, .slice A2 l2 c2] 87))
  obtain ⟨hc2, hf2⟩ := bcell hq2
  have sz2 := hq2.size
  rw [World.size_alloc] at sz2
  have u0 : w1.heap.size < w1.heap.size + 1 := by omega
  have u1 : w1.heap.size < w2.heap.size + 1 := by omega
  have u2 : w1.heap.size < w2.heap.size := by omega
  have k0 : w2.cell? ⟨w1.heap.size, 0, none⟩ = some (.bool s1) := by simp [go_sem, hc2]
  have k1 : w2.cell? ⟨w1.heap.size, 1, none⟩ = some (.slice A1 l1 c1) := by simp [go_sem, hc2]
  clear hz2 hq2 hc2 hf2
  go_wp2_with fail
  go_region_held3 (fun w' => w'.cell? ⟨w1.heap.size, 0, none⟩ = some (.bool s1) ∧ w'.cell? ⟨w1.heap.size, 1, none⟩ = some (.slice A1 l1 c1) ∧ w'.cell? ⟨w2.heap.size, 0, none⟩ = some (.bool s2) ∧ w'.cell? ⟨w2.heap.size, 1, none⟩ = some (.slice A2 l2 c2)) (go_keep)
    ((go_at_call 67; first | (((with_reducible refine (lbits_any s1 A1 l1 c1 ((a ^ q : Nat) : Int) _ ?_ hl1).mono ?_)); (exact HZ1'.out.below (Below.refl _ _).drew); rintro e w3 ⟨rfl, hq3⟩; have hq3' := Lib.hid hq3; have z3 : w2.heap.size < w3.heap.size := (by have := hq3.size; (try simp at this); omega); have z3' : w1.heap.size < w3.heap.size := (by omega); obtain ⟨hc3, hf3⟩ := bcell hq3; clear hq3) | (((with_reducible refine (lbits_any s2 A2 l2 c2 ((b ^ q : Nat) : Int) _ ?_ hl2).mono ?_)); (exact (HZ2.out.below (Below.refl _ _).drew).below hq3'.out); rintro e w4 ⟨rfl, hq4⟩; have hq4' := Lib.hid hq4; obtain ⟨hc4, hf4⟩ := bcell hq4; clear hq4)))
  have hwr : IntKind.i64.wrap ((bl (a ^ q) : Int) - (bl (b ^ q) : Int)) = wid a b q := by
    have h1 := bl_small ha hq
    have h2 := bl_small hb hq
    rw [IntKind.wrap_i64]
    unfold wid
    omega
  rw [hwr]
  have HB4 := Lib.hid (below_call (below_call HB2.out.drew hq3'.out) hq4'.out)
  obtain ⟨hm0, hm1⟩ := wid_range ha hb hq
  obtain ⟨m, hm⟩ : ∃ m, wid a b q = m := ⟨_, rfl⟩
  have HM := Lib.hid hm
  rw [hm] at hm0 hm1 ⊢
  clear hwr hm hc3 hf3 hc4 hf4 k0 k1 u0 u1 u2 sz2 z3 z3' hq3' hq4' HB1 HB2 HZ1 HZ2 HZ1'
  have HF : Hid (flo a b q = if sd a b q m < 0 then m - 1 else m) := by unfold flo; rw [HM.out]; exact Lib.hid rfl
  have hs := sd_range a b q m
  obtain ⟨r, hr⟩ : ∃ r, sd a b q m = r := ⟨_, rfl⟩
  have HR := Lib.hid hr
  rw [hr] at hs HF
  clear hr
  go_wp2_with fail
  refine (against_any a b q m _ ha hb ha0 hb0 hq (by omega) (by omega)).mono ?_
  rintro e w5 ⟨rfl, hq5⟩
  rw [HR.out]
  have HB5 := Lib.hid (below_call HB4.out hq5)
  clear hq5
  by_cases hneg : r < 0
  · have HF2 : Hid (flo a b q = m - 1) := by rw [HF.out, if_pos hneg]; exact Lib.hid rfl
    clear HF
    go_wp2_with fail
    refine (against_any a b q (m - 1) _ ha hb ha0 hb0 hq (by omega) (by omega)).mono ?_
    rintro e w6 ⟨rfl, hq6⟩
    have HB6 := Lib.hid (below_call HB5.out hq6)
    go_wp2_with fail
    go_ret2
    rw [HF2.out]
    exact ⟨rfl, HB6.out⟩
  · have HF2 : Hid (flo a b q = m) := by rw [HF.out, if_neg hneg]; exact Lib.hid rfl
    clear HF
    go_wp2_with fail
    go_ret2
    rw [HF2.out, HR.out]
    exact ⟨rfl, HB5.out⟩
end Go.Proofs.YtpgnheankmlnfaaDoor
