/- The walks over the reference's functions on integers, as far as the layer of logarithms reaches them. The walk over the reference's Of. -/
import Derived.Test.YtpgnheankmlnfaaDoorRef
namespace Go.Proofs.YtpgnheankmlnfaaDoor
open Go.RowKit
set_option linter.unusedVariables false

set_option maxRecDepth 100000 in
set_option maxHeartbeats 1000000 in
theorem rcheck_ok (s : Bool) (A : Option Addr) (n c : Nat) (z : Int) (w : World) (h : IsZ w s A n c z) (hn : n ≤ 128) :
    Calls Tryd.prog 109 #[.agg #[.bool s, .slice A n c]] w fun e w' => e = .returned (.int .i64 0) ∧ Below w.heap.size w w' := by
  have H := Lib.hid h
  have hs : n = 0 → s = false := by
    intro h0
    subst h0
    have h1 := h.1
    have h2 := (dig_nil_iff _).1 (List.length_eq_zero_iff.1 h.2.1)
    rw [h1]
    simp
    omega
  clear h
  have b1 : decide (128 < (n : Int)) = false := decide_eq_false (by omega)
  by_cases h0 : n = 0
  case' pos =>
    have hs0 := hs h0
    subst h0
    subst hs0
  case' neg =>
    have b2 : ((n : Int) == 0) = false := beq_eq_false_iff_ne.2 (by omega)
  all_goals
    clear hs
    go_enter Tryd.func109, Tryd.ntmps109
    go_wp2_with fail
  · obtain ⟨b, off, rfl⟩ := H.out.2.2.2.addr (by have := H.out.2.1; omega)
    go_loop [4] (fun t => ∃ k : Nat, k ≤ n ∧ t = .int .i64 k) (fun t => n - (intOf t).toNat)
    case atStart => exact ⟨0, Nat.zero_le _, rfl⟩
    case round =>
      obtain ⟨k, hk, rfl⟩ := hrel
      have hlen := H.out.2.1
      by_cases hlt : k < n
      · obtain ⟨x, hx, HX⟩ := H.out.2.2.2.cell k (by omega)
        have hxb := (limb_dig z.natAbs).get k
        rw [HX.out] at hxb
        have hbx := World.block_lt_of_cell? w _ hx
        have hne : ¬ (b = w.heap.size) := by simp at hbx; omega
        have b3 : decide (x < 0) = false := decide_eq_false (by omega)
        clear hlen
        go_wp2
        go_round
        case rel => exact ⟨k + 1, by omega, by go_num⟩
        case measure => simp [intOf]; omega
      · obtain rfl : k = n := by omega
        obtain ⟨x, hx, HX⟩ := H.out.2.2.2.cell (k - 1) (by omega)
        have hbx := World.block_lt_of_cell? w _ hx
        have hne : ¬ (b = w.heap.size) := by simp at hbx; omega
        have hx0 : (x == 0) = false := by
          rw [beq_eq_false_iff_ne]
          rcases dig_top z.natAbs with t | t
          · omega
          · rw [hlen, HX.out] at t; exact t
        clear hlen
        go_wp2
        go_ret
        exact ⟨rfl, below_alloc (Below.refl _ _) _⟩
  · go_loop [4] (fun s => s = .int .i64 0) (fun _ => 0)
    case atStart => rfl
    case round =>
      subst hrel
      go_wp2
      go_ret
      exact ⟨rfl, below_alloc (Below.refl _ _) _⟩

set_option maxRecDepth 100000 in
set_option maxHeartbeats 1000000 in
theorem both_ok (s1 : Bool) (A1 : Option Addr) (l1 c1 : Nat) (x : Int) (s2 : Bool) (A2 : Option Addr) (l2 c2 : Nat) (y : Int) (w : World)
    (h1 : IsZ w s1 A1 l1 c1 x) (h2 : IsZ w s2 A2 l2 c2 y) (hl1 : l1 ≤ 128) (hl2 : l2 ≤ 128) :
    Calls Tryd.prog 94 #[.agg #[.bool s1, .slice A1 l1 c1], .agg #[.bool s2, .slice A2 l2 c2]] w fun e w' => e = .returned (.int .i64 0) ∧ Below w.heap.size w w' := by
  have H1 := Lib.hid h1
  have H2 := Lib.hid h2
  clear h1 h2
  have HB0 := Lib.hid (below_alloc (below_alloc (Below.refl w.heap.size w) (.cells #[.bool s1, .slice A1 l1 c1] 87)) (.cells #[.bool s2, .slice A2 l2 c2] 87))
  go_enter Tryd.func94, Tryd.ntmps94
  go_wp2_with fail
  refine (rcheck_ok _ _ _ _ _ _ (H1.out.below HB0.out) hl1).mono ?_
  rintro e w1 ⟨rfl, hq1⟩
  obtain ⟨hc_hq1, hf_hq1⟩ := bcell hq1; have sz_hq1 : w.heap.size + 2 ≤ w1.heap.size := (by have := hq1.size; (try simp at this); omega); have s0_hq1 : w.heap.size < w1.heap.size := (by omega); have s1_hq1 : w.heap.size + 1 < w1.heap.size := (by omega)
  have HB1 := Lib.hid (below_call HB0.out hq1)
  go_wp2_with fail
  refine (rcheck_ok _ _ _ _ _ _ (H2.out.below HB1.out) hl2).mono ?_
  rintro e w2 ⟨rfl, hq2⟩
  have HB2 := Lib.hid (below_call HB1.out hq2)
  go_wp2_with fail
  go_ret
  exact ⟨rfl, HB2.out⟩

set_option maxRecDepth 100000 in
set_option maxHeartbeats 400000 in
theorem rfits_any (s : Bool) (A : Option Addr) (n c : Nat) (w : World) (h : n ≤ 128) :
    Calls Tryd.prog 97 #[.agg #[.bool s, .slice A n c]] w fun e w' => e = .returned (.tuple #[.agg #[.bool s, .slice A n c], .int .i64 0]) ∧ Below w.heap.size w w' := by
  go_enter Tryd.func97, Tryd.ntmps97
  go_wp2
  refine bodyPost_ret (v := .tuple #[.agg #[.bool s, .slice A n c], .int .i64 0]) (by simp [results, Tryd.results97, go_sem]) rfl ?_
  exact ⟨rfl, below_alloc (below_alloc (Below.refl _ _) _) _⟩

set_option maxRecDepth 100000 in
set_option maxHeartbeats 400000 in
theorem rfits_not (s : Bool) (A : Option Addr) (n c : Nat) (w : World) (h : 128 < n) :
    Calls Tryd.prog 97 #[.agg #[.bool s, .slice A n c]] w fun e w' => e = .returned (.tuple #[.agg #[.bool false, .slice none 0 0], .int .i64 2]) ∧ Below w.heap.size w w' := by
  go_enter Tryd.func97, Tryd.ntmps97
  go_wp2
  refine bodyPost_ret (v := .tuple #[.agg #[.bool false, .slice none 0 0], .int .i64 2]) (by simp [results, Tryd.results97, go_sem]) rfl ?_
  exact ⟨rfl, below_alloc (below_alloc (Below.refl _ _) _) _⟩

theorem sgn_mul (x y : Int) : sgn (decide (x < 0) != decide (y < 0)) (val (dig (x.natAbs * y.natAbs))) = x * y := by
  rw [val_dig, Int.natCast_mul]
  rcases Int.lt_trichotomy x 0 with hx | hx | hx <;> rcases Int.lt_trichotomy y 0 with hy | hy | hy
  · have e1 : (x.natAbs : Int) = -x := by omega
    have e2 : (y.natAbs : Int) = -y := by omega
    simp [sgn, hx, hy, e1, e2, Int.neg_mul_neg]
  · subst hy; simp [sgn]
  · have e1 : (x.natAbs : Int) = -x := by omega
    have e2 : (y.natAbs : Int) = y := by omega
    have k : ¬ (y < 0) := by omega
    simp [sgn, hx, k, e1, e2, Int.neg_mul]
  · subst hx; simp [sgn]
  · subst hx; simp [sgn]
  · subst hx; simp [sgn]
  · have e1 : (x.natAbs : Int) = x := by omega
    have e2 : (y.natAbs : Int) = -y := by omega
    have k : ¬ (x < 0) := by omega
    simp [sgn, hy, k, e1, e2, Int.mul_neg]
  · subst hy; simp [sgn]
  · have e1 : (x.natAbs : Int) = x := by omega
    have e2 : (y.natAbs : Int) = y := by omega
    have k : ¬ (x < 0) := by omega
    have k2 : ¬ (y < 0) := by omega
    simp [sgn, k, k2, e1, e2]

set_option maxRecDepth 100000 in
set_option maxHeartbeats 1000000 in
theorem rtimes_any (s : Bool) (A : Option Addr) (n c : Nat) (x : Int) (s' : Bool) (A' : Option Addr) (n' c' : Nat) (y : Int) (w : World) (h1 : IsZ w s A n c x) (h2 : IsZ w s' A' n' c' y) (hb1 : n ≤ 1000000) (hb2 : n' ≤ 1000000) :
    Calls Tryd.prog 98 #[.agg #[.bool s, .slice A n c], .agg #[.bool s', .slice A' n' c']] w (RetZ (x * y) w) := by
  have H1 := Lib.hid h1
  have H2 := Lib.hid h2
  clear h1 h2
  have e0 : w.heap.size < w.heap.size + 1 + 1 + 1 := by omega
  have e1 : w.heap.size + 1 < w.heap.size + 1 + 1 + 1 := by omega
  have e2 : w.heap.size + 1 + 1 < w.heap.size + 1 + 1 + 1 := by omega
  have e3 : ¬ (w.heap.size = w.heap.size + 1 + 1) := by omega
  have e4 : ¬ (w.heap.size + 1 + 1 = w.heap.size) := by omega
  go_enter Tryd.func98, Tryd.ntmps98
  go_wp2_with fail
  go_region_held3 (fun w' => w'.cell? ⟨w.heap.size, 0, none⟩ = some (.bool s) ∧ w'.cell? ⟨w.heap.size, 1, none⟩ = some (.slice A n c) ∧ w'.cell? ⟨w.heap.size + 1, 0, none⟩ = some (.bool s') ∧ w'.cell? ⟨w.heap.size + 1, 1, none⟩ = some (.slice A' n' c')) (go_keep)
    (first | (go_at_call 113; refine (rmul_any _ _ _ (dig x.natAbs) _ _ _ (dig y.natAbs) _ ?_ ?_ (limb_dig _) (limb_dig _) hb1 hb2).mono ?_; (exact H1.out.2.below (below_alloc (below_alloc (below_alloc (Below.refl _ _) _) _) _).drew); (exact H2.out.2.below (below_alloc (below_alloc (below_alloc (Below.refl _ _) _) _) _).drew); rintro e w1 ⟨A1, n1, c1, rfl, hl1, hq1⟩; have HL1 := Lib.hid hl1; clear hl1; obtain ⟨hc_hq1, hf_hq1⟩ := bcell hq1; have sz_hq1 : w.heap.size + 3 ≤ w1.heap.size := (by have := hq1.size; (try simp at this); omega); have s0_hq1 : w.heap.size < w1.heap.size := (by omega); have s1_hq1 : w.heap.size + 1 < w1.heap.size := (by omega); have s2_hq1 : w.heap.size + 1 + 1 < w1.heap.size := (by omega)) | (go_at_call 96; refine (rmade_any _ _ _ _ _ _ HL1.out (limb_dig _)).mono ?_; rintro e w2 ⟨s2, A2, n2, c2, rfl, hz2, hq2⟩; have HZ2 := Lib.hid hz2; clear hz2; obtain ⟨hc_hq2, hf_hq2⟩ := bcell hq2; have sz_hq2 : w.heap.size + 3 ≤ w2.heap.size := (by have := hq2.size; (try simp at this); omega); have s0_hq2 : w.heap.size < w2.heap.size := (by omega); have s1_hq2 : w.heap.size + 1 < w2.heap.size := (by omega); have s2_hq2 : w.heap.size + 1 + 1 < w2.heap.size := (by omega)))
  have hx := H1.out.1
  have hy := H2.out.1
  have hz := HZ2.out
  rw [val_dig x.natAbs, val_dig y.natAbs, ← Int.natCast_mul, Int.toNat_natCast] at hz
  have es : (!s == s') = (decide (x < 0) != decide (y < 0)) := by rw [hx, hy]; rfl
  rw [es, sgn_mul] at hz
  have HZ := Lib.hid hz
  clear hz hx hy HZ2
  have c0 : w2.cell? ⟨w.heap.size + 1 + 1, 0, none⟩ = some (.bool false) := by simp [go_sem, hc_hq1, hc_hq2, s2_hq1]
  have c1' : w2.cell? ⟨w.heap.size + 1 + 1, 1, none⟩ = some (.slice none 0 0) := by simp [go_sem, hc_hq1, hc_hq2, s2_hq1]
  have HB2 := Lib.hid (below_call (below_call (below_alloc (below_alloc (below_alloc (Below.refl _ _) _) _) _).drew hq1) hq2)
  go_wp2_with fail
  exact bodyPost_retZ (w2 := w2) Tryd.results98 rfl rfl c0 c1' (NoInt.bool _) (NoInt.slice _ _ _) HZ.out HB2.out (by omega)

set_option maxRecDepth 100000 in
set_option maxHeartbeats 2000000 in
theorem rMul_ok (s1 : Bool) (A1 : Option Addr) (l1 c1 : Nat) (x : Int) (s2 : Bool) (A2 : Option Addr) (l2 c2 : Nat) (y : Int) (w : World)
    (h1 : IsZ w s1 A1 l1 c1 x) (h2 : IsZ w s2 A2 l2 c2 y) (hl1 : l1 ≤ 128) (hl2 : l2 ≤ 128) :
    Calls Tryd.prog 83 #[.agg #[.bool s1, .slice A1 l1 c1], .agg #[.bool s2, .slice A2 l2 c2]] w (RetZE (calV (x * y)) (calE (x * y)) w) := by
  have H1 := Lib.hid h1
  have H2 := Lib.hid h2
  clear h1 h2
  have HB0 := Lib.hid (below_alloc (below_alloc (below_alloc (Below.refl w.heap.size w) (.cells #[.bool s1, .slice A1 l1 c1] 87)) (.cells #[.bool s2, .slice A2 l2 c2] 87)) (.cells #[.bool false, .slice none 0 0] 87))
  go_enter Tryd.func83, Tryd.ntmps83
  go_wp2_with fail
  refine (both_ok _ _ _ _ x _ _ _ _ y _ (H1.out.below HB0.out) (H2.out.below HB0.out) hl1 hl2).mono ?_
  rintro e w1 ⟨rfl, hq1⟩
  obtain ⟨hc_hq1, hf_hq1⟩ := bcell hq1; have sz_hq1 : w.heap.size + 3 ≤ w1.heap.size := (by have := hq1.size; (try simp at this); omega); have s0_hq1 : w.heap.size < w1.heap.size := (by omega); have s1_hq1 : w.heap.size + 1 < w1.heap.size := (by omega); have s2_hq1 : w.heap.size + 1 + 1 < w1.heap.size := (by omega)
  have HB1 := Lib.hid (below_call HB0.out hq1)
  have RC0 : w1.cell? ⟨w.heap.size + 1 + 1, 0, none⟩ = some (.bool false) := by simp [go_sem, hc_hq1]
  have RC1 : w1.cell? ⟨w.heap.size + 1 + 1, 1, none⟩ = some (.slice none 0 0) := by simp [go_sem, hc_hq1]
  have RF0 : w1.frozen? ⟨w.heap.size + 1 + 1, 0, none⟩ = false := by simp [go_sem, hf_hq1]
  have RF1 : w1.frozen? ⟨w.heap.size + 1 + 1, 1, none⟩ = false := by simp [go_sem, hf_hq1]
  go_wp2_with fail
  refine (rtimes_any _ _ _ _ _ _ _ _ _ _ _ (H1.out.below HB1.out) (H2.out.below HB1.out) (by omega) (by omega)).mono ?_
  rintro e w2 ⟨s3, A3, l3, c3, rfl, hz, hq2⟩
  have HB2 := Lib.hid (below_call HB1.out hq2)
  have HZ := Lib.hid hz
  have fit := fits_iff (x * y).natAbs
  rw [hz.2.1] at fit
  clear hz
  by_cases hl3 : l3 ≤ 128
  · have E1 : Hid (calV (x * y) = x * y ∧ calE (x * y) = 0) := ⟨by unfold calV; rw [if_pos (fit.1 hl3)], by unfold calE; rw [if_pos (fit.1 hl3)]⟩
    clear fit
    go_wp2_with fail
    refine (rfits_any _ _ _ _ _ hl3).mono ?_
    rintro e w3 ⟨rfl, hq3⟩
    have HB3 := Lib.hid (below_call HB2.out hq3)
    have HZ3 := Lib.hid (HZ.out.below hq3)
    have hq := below_call hq2 hq3
    have R0 := (hq.cell (p := ⟨w.heap.size + 1 + 1, 0, none⟩) s2_hq1).trans RC0
    have R1 := (hq.cell (p := ⟨w.heap.size + 1 + 1, 1, none⟩) s2_hq1).trans RC1
    have R2 := (hq.frozen (p := ⟨w.heap.size + 1 + 1, 0, none⟩) s2_hq1).trans RF0
    have R3 := (hq.frozen (p := ⟨w.heap.size + 1 + 1, 1, none⟩) s2_hq1).trans RF1
    clear hq2 hq3 hq hc_hq1 hf_hq1
    go_wp2_with fail
    rw [E1.out.1, E1.out.2]
    exact bodyPost_retZE (w2 := w3) Tryd.results83 rfl rfl rfl R0 R1 (NoInt.bool _) (NoInt.slice _ _ _) HZ3.out HB3.out (by omega)
  · have E1 : Hid (calV (x * y) = 0 ∧ calE (x * y) = 2) := ⟨by unfold calV; rw [if_neg (fun k => hl3 (fit.2 k))], by unfold calE; rw [if_neg (fun k => hl3 (fit.2 k))]⟩
    clear fit
    go_wp2_with fail
    refine (rfits_not _ _ _ _ _ (by omega)).mono ?_
    rintro e w3 ⟨rfl, hq3⟩
    have HB3 := Lib.hid (below_call HB2.out hq3)
    have hq := below_call hq2 hq3
    have R0 := (hq.cell (p := ⟨w.heap.size + 1 + 1, 0, none⟩) s2_hq1).trans RC0
    have R1 := (hq.cell (p := ⟨w.heap.size + 1 + 1, 1, none⟩) s2_hq1).trans RC1
    have R2 := (hq.frozen (p := ⟨w.heap.size + 1 + 1, 0, none⟩) s2_hq1).trans RF0
    have R3 := (hq.frozen (p := ⟨w.heap.size + 1 + 1, 1, none⟩) s2_hq1).trans RF1
    clear hq2 hq3 hq hc_hq1 hf_hq1
    go_wp2_with fail
    rw [E1.out.1, E1.out.2]
    exact bodyPost_retZE (w2 := w3) Tryd.results83 rfl rfl rfl R0 R1 (NoInt.bool _) (NoInt.slice _ _ _) (IsZ.zero _ _) HB3.out (by omega)

set_option maxRecDepth 100000 in
set_option maxHeartbeats 1000000 in
theorem rorder_any (s1 : Bool) (A1 : Option Addr) (l1 c1 : Nat) (x : Int) (s2 : Bool) (A2 : Option Addr) (l2 c2 : Nat) (y : Int) (w : World)
    (h1 : IsZ w s1 A1 l1 c1 x) (h2 : IsZ w s2 A2 l2 c2 y) :
    Calls Tryd.prog 95 #[.agg #[.bool s1, .slice A1 l1 c1], .agg #[.bool s2, .slice A2 l2 c2]] w fun e w' => e = .returned (.int .i64 (cmpI x y)) ∧ Below w.heap.size w w' := by
  have H1 := Lib.hid h1
  have H2 := Lib.hid h2
  have e1 := h1.1
  have e2 := h2.1
  clear h1 h2
  have HB0 := Lib.hid (below_alloc (below_alloc (Below.refl w.heap.size w) (.cells #[.bool s1, .slice A1 l1 c1] 87)) (.cells #[.bool s2, .slice A2 l2 c2] 87))
  cases s1 <;> cases s2
  · have hx : 0 ≤ x := by simpa using e1
    have hy : 0 ≤ y := by simpa using e2
    clear e1 e2
    go_enter Tryd.func95, Tryd.ntmps95
    go_wp2_with fail
    refine (rcompare_any _ _ _ _ _ _ _ _ _ (H1.out.2.below HB0.out) (H2.out.2.below HB0.out)).mono ?_
    rintro e w1 ⟨rfl, hq1⟩
    have HQ := Lib.hid (below_call HB0.out hq1.below)
    clear hq1
    go_wp2_with fail
    go_ret
    exact ⟨ret_int (cmp_pos hx hy), HQ.out⟩
  · have hx : 0 ≤ x := by simpa using e1
    have hy : y < 0 := by simpa using e2
    clear e1 e2
    go_enter Tryd.func95, Tryd.ntmps95
    go_wp2_with fail
    go_ret
    exact ⟨ret_int (cmpI_gt (by omega)).symm, HB0.out⟩
  · have hx : x < 0 := by simpa using e1
    have hy : 0 ≤ y := by simpa using e2
    clear e1 e2
    go_enter Tryd.func95, Tryd.ntmps95
    go_wp2_with fail
    go_ret
    exact ⟨ret_int (cmpI_lt (by omega)).symm, HB0.out⟩
  · have hx : x < 0 := by simpa using e1
    have hy : y < 0 := by simpa using e2
    clear e1 e2
    go_enter Tryd.func95, Tryd.ntmps95
    go_wp2_with fail
    refine (rcompare_any _ _ _ _ _ _ _ _ _ (H2.out.2.below HB0.out) (H1.out.2.below HB0.out)).mono ?_
    rintro e w1 ⟨rfl, hq1⟩
    have HQ := Lib.hid (below_call HB0.out hq1.below)
    clear hq1
    go_wp2_with fail
    go_ret
    exact ⟨ret_int (cmp_neg hx hy), HQ.out⟩

set_option maxRecDepth 100000 in
set_option maxHeartbeats 1000000 in
theorem rCompare_ok (s1 : Bool) (A1 : Option Addr) (l1 c1 : Nat) (x : Int) (s2 : Bool) (A2 : Option Addr) (l2 c2 : Nat) (y : Int) (w : World)
    (h1 : IsZ w s1 A1 l1 c1 x) (h2 : IsZ w s2 A2 l2 c2 y) (hl1 : l1 ≤ 128) (hl2 : l2 ≤ 128) :
    Calls Tryd.prog 81 #[.agg #[.bool s1, .slice A1 l1 c1], .agg #[.bool s2, .slice A2 l2 c2]] w fun e w' => e = .returned (.tuple #[.int .i64 (cmpI x y), .int .i64 0]) ∧ Below w.heap.size w w' := by
  have H1 := Lib.hid h1
  have H2 := Lib.hid h2
  clear h1 h2
  have HB0 := Lib.hid (below_alloc (below_alloc (Below.refl w.heap.size w) (.cells #[.bool s1, .slice A1 l1 c1] 87)) (.cells #[.bool s2, .slice A2 l2 c2] 87))
  go_enter Tryd.func81, Tryd.ntmps81
  go_wp2_with fail
  refine (both_ok _ _ _ _ x _ _ _ _ y _ (H1.out.below HB0.out) (H2.out.below HB0.out) hl1 hl2).mono ?_
  rintro e w1 ⟨rfl, hq1⟩
  obtain ⟨hc_hq1, hf_hq1⟩ := bcell hq1; have sz_hq1 : w.heap.size + 2 ≤ w1.heap.size := (by have := hq1.size; (try simp at this); omega); have s0_hq1 : w.heap.size < w1.heap.size := (by omega); have s1_hq1 : w.heap.size + 1 < w1.heap.size := (by omega)
  have HB1 := Lib.hid (below_call HB0.out hq1)
  go_wp2_with fail
  refine (rorder_any _ _ _ _ _ _ _ _ _ _ _ (H1.out.below HB1.out) (H2.out.below HB1.out)).mono ?_
  rintro e w2 ⟨rfl, hq2⟩
  have HB2 := Lib.hid (below_call HB1.out hq2)
  go_wp2_with fail
  go_ret2
  exact ⟨rfl, HB2.out⟩

set_option maxRecDepth 100000 in
set_option maxHeartbeats 1000000 in
theorem count_any (A : Option Addr) (l c : Nat) (n : Nat) (w : World) (h : IsL w A l c (dig n)) (hb : l ≤ 1000000000) :
    Calls Tryd.prog 110 #[.slice A l c] w fun e w' => e = .returned (.int .i64 (bl n)) ∧ w = w' := by
  obtain ⟨rfl, _, hr⟩ := h
  have HR := Lib.hid hr; clear hr
  by_cases h0 : n = 0
  · subst h0
    rw [dig_zero]
    go_enter Tryd.func110, Tryd.ntmps110
    go_wp2
    go_ret
    exact ⟨rfl, rfl⟩
  · have hp := dig_length_pos h0
    have HW := Lib.hid (bl_dig h0)
    obtain ⟨b, off, rfl⟩ := HR.out.addr hp
    obtain ⟨x, hc1, HX⟩ := HR.out.cell ((dig n).length - 1) (by omega)
    have hlim := (limb_dig n).get ((dig n).length - 1)
    rw [HX.out] at hlim HW
    obtain ⟨h1, h2⟩ := hlim
    obtain ⟨t, rfl⟩ : ∃ t : Nat, x = (t : Int) := ⟨x.toNat, by omega⟩
    rw [Int.toNat_natCast] at HW
    have hz : (((dig n).length : Int) == 0) = false := beq_eq_false_iff_ne.2 (by omega)
    have HBn : Hid (bl n ≤ 100000000000) := Lib.hid (by have := HW.out; have := bl_le (n := t) (k := 24) (by omega); omega)
    go_enter Tryd.func110, Tryd.ntmps110
    go_wp2
    go_loop [3, 4] (fun s v => ∃ k u : Nat, s = .int .i64 k ∧ v = .int .i64 u ∧ u < 16777216 ∧ Hid (bl n = k + bl u)) (fun _ v => (intOf v).toNat)
    case atStart => exact ⟨((dig n).length - 1) * 24, t, by congr 1; omega, rfl, by omega, HW.out⟩
    case round =>
      obtain ⟨k, u, rfl, rfl, hu, HB⟩ := hrel
      have hk : k ≤ 100000000000 := by have := HB.out; have := HBn.out; omega
      by_cases hu0 : 0 < u
      · go_wp2
        go_round
        case rel => exact ⟨k + 1, u / 2, by go_num, by go_num, by omega, by rw [HB.out, bl_half (by omega)]; exact Lib.hid (by omega)⟩
        case measure => simp [intOf]; omega
      · obtain rfl : u = 0 := by omega
        go_wp2
        go_ret
        exact ⟨ret_int (by rw [HB.out, bl_zero]; rfl), rfl⟩

set_option maxRecDepth 100000 in
set_option maxHeartbeats 400000 in
theorem rbits_any (s : Bool) (A : Option Addr) (l c : Nat) (x : Int) (w : World) (h : IsZ w s A l c x) (hl : l ≤ 128) :
    Calls Tryd.prog 93 #[.agg #[.bool s, .slice A l c]] w fun e w' => e = .returned (.tuple #[.int .i64 (bl x.natAbs), .int .i64 0]) ∧ Below w.heap.size w w' := by
  have H := Lib.hid h
  clear h
  have e0 : w.heap.size < w.heap.size + 1 := by omega
  go_enter Tryd.func93, Tryd.ntmps93
  go_wp2_with fail
  refine (rcheck_ok _ _ _ _ _ _ (H.out.below (below_alloc (Below.refl _ _) _)) hl).mono ?_
  rintro e w1 ⟨rfl, hq1⟩
  obtain ⟨hc_hq1, hf_hq1⟩ := bcell hq1; have sz_hq1 : w.heap.size + 1 ≤ w1.heap.size := (by have := hq1.size; (try simp at this); omega); have s0_hq1 : w.heap.size < w1.heap.size := (by omega)
  have HB := Lib.hid (below_call (below_alloc (Below.refl _ _) _) hq1)
  have H1 := Lib.hid (H.out.below HB.out)
  go_wp2_with fail
  refine (count_any _ _ _ _ _ H1.out.2 (by omega)).mono ?_
  rintro e w' ⟨rfl, rfl⟩
  go_wp2_with fail
  go_ret2
  exact ⟨rfl, HB.out⟩
end Go.Proofs.YtpgnheankmlnfaaDoor
namespace Go.Proofs.YtpgnheankmlnfaaDoor
open Go.RowKit
set_option linter.unusedVariables false

set_option maxRecDepth 100000 in
set_option maxHeartbeats 1000000 in
theorem rof_any (n : Int) (h0 : -9223372036854775808 ≤ n) (h1 : n ≤ 9223372036854775807) (w : World) :
    Calls Tryd.prog 82 #[.int .i64 n] w (RetZ n w) := by
  obtain ⟨N, hN⟩ : ∃ N : Nat, n.natAbs = N := ⟨_, rfl⟩
  have hm : N ≤ 9223372036854775808 := by omega
  have HD : Hid (N = n.natAbs) := Lib.hid hN.symm
  clear hN
  by_cases hn : 0 < n
  case' pos =>
    obtain rfl : n = (N : Int) := by have := HD.out; omega
    have HSgn : Hid (sgn false (val (dig N)) = (N : Int)) := Lib.hid (by rw [val_dig]; rfl)
    have hnn : decide ((N : Int) < 0) = false := decide_eq_false (by omega)
    have hn1 : 0 < N := by omega
    go_enter Tryd.func82, Tryd.ntmps82
    go_wp2
  case' neg =>
    obtain rfl : n = -(N : Int) := by have := HD.out; omega
    have HSgn : Hid (sgn (decide (0 < N)) (val (dig N)) = -(N : Int)) := by
      rw [val_dig]
      by_cases hz : 0 < N
      · rw [decide_eq_true hz]; rfl
      · obtain rfl : N = 0 := by omega
        rfl
    obtain ⟨sb, hsb⟩ : ∃ sb, decide (0 < N) = sb := ⟨_, rfl⟩
    rw [hsb] at HSgn
    have HSb := Lib.hid hsb
    clear hsb
    go_enter Tryd.func82, Tryd.ntmps82
    go_wp2
    rw [HSb.out]
  all_goals
    go_loopw [0, 3] (fun s v wr => ∃ (u : Nat) (xs : List Int), s = .int .i64 (-(u : Int)) ∧ u ≤ 9223372036854775808 ∧ Hid (dig N = xs ++ dig u) ∧ Hid (OwnV wr (w.heap.size + 1) v xs) ∧ Hid (Below (w.heap.size + 1) (w.alloc (.cells #[.bool false, .slice none 0 0] 87)) wr)) (fun s _ _ => (-(intOf s)).toNat)
  all_goals try
    case atStart => exact ⟨N, [], rfl, hm, rfl, OwnV.nil _ _, Below.refl _ _⟩
  all_goals
    obtain ⟨u, xs, rfl, hu, HDig, HO, HB⟩ := hrel
    have hsz := HB.out.size
    have HLen : Hid (xs.length ≤ 3) := by
      have h1 := dig_length_le (n := N) (k := 3) (by omega)
      rw [HDig.out, List.length_append] at h1
      exact Lib.hid (by omega)
    rw [World.size_alloc] at hsz
    by_cases h0 : 0 < u
    · go_wp2_with (at_builtin; refine wpList_append_int _ rfl _ _ rfl (w.heap.size + 1) _ xs _ HO.out rfl rfl (by have := HLen.out; omega) hsz ?_)
      intro v' w' HO' HB'
      have HO2 := Lib.hid HO'
      have HB2 := Lib.hid (HB.out.trans HB')
      clear HO' HB'
      go_wp2_with fail
      refine ⟨⟨u / 16777216, xs ++ [((u % 16777216 : Nat) : Int)], by congr 1, by omega, ?_, HO2.out, HB2.out⟩, by simp [intOf]; omega⟩
      refine Lib.hid ?_
      rw [HDig.out, dig_pos (show u ≠ 0 by omega), List.append_assoc]
      rfl
    · obtain ⟨A, l, c, rfl, hl, hge⟩ := HO.out.isL
      obtain rfl : u = 0 := by omega
      have hd := HDig.out
      rw [dig_zero, List.append_nil] at hd
      have HL := Lib.hid hl
      have HDig2 := Lib.hid hd
      clear hl hge hd
      have s0 : w.heap.size < wr.heap.size := by omega
      have k0 : wr.cell? ⟨w.heap.size, 0, none⟩ = some (.bool false) := by rw [HB.out.cell (p := ⟨w.heap.size, 0, none⟩) (by simp)]; simp [go_sem]
      have k1 : wr.cell? ⟨w.heap.size, 1, none⟩ = some (.slice none 0 0) := by rw [HB.out.cell (p := ⟨w.heap.size, 1, none⟩) (by simp)]; simp [go_sem]
      have f0 : wr.frozen? ⟨w.heap.size, 0, none⟩ = false := by rw [HB.out.frozen (p := ⟨w.heap.size, 0, none⟩) (by simp)]; simp [go_sem]
      have f1 : wr.frozen? ⟨w.heap.size, 1, none⟩ = false := by rw [HB.out.frozen (p := ⟨w.heap.size, 1, none⟩) (by simp)]; simp [go_sem]
      go_wp2_with fail
      try rw [decide_eq_false (show ¬ ((N : Int) < 0) by omega)]
      refine (rmade_any _ _ _ xs _ _ HL.out (by rw [← HDig2.out]; exact limb_dig _)).mono ?_
      rintro e w2 ⟨s2, A2, n2, c2, rfl, hz2, hq2⟩
      rw [← HDig2.out, HSgn.out] at hz2
      have HZ2 := Lib.hid hz2
      obtain ⟨hc2, hf2⟩ := bcell hq2
      clear hz2
      go_wp2_with fail
      exact bodyPost_retZ (w2 := w2) Tryd.results82 rfl rfl (x0 := .bool false) (x1 := .slice none 0 0) (by simp [hc2, s0, k0]) (by simp [hc2, s0, k1]) (NoInt.bool _) (NoInt.slice _ _ _) HZ2.out (below_call ((below_alloc (Below.refl _ _) _).trans (HB.out.mono (by simp))) hq2) (Nat.le_refl _)
end Go.Proofs.YtpgnheankmlnfaaDoor
