/- The walks over the reference's functions on limbs. The walks over the reference's products. -/
import Derived.Test.YtpgnheankmlnfaaDoorExactD
namespace Go.Proofs.YtpgnheankmlnfaaDoor
open Go.RowKit
set_option linter.unusedVariables false

set_option maxRecDepth 100000 in
set_option maxHeartbeats 400000 in
theorem rtrim_any (A : Option Addr) (n c : Nat) (xs : List Int) (w : World) (h : IsL w A n c xs) :
    Calls Tryd.prog 112 #[.slice A n c] w fun e w' => e = .returned (.slice A (trimN xs n) (trimN xs n)) ∧ w = w' := by
  obtain ⟨rfl, hc, hr⟩ := h
  have HR := Lib.hid hr; clear hr
  go_enter Tryd.func112, Tryd.ntmps112
  go_wp2
  go_loop [3] (fun s => ∃ m : Nat, m ≤ xs.length ∧ Hid (trimN xs m = trimN xs xs.length) ∧ s = .int .i64 m) (fun s => (intOf s).toNat)
  case atStart => exact ⟨xs.length, Nat.le_refl _, rfl, rfl⟩
  case round =>
    obtain ⟨m, hm, HT, rfl⟩ := hrel
    have hl := HR.out.1
    by_cases h0 : 0 < m
    · obtain ⟨b, off, rfl⟩ := HR.out.addr (by omega)
      obtain ⟨k, rfl⟩ : ∃ k, m = k + 1 := ⟨m - 1, by omega⟩
      obtain ⟨x, hc1, HX⟩ := HR.out.cell k (by omega)
      by_cases hz : x = 0
      · go_wp2
        refine ⟨⟨k, by omega, ?_, by go_num⟩, by simp [intOf]⟩
        exact (trimN_step (HX.out.trans hz)).symm.trans HT.out
      · have bz : (x == 0) = false := beq_eq_false_iff_ne.2 hz
        go_wp2
        go_ret
        rw [← HT.out, trimN_stop (fun e => hz (HX.out.symm.trans e))]
        exact ⟨rfl, rfl⟩
    · go_wp2
      go_ret
      have : m = 0 := by omega
      subst this
      rw [← HT.out]
      exact ⟨rfl, rfl⟩
theorem isL_trim {w : World} {A : Option Addr} {n c : Nat} {xs : List Int} (h : IsL w A n c xs) (hx : Limb xs) : IsL w A (trimN xs n) (trimN xs n) (dig (val xs).toNat) := by
  obtain ⟨rfl, hc, hr⟩ := h
  refine ⟨(trim_len hx).symm, Nat.le_refl _, ?_⟩
  have := hr.take (trimN xs xs.length)
  rw [trim_dig hx] at this
  exact this
/-- .. of limbs. -/
theorem rtrim_dig (A : Option Addr) (n c : Nat) (xs : List Int) (w : World) (h : IsL w A n c xs) (hx : Limb xs) :
    Calls Tryd.prog 112 #[.slice A n c] w fun e w' => ∃ m, e = .returned (.slice A m m) ∧ IsL w' A m m (dig (val xs).toNat) ∧ w = w' := by
  refine (rtrim_any A n c xs w h).mono ?_
  rintro e w' ⟨rfl, rfl⟩
  exact ⟨_, rfl, isL_trim h hx, rfl⟩

/-- The integer of limbs and a sign. -/
def sgn (neg : Bool) (z : Int) : Int := if neg then -z else z
theorem isZ_sgn {w : World} {A : Option Addr} {m c : Nat} {N : Nat} (neg : Bool) (h : IsL w A m c (dig N)) : IsZ w (neg && decide (0 < m)) A m c (sgn neg N) := by
  have hl := h.1
  constructor
  · by_cases hN : N = 0
    · subst hN
      rw [dig_zero] at hl
      simp at hl
      subst hl
      cases neg <;> simp [sgn]
    · have := dig_length_pos hN
      cases neg
      · simp [sgn]
      · simp [sgn]; omega
  · have : (sgn neg N).natAbs = N := by cases neg <;> simp [sgn]
    rw [this]
    exact h

set_option maxRecDepth 100000 in
set_option maxHeartbeats 400000 in
theorem rmade_any (A : Option Addr) (n c : Nat) (xs : List Int) (neg : Bool) (w : World) (h : IsL w A n c xs) (hx : Limb xs) :
    Calls Tryd.prog 96 #[.slice A n c, .bool neg] w (RetZ (sgn neg (val xs)) w) := by
  have H := Lib.hid h
  have HX := Lib.hid hx
  clear h hx
  have hv := val_nonneg HX.out
  obtain ⟨N, hN⟩ : ∃ N, (val xs).toNat = N := ⟨_, rfl⟩
  have hN2 : val xs = (N : Int) := by omega
  have HN := Lib.hid hN
  rw [hN2]
  clear hN hN2
  cases neg
  case' true =>
    go_enter Tryd.func96, Tryd.ntmps96
  case' false =>
    go_enter Tryd.func96, Tryd.ntmps96
  all_goals
    go_wp2_with fail
    refine (rtrim_any _ _ _ _ _ (H.out.below (below_alloc (Below.refl _ _) _))).mono ?_
    rintro e w' ⟨rfl, rfl⟩
    have hl := isL_trim H.out HX.out
    rw [HN.out] at hl
    have HL := Lib.hid hl
    clear hl
    go_wp2_with fail
    first
      | exact bodyPost_varZ Tryd.results96 rfl rfl (VarZ.new (isZ_sgn false HL.out) _) (below_alloc (Below.refl _ _) _)
      | exact bodyPost_varZ Tryd.results96 rfl rfl (VarZ.new (isZ_sgn true HL.out) _) (below_alloc (Below.refl _ _) _)

set_option maxHeartbeats 400000 in
theorem rcompare_any (A : Option Addr) (l c : Nat) (m : Nat) (B : Option Addr) (l' d : Nat) (n : Nat) (w : World) (h1 : IsL w A l c (dig m)) (h2 : IsL w B l' d (dig n)) :
    Calls Tryd.prog 111 #[.slice A l c, .slice B l' d] w fun e w' => e = .returned (.int .i64 (cmpI m n)) ∧ Drawn w w' := by
  obtain ⟨rfl, _, hr⟩ := h1
  obtain ⟨rfl, _, ks⟩ := h2
  have HR := Lib.hid hr; clear hr
  have KS := Lib.hid ks; clear ks
  by_cases hlen : (dig m).length = (dig n).length
  · have hl1 := HR.out.1
    obtain ⟨ys, hy⟩ : ∃ ys, dig n = ys := ⟨_, rfl⟩
    obtain ⟨xs, hx⟩ : ∃ xs, dig m = xs := ⟨_, rfl⟩
    have HX := Lib.hid hx
    have HY := Lib.hid hy
    rw [hx, hy] at hlen
    rw [hx] at HR hl1 ⊢
    rw [hy] at KS ⊢
    rw [← hlen]
    clear hx hy
    have HLen := Lib.hid hlen
    clear hlen
    go_enter Tryd.func111, Tryd.ntmps111
    go_wp2
    go_loopw [5] (fun s wr => ∃ k : Nat, k ≤ xs.length ∧ Hid (xs.drop k = ys.drop k) ∧ s = .int .i64 ((k : Int) - 1) ∧ ∃ q, wr = w.drewN q) (fun s _ => (intOf s + 1).toNat)
    case atStart => exact ⟨xs.length, Nat.le_refl _, Lib.hid (by rw [List.drop_length, HLen.out, List.drop_length]), rfl, 0, rfl⟩
    case round =>
      obtain ⟨k, hk, HD, rfl, q, rfl⟩ := hrel
      by_cases h0 : 0 < k
      · obtain ⟨j, rfl⟩ : ∃ j, k = j + 1 := ⟨k - 1, by omega⟩
        rw [show ((j + 1 : Nat) : Int) - 1 = (j : Int) by omega]
        obtain ⟨b, off, rfl⟩ := HR.out.addr (by omega)
        obtain ⟨b2, off2, rfl⟩ := KS.out.addr (by have := HLen.out; omega)
        obtain ⟨x, hx, HX1⟩ := HR.out.cell j (by omega)
        obtain ⟨y, hy, HY1⟩ := KS.out.cell j (by have := HLen.out; omega)
        have hjx : (j : Int) < (xs.length : Int) := by omega
        have hLx := (limb_dig m).get j
        have hLy := (limb_dig n).get j
        rw [HX.out, HX1.out] at hLx
        rw [HY.out, HY1.out] at hLy
        rcases Int.lt_trichotomy x y with hxy | hxy | hxy
        · go_wp2
          go_quiet (fail)
          go_wp2
          go_ret
          have hd := HD.out
          rw [← HX.out, ← HY.out] at hd
          exact ⟨ret_int (cmpI_lt (dig_cmp (by rw [HX.out, HY.out, HLen.out]) j (by rw [HX.out]; omega) hd (by rw [HX.out, HY.out, HX1.out, HY1.out]; exact hxy))).symm, (Drawn.refl _).drewN _ |>.drewN _⟩
        · subst hxy
          go_wp2
          go_quiet (fail)
          go_wp2
          go_quiet (fail)
          go_wp2
          go_roundw
          case rel => exact ⟨j, by omega, Lib.hid (drop_step HLen.out j (by omega) HD.out (HX1.out.trans HY1.out.symm)), rfl, _, rfl⟩
          case measure => simp [intOf]
        · go_wp2
          go_quiet (fail)
          go_wp2
          go_quiet (fail)
          go_wp2
          go_ret
          have hd := HD.out.symm
          rw [← HX.out, ← HY.out] at hd
          exact ⟨ret_int (cmpI_gt (dig_cmp (by rw [HX.out, HY.out, HLen.out]) j (by rw [HY.out, ← HLen.out]; omega) hd (by rw [HX.out, HY.out, HX1.out, HY1.out]; exact hxy))).symm, (((Drawn.refl _).drewN _).drewN _).drewN _⟩
      · go_wp2
        go_ret
        have hk0 : k = 0 := by omega
        subst hk0
        have e := dig_eq_of_drop HLen.out HD.out
        rw [← HX.out, ← HY.out] at e
        exact ⟨ret_int (cmpI_eq (by rw [dig_inj e])).symm, (Drawn.refl _).drewN _⟩
  · have hl1 := HR.out.1
    have hl2 := KS.out.1
    rcases Nat.lt_or_gt_of_ne hlen with h | h
    · have HF := Lib.hid (dig_len_lt h)
      go_enter Tryd.func111, Tryd.ntmps111
      go_wp2
      go_ret
      exact ⟨ret_int (cmpI_lt HF.out).symm, Drawn.refl _⟩
    · have HF := Lib.hid (dig_len_lt h)
      go_enter Tryd.func111, Tryd.ntmps111
      go_wp2
      go_ret
      exact ⟨ret_int (cmpI_gt HF.out).symm, Drawn.refl _⟩
end Go.Proofs.YtpgnheankmlnfaaDoor
namespace Go.Proofs.YtpgnheankmlnfaaDoor
open Go.RowKit
set_option linter.unusedVariables false

theorem mul_done' {xs ys zs : List Int} (hx : Limb xs) (hy : Limb ys) (h : MulOut xs ys xs.length zs) : zs.take (trimN zs zs.length) = dig (val xs * val ys).toNat := by
  obtain ⟨h1, h2, h3, h4⟩ := h
  rw [trim_dig h2, h3, List.take_length]

set_option maxRecDepth 100000 in
set_option maxHeartbeats 1000000 in
theorem rmul_any (A : Option Addr) (l c : Nat) (xs : List Int) (B : Option Addr) (l' d : Nat) (ys : List Int) (w : World) (h1 : IsL w A l c xs) (h2 : IsL w B l' d ys) (hx : Limb xs) (hy : Limb ys) (hb1 : l ≤ 1000000) (hb2 : l' ≤ 1000000) :
    Calls Tryd.prog 113 #[.slice A l c, .slice B l' d] w (RetSl (dig (val xs * val ys).toNat) w) := by
  obtain ⟨rfl, _, hr⟩ := h1
  obtain ⟨rfl, _, ks⟩ := h2
  have HR := Lib.hid hr; clear hr
  have KS := Lib.hid ks; clear ks
  have HE := Lib.hid (fun zs => @mul_done' xs ys zs hx hy)
  have HX := Lib.hid hx
  have HY := Lib.hid hy
  clear hx hy
  go_enter Tryd.func113, Tryd.ntmps113
  go_wp2_with (at_make; refine wpList_make_int _ rfl _ _ rfl _ _ (xs.length + ys.length) rfl rfl (by omega) (by omega) (by omega) ?_)
  intro w1 hown hb
  have OW := Lib.hid hown
  have HB := Lib.hid hb
  clear hown hb
  go_wp2
  go_loopw [6] (fun s wr => ∃ (i : Nat) (zs : List Int), i ≤ xs.length ∧ s = .int .i64 i ∧ Hid (MulOut xs ys i zs) ∧ Hid (Own wr w.heap.size w.heap.size (xs.length + ys.length) (xs.length + ys.length) zs) ∧ Hid (Below w.heap.size w wr)) (fun s _ => xs.length - (intOf s).toNat)
  case atStart => exact ⟨0, _, Nat.zero_le _, rfl, mul_start xs ys, OW, HB⟩
  case round =>
    clear OW HB
    obtain ⟨i, zs, hi, rfl, HM, OW, HB⟩ := hrel
    by_cases hlt : i < xs.length
    · obtain ⟨ab, aoff, rfl⟩ := HR.out.addr (by omega)
      obtain ⟨x, hcx, HX1⟩ := HR.out.cell i hlt
      have hxb := HX.out.get i
      rw [HX1.out] at hxb
      obtain ⟨wo, rfl⟩ : ∃ wo : World, wo = wr := ⟨_, rfl⟩
      go_wp2
      go_loopw [8, 7] (fun s cc wi => ∃ (j : Nat) (zs : List Int) (cv : Int), j ≤ ys.length ∧ s = .int .i64 j ∧ cc = .int .i64 cv ∧ 0 ≤ cv ∧ cv < 16777216 ∧ Hid (MulIn xs ys i j zs cv) ∧ Hid (Own wi w.heap.size w.heap.size (xs.length + ys.length) (xs.length + ys.length) zs) ∧ Hid (Below w.heap.size w wi)) (fun s _ _ => ys.length - (intOf s).toNat)
      case atStart => exact ⟨0, zs, 0, Nat.zero_le _, rfl, rfl, Int.le_refl _, by decide, mul_in HM.out, OW, HB⟩
      case round =>
        clear OW HB HM
        obtain ⟨j, zs, cv, hj, rfl, rfl, hc0, hc1, HM, OW, HB⟩ := hrel
        by_cases hjt : j < ys.length
        · obtain ⟨bb, boff, rfl⟩ := KS.out.addr (by omega)
          obtain ⟨y, hcy, HY1⟩ := (KS.out.below HB.out).cell j hjt
          obtain ⟨z, hcz, HZ1⟩ := OW.out.cell (i + j) (by omega)
          have hcx' := (HB.out.cell (p := ⟨ab, aoff + i, none⟩) (World.block_lt_of_cell? w _ hcx)).trans hcx
          have hfz := OW.out.frozen (i + j)
          have hyb := HY.out.get j
          rw [HY1.out] at hyb
          have hzb := HM.out.2.1.get (i + j)
          rw [HZ1.out] at hzb
          have hmb := mul_bound hxb.1 hxb.2 hyb.1 hyb.2
          have hi1 : (i : Int) < (xs.length : Int) := by omega
          have hj1 : (j : Int) < (ys.length : Int) := by omega
          have hij : (i : Int) + (j : Int) < (xs.length : Int) + (ys.length : Int) := by omega
          go_wp2_with fail
          go_quiet (fail)
          go_wp2_with fail
          refine ⟨⟨j + 1, _, (z + x * y + cv) / 16777216, by omega, by go_num, rfl, by omega, by omega, ?_, (OW.out.drewN _).set (i + j) _, (below_drewN HB.out _).setCell (Nat.le_refl _) _⟩, by simp [intOf]; omega⟩
          exact mul_step HX.out HY.out hlt hjt HM.out (by rw [HX1.out, HY1.out, HZ1.out]; omega)
        · obtain rfl : j = ys.length := by omega
          obtain ⟨z, hcz, HZ1⟩ := OW.out.cell (i + ys.length) (by omega)
          have hfz := OW.out.frozen (i + ys.length)
          have hz0 := HM.out.2.2.2.2.2 (i + ys.length) (Nat.le_refl _)
          rw [HZ1.out] at hz0
          subst hz0
          go_wp2
          exact ⟨⟨i + 1, _, by omega, by go_num, mul_row hlt HM.out, OW.out.set _ _, HB.out.setCell (Nat.le_refl _) _⟩, by simp [intOf]; omega⟩
    · obtain rfl : i = xs.length := by omega
      have hl : IsL wr (some ⟨w.heap.size, 0, none⟩) (xs.length + ys.length) (xs.length + ys.length) zs := ⟨OW.out.len, Nat.le_refl _, OW.out.rd.1⟩
      have HLL := Lib.hid hl
      clear hl
      go_wp2_with fail
      refine (rtrim_any _ _ _ zs _ HLL.out).mono ?_
      rintro e w' ⟨rfl, rfl⟩
      go_wp2_with fail
      go_ret
      have hr := isL_trim HLL.out HM.out.2.1
      have e := congrArg val (HE.out zs HM.out)
      rw [← OW.out.len] at hr
      have hv := HM.out.2.2.1
      rw [List.take_length] at hv
      rw [hv] at hr
      rw [← OW.out.len]
      exact ⟨_, _, _, rfl, hr, HB.out⟩
end Go.Proofs.YtpgnheankmlnfaaDoor
