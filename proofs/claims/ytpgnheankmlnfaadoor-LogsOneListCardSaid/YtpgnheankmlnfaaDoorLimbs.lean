/- The walks over the package exact's functions on limbs. -/
import Derived.Test.YtpgnheankmlnfaaDoorProg
import Derived.Test.YtpgnheankmlnfaaDoorShelf
import Derived.Test.YtpgnheankmlnfaaDoorNum
namespace Go.Proofs.YtpgnheankmlnfaaDoor
open Go.RowKit
set_option linter.unusedVariables false

set_option maxHeartbeats 400000 in
theorem trim_any (A : Option Addr) (c : Nat) (xs : List Int) (w : World) (hr : Rd w A xs) (hc : xs.length ≤ c) :
    Calls Tryd.prog 120 #[.slice A xs.length c] w fun e w' => e = .returned (.slice A (trimN xs xs.length) c) ∧ w = w' := by
  have HR := Lib.hid hr; clear hr
  go_enter Tryd.func120, Tryd.ntmps120
  go_wp2
  go_loop [0] (fun s => ∃ m : Nat, m ≤ xs.length ∧ Hid (trimN xs m = trimN xs xs.length) ∧ s = .slice A m c) (fun s => match s with | .slice _ m _ => m | _ => 0)
  case atStart => exact ⟨xs.length, Nat.le_refl _, rfl, rfl⟩
  case round =>
    obtain ⟨m, hm, HT, rfl⟩ := hrel
    have hl := HR.out.1
    by_cases h0 : 0 < m
    · obtain ⟨b, off, rfl⟩ := HR.out.addr (by omega)
      obtain ⟨k, rfl⟩ : ∃ k, m = k + 1 := ⟨m - 1, by omega⟩
      obtain ⟨x, hc1, HX⟩ := HR.out.cell k (by omega)
      by_cases hz : x = 0
      · go_wp2
        refine ⟨⟨k, by omega, ?_, rfl⟩, by simp⟩
        exact (trimN_step (HX.out.trans hz)).symm.trans HT.out
      · go_wp2
        go_ret
        rw [← HT.out, trimN_stop (fun e => hz (HX.out.symm.trans e))]
        exact ⟨rfl, rfl⟩
    · go_wp2
      go_ret
      have : m = 0 := by omega
      subst this
      rw [← HT.out]
      exact ⟨rfl, rfl⟩

set_option maxHeartbeats 400000 in
theorem width_any (A : Option Addr) (l c : Nat) (n : Nat) (w : World) (h : IsL w A l c (dig n)) (hb : l ≤ 1000000000) :
    Calls Tryd.prog 87 #[.slice A l c] w fun e w' => e = .returned (.int .i64 (bl n)) ∧ w = w' := by
  obtain ⟨rfl, _, hr⟩ := h
  have HR := Lib.hid hr; clear hr
  by_cases h0 : n = 0
  · subst h0
    rw [dig_zero]
    go_enter Tryd.func87, Tryd.ntmps87
    go_wp2
    go_ret
    exact ⟨rfl, rfl⟩
  · have hp := dig_length_pos h0
    have HW := Lib.hid (bl_dig h0)
    obtain ⟨b, off, rfl⟩ := HR.out.addr hp
    obtain ⟨x, hc1, HX⟩ := HR.out.cell ((dig n).length - 1) (by omega)
    have hlim := (limb_dig n).get ((dig n).length - 1)
    rw [HX.out] at hlim HW
    have hb2 : bl x.toNat ≤ 64 := bl_le (by omega)
    have HB := Lib.hid (bitLen_bl x.toNat (by omega))
    obtain ⟨h1, h2⟩ := hlim
    go_enter Tryd.func87, Tryd.ntmps87
    go_wp2_with fail
    refine (Tryd.bits_Len _ _ (by omega) (by omega)).mono ?_
    rintro e w' ⟨rfl, rfl⟩
    rw [HB.out]
    go_wp2
    go_ret
    rw [HW.out]
    refine ⟨ret_int ?_, rfl⟩
    omega
set_option maxHeartbeats 400000 in
theorem compare_any (A : Option Addr) (l c : Nat) (m : Nat) (B : Option Addr) (l' d : Nat) (n : Nat) (w : World) (h1 : IsL w A l c (dig m)) (h2 : IsL w B l' d (dig n)) :
    Calls Tryd.prog 121 #[.slice A l c, .slice B l' d] w fun e w' => e = .returned (.int .i64 (cmpI m n)) ∧ Drawn w w' := by
  obtain ⟨rfl, _, hr⟩ := h1
  obtain ⟨rfl, _, ks⟩ := h2
  have HR := Lib.hid hr; clear hr
  have KS := Lib.hid ks; clear ks
  have HL := dig_length_le_iff m
  by_cases hlen : (dig m).length = (dig n).length
  · have hl1 := HR.out.1
    clear HL
    obtain ⟨ys, hy⟩ : ∃ ys, dig n = ys := ⟨_, rfl⟩
    obtain ⟨xs, hx⟩ : ∃ xs, dig m = xs := ⟨_, rfl⟩
    have HX := Lib.hid hx
    have HY := Lib.hid hy
    rw [hx, hy] at hlen
    rw [hx] at HR hl1 ⊢
    rw [hy] at KS ⊢
    rw [← hlen] 
    clear hx hy
    have HLen := Lib.hid hlen
    clear hlen
    go_enter Tryd.func121, Tryd.ntmps121
    go_wp2
    go_loopw [5] (fun s wr => ∃ k : Nat, k ≤ xs.length ∧ Hid (xs.drop k = ys.drop k) ∧ s = .int .i64 ((k : Int) - 1) ∧ ∃ q, wr = w.drewN q) (fun s _ => (intOf s + 1).toNat)
    case atStart => exact ⟨xs.length, Nat.le_refl _, Lib.hid (by rw [List.drop_length, HLen.out, List.drop_length]), rfl, 0, rfl⟩
    case round =>
      obtain ⟨k, hk, HD, rfl, q, rfl⟩ := hrel
      by_cases h0 : 0 < k
      · obtain ⟨j, rfl⟩ : ∃ j, k = j + 1 := ⟨k - 1, by omega⟩
        rw [show ((j + 1 : Nat) : Int) - 1 = (j : Int) by omega]
        obtain ⟨b, off, rfl⟩ := HR.out.addr (by omega)
        obtain ⟨b2, off2, rfl⟩ := KS.out.addr (by have := HLen.out; omega)
        obtain ⟨x, hx, HX1⟩ := HR.out.cell j (by omega)
        obtain ⟨y, hy, HY1⟩ := KS.out.cell j (by have := HLen.out; omega)
        have hjx : (j : Int) < (xs.length : Int) := by omega
        have hLx := (limb_dig m).get j
        have hLy := (limb_dig n).get j
        rw [HX.out, HX1.out] at hLx
        rw [HY.out, HY1.out] at hLy
        rcases Int.lt_trichotomy x y with hxy | hxy | hxy
        · go_wp2
          go_quiet (fail)
          go_wp2
          go_ret
          have hd := HD.out
          rw [← HX.out, ← HY.out] at hd
          exact ⟨ret_int (cmpI_lt (dig_cmp (by rw [HX.out, HY.out, HLen.out]) j (by rw [HX.out]; omega) hd (by rw [HX.out, HY.out, HX1.out, HY1.out]; exact hxy))).symm, (Drawn.refl _).drewN _ |>.drewN _⟩
        · subst hxy
          go_wp2
          go_quiet (fail)
          go_wp2
          go_quiet (fail)
          go_wp2
          go_roundw
          case rel => exact ⟨j, by omega, Lib.hid (drop_step HLen.out j (by omega) HD.out (HX1.out.trans HY1.out.symm)), rfl, _, rfl⟩
          case measure => simp [intOf]
        · go_wp2
          go_quiet (fail)
          go_wp2
          go_quiet (fail)
          go_wp2
          go_ret
          have hd := HD.out.symm
          rw [← HX.out, ← HY.out] at hd
          exact ⟨ret_int (cmpI_gt (dig_cmp (by rw [HX.out, HY.out, HLen.out]) j (by rw [HY.out, ← HLen.out]; omega) hd (by rw [HX.out, HY.out, HX1.out, HY1.out]; exact hxy))).symm, (((Drawn.refl _).drewN _).drewN _).drewN _⟩
      · go_wp2
        go_ret
        have hk0 : k = 0 := by omega
        subst hk0
        have e := dig_eq_of_drop HLen.out HD.out
        rw [← HX.out, ← HY.out] at e
        exact ⟨ret_int (cmpI_eq (by rw [dig_inj e])).symm, (Drawn.refl _).drewN _⟩
  · have hl1 := HR.out.1
    have hl2 := KS.out.1
    rcases Nat.lt_or_gt_of_ne hlen with h | h
    · have HF := Lib.hid (dig_len_lt h)
      have hne : (((dig m).length : Int) != ((dig n).length : Int)) = true := bne_iff_ne.2 (by omega)
      go_enter Tryd.func121, Tryd.ntmps121
      go_wp2
      go_ret
      exact ⟨ret_int (cmpI_lt HF.out).symm, Drawn.refl _⟩
    · have HF := Lib.hid (dig_len_lt h)
      have hne : (((dig m).length : Int) != ((dig n).length : Int)) = true := bne_iff_ne.2 (by omega)
      go_enter Tryd.func121, Tryd.ntmps121
      go_wp2
      go_ret
      exact ⟨ret_int (cmpI_gt HF.out).symm, Drawn.refl _⟩
set_option maxRecDepth 100000 in
set_option maxHeartbeats 1000000 in
theorem times_any (A : Option Addr) (l c : Nat) (m : Nat) (B : Option Addr) (l' d : Nat) (n : Nat) (w : World) (h1 : IsL w A l c (dig m)) (h2 : IsL w B l' d (dig n)) (hb1 : l ≤ 1000000) (hb2 : l' ≤ 1000000) :
    Calls Tryd.prog 105 #[.slice A l c, .slice B l' d] w (RetSl (dig (m * n)) w) := by
  obtain ⟨rfl, _, hr⟩ := h1
  obtain ⟨rfl, _, ks⟩ := h2
  have HR := Lib.hid hr; clear hr
  have KS := Lib.hid ks; clear ks
  by_cases h0 : m = 0 ∨ n = 0
  · have h1 : m * n = 0 := Nat.mul_eq_zero.2 h0
    rw [h1, dig_zero]
    by_cases hm : m = 0
    · subst hm
      rw [dig_zero]
      go_enter Tryd.func105, Tryd.ntmps105
      go_wp2
      go_ret
      exact RetSl.nil _
    · have hn : n = 0 := by omega
      subst hn
      rw [dig_zero]
      have hm1 : (((dig m).length : Int) == 0) = false := beq_eq_false_iff_ne.2 (by have := dig_length_pos hm; omega)
      go_enter Tryd.func105, Tryd.ntmps105
      go_wp2
      go_ret
      exact RetSl.nil _
  · have hm := dig_length_pos (show m ≠ 0 by omega)
    have hn := dig_length_pos (show n ≠ 0 by omega)
    have hm1 : (((dig m).length : Int) == 0) = false := beq_eq_false_iff_ne.2 (by omega)
    have hn1 : (((dig n).length : Int) == 0) = false := beq_eq_false_iff_ne.2 (by omega)
    obtain ⟨i0, hi, hz0, hz1, hz2⟩ := info_parts infoInt
    have LX := limb_dig m
    have LY := limb_dig n
    have HE := Lib.hid (fun ys => @mul_done m n ys)
    have HL := Lib.hid (@mul_len m n)
    have HX := Lib.hid LX; clear LX
    have HY := Lib.hid LY; clear LY
    obtain ⟨b, off, rfl⟩ := HR.out.addr (by omega)
    obtain ⟨b2, off2, rfl⟩ := KS.out.addr (by omega)
    obtain ⟨xs, hx⟩ : ∃ xs, dig m = xs := ⟨_, rfl⟩
    obtain ⟨ys, hy⟩ : ∃ xs, dig n = xs := ⟨_, rfl⟩
    obtain ⟨zs, hz⟩ : ∃ xs, dig (m * n) = xs := ⟨_, rfl⟩
    rw [hx] at HR HX hm1 hm hb1 HE HL ⊢
    rw [hy] at KS HY hn1 hn hb2 HE HL ⊢
    rw [hz] at HE HL ⊢
    clear hx hy hz h0
    go_enter Tryd.func105, Tryd.ntmps105
    go_wp2_with (at_make; refine wpList_make_full _ rfl _ _ 30 rfl w.heap.size 3 i0 (.int .i64 0) 1 Tryd.underlying30 hi hz0 hz1 _ _ _ _ (xs.length + ys.length) rfl rfl (by omega) (by omega) ?_ ?_ ?_ ?_)
    · rw [hz2]; omega
    · simp only [maxLen]; omega
    · exact Nat.le_refl _
    intro w1 hown hgrow
    have OW : Hid (Own w1 w.heap.size w.heap.size (xs.length + ys.length) (xs.length + ys.length) (List.replicate (xs.length + ys.length) 0)) := by
      have := madeCells_ints (xs.length + ys.length)
      rw [Nat.mul_one] at this
      show World.ownsRow _ _ _ _ _ _ _
      rw [← this]
      exact hown
    have HB : Hid (Below w.heap.size w w1) := (Below.refl _ _).grown hgrow (Nat.le_refl _) (fun k h => by cases h)
    clear hown hgrow hi hz0 hz1 hz2
    go_wp2
    go_loopw [27] (fun s wr => ∃ (i : Nat) (zs : List Int), i ≤ xs.length ∧ s = .int .i64 i ∧ Hid (MulOut xs ys i zs) ∧ Hid (Own wr w.heap.size w.heap.size (xs.length + ys.length) (xs.length + ys.length) zs) ∧ Hid (Below w.heap.size w wr)) (fun s _ => xs.length - (intOf s).toNat)
    case atStart => exact ⟨0, _, Nat.zero_le _, rfl, mul_start xs ys, OW, HB⟩
    case round =>
      clear OW HB
      obtain ⟨i, zs, hi, rfl, HM, OW, HB⟩ := hrel
      have HLim := HX.out
      by_cases hlt : i < xs.length
      · obtain ⟨x, hcx, HX1⟩ := (HR.out.below HB.out).cell i hlt
        have hxb := HX.out.get i
        rw [HX1.out] at hxb
        obtain ⟨wo, rfl⟩ : ∃ wo : World, wo = wr := ⟨_, rfl⟩
        go_wp2
        go_loopw [34, 8] (fun s cc wi => ∃ (j : Nat) (zs : List Int) (cv : Int), j ≤ ys.length ∧ s = .int .i64 j ∧ cc = .int .i64 cv ∧ 0 ≤ cv ∧ cv < 16777216 ∧ Hid (MulIn xs ys i j zs cv) ∧ Hid (Own wi w.heap.size w.heap.size (xs.length + ys.length) (xs.length + ys.length) zs) ∧ Hid (Below w.heap.size w wi)) (fun s _ _ => ys.length - (intOf s).toNat)
        case atStart => exact ⟨0, zs, 0, Nat.zero_le _, rfl, rfl, Int.le_refl _, by decide, mul_in HM.out, OW, HB⟩
        case round =>
          clear OW HB HM
          obtain ⟨j, zs, cv, hj, rfl, rfl, hc0, hc1, HM, OW, HB⟩ := hrel
          by_cases hjt : j < ys.length
          · obtain ⟨y, hcy, HY1⟩ := (KS.out.below HB.out).cell j hjt
            obtain ⟨z, hcz, HZ1⟩ := OW.out.cell (i + j) (by omega)
            have hfz := OW.out.frozen (i + j)
            have hyb := HY.out.get j
            rw [HY1.out] at hyb
            have hzb := HM.out.2.1.get (i + j)
            rw [HZ1.out] at hzb
            have hmb := mul_bound hxb.1 hxb.2 hyb.1 hyb.2
            go_wp2
            refine ⟨⟨j + 1, _, (cv + (z + x * y)) / 16777216, by omega, by go_num, rfl, by omega, by omega, ?_, OW.out.set (i + j) _, HB.out.setCell (Nat.le_refl _) _⟩, by simp [intOf]; omega⟩
            rw [and_low24]
            exact mul_step HX.out HY.out hlt hjt HM.out (by rw [HX1.out, HY1.out, HZ1.out])
          · obtain rfl : j = ys.length := by omega
            obtain ⟨z, hcz, HZ1⟩ := OW.out.cell (i + ys.length) (by omega)
            have hfz := OW.out.frozen (i + ys.length)
            go_wp2
            exact ⟨⟨i + 1, _, by omega, by go_num, mul_row hlt HM.out, OW.out.set _ _, HB.out.setCell (Nat.le_refl _) _⟩, by simp [intOf]; omega⟩
      · obtain rfl : i = xs.length := by omega
        obtain ⟨hrd, hcap, _⟩ := OW.out.rd
        have HRD := Lib.hid hrd; clear hrd
        have HLen := Lib.hid OW.out.len
        have hz := HE.out zs HM.out
        have hz2 := congrArg List.length hz
        rw [List.length_take, Nat.min_eq_left (trimN_le zs _)] at hz2
        have HZ := Lib.hid hz; have HZ2 := Lib.hid hz2
        clear hz hz2
        rw [← HLen.out]
        go_wp2_with fail
        refine (trim_any _ _ zs _ HRD.out (by omega)).mono ?_
        rintro e w' ⟨rfl, rfl⟩
        go_wp2
        go_ret
        refine ⟨_, _, _, rfl, ⟨HZ2.out.symm, trimN_le zs zs.length, ?_⟩, HB.out⟩
        have := HRD.out.take (trimN zs zs.length)
        rw [HZ.out] at this
        exact this
end Go.Proofs.YtpgnheankmlnfaaDoor
