/- The walk over the reference's Fold: it returns what logs.Fold returns. -/
import Derived.Test.YtpgnheankmlnfaaDoorLaw
import Derived.Test.YtpgnheankmlnfaaDoorRl
namespace Go.Proofs.YtpgnheankmlnfaaDoor
open Go.RowKit
set_option linter.unusedVariables false

/-- The signs of two numerators that follow each other. -/
def SignI (p' p : Int) : Prop := (0 ≤ p' ∧ 0 ≤ p) ∨ (p' ≤ 0 ∧ p ≤ 0) ∨ (p' = 1 ∧ p < 0 ∧ -4096 ≤ p)
theorem SignI.next {p' p x : Int} (h : SignI p' p) (hx : 1 ≤ x) (hx1 : x ≤ 4096) : SignI p (x * p + p') ∧ (1073741824 < x * p + p' → 0 ≤ p) ∧ (x * p + p' < -1073741824 → p ≤ 0) := by
  have h1 : 0 ≤ p → 1 * p ≤ x * p := fun h => Int.mul_le_mul_of_nonneg_right hx h
  have h2 : p ≤ 0 → 1 * (-p) ≤ x * (-p) := fun h => Int.mul_le_mul_of_nonneg_right hx (by omega)
  have h3 : x * -p = -(x * p) := Int.mul_neg x p
  have h4 : p ≤ 0 → -4096 ≤ p → x * (-p) ≤ 4096 * (-p) := fun a b => Int.mul_le_mul_of_nonneg_right hx1 (by omega)
  unfold SignI at h ⊢
  rcases h with h | h | h
  · have := h1 h.2; omega
  · have := h2 h.2; omega
  · have := h2 (by omega); have := h4 (by omega) h.2.2; omega
theorem wrap64_id2 {x : Int} (h1 : -9223372036854775808 ≤ x) (h2 : x < 9223372036854775808) : wrap64 x = x := by unfold wrap64; omega
theorem foldR_step {xs : List Int} {i : Nat} {p' q' p q : Int} (hi : i < xs.length) (hq : q ≤ 1073741824) : foldR (xs.drop i) p' q' p q = foldR (xs.drop (i + 1)) p q (xs.getD i 0 * p + p') (xs.getD i 0 * q + q') := by
  rw [List.drop_eq_getElem_cons hi, foldR, if_neg (by omega), List.getD_eq_getElem?_getD, List.getElem?_eq_getElem hi, Option.getD_some]
theorem mul_boundF {x p : Int} (hx : 1 ≤ x) (hx1 : x ≤ 4096) (h0 : -1073741824 ≤ p) (h1 : p ≤ 1073741824) : -4398046511104 ≤ x * p ∧ x * p ≤ 4398046511104 := by
  have a1 : x * (-1073741824) ≤ x * p := Int.mul_le_mul_of_nonneg_left h0 (by omega)
  have a2 : x * p ≤ x * 1073741824 := Int.mul_le_mul_of_nonneg_left h1 (by omega)
  omega

set_option maxRecDepth 100000 in
set_option maxHeartbeats 4000000 in
theorem rFold_any (A : Option Addr) (n c : Nat) (xs : List Int) (w : World) (h : IsL w A n c xs) :
    Calls Tryd.prog 35 #[.slice A n c] w (RetQE (folV xs).1 (folV xs).2.1 (folV xs).2.2 w) := by
  obtain ⟨hn, hnc, hr⟩ := h
  have hlx := hr.1
  obtain ⟨v1, hv1⟩ : ∃ v, inR 1 16 (n : Int) = v := ⟨_, rfl⟩
  have HV1 := Lib.hid hv1
  have HB0 := Lib.hid (below_alloc (Below.refl w.heap.size w) (.cells #[.int .i64 0, .int .i64 0] 39))
  have HX0 := Lib.hid (VarQ.new w 0 0 39)
  obtain ⟨⟨P0, Q0, E0⟩, hf⟩ : ∃ x, folV xs = x := ⟨_, rfl⟩
  have HF := Lib.hid hf
  rw [hf]
  clear hf hv1
  have hn0 : (0 : Int) ≤ n := by omega
  cases v1
  · have h1 : folV xs = (0, 0, 1) := by
      unfold folV
      rw [if_neg]
      intro hc
      have := chkT_iff.1 hc
      have h2 := HV1.out
      have : inR 1 16 (n : Int) = true := inR_iff.2 (by omega)
      rw [h2] at this
      cases this
    rw [HF.out] at h1
    cases h1
    go_enter Tryd.func35, Tryd.ntmps35
    go_wp2_with fail
    refine (In_any n 1 16 _).mono ?_
    rintro e w1 ⟨rfl, hq⟩
    rw [HV1.out]
    have HB1 := Lib.hid (below_call HB0.out hq)
    have HX1 := Lib.hid (HX0.out.below hq)
    clear hq
    obtain ⟨c0, c1, c2, c3⟩ := HX1.out
    have k1 := HX1.out.lt
    go_wp2_with fail
    exact bodyPost_varQE (B := w.heap.size) Tryd.results35 rfl rfl rfl (HX1.out.put 0 0) (below_setCell (below_setCell HB1.out (by simp) _) (by simp) _)
  obtain ⟨n0, n1⟩ := inR_iff.1 HV1.out
  obtain ⟨b, off, rfl⟩ := hr.addr (by omega)
  have hcell := Lib.hid (fun (i : Nat) (hi : i < n) => hr.cell i (by omega))
  have hbl : b < w.heap.size := by
    obtain ⟨x, hx, _⟩ := hcell.out 0 (by omega)
    exact World.block_lt_of_cell? w _ hx
  obtain ⟨x0, k0, hx0⟩ := hcell.out 0 (by omega)
  rw [Nat.add_zero] at k0
  obtain ⟨v2, hv2⟩ : ∃ v, inR (-4096) 4096 x0 = v := ⟨_, rfl⟩
  have HV2 := Lib.hid hv2
  clear hv2
  have ht0 : (0 : Int) < n := by omega
  go_enter Tryd.func35, Tryd.ntmps35
  go_wp2_with fail
  refine (In_any n 1 16 _).mono ?_
  rintro e w1 ⟨rfl, hq⟩
  rw [HV1.out]
  have HB1 := Lib.hid (below_call HB0.out hq)
  have HX1 := Lib.hid (HX0.out.below hq)
  clear hq HB0 HX0
  have k01 : w1.cell? ⟨b, off, none⟩ = some (.int .i64 x0) := (HB1.out.cell (p := ⟨b, off, none⟩) hbl).trans k0
  obtain ⟨g, hg⟩ : ∃ g, w.heap.size = g := ⟨_, rfl⟩
  rw [hg] at HX1 hbl ⊢
  have HG := Lib.hid hg
  clear hg
  go_wp2_with fail
  refine (In_any x0 (-4096) 4096 _).mono ?_
  rintro e w2 ⟨rfl, hq⟩
  rw [HV2.out]
  have HB2 := Lib.hid (below_call HB1.out hq)
  have HX2 := Lib.hid (HX1.out.below hq)
  clear hq HB1 HX1 k01
  cases v2
  · have h1 : folV xs = (0, 0, 1) := by
      unfold folV
      rw [if_neg]
      intro hc
      have h3 := (chkT_iff.1 hc).2.2.1
      rw [hx0.out] at h3
      have h2 := HV2.out
      rw [inR_iff.2 h3] at h2
      cases h2
    rw [HF.out] at h1
    cases h1
    obtain ⟨c0, c1, c2, c3⟩ := HX2.out
    have k1 := HX2.out.lt
    go_wp2_with fail
    exact bodyPost_varQE (B := g) Tryd.results35 rfl rfl rfl (HX2.out.put 0 0) (below_setCell (below_setCell HB2.out (by rw [← HG.out]; simp) _) (by rw [← HG.out]; simp) _)
  obtain ⟨x00, x01⟩ := inR_iff.1 HV2.out
  go_wp2_with fail
  go_loopw [4] (fun s wr => ∃ i : Nat, s = .int .i64 i ∧ 1 ≤ i ∧ i ≤ n ∧ Hid (∀ j, 1 ≤ j → j < i → inR 1 4096 (xs.getD j 0) = true) ∧ Hid (VarQ wr g 0 0) ∧ Hid (Below w.heap.size w wr)) (fun s _ => 100 - (intOf s).toNat)
  case atStart => exact ⟨1, rfl, by omega, by omega, Lib.hid (fun j h1 h2 => by omega), HX2, HB2.out⟩
  case round =>
    clear HX2 HB2
    obtain ⟨i, rfl, i1, i2, HALL, HX2, HB2⟩ := hrel
    have hi2 : (i : Int) ≤ n := by omega
    by_cases hlt : i < n
    · have hlt' : (i : Int) < n := by omega
      obtain ⟨x, kx, hx⟩ := hcell.out i hlt
      have kx2 : wr.cell? ⟨b, off + i, none⟩ = some (.int .i64 x) := (HB2.out.cell (p := ⟨b, off + i, none⟩) (by rw [HG.out]; exact hbl)).trans kx
      obtain ⟨v3, hv3⟩ : ∃ v, inR 1 4096 x = v := ⟨_, rfl⟩
      have HV3 := Lib.hid hv3
      clear hv3 kx
      go_wp2_with fail
      refine (In_any x 1 4096 _).mono ?_
      rintro e w3 ⟨rfl, hq⟩
      rw [HV3.out]
      have HB3 := Lib.hid (below_call HB2.out hq)
      have HX3 := Lib.hid (HX2.out.below hq)
      clear hq HB2 HX2 kx2
      cases v3
      · have h1 : folV xs = (0, 0, 1) := by
          unfold folV
          rw [if_neg]
          intro hc
          have h3 := (chkT_iff.1 hc).2.2.2
          rw [List.all_eq_true] at h3
          have h4 := h3 (xs.getD i 0) (by
            rw [List.getD_eq_getElem?_getD, List.getElem?_eq_getElem (by omega), Option.getD_some]
            rw [List.mem_drop_iff_getElem]
            exact ⟨i - 1, by omega, by congr 1; omega⟩)
          rw [hx.out, HV3.out] at h4
          cases h4
        rw [HF.out] at h1
        cases h1
        obtain ⟨c0, c1, c2, c3⟩ := HX3.out
        have k1 := HX3.out.lt
        go_wp2_with fail
        exact bodyPost_varQE (B := g) Tryd.results35 rfl rfl rfl (HX3.out.put 0 0) (below_setCell (below_setCell HB3.out (by rw [← HG.out]; simp) _) (by rw [← HG.out]; simp) _)
      · go_wp2_with fail
        refine ⟨⟨i + 1, rfl, by omega, by omega, Lib.hid (fun j h1 h2 => ?_), HX3, HB3.out⟩, ?_⟩
        · by_cases hj : j = i
          · rw [hj, hx.out]; exact HV3.out
          · exact HALL.out j h1 (by omega)
        · simp [intOf]
          omega
    · obtain rfl : n = i := by omega
      have hfr : foldR (xs.drop 1) 1 0 x0 1 = (P0, Q0, E0) := by
        rw [← HF.out, ← hx0.out]
        unfold folV
        rw [if_pos]
        refine chkT_iff.2 ⟨by omega, by omega, by rw [hx0.out]; exact ⟨x00, x01⟩, ?_⟩
        rw [List.all_eq_true]
        intro y hy
        obtain ⟨j, hj, hjy⟩ := List.mem_iff_getElem.1 hy
        rw [List.length_drop] at hj
        have := HALL.out (1 + j) (by omega) (by omega)
        rw [List.getD_eq_getElem?_getD, List.getElem?_eq_getElem (by omega), Option.getD_some] at this
        rw [← hjy, List.getElem_drop]
        exact this
      have HFR := Lib.hid hfr
      have k02 : wr.cell? ⟨b, off, none⟩ = some (.int .i64 x0) := (HB2.out.cell (p := ⟨b, off, none⟩) (by rw [HG.out]; exact hbl)).trans k0
      clear hfr HV1 HV2 HF
      go_wp2_with fail
      obtain ⟨W, hW⟩ : ∃ W, wr.alloc (.cells #[.int .i64 x0, .int .i64 1] 39) = W := ⟨_, rfl⟩
      have hb : Below wr.heap.size wr W := by rw [← hW]; exact below_alloc (Below.refl _ _) _
      have HY := Lib.hid (show VarQ W wr.heap.size x0 1 by rw [← hW]; exact VarQ.new _ _ _ _)
      have HX := Lib.hid (HX2.out.below hb)
      have HB := Lib.hid (HB2.out.trans (hb.mono HB2.out.size))
      rw [hW]
      have hgl : g < wr.heap.size := HX2.out.lt
      obtain ⟨g7, hg7⟩ : ∃ g7, wr.heap.size = g7 := ⟨_, rfl⟩
      rw [hg7] at HY hgl ⊢
      have gne : g ≠ g7 := by omega
      have gne' : g7 ≠ g := by omega
      clear hW hb HX2 HB2 hg7 k02
      go_loopw [8, 5, 6] (fun s v1 v2 wr => ∃ (i : Nat) (p' q' p q : Int), s = .int .i64 i ∧ v1 = .int .i64 p' ∧ v2 = .int .i64 q' ∧ 1 ≤ i ∧ i ≤ n ∧ -1073741824 ≤ p' ∧ p' ≤ 1073741824 ∧ 0 ≤ q' ∧ q' ≤ 1073741824 ∧ -1073741824 ≤ p ∧ p ≤ 1073741824 ∧ 0 ≤ q ∧ q ≤ 1073741824 ∧ Hid (SignI p' p) ∧ Hid (foldR (xs.drop i) p' q' p q = (P0, Q0, E0)) ∧ Hid (VarQ wr g 0 0) ∧ Hid (VarQ wr g7 p q) ∧ Hid (Below w.heap.size w wr)) (fun s _ _ _ => 100 - (intOf s).toNat)
      case atStart => exact ⟨1, 1, 0, x0, 1, rfl, rfl, rfl, by omega, by omega, by omega, by omega, by omega, by omega, by omega, by omega, by omega, by omega, Lib.hid (by unfold SignI; omega), HFR, HX, HY, HB.out⟩
      case round =>
        clear HX HY HB HFR
        obtain ⟨i, p', q', p, q, rfl, rfl, rfl, j1, j2, b1, b2, b3, b4, b5, b6, b7, b8, HSI, HFR, HX, HY, HB⟩ := hrel
        obtain ⟨d0, d1, d2, d3⟩ := HY.out
        obtain ⟨c0, c1, c2, c3⟩ := HX.out
        have kg := HX.out.lt
        have kg7 := HY.out.lt
        have hi2 : (i : Int) ≤ n := by omega
        by_cases hlt : i < n
        · have hlt' : (i : Int) < n := by omega
          obtain ⟨x, kx, hx⟩ := hcell.out i hlt
          have kx2 : wr.cell? ⟨b, off + i, none⟩ = some (.int .i64 x) := (HB.out.cell (p := ⟨b, off + i, none⟩) (by rw [HG.out]; exact hbl)).trans kx
          obtain ⟨x1, x2⟩ := inR_iff.1 (HALL.out i j1 hlt)
          rw [hx.out] at x1 x2
          obtain ⟨y1, y2⟩ := mul_boundF x1 x2 b5 b6
          obtain ⟨y3, y4⟩ := mul_boundF x1 x2 (show -1073741824 ≤ q by omega) b8
          have y5 : 0 ≤ x * q := Int.mul_nonneg (by omega) b7
          have hstep := foldR_step (p' := p') (q' := q') (p := p) (show i < xs.length by omega) b8
          rw [hx.out, HFR.out] at hstep
          obtain ⟨hs1, hs2, hs3⟩ := HSI.out.next x1 x2
          obtain ⟨N, hN⟩ : ∃ N, x * p + p' = N := ⟨_, rfl⟩
          obtain ⟨D, hD⟩ : ∃ D, x * q + q' = D := ⟨_, rfl⟩
          rw [hN, hD] at hstep
          rw [hN] at hs1 hs2 hs3
          have z1 : wrap64 (wrap64 (x * p) + p') = N := by rw [wrap64_id2 (x := x * p) (by omega) (by omega), hN]; exact wrap64_id2 (by omega) (by omega)
          have z2 : wrap64 (wrap64 (x * q) + q') = D := by rw [wrap64_id2 (x := x * q) (by omega) (by omega), hD]; exact wrap64_id2 (by omega) (by omega)
          have z3 : -5000000000000 ≤ N ∧ N ≤ 5000000000000 ∧ 0 ≤ D ∧ D ≤ 5000000000000 := by omega
          have HST := Lib.hid hstep
          have HS1 := Lib.hid hs1
          have HS2 := Lib.hid hs2
          have HS3 := Lib.hid hs3
          have HN := Lib.hid hN
          have HD := Lib.hid hD
          clear hN hD hstep hs1 hs2 hs3 y1 y2 y3 y4 y5 kx
          go_wp2_with fail
          go_quiet (fail)
          generalize hW5 : World.drewN wr _ = W5
          have hb5 : Below wr.heap.size wr W5 := by rw [← hW5]; exact below_drewN (Below.refl _ _) _
          have HB' := Lib.hid (HB.out.trans (hb5.mono HB.out.size))
          have HX' := Lib.hid (HX.out.below hb5)
          have HY' := Lib.hid (HY.out.below hb5)
          clear hW5 hb5 HB HX HY d0 d1 d2 d3 c0 c1 c2 c3 kg kg7 kx2
          have kx3 : W5.cell? ⟨b, off + i, none⟩ = some (.int .i64 x) := (HB'.out.cell (p := ⟨b, off + i, none⟩) (by rw [HG.out]; exact hbl)).trans (hcell.out i hlt |> fun ⟨y, h1, h2⟩ => by rw [h1, ← h2.out, hx.out])
          obtain ⟨d0, d1, d2, d3⟩ := HY'.out
          obtain ⟨c0, c1, c2, c3⟩ := HX'.out
          have kg := HX'.out.lt
          have kg7 := HY'.out.lt
          go_wp2_with fail
          go_quiet (fail)
          generalize hW6 : World.drewN W5 _ = W6
          have hb6 : Below W5.heap.size W5 W6 := by rw [← hW6]; exact below_drewN (Below.refl _ _) _
          have HB := Lib.hid (HB'.out.trans (hb6.mono HB'.out.size))
          have HX := Lib.hid (HX'.out.below hb6)
          have HY := Lib.hid (HY'.out.below hb6)
          clear hW6 hb6 HB' HX' HY' d0 d1 d2 d3 c0 c1 c2 c3 kg kg7 kx3
          go_wp2_with fail
          obtain ⟨v4, hv4⟩ : ∃ v, inR (-1073741824) 1073741824 N = v := ⟨_, rfl⟩
          have HV4 := Lib.hid hv4
          clear hv4
          refine (In_any N (-1073741824) 1073741824 _).mono ?_
          rintro e w6 ⟨rfl, hq⟩
          rw [HV4.out]
          have HB6 := Lib.hid (below_call HB.out hq)
          have HX6 := Lib.hid (HX.out.below hq)
          have HY6 := Lib.hid (HY.out.below hq)
          clear hq HB HX HY
          obtain ⟨d0, d1, d2, d3⟩ := HY6.out
          obtain ⟨c0, c1, c2, c3⟩ := HX6.out
          have kg := HX6.out.lt
          have kg7 := HY6.out.lt
          cases v4
          · have h1 : (P0, Q0, E0) = (0, 0, 2) := by
              rw [HST.out]
              refine foldR_far _ _ _ _ _ ?_ ?_
              · intro y hy
                obtain ⟨j, hj, hjy⟩ := List.mem_iff_getElem.1 hy
                rw [List.length_drop] at hj
                have := HALL.out (i + 1 + j) (by omega) (by omega)
                rw [List.getD_eq_getElem?_getD, List.getElem?_eq_getElem (by omega), Option.getD_some] at this
                rw [← hjy, List.getElem_drop]
                exact (inR_iff.1 this).1
              · have h2 : ¬ (-1073741824 ≤ N ∧ N ≤ 1073741824) := fun hh => by
                  have := HV4.out
                  rw [inR_iff.2 hh] at this
                  cases this
                have h3 := HS2.out
                have h4 := HS3.out
                by_cases h5 : 1073741824 < N
                · exact .inl ⟨h3 h5, h5⟩
                · exact .inr ⟨h4 (by omega), by omega⟩
            cases h1
            go_wp2_with fail
            exact bodyPost_varQE (B := g) Tryd.results35 rfl rfl rfl (HX6.out.put 0 0) (below_setCell (below_setCell HB6.out (by rw [← HG.out]; simp) _) (by rw [← HG.out]; simp) _)
          · by_cases hD2 : 1073741824 < D
            · have h1 : (P0, Q0, E0) = (0, 0, 2) := by rw [HST.out]; exact foldR_farq _ _ _ _ _ hD2
              cases h1
              have s1 : decide (1073741824 < D) = true := decide_eq_true hD2
              go_wp2_with fail
              exact bodyPost_varQE (B := g) Tryd.results35 rfl rfl rfl (HX6.out.put 0 0) (below_setCell (below_setCell HB6.out (by rw [← HG.out]; simp) _) (by rw [← HG.out]; simp) _)
            · have s1 : decide (1073741824 < D) = false := decide_eq_false hD2
              obtain ⟨r1, r2⟩ := inR_iff.1 HV4.out
              go_wp2_with fail
              refine ⟨⟨i + 1, p, q, N, D, by simp, rfl, rfl, by omega, by omega, b5, b6, b7, b8, r1, r2, by omega, by omega, HS1, Lib.hid HST.out.symm, Lib.hid (HX6.out.other gne _ _), Lib.hid (HY6.out.put _ _), Lib.hid (below_setCell (below_setCell HB6.out (by rw [HG.out]; simp; omega) _) (by rw [HG.out]; simp; omega) _)⟩, ?_⟩
              simp [intOf]
              omega
        · obtain rfl : n = i := by omega
          have h1 : (P0, Q0, E0) = (p, q, 0) := by
            rw [← HFR.out, List.drop_of_length_le (by omega), foldR, if_neg (by omega)]
          cases h1
          go_wp2_with fail
          exact bodyPost_varQE (B := g) Tryd.results35 rfl rfl rfl (HX.out.put _ _) (below_setCell (below_setCell HB.out (by rw [← HG.out]; simp) _) (by rw [← HG.out]; simp) _)
end Go.Proofs.YtpgnheankmlnfaaDoor
