/- The walk over logs.Fold. -/
import Derived.Test.YtpgnheankmlnfaaDoorVar
import Derived.BigRegion
namespace Go.Proofs.YtpgnheankmlnfaaDoor
open Go.RowKit
set_option linter.unusedVariables false

/-- The fraction of terms, from the last two ones on. -/
def foldR : List Int → Int → Int → Int → Int → Int × Int × Int
  | [], _, _, p, q => if 1073741824 < q ∨ 1073741824 < p ∨ p < -1073741824 then (0, 0, 2) else (p, q, 0)
  | t :: ts, p', q', p, q => if 1073741824 < q then (0, 0, 2) else foldR ts p q (t * p + p') (t * q + q')
/-- Whether terms can be asked about. -/
def chkT (xs : List Int) : Bool := decide (1 ≤ xs.length) && decide (xs.length ≤ 16) && inR (-4096) 4096 (xs.getD 0 0) && (xs.drop 1).all (inR 1 4096)
def folV (xs : List Int) : Int × Int × Int := if chkT xs = true then foldR (xs.drop 1) 1 0 (xs.getD 0 0) 1 else (0, 0, 1)

theorem Rd.drop1 {w : World} {b off : Nat} {xs : List Int} (h : Rd w (some ⟨b, off, none⟩) xs) : Rd w (some ⟨b, off + 1, none⟩) (xs.drop 1) := by
  have hl : (xs.drop 1).length ≤ xs.length := by simp
  refine ⟨Nat.le_trans hl h.1, fun h0 => ?_⟩
  rw [List.length_drop] at h0
  obtain ⟨b', off', e, hc⟩ := h.2 (by omega)
  cases e
  refine ⟨b, off + 1, rfl, fun j hj => ?_⟩
  rw [List.length_drop] at hj
  have := hc (1 + j) (by omega)
  rw [show off + 1 + j = off + (1 + j) by omega, this, List.getD_eq_getElem?_getD, List.getD_eq_getElem?_getD, List.getElem?_drop]
theorem IsL.tail {w : World} {b off n c : Nat} {xs : List Int} (h : IsL w (some ⟨b, off, none⟩) n c xs) : IsL w (some ⟨b, off + 1, none⟩) (n - 1) (c - 1) (xs.drop 1) :=
  ⟨by rw [List.length_drop, h.1], by have := h.2.1; omega, h.2.2.drop1⟩
theorem IsL.tail0 {w : World} {A A' : Option Addr} {n c k : Nat} {xs : List Int} (h : IsL w A n c xs) (hn : n ≤ 1) : IsL w A' (n - 1) k (xs.drop 1) := by
  have : xs.drop 1 = [] := List.drop_eq_nil_of_le (by have := h.1; omega)
  rw [this]
  exact ⟨by simp; omega, by omega, Rd.nil _ _⟩

set_option maxRecDepth 100000 in
set_option maxHeartbeats 1000000 in
theorem Fold_no (A : Option Addr) (n c : Nat) (xs : List Int) (w : World) (h : IsL w A n c xs) (hc : chkT xs = false) :
    Calls Tryd.prog 34 #[.slice A n c] w (RetQE 0 0 1 w) := by
  obtain ⟨hn, hnc, hr⟩ := h
  have hlx := hr.1
  have HR := Lib.hid hr
  by_cases h1 : n < 1
  · clear hc hr
    go_enter Tryd.func34, Tryd.ntmps34
    go_wp2_with fail
    exact bodyPost_varQE (B := w.heap.size) Tryd.results34 rfl rfl rfl (VarQ.new _ _ _ _) (below_alloc (Below.refl _ _) _)
  · by_cases h2 : 16 < n
    · clear hc hr
      go_enter Tryd.func34, Tryd.ntmps34
      go_wp2_with fail
      exact bodyPost_varQE (B := w.heap.size) Tryd.results34 rfl rfl rfl (VarQ.new _ _ _ _) (below_alloc (Below.refl _ _) _)
    · obtain ⟨b, off, rfl⟩ := hr.addr (by omega)
      obtain ⟨x0, k0, hx0⟩ := hr.cell 0 (by omega)
      rw [Nat.add_zero] at k0
      have hb := World.block_lt_of_cell? w _ k0
      have hb' : b < w.heap.size := hb
      clear hb
      have t1 : decide ((n : Int) < 1) = false := decide_eq_false (by omega)
      have t2 : decide ((16 : Int) < n) = false := decide_eq_false (by omega)
      clear hr
      have hcc : inR (-4096) 4096 x0 = false ∨ (inR (-4096) 4096 x0 = true ∧ (xs.drop 1).all (inR 1 4096) = false) := by
        unfold chkT at hc
        rw [decide_eq_true (show 1 ≤ xs.length by omega), decide_eq_true (show xs.length ≤ 16 by omega), hx0.out] at hc
        cases hi : inR (-4096) 4096 x0
        · exact .inl rfl
        · rw [hi] at hc; exact .inr ⟨rfl, hc⟩
      clear hc
      rcases hcc with hi | ⟨hi, ht⟩
      · have HI := Lib.hid hi
        clear hi
        go_enter Tryd.func34, Tryd.ntmps34
        go_wp2_with fail
        refine (within1 _ _ _ _ _ (by simp)).mono ?_
        rintro e w1 ⟨rfl, hq1⟩
        rw [HI.out]
        obtain ⟨hc_hq1, hf_hq1⟩ := bcell hq1; have sz_hq1 : w.heap.size + 1 ≤ w1.heap.size := (by have := hq1.size; (try simp at this); omega); have s0_hq1 : w.heap.size < w1.heap.size := (by omega)
        have HV1 := Lib.hid ((VarQ.new w 0 0 39).below hq1)
        have HB1 := Lib.hid (below_call (below_alloc (Below.refl _ _) _) hq1)
        obtain ⟨u0, u1, u2, u3⟩ := HV1.out
        clear hq1
        go_wp2_with fail
        refine bodyPost_varQE (B := w.heap.size) Tryd.results34 rfl rfl rfl (HV1.out.put 0 0) ?_
        exact below_setCell (below_setCell HB1.out (by simp) _) (by simp) _
      · have HI := Lib.hid hi
        have HT := Lib.hid ht
        clear hi ht
        go_enter Tryd.func34, Tryd.ntmps34
        go_wp2_with fail
        refine (within1 _ _ _ _ _ (by simp)).mono ?_
        rintro e w1 ⟨rfl, hq1⟩
        rw [HI.out]
        obtain ⟨hc_hq1, hf_hq1⟩ := bcell hq1; have sz_hq1 : w.heap.size + 1 ≤ w1.heap.size := (by have := hq1.size; (try simp at this); omega); have s0_hq1 : w.heap.size < w1.heap.size := (by omega)
        have HV1 := Lib.hid ((VarQ.new w 0 0 39).below hq1)
        have HB1 := Lib.hid (below_call (below_alloc (Below.refl _ _) _) hq1)
        obtain ⟨u0, u1, u2, u3⟩ := HV1.out
        clear hq1
        go_wp2_with fail
        all_goals
          refine (within_any 1 4096 _ _ _ (xs.drop 1) _ ?_).mono ?_
          · have hl : IsL w1 (some ⟨b, off, none⟩) n c xs := ⟨hn, hnc, HR.out.below HB1.out⟩
            first | exact hl.tail0 (by omega) | exact hl.tail
          rintro e w2 ⟨rfl, hq2⟩
          rw [HT.out]
          have HV2 := Lib.hid (HV1.out.below hq2)
          have HB2 := Lib.hid (below_call HB1.out hq2)
          obtain ⟨v0, v1, v2, v3⟩ := HV2.out
          clear hq2
          go_wp2_with fail
          refine bodyPost_varQE (B := w.heap.size) Tryd.results34 rfl rfl rfl (HV2.out.put 0 0) ?_
          exact below_setCell (below_setCell HB2.out (by simp) _) (by simp) _

theorem all_getD {xs : List Int} {f : Int → Bool} (h : xs.all f = true) {k : Nat} (hk : k < xs.length) : f (xs.getD k 0) = true := by
  rw [List.getD_eq_getElem?_getD, List.getElem?_eq_getElem hk]
  exact List.all_eq_true.1 h _ (List.getElem_mem hk)
theorem mul_bd {t z N : Int} (h0 : 1 ≤ t) (h1 : t ≤ 4096) (z0 : -N ≤ z) (z1 : z ≤ N) : -(4096 * N) ≤ t * z ∧ t * z ≤ 4096 * N := by
  have hN : 0 ≤ N := by omega
  have a1 : t * z ≤ t * N := Int.mul_le_mul_of_nonneg_left z1 (by omega)
  have a2 : t * -N ≤ t * z := Int.mul_le_mul_of_nonneg_left z0 (by omega)
  have a3 : t * N ≤ 4096 * N := Int.mul_le_mul_of_nonneg_right h1 hN
  rw [Int.mul_neg] at a2
  omega
theorem fold_step {t p q p' q' : Int} (h0 : 1 ≤ t) (h1 : t ≤ 4096) (q0 : 0 ≤ q) (q1 : q ≤ 1073741824) (r0 : 0 ≤ q') (r1 : q' ≤ 1073741824)
    (s0 : -4097 * (q + q') ≤ p + p') (s1 : p + p' ≤ 4097 * (q + q')) (p0 : -4097 * q ≤ p) (p1 : p ≤ 4097 * q) :
    0 ≤ t * q + q' ∧ t * q + q' ≤ 8000000000000 ∧ -4097 * (t * q + q' + q) ≤ t * p + p' + p ∧ t * p + p' + p ≤ 4097 * (t * q + q' + q) ∧ -4097 * (t * q + q') ≤ t * p + p' ∧ t * p + p' ≤ 4097 * (t * q + q') := by
  have a1 : 0 ≤ t * q := Int.mul_nonneg (by omega) q0
  have a2 : t * q ≤ 4096 * q := Int.mul_le_mul_of_nonneg_right h1 q0
  have a3 : (t - 1) * p ≤ (t - 1) * (4097 * q) := Int.mul_le_mul_of_nonneg_left p1 (by omega)
  have a4 : (t - 1) * (-4097 * q) ≤ (t - 1) * p := Int.mul_le_mul_of_nonneg_left p0 (by omega)
  have a5 : (t - 1) * p = t * p - p := by grind
  have a6 : (t - 1) * (4097 * q) = 4097 * (t * q) - 4097 * q := by grind
  have a7 : (t - 1) * (-4097 * q) = -4097 * (t * q) + 4097 * q := by grind
  omega
theorem chkT_iff {xs : List Int} : chkT xs = true ↔ 1 ≤ xs.length ∧ xs.length ≤ 16 ∧ (-4096 ≤ xs.getD 0 0 ∧ xs.getD 0 0 ≤ 4096) ∧ (xs.drop 1).all (inR 1 4096) = true := by
  unfold chkT
  rw [Bool.and_eq_true, Bool.and_eq_true, Bool.and_eq_true, decide_eq_true_eq, decide_eq_true_eq, inR_iff, and_assoc, and_assoc]

set_option maxRecDepth 100000 in
set_option maxHeartbeats 2000000 in
theorem Fold_ok (A : Option Addr) (n c : Nat) (xs : List Int) (w : World) (h : IsL w A n c xs) (hc : chkT xs = true) :
    Calls Tryd.prog 34 #[.slice A n c] w (RetQE (folV xs).1 (folV xs).2.1 (folV xs).2.2 w) := by
  obtain ⟨hn, hnc, hr⟩ := h
  have hlx := hr.1
  have HR := Lib.hid hr
  obtain ⟨l1, l2, ⟨x00, x01⟩, ht⟩ := chkT_iff.1 hc
  have hf : folV xs = foldR (xs.drop 1) 1 0 (xs.getD 0 0) 1 := by unfold folV; rw [if_pos hc]
  rw [hf]
  clear hf hc
  obtain ⟨b, off, rfl⟩ := hr.addr (by omega)
  obtain ⟨x0, k0, hx0⟩ := hr.cell 0 (by omega)
  rw [Nat.add_zero] at k0
  rw [hx0.out] at x00 x01 ⊢
  clear hr
  have hb := World.block_lt_of_cell? w _ k0
  have hb' : b < w.heap.size := hb
  clear hb
  have t1 : decide ((n : Int) < 1) = false := decide_eq_false (by omega)
  have t2 : decide ((16 : Int) < n) = false := decide_eq_false (by omega)
  have hn1 : (0 : Int) < n := by omega
  have hn2 : 0 < n := by omega
  have HI : Hid (inR (-4096) 4096 x0 = true) := Lib.hid (inR_iff.2 ⟨x00, x01⟩)
  have HT := Lib.hid ht
  clear ht
  obtain ⟨r, hr⟩ : ∃ r, foldR (xs.drop 1) 1 0 x0 1 = r := ⟨_, rfl⟩
  have HF := Lib.hid hr
  rw [hr]
  clear hr
  go_enter Tryd.func34, Tryd.ntmps34
  go_wp2_with fail
  refine (within1 _ _ _ _ _ (by simp)).mono ?_
  rintro e w1 ⟨rfl, hq1⟩
  rw [HI.out]
  obtain ⟨hc_hq1, hf_hq1⟩ := bcell hq1; have sz_hq1 : w.heap.size + 1 ≤ w1.heap.size := (by have := hq1.size; (try simp at this); omega); have s0_hq1 : w.heap.size < w1.heap.size := (by omega)
  have HV1 := Lib.hid ((VarQ.new w 0 0 39).below hq1)
  have HB1 := Lib.hid (below_call (below_alloc (Below.refl _ _) _) hq1)
  clear hq1
  go_wp2_with fail
  all_goals
    refine (within_any 1 4096 _ _ _ (xs.drop 1) _ ?_).mono ?_
    · have hl : IsL w1 (some ⟨b, off, none⟩) n c xs := ⟨hn, hnc, HR.out.below HB1.out⟩
      first | exact hl.tail0 (by omega) | exact hl.tail
    rintro e w2 ⟨rfl, hq2⟩
    rw [HT.out]
    have HV2 := Lib.hid (HV1.out.below hq2)
    have HB2 := Lib.hid (below_call HB1.out hq2)
    have k2 : w2.cell? ⟨b, off, none⟩ = some (.int .i64 x0) := (HB2.out.cell (p := ⟨b, off, none⟩) hb').trans k0
    have sz2 : w.heap.size < w2.heap.size := HV2.out.lt
    have hb2 : b < w2.heap.size := by omega
    clear hq2 hc_hq1 hf_hq1 sz_hq1 s0_hq1
    go_wp2_with fail
    go_region_held3 (fun w' => w'.cell? ⟨b, off, none⟩ = some (.int .i64 x0)) (go_keep) (fail)
  --ENDS
  · obtain ⟨W, hW⟩ : ∃ W, ((w2.alloc (.cells #[.int .i64 1, .int .i64 0] 39)).alloc (.cells #[.int .i64 x0, .int .i64 1] 39)).drew = W := ⟨_, rfl⟩
    have hs0 : w2.heap.size ≤ W.heap.size := by rw [← hW]; simp; omega
    have h1 : VarQ W w2.heap.size 1 0 := by rw [← hW]; exact ((VarQ.new w2 1 0 39).alloc _).drew
    have h2 : VarQ W (w2.heap.size + 1) x0 1 := by
      have := VarQ.new (w2.alloc (.cells #[.int .i64 1, .int .i64 0] 39)) x0 1 39
      rw [World.size_alloc] at this
      rw [← hW]; exact this.drew
    have h3 : VarQ W w.heap.size 0 0 := by rw [← hW]; exact ((HV2.out.alloc _).alloc _).drew
    have h4 : Below w.heap.size w W := by rw [← hW]; exact (below_alloc (below_alloc HB2.out _) _).drew
    rw [hW]
    clear hW
    obtain ⟨g2, hg2⟩ : ∃ g, w2.heap.size + 1 = g := ⟨_, rfl⟩
    obtain ⟨g1, hg1⟩ : ∃ g, w2.heap.size = g := ⟨_, rfl⟩
    have hne : g1 ≠ g2 := by omega
    have hne' : g2 ≠ g1 := by omega
    have hgt1 : w.heap.size < g1 := by omega
    have hgt2 : w.heap.size < g2 := by omega
    have hgl1 := h1.lt
    have hgl2 := h2.lt
    rw [hg2] at h2 hgl2 ⊢
    rw [hg1] at h1 hgl1 ⊢
    have HW := Lib.hid h4
    have HG1 := Lib.hid h1
    have HG2 := Lib.hid h2
    have HG3 := Lib.hid h3
    clear h1 h2 h3 h4 hg1 hg2 hs0 HV2 HB2 k2 sz2 hb2 HV1 HB1 k0
    go_wp2_with fail
    go_loopw [39] (fun s wr => ∃ (k : Nat) (p' q' p q : Int), s = .int .i64 k ∧ k ≤ n - 1 ∧ Hid (foldR ((xs.drop 1).drop k) p' q' p q = r) ∧ 0 ≤ q' ∧ q' ≤ 1073741824 ∧ 0 ≤ q ∧ q ≤ 8000000000000 ∧ -4097 * (q + q') ≤ p + p' ∧ p + p' ≤ 4097 * (q + q') ∧ -4097 * q ≤ p ∧ p ≤ 4097 * q ∧ Hid (VarQ wr g1 p' q') ∧ Hid (VarQ wr g2 p q) ∧ Hid (VarQ wr w.heap.size 0 0) ∧ Hid (Below w.heap.size w wr)) (fun s _ => n - 1 - (intOf s).toNat)
    case atStart => exact ⟨0, 1, 0, x0, 1, rfl, by omega, HF, by omega, by omega, by omega, by omega, by omega, by omega, by omega, by omega, HG1, HG2, HG3, HW.out⟩
    case round =>
      clear HF HW HG1 HG2 HG3 hgl1 hgl2
      obtain ⟨k, p', q', p, q, rfl, hk, HF, hq0, hq1, hq2, hq3, hp0, hp1, hp2, hp3, HA, HL, HV, HB⟩ := hrel
      have hla := HA.out.lt
      have hll := HL.out.lt
      have hlv := HV.out.lt
      obtain ⟨a0, a1, a2, a3⟩ := HA.out
      obtain ⟨l0, l1, l2, l3⟩ := HL.out
      obtain ⟨v0, v1, v2, v3⟩ := HV.out
      by_cases hkn : k < n - 1
      · exact absurd hkn (by omega)
      · have hf := HF.out
        rw [List.drop_eq_nil_of_le (by rw [List.length_drop]; omega)] at hf
        unfold foldR at hf
        clear HF
        by_cases hq : 1073741824 < q
        · rw [if_pos (.inl hq)] at hf
          have HFF := Lib.hid hf
          clear hf
          go_wp2_with fail
          obtain rfl := HFF.out
          refine bodyPost_varQE (B := w.heap.size) Tryd.results34 rfl rfl rfl (HV.out.put _ _) ?_
          exact below_setCell (below_setCell HB.out (by simp) _) (by simp) _
        · go_wp2_with fail
          · have HFF := Lib.hid ((if_pos (by omega)).symm.trans hf)
            obtain rfl := HFF.out
            refine bodyPost_varQE (B := w.heap.size) Tryd.results34 rfl rfl rfl (HV.out.put _ _) ?_
            exact below_setCell (below_setCell HB.out (by simp) _) (by simp) _
          · have HFF := Lib.hid ((if_neg (by omega)).symm.trans hf)
            obtain rfl := HFF.out
            refine bodyPost_varQE (B := w.heap.size) Tryd.results34 rfl rfl rfl (HV.out.put _ _) ?_
            exact below_setCell (below_setCell HB.out (by simp) _) (by simp) _
  · obtain ⟨W, hW⟩ : ∃ W, ((w2.alloc (.cells #[.int .i64 x0, .int .i64 1] 39)).alloc (.cells #[.int .i64 1, .int .i64 0] 39)).drew = W := ⟨_, rfl⟩
    have hs0 : w2.heap.size ≤ W.heap.size := by rw [← hW]; simp; omega
    have h1 : VarQ W w2.heap.size x0 1 := by rw [← hW]; exact ((VarQ.new w2 x0 1 39).alloc _).drew
    have h2 : VarQ W (w2.heap.size + 1) 1 0 := by
      have := VarQ.new (w2.alloc (.cells #[.int .i64 x0, .int .i64 1] 39)) 1 0 39
      rw [World.size_alloc] at this
      rw [← hW]; exact this.drew
    have h3 : VarQ W w.heap.size 0 0 := by rw [← hW]; exact ((HV2.out.alloc _).alloc _).drew
    have h4 : Below w.heap.size w W := by rw [← hW]; exact (below_alloc (below_alloc HB2.out _) _).drew
    rw [hW]
    clear hW
    obtain ⟨g2, hg2⟩ : ∃ g, w2.heap.size + 1 = g := ⟨_, rfl⟩
    obtain ⟨g1, hg1⟩ : ∃ g, w2.heap.size = g := ⟨_, rfl⟩
    have hne : g1 ≠ g2 := by omega
    have hne' : g2 ≠ g1 := by omega
    have hgt1 : w.heap.size < g1 := by omega
    have hgt2 : w.heap.size < g2 := by omega
    have hgl1 := h1.lt
    have hgl2 := h2.lt
    rw [hg2] at h2 hgl2 ⊢
    rw [hg1] at h1 hgl1 ⊢
    have HW := Lib.hid h4
    have HG1 := Lib.hid h1
    have HG2 := Lib.hid h2
    have HG3 := Lib.hid h3
    clear h1 h2 h3 h4 hg1 hg2 hs0 HV2 HB2 k2 sz2 hb2 HV1 HB1 k0
    go_wp2_with fail
    go_loopw [39] (fun s wr => ∃ (k : Nat) (p' q' p q : Int), s = .int .i64 k ∧ k ≤ n - 1 ∧ Hid (foldR ((xs.drop 1).drop k) p' q' p q = r) ∧ 0 ≤ q' ∧ q' ≤ 1073741824 ∧ 0 ≤ q ∧ q ≤ 8000000000000 ∧ -4097 * (q + q') ≤ p + p' ∧ p + p' ≤ 4097 * (q + q') ∧ -4097 * q ≤ p ∧ p ≤ 4097 * q ∧ Hid (VarQ wr g2 p' q') ∧ Hid (VarQ wr g1 p q) ∧ Hid (VarQ wr w.heap.size 0 0) ∧ Hid (Below w.heap.size w wr)) (fun s _ => n - 1 - (intOf s).toNat)
    case atStart => exact ⟨0, 1, 0, x0, 1, rfl, by omega, HF, by omega, by omega, by omega, by omega, by omega, by omega, by omega, by omega, HG2, HG1, HG3, HW.out⟩
    case round =>
      clear HF HW HG1 HG2 HG3 hgl1 hgl2
      obtain ⟨k, p', q', p, q, rfl, hk, HF, hq0, hq1, hq2, hq3, hp0, hp1, hp2, hp3, HA, HL, HV, HB⟩ := hrel
      have hla := HA.out.lt
      have hll := HL.out.lt
      have hlv := HV.out.lt
      obtain ⟨a0, a1, a2, a3⟩ := HA.out
      obtain ⟨l0, l1, l2, l3⟩ := HL.out
      obtain ⟨v0, v1, v2, v3⟩ := HV.out
      by_cases hkn : k < n - 1
      · exact absurd hkn (by omega)
      · have hf := HF.out
        rw [List.drop_eq_nil_of_le (by rw [List.length_drop]; omega)] at hf
        unfold foldR at hf
        clear HF
        by_cases hq : 1073741824 < q
        · rw [if_pos (.inl hq)] at hf
          have HFF := Lib.hid hf
          clear hf
          go_wp2_with fail
          obtain rfl := HFF.out
          refine bodyPost_varQE (B := w.heap.size) Tryd.results34 rfl rfl rfl (HV.out.put _ _) ?_
          exact below_setCell (below_setCell HB.out (by simp) _) (by simp) _
        · go_wp2_with fail
          · have HFF := Lib.hid ((if_pos (by omega)).symm.trans hf)
            obtain rfl := HFF.out
            refine bodyPost_varQE (B := w.heap.size) Tryd.results34 rfl rfl rfl (HV.out.put _ _) ?_
            exact below_setCell (below_setCell HB.out (by simp) _) (by simp) _
          · have HFF := Lib.hid ((if_neg (by omega)).symm.trans hf)
            obtain rfl := HFF.out
            refine bodyPost_varQE (B := w.heap.size) Tryd.results34 rfl rfl rfl (HV.out.put _ _) ?_
            exact below_setCell (below_setCell HB.out (by simp) _) (by simp) _
  · obtain ⟨W, hW⟩ : ∃ W, ((w2.alloc (.cells #[.int .i64 1, .int .i64 0] 39)).alloc (.cells #[.int .i64 x0, .int .i64 1] 39)).drew = W := ⟨_, rfl⟩
    have hs0 : w2.heap.size ≤ W.heap.size := by rw [← hW]; simp; omega
    have h1 : VarQ W w2.heap.size 1 0 := by rw [← hW]; exact ((VarQ.new w2 1 0 39).alloc _).drew
    have h2 : VarQ W (w2.heap.size + 1) x0 1 := by
      have := VarQ.new (w2.alloc (.cells #[.int .i64 1, .int .i64 0] 39)) x0 1 39
      rw [World.size_alloc] at this
      rw [← hW]; exact this.drew
    have h3 : VarQ W w.heap.size 0 0 := by rw [← hW]; exact ((HV2.out.alloc _).alloc _).drew
    have h4 : Below w.heap.size w W := by rw [← hW]; exact (below_alloc (below_alloc HB2.out _) _).drew
    rw [hW]
    clear hW
    obtain ⟨g2, hg2⟩ : ∃ g, w2.heap.size + 1 = g := ⟨_, rfl⟩
    obtain ⟨g1, hg1⟩ : ∃ g, w2.heap.size = g := ⟨_, rfl⟩
    have hne : g1 ≠ g2 := by omega
    have hne' : g2 ≠ g1 := by omega
    have hgt1 : w.heap.size < g1 := by omega
    have hgt2 : w.heap.size < g2 := by omega
    have hgl1 := h1.lt
    have hgl2 := h2.lt
    rw [hg2] at h2 hgl2 ⊢
    rw [hg1] at h1 hgl1 ⊢
    have HW := Lib.hid h4
    have HG1 := Lib.hid h1
    have HG2 := Lib.hid h2
    have HG3 := Lib.hid h3
    clear h1 h2 h3 h4 hg1 hg2 hs0 HV2 HB2 k2 sz2 hb2 HV1 HB1 k0
    go_wp2_with fail
    go_loopw [39] (fun s wr => ∃ (k : Nat) (p' q' p q : Int), s = .int .i64 k ∧ k ≤ n - 1 ∧ Hid (foldR ((xs.drop 1).drop k) p' q' p q = r) ∧ 0 ≤ q' ∧ q' ≤ 1073741824 ∧ 0 ≤ q ∧ q ≤ 8000000000000 ∧ -4097 * (q + q') ≤ p + p' ∧ p + p' ≤ 4097 * (q + q') ∧ -4097 * q ≤ p ∧ p ≤ 4097 * q ∧ Hid (VarQ wr g1 p' q') ∧ Hid (VarQ wr g2 p q) ∧ Hid (VarQ wr w.heap.size 0 0) ∧ Hid (Below w.heap.size w wr)) (fun s _ => n - 1 - (intOf s).toNat)
    case atStart => exact ⟨0, 1, 0, x0, 1, rfl, by omega, HF, by omega, by omega, by omega, by omega, by omega, by omega, by omega, by omega, HG1, HG2, HG3, HW.out⟩
    case round =>
      clear HF HW HG1 HG2 HG3 hgl1 hgl2
      obtain ⟨k, p', q', p, q, rfl, hk, HF, hq0, hq1, hq2, hq3, hp0, hp1, hp2, hp3, HA, HL, HV, HB⟩ := hrel
      have hla := HA.out.lt
      have hll := HL.out.lt
      have hlv := HV.out.lt
      obtain ⟨a0, a1, a2, a3⟩ := HA.out
      obtain ⟨l0, l1, l2, l3⟩ := HL.out
      obtain ⟨v0, v1, v2, v3⟩ := HV.out
      by_cases hkn : k < n - 1
      · have hrd := (HR.out.below HB.out).drop1
        obtain ⟨t, kt, ht⟩ := hrd.cell k (by rw [List.length_drop]; omega)
        have htr := all_getD HT.out (k := k) (by rw [List.length_drop]; omega)
        rw [ht.out] at htr
        obtain ⟨ht0, ht1⟩ := inR_iff.1 htr
        have hblt : b < wr.heap.size := by omega
        have hkn1 : (k : Int) < ((n - 1 : Nat) : Int) := by omega
        have hdk : (xs.drop 1).drop k = t :: (xs.drop 1).drop (k + 1) := by
          rw [List.drop_eq_getElem_cons (by rw [List.length_drop]; omega : k < (xs.drop 1).length)]
          rw [← ht.out, List.getD_eq_getElem?_getD, List.getElem?_eq_getElem (by rw [List.length_drop]; omega : k < (xs.drop 1).length)]
          rfl
        have hf := HF.out
        rw [hdk] at hf
        unfold foldR at hf
        clear htr hrd hdk HF
        by_cases hq : 1073741824 < q
        · rw [if_pos hq] at hf
          have HFF := Lib.hid hf
          clear hf
          go_wp2_with fail
          obtain rfl := HFF.out
          refine bodyPost_varQE (B := w.heap.size) Tryd.results34 rfl rfl rfl (HV.out.put _ _) ?_
          exact below_setCell (below_setCell HB.out (by simp) _) (by simp) _
        · rw [if_neg hq] at hf
          have HFF := Lib.hid hf
          clear hf
          obtain ⟨m0, m1⟩ := mul_bd (t := t) (z := p) (N := 4400000000000) ht0 ht1 (by omega) (by omega)
          obtain ⟨m2, m3⟩ := mul_bd (t := t) (z := q) (N := 1073741824) ht0 ht1 (by omega) (by omega)
          go_wp2_with fail
          go_region
          go_wp2_with fail
          clear a0 a1 a2 a3 l0 l1 l2 l3 v0 v1 v2 v3
          obtain ⟨n0, n1, n2, n3, n4, n5⟩ := fold_step ht0 ht1 hq2 (by omega) hq0 hq1 hp0 hp1 hp2 hp3
          refine ⟨⟨k + 1, p, q, t * p + p', t * q + q', rfl, by omega, HFF, hq2, by omega, n0, n1, n2, n3, n4, n5, Lib.hid ?_, Lib.hid ?_, Lib.hid ?_, Lib.hid ?_⟩, by simp [intOf]; omega⟩
          · exact ((HA.out.put p q).other hne _ _).drew
          · exact ((HL.out.other hne' _ _).put _ _).drew
          · exact ((HV.out.other (by omega) _ _).other (by omega) _ _).drew
          · exact (below_put4 HB.out (by omega) (by omega) _ _ _ _).drew
      · have hf := HF.out
        rw [List.drop_eq_nil_of_le (by rw [List.length_drop]; omega)] at hf
        unfold foldR at hf
        clear HF
        by_cases hq : 1073741824 < q
        · rw [if_pos (.inl hq)] at hf
          have HFF := Lib.hid hf
          clear hf
          go_wp2_with fail
          obtain rfl := HFF.out
          refine bodyPost_varQE (B := w.heap.size) Tryd.results34 rfl rfl rfl (HV.out.put _ _) ?_
          exact below_setCell (below_setCell HB.out (by simp) _) (by simp) _
        · go_wp2_with fail
          · have HFF := Lib.hid ((if_pos (by omega)).symm.trans hf)
            obtain rfl := HFF.out
            refine bodyPost_varQE (B := w.heap.size) Tryd.results34 rfl rfl rfl (HV.out.put _ _) ?_
            exact below_setCell (below_setCell HB.out (by simp) _) (by simp) _
          · have HFF := Lib.hid ((if_neg (by omega)).symm.trans hf)
            obtain rfl := HFF.out
            refine bodyPost_varQE (B := w.heap.size) Tryd.results34 rfl rfl rfl (HV.out.put _ _) ?_
            exact below_setCell (below_setCell HB.out (by simp) _) (by simp) _
  · obtain ⟨W, hW⟩ : ∃ W, ((w2.alloc (.cells #[.int .i64 x0, .int .i64 1] 39)).alloc (.cells #[.int .i64 1, .int .i64 0] 39)).drew = W := ⟨_, rfl⟩
    have hs0 : w2.heap.size ≤ W.heap.size := by rw [← hW]; simp; omega
    have h1 : VarQ W w2.heap.size x0 1 := by rw [← hW]; exact ((VarQ.new w2 x0 1 39).alloc _).drew
    have h2 : VarQ W (w2.heap.size + 1) 1 0 := by
      have := VarQ.new (w2.alloc (.cells #[.int .i64 x0, .int .i64 1] 39)) 1 0 39
      rw [World.size_alloc] at this
      rw [← hW]; exact this.drew
    have h3 : VarQ W w.heap.size 0 0 := by rw [← hW]; exact ((HV2.out.alloc _).alloc _).drew
    have h4 : Below w.heap.size w W := by rw [← hW]; exact (below_alloc (below_alloc HB2.out _) _).drew
    rw [hW]
    clear hW
    obtain ⟨g2, hg2⟩ : ∃ g, w2.heap.size + 1 = g := ⟨_, rfl⟩
    obtain ⟨g1, hg1⟩ : ∃ g, w2.heap.size = g := ⟨_, rfl⟩
    have hne : g1 ≠ g2 := by omega
    have hne' : g2 ≠ g1 := by omega
    have hgt1 : w.heap.size < g1 := by omega
    have hgt2 : w.heap.size < g2 := by omega
    have hgl1 := h1.lt
    have hgl2 := h2.lt
    rw [hg2] at h2 hgl2 ⊢
    rw [hg1] at h1 hgl1 ⊢
    have HW := Lib.hid h4
    have HG1 := Lib.hid h1
    have HG2 := Lib.hid h2
    have HG3 := Lib.hid h3
    clear h1 h2 h3 h4 hg1 hg2 hs0 HV2 HB2 k2 sz2 hb2 HV1 HB1 k0
    go_wp2_with fail
    go_loopw [39] (fun s wr => ∃ (k : Nat) (p' q' p q : Int), s = .int .i64 k ∧ k ≤ n - 1 ∧ Hid (foldR ((xs.drop 1).drop k) p' q' p q = r) ∧ 0 ≤ q' ∧ q' ≤ 1073741824 ∧ 0 ≤ q ∧ q ≤ 8000000000000 ∧ -4097 * (q + q') ≤ p + p' ∧ p + p' ≤ 4097 * (q + q') ∧ -4097 * q ≤ p ∧ p ≤ 4097 * q ∧ Hid (VarQ wr g2 p' q') ∧ Hid (VarQ wr g1 p q) ∧ Hid (VarQ wr w.heap.size 0 0) ∧ Hid (Below w.heap.size w wr)) (fun s _ => n - 1 - (intOf s).toNat)
    case atStart => exact ⟨0, 1, 0, x0, 1, rfl, by omega, HF, by omega, by omega, by omega, by omega, by omega, by omega, by omega, by omega, HG2, HG1, HG3, HW.out⟩
    case round =>
      clear HF HW HG1 HG2 HG3 hgl1 hgl2
      obtain ⟨k, p', q', p, q, rfl, hk, HF, hq0, hq1, hq2, hq3, hp0, hp1, hp2, hp3, HA, HL, HV, HB⟩ := hrel
      have hla := HA.out.lt
      have hll := HL.out.lt
      have hlv := HV.out.lt
      obtain ⟨a0, a1, a2, a3⟩ := HA.out
      obtain ⟨l0, l1, l2, l3⟩ := HL.out
      obtain ⟨v0, v1, v2, v3⟩ := HV.out
      by_cases hkn : k < n - 1
      · have hrd := (HR.out.below HB.out).drop1
        obtain ⟨t, kt, ht⟩ := hrd.cell k (by rw [List.length_drop]; omega)
        have htr := all_getD HT.out (k := k) (by rw [List.length_drop]; omega)
        rw [ht.out] at htr
        obtain ⟨ht0, ht1⟩ := inR_iff.1 htr
        have hblt : b < wr.heap.size := by omega
        have hkn1 : (k : Int) < ((n - 1 : Nat) : Int) := by omega
        have hdk : (xs.drop 1).drop k = t :: (xs.drop 1).drop (k + 1) := by
          rw [List.drop_eq_getElem_cons (by rw [List.length_drop]; omega : k < (xs.drop 1).length)]
          rw [← ht.out, List.getD_eq_getElem?_getD, List.getElem?_eq_getElem (by rw [List.length_drop]; omega : k < (xs.drop 1).length)]
          rfl
        have hf := HF.out
        rw [hdk] at hf
        unfold foldR at hf
        clear htr hrd hdk HF
        by_cases hq : 1073741824 < q
        · rw [if_pos hq] at hf
          have HFF := Lib.hid hf
          clear hf
          go_wp2_with fail
          obtain rfl := HFF.out
          refine bodyPost_varQE (B := w.heap.size) Tryd.results34 rfl rfl rfl (HV.out.put _ _) ?_
          exact below_setCell (below_setCell HB.out (by simp) _) (by simp) _
        · rw [if_neg hq] at hf
          have HFF := Lib.hid hf
          clear hf
          obtain ⟨m0, m1⟩ := mul_bd (t := t) (z := p) (N := 4400000000000) ht0 ht1 (by omega) (by omega)
          obtain ⟨m2, m3⟩ := mul_bd (t := t) (z := q) (N := 1073741824) ht0 ht1 (by omega) (by omega)
          go_wp2_with fail
          go_region
          go_wp2_with fail
          clear a0 a1 a2 a3 l0 l1 l2 l3 v0 v1 v2 v3
          obtain ⟨n0, n1, n2, n3, n4, n5⟩ := fold_step ht0 ht1 hq2 (by omega) hq0 hq1 hp0 hp1 hp2 hp3
          refine ⟨⟨k + 1, p, q, t * p + p', t * q + q', rfl, by omega, HFF, hq2, by omega, n0, n1, n2, n3, n4, n5, Lib.hid ?_, Lib.hid ?_, Lib.hid ?_, Lib.hid ?_⟩, by simp [intOf]; omega⟩
          · exact ((HA.out.put p q).other hne' _ _).drew
          · exact ((HL.out.other hne _ _).put _ _).drew
          · exact ((HV.out.other (by omega) _ _).other (by omega) _ _).drew
          · exact (below_put4 HB.out (by omega) (by omega) _ _ _ _).drew
      · have hf := HF.out
        rw [List.drop_eq_nil_of_le (by rw [List.length_drop]; omega)] at hf
        unfold foldR at hf
        clear HF
        by_cases hq : 1073741824 < q
        · rw [if_pos (.inl hq)] at hf
          have HFF := Lib.hid hf
          clear hf
          go_wp2_with fail
          obtain rfl := HFF.out
          refine bodyPost_varQE (B := w.heap.size) Tryd.results34 rfl rfl rfl (HV.out.put _ _) ?_
          exact below_setCell (below_setCell HB.out (by simp) _) (by simp) _
        · go_wp2_with fail
          · have HFF := Lib.hid ((if_pos (by omega)).symm.trans hf)
            obtain rfl := HFF.out
            refine bodyPost_varQE (B := w.heap.size) Tryd.results34 rfl rfl rfl (HV.out.put _ _) ?_
            exact below_setCell (below_setCell HB.out (by simp) _) (by simp) _
          · have HFF := Lib.hid ((if_neg (by omega)).symm.trans hf)
            obtain rfl := HFF.out
            refine bodyPost_varQE (B := w.heap.size) Tryd.results34 rfl rfl rfl (HV.out.put _ _) ?_
            exact below_setCell (below_setCell HB.out (by simp) _) (by simp) _

theorem Fold_any (A : Option Addr) (n c : Nat) (xs : List Int) (w : World) (h : IsL w A n c xs) :
    Calls Tryd.prog 34 #[.slice A n c] w (RetQE (folV xs).1 (folV xs).2.1 (folV xs).2.2 w) := by
  cases hc : chkT xs
  · have : folV xs = (0, 0, 1) := by unfold folV; rw [hc]; rfl
    rw [this]
    exact Fold_no A n c xs w h hc
  · exact Fold_ok A n c xs w h hc
end Go.Proofs.YtpgnheankmlnfaaDoor
