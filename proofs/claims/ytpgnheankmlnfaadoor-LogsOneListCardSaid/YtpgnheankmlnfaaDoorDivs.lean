/- The walks over logs.first and Divisions. The walk over logs.Divisions. -/
import Derived.Test.YtpgnheankmlnfaaDoorBnd
namespace Go.Proofs.YtpgnheankmlnfaaDoor
open Go.RowKit
set_option linter.unusedVariables false

set_option maxRecDepth 100000 in
set_option maxHeartbeats 1000000 in
theorem first_any (lo hi r : Nat) (g : Nat) (lb : Array Value) (P : Nat → Bool) (w : World) (hl : lo ≤ r) (hr : r ≤ hi + 1) (hh : hi ≤ 1000000)
    (hf : ∀ x, lo ≤ x → x < r → P x = false) (ht : ∀ x, r ≤ x → x ≤ hi → P x = true)
    (eg : ∀ args w, (callFunc g args).run Tryd.prog w = .ok (.enter g args) w)
    (hp : ∀ (x : Nat) W, lo ≤ x → x ≤ hi → Below w.heap.size w W → Calls Tryd.prog g (#[.int .i64 x] ++ lb) W fun e w' => e = .returned (.bool (P x)) ∧ Below W.heap.size W w') :
    Calls Tryd.prog 62 #[.int .i64 lo, .int .i64 hi, .func (.func g) #[] lb] w fun e w' => e = .returned (.int .i64 r) ∧ Below w.heap.size w w' := by
  have HF := Lib.hid hf
  have HT := Lib.hid ht
  have HP := Lib.hid hp
  clear hf ht hp
  go_enter Tryd.func62, Tryd.ntmps62
  go_wp2_with fail
  go_loopw [0, 1] (fun s t wr => ∃ l h : Nat, s = .int .i64 l ∧ t = .int .i64 h ∧ lo ≤ l ∧ l ≤ r ∧ r ≤ h ∧ h ≤ hi + 1 ∧ Hid (Below w.heap.size w wr)) (fun s t _ => (intOf t).toNat - (intOf s).toNat)
  case atStart => exact ⟨lo, hi + 1, rfl, by go_num, Nat.le_refl _, hl, hr, Nat.le_refl _, Below.refl _ _⟩
  case round =>
    obtain ⟨l, h, rfl, rfl, h0, h1, h2, h3, HB⟩ := hrel
    by_cases hlt : l < h
    · obtain ⟨m, hm⟩ : ∃ m : Nat, l + (h - l) / 2 = m := ⟨_, rfl⟩
      have hm1 : ((h : Int) - l) / 2 = (m : Int) - l := by omega
      have HM := Lib.hid hm1
      have hml : l ≤ m := by omega
      have hmh : m < h := by omega
      have hlt' : (l : Int) < h := by omega
      clear hm hm1
      cases hP : P m
      · have hmr : m < r := by
          by_cases hc : m < r
          · exact hc
          · have := HT.out m (by omega) (by omega); rw [hP] at this; cases this
        have HPM := Lib.hid hP
        clear hP
        go_wp2_with fail
        rw [show (l : Int) + ((h : Int) - l) / 2 = (m : Int) by have := HM.out; omega]
        refine (HP.out m _ (by omega) (by omega) HB.out).mono ?_
        rintro e w1 ⟨rfl, hq1⟩
        rw [HPM.out]
        have HB1 := Lib.hid (below_call HB.out hq1)
        clear hq1
        go_wp2_with fail
        go_roundw
        case rel => exact ⟨m + 1, h, by go_num, rfl, by omega, by omega, by omega, by omega, HB1.out⟩
        case measure => simp [intOf]; omega
      · have hmr : r ≤ m := by
          by_cases hc : r ≤ m
          · exact hc
          · have := HF.out m (by omega) (by omega); rw [hP] at this; cases this
        have HPM := Lib.hid hP
        clear hP
        go_wp2_with fail
        rw [show (l : Int) + ((h : Int) - l) / 2 = (m : Int) by have := HM.out; omega]
        refine (HP.out m _ (by omega) (by omega) HB.out).mono ?_
        rintro e w1 ⟨rfl, hq1⟩
        rw [HPM.out]
        have HB1 := Lib.hid (below_call HB.out hq1)
        clear hq1
        go_wp2_with fail
        go_roundw
        case rel => exact ⟨l, m, rfl, rfl, by omega, by omega, by omega, by omega, HB1.out⟩
        case measure => simp [intOf]; omega
    · obtain rfl : l = r := by omega
      go_wp2_with fail
      go_ret
      exact ⟨rfl, HB.out⟩

theorem field_lo (m c : Int) (w : World) : (Instr.field 55 (.agg #[.int .i64 m, .int .i64 c]) 0).run Tryd.prog w = .ok (.int .i64 m) w := by
  simp [Instr.field, go_sem, asAgg]
theorem field_hi (m c : Int) (w : World) : (Instr.field 55 (.agg #[.int .i64 m, .int .i64 c]) 1).run Tryd.prog w = .ok (.int .i64 c) w := by
  simp [Instr.field, go_sem, asAgg]
attribute [local go_sem] field_lo field_hi
theorem enters_div1 : ∀ (args : Array Value) (w : World), (callFunc 63 args).run Tryd.prog w = .ok (.enter 63 args) w :=
  Go.Proofs.enters_of Tryd.func63 (by kernel_rfl) rfl
theorem enters_div2 : ∀ (args : Array Value) (w : World), (callFunc 64 args).run Tryd.prog w = .ok (.enter 64 args) w :=
  Go.Proofs.enters_of Tryd.func64 (by kernel_rfl) rfl

set_option maxRecDepth 100000 in
set_option maxHeartbeats 1000000 in
theorem div1_any (bk bl : Nat) (k d : Nat) (lo : Int) (w : World) (h1 : w.cell? ⟨bk, 0, none⟩ = some (.int .i64 k)) (h2 : w.cell? ⟨bl, 0, none⟩ = some (.int .i64 lo)) (hk : k ≤ 8) (hd0 : 0 < d) (hd : d ≤ 4095) :
    Calls Tryd.prog 63 #[.int .i64 d, .pointer (some ⟨bk, 0, none⟩), .pointer (some ⟨bl, 0, none⟩)] w fun e w' => e = .returned (.bool (decide (lo ≤ flo d 1 (2 ^ k)))) ∧ Below w.heap.size w w' := by
  have hb1 := World.block_lt_of_cell? w _ h1
  have hb2 := World.block_lt_of_cell? w _ h2
  have hb1' : bk < w.heap.size := hb1
  have hb2' : bl < w.heap.size := hb2
  have HB := Lib.hid (bounds_any d k · hd0 hd hk)
  obtain ⟨m, hm⟩ : ∃ m, flo d 1 (2 ^ k) = m := ⟨_, rfl⟩
  obtain ⟨c, hc⟩ : ∃ c, cei d 1 (2 ^ k) = c := ⟨_, rfl⟩
  rw [hm, hc] at HB
  rw [hm]
  clear hm hc hb1 hb2
  go_enter Tryd.func63, Tryd.ntmps63
  go_wp2_with fail
  go_region_held3 (fun w' => w'.cell? ⟨bk, 0, none⟩ = some (.int .i64 k) ∧ w'.cell? ⟨bl, 0, none⟩ = some (.int .i64 lo)) (go_keep)
    (first | (go_at_call 61; refine (HB.out _).mono ?_; rintro e w1 ⟨rfl, hq1⟩; have HQ1 := Lib.hid hq1; have kk0 : w1.cell? ⟨bk, 0, none⟩ = some (.int .i64 k) := (hq1.cell (p := ⟨bk, 0, none⟩) hb1').trans h1; have kk1 : w1.cell? ⟨bl, 0, none⟩ = some (.int .i64 lo) := (hq1.cell (p := ⟨bl, 0, none⟩) hb2').trans h2; clear hq1))
  go_wp2_with fail
  go_ret
  exact ⟨rfl, below_call (Below.refl _ _).drew HQ1.out⟩
set_option maxRecDepth 100000 in
set_option maxHeartbeats 1000000 in
theorem div2_any (bk bl : Nat) (k d : Nat) (hi : Int) (w : World) (h1 : w.cell? ⟨bk, 0, none⟩ = some (.int .i64 k)) (h2 : w.cell? ⟨bl, 0, none⟩ = some (.int .i64 hi)) (hk : k ≤ 8) (hd0 : 0 < d) (hd : d ≤ 4095) :
    Calls Tryd.prog 64 #[.int .i64 d, .pointer (some ⟨bk, 0, none⟩), .pointer (some ⟨bl, 0, none⟩)] w fun e w' => e = .returned (.bool (decide (hi < cei d 1 (2 ^ k)))) ∧ Below w.heap.size w w' := by
  have hb1 := World.block_lt_of_cell? w _ h1
  have hb2 := World.block_lt_of_cell? w _ h2
  have hb1' : bk < w.heap.size := hb1
  have hb2' : bl < w.heap.size := hb2
  have HB := Lib.hid (bounds_any d k · hd0 hd hk)
  obtain ⟨m, hm⟩ : ∃ m, flo d 1 (2 ^ k) = m := ⟨_, rfl⟩
  obtain ⟨c, hc⟩ : ∃ c, cei d 1 (2 ^ k) = c := ⟨_, rfl⟩
  rw [hm, hc] at HB
  rw [hc]
  clear hm hc hb1 hb2
  go_enter Tryd.func64, Tryd.ntmps64
  go_wp2_with fail
  go_region_held3 (fun w' => w'.cell? ⟨bk, 0, none⟩ = some (.int .i64 k) ∧ w'.cell? ⟨bl, 0, none⟩ = some (.int .i64 hi)) (go_keep)
    (first | (go_at_call 61; refine (HB.out _).mono ?_; rintro e w1 ⟨rfl, hq1⟩; have HQ1 := Lib.hid hq1; have kk0 : w1.cell? ⟨bk, 0, none⟩ = some (.int .i64 k) := (hq1.cell (p := ⟨bk, 0, none⟩) hb1').trans h1; have kk1 : w1.cell? ⟨bl, 0, none⟩ = some (.int .i64 hi) := (hq1.cell (p := ⟨bl, 0, none⟩) hb2').trans h2; clear hq1))
  go_wp2_with fail
  go_ret
  exact ⟨rfl, below_call (Below.refl _ _).drew HQ1.out⟩
end Go.Proofs.YtpgnheankmlnfaaDoor
namespace Go.Proofs.YtpgnheankmlnfaaDoor
open Go.RowKit
set_option linter.unusedVariables false

/-- A greater fraction's logarithm is no less. -/
theorem flo_cross {a b c d q : Nat} (ha : 0 < a) (hb : 0 < b) (hc : 0 < c) (hd : 0 < d) (h : a * d ≤ c * b) : flo a b q ≤ flo c d q := by
  rw [le_flo hc hd]
  have h0 := (flo_ok (q := q) ha hb).1
  obtain ⟨e, f, hm⟩ : ∃ e f : Nat, flo a b q = (e : Int) - f := ⟨(flo a b q).toNat, (-flo a b q).toNat, by omega⟩
  rw [hm, sd_ef, cmpI_nonneg] at h0 ⊢
  have h1 : b ^ q * 2 ^ e ≤ a ^ q * 2 ^ f := by omega
  have h2 : a ^ q * d ^ q ≤ c ^ q * b ^ q := by rw [← Nat.mul_pow, ← Nat.mul_pow]; exact Nat.pow_le_pow_left h q
  have h3 : d ^ q * 2 ^ e * b ^ q ≤ c ^ q * 2 ^ f * b ^ q := by
    calc d ^ q * 2 ^ e * b ^ q = b ^ q * 2 ^ e * d ^ q := by ac_rfl
      _ ≤ a ^ q * 2 ^ f * d ^ q := Nat.mul_le_mul_right _ h1
      _ = a ^ q * d ^ q * 2 ^ f := by ac_rfl
      _ ≤ c ^ q * b ^ q * 2 ^ f := Nat.mul_le_mul_right _ h2
      _ = c ^ q * 2 ^ f * b ^ q := by ac_rfl
  have h4 := Nat.le_of_mul_le_mul_right h3 (pow_pos' hb q)
  omega
theorem cei_cross {a b c d q : Nat} (ha : 0 < a) (hb : 0 < b) (hc : 0 < c) (hd : 0 < d) (h : a * d ≤ c * b) : cei a b q ≤ cei c d q := by
  rw [cei_neg ha hb, cei_neg hc hd]
  have := flo_cross (q := q) hd hc hb ha (by rw [Nat.mul_comm d a, Nat.mul_comm b c]; exact h)
  omega

/-- The least number from d on for which P holds, of n ones. -/
def fstN (P : Nat → Bool) : Nat → Nat → Nat
  | 0, d => d
  | n + 1, d => if P d = true then d else fstN P n (d + 1)
theorem fstN_ok (P : Nat → Bool) : ∀ n d, d ≤ fstN P n d ∧ fstN P n d ≤ d + n ∧ (∀ x, d ≤ x → x < fstN P n d → P x = false) ∧ (fstN P n d < d + n → P (fstN P n d) = true)
  | 0, d => ⟨Nat.le_refl _, Nat.le_refl _, fun x h1 h2 => by simp only [fstN] at h2; omega, fun h => by simp only [fstN] at h; omega⟩
  | n + 1, d => by
    unfold fstN
    split
    · rename_i h
      exact ⟨Nat.le_refl _, by omega, fun x h1 h2 => by omega, fun _ => h⟩
    · rename_i h
      obtain ⟨h1, h2, h3, h4⟩ := fstN_ok P n (d + 1)
      refine ⟨by omega, by omega, fun x k1 k2 => ?_, fun k => h4 (by omega)⟩
      by_cases hx : x = d
      · subst hx; simpa using h
      · exact h3 x (by omega) k2
def leastL (k : Nat) (lo : Int) : Nat := fstN (fun d => decide (lo ≤ flo d 1 (2 ^ k))) 4095 1
def aboveH (k : Nat) (hi : Int) : Nat := fstN (fun d => decide (hi < cei d 1 (2 ^ k))) 4095 1
theorem leastL_ok (k : Nat) (lo : Int) : 1 ≤ leastL k lo ∧ leastL k lo ≤ 4096 ∧ (∀ x, 1 ≤ x → x < leastL k lo → decide (lo ≤ flo x 1 (2 ^ k)) = false) ∧ (∀ x, leastL k lo ≤ x → x ≤ 4095 → decide (lo ≤ flo x 1 (2 ^ k)) = true) := by
  obtain ⟨h1, h2, h3, h4⟩ := fstN_ok (fun d => decide (lo ≤ flo d 1 (2 ^ k))) 4095 1
  change 1 ≤ leastL k lo at h1
  change leastL k lo ≤ 1 + 4095 at h2
  refine ⟨h1, h2, h3, fun x k1 k2 => ?_⟩
  have h5 : leastL k lo < 1 + 4095 := by omega
  have h6 := of_decide_eq_true (h4 h5)
  have h7 := flo_cross (a := leastL k lo) (b := 1) (c := x) (d := 1) (q := 2 ^ k) h1 (by decide) (by omega) (by decide) (by omega)
  exact decide_eq_true (Int.le_trans h6 h7)
theorem aboveH_ok (k : Nat) (hi : Int) : 1 ≤ aboveH k hi ∧ aboveH k hi ≤ 4096 ∧ (∀ x, 1 ≤ x → x < aboveH k hi → decide (hi < cei x 1 (2 ^ k)) = false) ∧ (∀ x, aboveH k hi ≤ x → x ≤ 4095 → decide (hi < cei x 1 (2 ^ k)) = true) := by
  obtain ⟨h1, h2, h3, h4⟩ := fstN_ok (fun d => decide (hi < cei d 1 (2 ^ k))) 4095 1
  change 1 ≤ aboveH k hi at h1
  change aboveH k hi ≤ 1 + 4095 at h2
  refine ⟨h1, h2, h3, fun x k1 k2 => ?_⟩
  have h5 : aboveH k hi < 1 + 4095 := by omega
  have h6 := of_decide_eq_true (h4 h5)
  have h7 := cei_cross (a := aboveH k hi) (b := 1) (c := x) (d := 1) (q := 2 ^ k) h1 (by decide) (by omega) (by decide) (by omega)
  exact decide_eq_true (Int.lt_of_lt_of_le h6 h7)
def askS (lo hi k : Int) : Bool := inR 0 8 k && [lo, hi].all (inR (-4096) 4096) && decide (lo ≤ hi)
theorem askS_iff {lo hi k : Int} : askS lo hi k = true ↔ ((0 ≤ k ∧ k ≤ 8) ∧ (-4096 ≤ lo ∧ lo ≤ 4096) ∧ (-4096 ≤ hi ∧ hi ≤ 4096)) ∧ lo ≤ hi := by
  unfold askS
  simp only [Bool.and_eq_true, List.all_cons, List.all_nil, Bool.and_true, inR_iff, decide_eq_true_eq]
/-- What Divisions returns. -/
def divV (lo hi k : Int) : Int × Int × Int :=
  if askS lo hi k = true then (if aboveH k.toNat hi ≤ leastL k.toNat lo then (0, 0, 4) else ((leastL k.toNat lo : Int), (aboveH k.toNat hi : Int) - 1, 0)) else (0, 0, 1)
/-- 'fine(k)'. -/
theorem fine_none (k : Int) (w : World) :
    Calls Tryd.prog 47 #[.int .i64 k, .slice none 0 0] w fun e w' => e = .returned (.bool (inR 0 8 k)) ∧ Below w.heap.size w w' := by
  refine (fine_any k _ _ _ [] _ (IsL.nil _ _)).mono ?_
  rintro e w' ⟨rfl, h⟩
  exact ⟨rfl, h⟩
/-- 'within(lo, hi, x, y)'. -/
theorem within2 (lo hi x y : Int) (B : Nat) (w : World) (hB : w.heap.size = B) :
    Calls Tryd.prog 52 #[.int .i64 lo, .int .i64 hi, .slice (some ⟨B, 0, none⟩) 2 2] (w.alloc (.cells #[.int .i64 x, .int .i64 y] 3)) fun e w' => e = .returned (.bool ([x, y].all (inR lo hi))) ∧ Below w.heap.size w w' := by
  subst hB
  refine (within_any lo hi _ _ _ [x, y] _ (IsL.new2 _ _ _ _)).mono ?_
  rintro e w' ⟨rfl, h⟩
  exact ⟨rfl, below_call (below_alloc (Below.refl _ _) _) h⟩

set_option maxRecDepth 100000 in
set_option maxHeartbeats 2000000 in
theorem Divisions_any (lo hi k : Int) (w : World) :
    Calls Tryd.prog 43 #[.int .i64 lo, .int .i64 hi, .int .i64 k] w (RetQE (divV lo hi k).1 (divV lo hi k).2.1 (divV lo hi k).2.2 w) := by
  obtain ⟨r, hr⟩ : ∃ r, divV lo hi k = r := ⟨_, rfl⟩
  have hr2 : r = if askS lo hi k = true then (if aboveH k.toNat hi ≤ leastL k.toNat lo then (0, 0, 4) else ((leastL k.toNat lo : Int), (aboveH k.toNat hi : Int) - 1, 0)) else (0, 0, 1) := by rw [← hr]; rfl
  rw [hr]
  have he : askS lo hi k = (inR 0 8 k && [lo, hi].all (inR (-4096) 4096) && decide (lo ≤ hi)) := rfl
  obtain ⟨v1, h1⟩ : ∃ v, inR 0 8 k = v := ⟨_, rfl⟩
  obtain ⟨v2, h2⟩ : ∃ v, [lo, hi].all (inR (-4096) 4096) = v := ⟨_, rfl⟩
  rw [h1, h2] at he
  rw [he] at hr2
  have HR := Lib.hid hr2
  have H1 := Lib.hid h1
  have H2 := Lib.hid h2
  clear hr hr2 he h1 h2
  have HB0 := Lib.hid (below_alloc (below_alloc (below_alloc (below_alloc (Below.refl w.heap.size w) (.cells #[.int .i64 lo] 3)) (.cells #[.int .i64 hi] 3)) (.cells #[.int .i64 k] 3)) (.cells #[.int .i64 0, .int .i64 0] 55))
  go_enter Tryd.func43, Tryd.ntmps43
  go_wp2_with fail
  refine (fine_none k _).mono ?_
  rintro e w1 ⟨rfl, hq1⟩
  rw [H1.out]
  obtain ⟨hc_hq1, hf_hq1⟩ := bcell hq1; have sz_hq1 : w.heap.size + 4 ≤ w1.heap.size := (by have := hq1.size; (try simp at this); omega); have s0_hq1 : w.heap.size < w1.heap.size := (by omega); have s1_hq1 : w.heap.size + 1 < w1.heap.size := (by omega); have s2_hq1 : w.heap.size + 1 + 1 < w1.heap.size := (by omega); have s3_hq1 : w.heap.size + 1 + 1 + 1 < w1.heap.size := (by omega)
  have HB1 := Lib.hid (below_call HB0.out hq1)
  have HV1 : Hid (VarQ w1 (w.heap.size + 1 + 1 + 1) 0 0) := by
    have := VarQ.new (((w.alloc (.cells #[.int .i64 lo] 3)).alloc (.cells #[.int .i64 hi] 3)).alloc (.cells #[.int .i64 k] 3)) 0 0 55
    rw [World.size_alloc, World.size_alloc, World.size_alloc] at this
    exact Lib.hid (this.below hq1)
  clear hq1
  cases v1
  · have HR1 : Hid (r = (0, 0, 1)) := Lib.hid HR.out
    obtain ⟨c0, c1, c2, c3⟩ := HV1.out
    go_wp2_with fail
    rw [HR1.out]
    refine bodyPost_varSE (B := w.heap.size + 1 + 1 + 1) Tryd.results43 rfl rfl rfl (HV1.out.put _ _) ?_
    exact below_setCell (below_setCell HB1.out (by simp; omega) _) (by simp; omega) _
  · go_wp2_with fail
    refine (within2 _ _ _ _ _ _ (by simp)).mono ?_
    rintro e w2 ⟨rfl, hq2⟩
    rw [H2.out]
    obtain ⟨hc_hq2, hf_hq2⟩ := bcell hq2; have sz_hq2 : w.heap.size + 4 ≤ w2.heap.size := (by have := hq2.size; (try simp at this); omega); have s0_hq2 : w.heap.size < w2.heap.size := (by omega); have s1_hq2 : w.heap.size + 1 < w2.heap.size := (by omega); have s2_hq2 : w.heap.size + 1 + 1 < w2.heap.size := (by omega); have s3_hq2 : w.heap.size + 1 + 1 + 1 < w2.heap.size := (by omega)
    have HB2 := Lib.hid (below_call HB1.out hq2)
    have HV2 := Lib.hid (HV1.out.below hq2)
    clear hq2 HV1
    cases v2
    · have HR1 : Hid (r = (0, 0, 1)) := Lib.hid HR.out
      obtain ⟨c0, c1, c2, c3⟩ := HV2.out
      go_wp2_with fail
      rw [HR1.out]
      refine bodyPost_varSE (B := w.heap.size + 1 + 1 + 1) Tryd.results43 rfl rfl rfl (HV2.out.put _ _) ?_
      exact below_setCell (below_setCell HB2.out (by simp; omega) _) (by simp; omega) _
    · by_cases hlh : lo ≤ hi
      · have hnlt : decide (hi < lo) = false := decide_eq_false (by omega)
        have hask : askS lo hi k = true := by unfold askS; rw [H1.out, H2.out, decide_eq_true hlh]; rfl
        obtain ⟨⟨⟨k0, k1⟩, ⟨lo0, lo1⟩, hi0, hi1⟩, _⟩ := askS_iff.1 hask
        obtain ⟨k, rfl⟩ : ∃ n : Nat, k = (n : Int) := ⟨k.toNat, by omega⟩
        have hr := HR.out
        rw [decide_eq_true hlh, Int.toNat_natCast] at hr
        have HR1 : Hid (r = if aboveH k hi ≤ leastL k lo then (0, 0, 4) else ((leastL k lo : Int), (aboveH k hi : Int) - 1, 0)) := Lib.hid hr
        obtain ⟨p1, p2, p3, p4⟩ := leastL_ok k lo
        obtain ⟨q1, q2, q3, q4⟩ := aboveH_ok k hi
        have HP := Lib.hid (And.intro p3 p4)
        have HQ := Lib.hid (And.intro q3 q4)
        obtain ⟨x, hx⟩ : ∃ x, leastL k lo = x := ⟨_, rfl⟩
        obtain ⟨y, hy⟩ : ∃ y, aboveH k hi = y := ⟨_, rfl⟩
        rw [hx] at HP p1 p2 HR1
        rw [hy] at HQ q1 q2 HR1
        clear hask hr HR p3 p4 q3 q4 hx hy
        have C0 : w2.cell? ⟨w.heap.size, 0, none⟩ = some (.int .i64 lo) := by simp [go_sem, hc_hq1, hc_hq2, s0_hq1]
        have C1 : w2.cell? ⟨w.heap.size + 1, 0, none⟩ = some (.int .i64 hi) := by simp [go_sem, hc_hq1, hc_hq2, s1_hq1]
        have C2 : w2.cell? ⟨w.heap.size + 1 + 1, 0, none⟩ = some (.int .i64 k) := by simp [go_sem, hc_hq1, hc_hq2, s2_hq1]
        go_wp2_with fail
        refine (first_any 1 4095 x 63 _ (fun d => decide (lo ≤ flo d 1 (2 ^ k))) _ p1 p2 (by decide) HP.out.1 HP.out.2 enters_div1 ?_).mono ?_
        · intro d W hd0 hd1 hW
          exact div1_any _ _ k d lo W ((hW.cell (p := ⟨w.heap.size + 1 + 1, 0, none⟩) s2_hq2).trans C2) ((hW.cell (p := ⟨w.heap.size, 0, none⟩) s0_hq2).trans C0) (by omega) hd0 hd1
        rintro e w3 ⟨rfl, hq3⟩
        have HB3 := Lib.hid (below_call HB2.out hq3)
        have HV3 := Lib.hid (HV2.out.below hq3)
        have D1 : w3.cell? ⟨w.heap.size + 1, 0, none⟩ = some (.int .i64 hi) := (hq3.cell (p := ⟨w.heap.size + 1, 0, none⟩) s1_hq2).trans C1
        have D2 : w3.cell? ⟨w.heap.size + 1 + 1, 0, none⟩ = some (.int .i64 k) := (hq3.cell (p := ⟨w.heap.size + 1 + 1, 0, none⟩) s2_hq2).trans C2
        have z1 : w.heap.size + 1 < w3.heap.size := Nat.lt_of_lt_of_le s1_hq2 hq3.size
        have z2 : w.heap.size + 1 + 1 < w3.heap.size := Nat.lt_of_lt_of_le s2_hq2 hq3.size
        clear C0 C1 C2 hq3 hc_hq1 hf_hq1 hc_hq2 hf_hq2
        go_wp2_with fail
        refine (first_any 1 4095 y 64 _ (fun d => decide (hi < cei d 1 (2 ^ k))) _ q1 q2 (by decide) HQ.out.1 HQ.out.2 enters_div2 ?_).mono ?_
        · intro d W hd0 hd1 hW
          exact div2_any _ _ k d hi W ((hW.cell (p := ⟨w.heap.size + 1 + 1, 0, none⟩) z2).trans D2) ((hW.cell (p := ⟨w.heap.size + 1, 0, none⟩) z1).trans D1) (by omega) hd0 hd1
        rintro e w4 ⟨rfl, hq4⟩
        have HB4 := Lib.hid (below_call HB3.out hq4)
        have HV4 := Lib.hid (HV3.out.below hq4)
        obtain ⟨c0, c1, c2, c3⟩ := HV4.out
        clear hq4 D1 D2
        by_cases hxy : y ≤ x
        · have ht : (y : Int) ≤ x := by omega
          have HR2 : Hid (r = (0, 0, 4)) := Lib.hid (HR1.out.trans (if_pos hxy))
          clear HR1 hxy
          go_wp2_with fail
          rw [HR2.out]
          refine bodyPost_varSE (B := w.heap.size + 1 + 1 + 1) Tryd.results43 rfl rfl rfl (HV4.out.put _ _) ?_
          exact below_setCell (below_setCell HB4.out (by simp; omega) _) (by simp; omega) _
        · have ht : ¬ (y : Int) ≤ x := by omega
          have HR2 : Hid (r = ((x : Int), (y : Int) - 1, 0)) := Lib.hid (HR1.out.trans (if_neg hxy))
          clear HR1 hxy
          go_wp2_with fail
          rw [HR2.out]
          refine bodyPost_varSE (B := w.heap.size + 1 + 1 + 1) Tryd.results43 rfl rfl rfl (HV4.out.put _ _) ?_
          exact below_setCell (below_setCell HB4.out (by simp; omega) _) (by simp; omega) _
      · have hnlt : decide (hi < lo) = true := decide_eq_true (by omega)
        have HR1 : Hid (r = (0, 0, 1)) := Lib.hid (by rw [HR.out, decide_eq_false hlh]; rfl)
        clear HR hlh
        obtain ⟨c0, c1, c2, c3⟩ := HV2.out
        go_wp2_with fail
        rw [HR1.out]
        refine bodyPost_varSE (B := w.heap.size + 1 + 1 + 1) Tryd.results43 rfl rfl rfl (HV2.out.put _ _) ?_
        exact below_setCell (below_setCell HB2.out (by simp; omega) _) (by simp; omega) _
end Go.Proofs.YtpgnheankmlnfaaDoor
