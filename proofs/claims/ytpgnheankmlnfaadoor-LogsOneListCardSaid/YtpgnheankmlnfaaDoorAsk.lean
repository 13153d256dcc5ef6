/- The walks over logs.asked, side, Compare, sum, Coarse, Apart. -/
import Derived.Test.YtpgnheankmlnfaaDoorFloor
namespace Go.Proofs.YtpgnheankmlnfaaDoor
open Go.RowKit
set_option linter.unusedVariables false

def askO (a b o : Int) : Bool := askF a b 0 && inR 1 64 o
theorem askF_zero {a b : Int} : askF a b 0 = true ↔ (1 ≤ a ∧ a ≤ 4095) ∧ (1 ≤ b ∧ b ≤ 4095) := by
  rw [askF_iff]
  constructor
  · rintro ⟨h1, h2, _⟩; exact ⟨h1, h2⟩
  · rintro ⟨h1, h2⟩; exact ⟨h1, h2, by decide, by decide⟩
theorem askO_iff {a b o : Int} : askO a b o = true ↔ ((1 ≤ a ∧ a ≤ 4095) ∧ (1 ≤ b ∧ b ≤ 4095)) ∧ 1 ≤ o ∧ o ≤ 64 := by
  unfold askO
  rw [Bool.and_eq_true, askF_zero, inR_iff]

/-- 'fine(0, a, b)', the arguments laid in a new slice. -/
theorem fine0 (a b : Int) (B : Nat) (w : World) (hB : w.heap.size = B) :
    Calls Tryd.prog 47 #[.int .i64 0, .slice (some ⟨B, 0, none⟩) 2 2] (w.alloc (.cells #[.int .i64 a, .int .i64 b] 3)) fun e w' => e = .returned (.bool (askF a b 0)) ∧ Below w.heap.size w w' := by
  subst hB
  refine (fine_any 0 _ _ _ [a, b] _ (IsL.new2 _ _ _ _)).mono ?_
  rintro e w' ⟨rfl, h⟩
  exact ⟨rfl, below_call (below_alloc (Below.refl _ _) _) h⟩
/-- 'within(lo, hi, x)', the argument laid in a new slice. -/
theorem within1 (lo hi x : Int) (B : Nat) (w : World) (hB : w.heap.size = B) :
    Calls Tryd.prog 52 #[.int .i64 lo, .int .i64 hi, .slice (some ⟨B, 0, none⟩) 1 1] (w.alloc (.cells #[.int .i64 x] 3)) fun e w' => e = .returned (.bool (inR lo hi x)) ∧ Below w.heap.size w w' := by
  subst hB
  refine (within_any lo hi _ _ _ [x] _ (IsL.new1 _ _ _)).mono ?_
  rintro e w' ⟨rfl, h⟩
  exact ⟨by simp, below_call (below_alloc (Below.refl _ _) _) h⟩

set_option maxRecDepth 100000 in
set_option maxHeartbeats 400000 in
theorem asked_any (a b o : Int) (w : World) :
    Calls Tryd.prog 55 #[.int .i64 a, .int .i64 b, .int .i64 o] w fun e w' => e = .returned (.bool (askO a b o)) ∧ Below w.heap.size w w' := by
  unfold askO
  obtain ⟨v, hv⟩ : ∃ v, askF a b 0 = v := ⟨_, rfl⟩
  have HV := Lib.hid hv
  rw [hv]
  clear hv
  cases v
  · go_enter Tryd.func55, Tryd.ntmps55
    go_wp2_with fail
    refine (fine0 _ _ _ _ (by simp)).mono ?_
    rintro e w1 ⟨rfl, hq1⟩
    rw [HV.out]
    have HB1 := Lib.hid hq1
    clear hq1
    go_wp2_with fail
    go_ret
    exact ⟨rfl, HB1.out⟩
  · go_enter Tryd.func55, Tryd.ntmps55
    go_wp2_with fail
    refine (fine0 _ _ _ _ (by simp)).mono ?_
    rintro e w1 ⟨rfl, hq1⟩
    rw [HV.out]
    have HB1 := Lib.hid hq1
    clear hq1
    go_wp2_with fail
    refine (within1 _ _ _ _ _ (by simp)).mono ?_
    rintro e w2 ⟨rfl, hq2⟩
    have HB2 := Lib.hid (below_call HB1.out hq2)
    clear hq2
    go_wp2_with fail
    go_ret
    exact ⟨by simp, HB2.out⟩

set_option maxRecDepth 100000 in
set_option maxHeartbeats 400000 in
theorem side_any (a b q : Nat) (p : Int) (w : World) (ha : a ≤ 4095) (hb : b ≤ 4095) (ha0 : 0 < a) (hb0 : 0 < b) (hq : q ≤ 256) (hm0 : -1000000000 ≤ p) (hm1 : p ≤ 1000000000) :
    Calls Tryd.prog 57 #[.int .i64 a, .int .i64 b, .agg #[.int .i64 p, .int .i64 q]] w fun e w' => e = .returned (.int .i64 (sd a b q p)) ∧ Below w.heap.size w w' := by
  go_enter Tryd.func57, Tryd.ntmps57
  go_wp2_with fail
  refine (against_any a b q p _ ha hb ha0 hb0 hq hm0 hm1).mono ?_
  rintro e w1 ⟨rfl, hq1⟩
  have HB1 := Lib.hid (below_call (below_alloc (Below.refl _ _) _) hq1)
  clear hq1
  go_wp2_with fail
  go_ret
  exact ⟨rfl, HB1.out⟩

/-- A fraction is returned. -/
def RetQ (p q : Int) (w : World) (e : Ending) (w' : World) : Prop := e = .returned (.agg #[.int .i64 p, .int .i64 q]) ∧ Below w.heap.size w w'
set_option maxRecDepth 100000 in
set_option maxHeartbeats 400000 in
theorem sum_any (p q r s : Int) (w : World) (h1 : -1000000000000 ≤ p ∧ p ≤ 1000000000000) (h2 : -1000000000000 ≤ q ∧ q ≤ 1000000000000) (h3 : -1000000000000 ≤ r ∧ r ≤ 1000000000000) (h4 : -1000000000000 ≤ s ∧ s ≤ 1000000000000) :
    Calls Tryd.prog 56 #[.agg #[.int .i64 p, .int .i64 q], .agg #[.int .i64 r, .int .i64 s]] w (RetQ (p + r) (q + s) w) := by
  go_enter Tryd.func56, Tryd.ntmps56
  go_wp2_with fail
  refine bodyPost_ret (v := .agg #[.int .i64 (p + r), .int .i64 (q + s)]) (by simp [results, Tryd.results56, go_sem]) rfl ?_
  exact ⟨rfl, below_alloc (below_alloc (below_alloc (Below.refl _ _) _) _) _⟩

/-- Whether Compare takes its arguments. -/
def askC (a b p q : Int) : Bool := askF a b 0 && (inR 1 256 q && inR (-4096) 4096 p)
def cmpV (a b p q : Int) : Int := if askC a b p q = true then sd a.toNat b.toNat q.toNat p else 0
set_option maxRecDepth 100000 in
set_option maxHeartbeats 1000000 in
theorem Compare_any (a b p q : Int) (w : World) :
    Calls Tryd.prog 41 #[.int .i64 a, .int .i64 b, .agg #[.int .i64 p, .int .i64 q]] w fun e w' => e = .returned (.tuple #[.int .i64 (cmpV a b p q), .int .i64 (askE (askC a b p q))]) ∧ Below w.heap.size w w' := by
  cases h1 : askF a b 0
  · have HA := Lib.hid h1
    have HV : Hid (cmpV a b p q = 0 ∧ askE (askC a b p q) = 1) := by
      have : askC a b p q = false := by unfold askC; rw [h1]; rfl
      exact ⟨by unfold cmpV; rw [this]; rfl, by rw [this]; rfl⟩
    clear h1
    go_enter Tryd.func41, Tryd.ntmps41
    go_wp2_with fail
    refine (fine0 _ _ _ _ (by simp)).mono ?_
    rintro e w1 ⟨rfl, hq1⟩
    rw [HA.out]
    have HB1 := Lib.hid (below_call (below_alloc (Below.refl _ _) _) hq1)
    clear hq1
    go_wp2_with fail
    go_ret2
    rw [HV.out.1, HV.out.2]
    exact ⟨rfl, HB1.out⟩
  · cases h2 : inR 1 256 q
    · have HA := Lib.hid h1
      have HA2 := Lib.hid h2
      have HV : Hid (cmpV a b p q = 0 ∧ askE (askC a b p q) = 1) := by
        have : askC a b p q = false := by unfold askC; rw [h1, h2]; rfl
        exact ⟨by unfold cmpV; rw [this]; rfl, by rw [this]; rfl⟩
      clear h1 h2
      go_enter Tryd.func41, Tryd.ntmps41
      go_wp2_with fail
      refine (fine0 _ _ _ _ (by simp)).mono ?_
      rintro e w1 ⟨rfl, hq1⟩
      rw [HA.out]
      obtain ⟨hc_hq1, hf_hq1⟩ := bcell hq1; have sz_hq1 : w.heap.size + 1 ≤ w1.heap.size := (by have := hq1.size; (try simp at this); omega); have s0_hq1 : w.heap.size < w1.heap.size := (by omega)
      have HB1 := Lib.hid (below_call (below_alloc (Below.refl _ _) _) hq1)
      clear hq1
      go_wp2_with fail
      refine (within1 _ _ _ _ _ (by simp)).mono ?_
      rintro e w2 ⟨rfl, hq2⟩
      rw [HA2.out]
      have HB2 := Lib.hid (below_call HB1.out hq2)
      clear hq2
      go_wp2_with fail
      go_ret2
      rw [HV.out.1, HV.out.2]
      exact ⟨rfl, HB2.out⟩
    · have HA := Lib.hid h1
      have HA2 := Lib.hid h2
      have hC : askC a b p q = inR (-4096) 4096 p := by unfold askC; rw [h1, h2]; rfl
      cases h3 : inR (-4096) 4096 p
      · have HA3 := Lib.hid h3
        have HV : Hid (cmpV a b p q = 0 ∧ askE (askC a b p q) = 1) := by
          rw [h3] at hC
          exact ⟨by unfold cmpV; rw [hC]; rfl, by rw [hC]; rfl⟩
        clear h1 h2 h3 hC
        go_enter Tryd.func41, Tryd.ntmps41
        go_wp2_with fail
        refine (fine0 _ _ _ _ (by simp)).mono ?_
        rintro e w1 ⟨rfl, hq1⟩
        rw [HA.out]
        obtain ⟨hc_hq1, hf_hq1⟩ := bcell hq1; have sz_hq1 : w.heap.size + 1 ≤ w1.heap.size := (by have := hq1.size; (try simp at this); omega); have s0_hq1 : w.heap.size < w1.heap.size := (by omega)
        have HB1 := Lib.hid (below_call (below_alloc (Below.refl _ _) _) hq1)
        clear hq1
        go_wp2_with fail
        refine (within1 _ _ _ _ _ (by simp)).mono ?_
        rintro e w2 ⟨rfl, hq2⟩
        rw [HA2.out]
        obtain ⟨hc_hq2, hf_hq2⟩ := bcell hq2; have sz_hq2 : w.heap.size + 1 ≤ w2.heap.size := (by have := hq2.size; (try simp at this); omega); have s0_hq2 : w.heap.size < w2.heap.size := (by omega)
        have HB2 := Lib.hid (below_call HB1.out hq2)
        clear hq2
        go_wp2_with fail
        refine (within1 _ _ _ _ _ (by simp)).mono ?_
        rintro e w3 ⟨rfl, hq3⟩
        rw [HA3.out]
        have HB3 := Lib.hid (below_call HB2.out hq3)
        clear hq3
        go_wp2_with fail
        go_ret2
        rw [HV.out.1, HV.out.2]
        exact ⟨rfl, HB3.out⟩
      · obtain ⟨⟨a0, a1⟩, b0, b1⟩ := askF_zero.1 h1
        obtain ⟨q0, q1⟩ := inR_iff.1 h2
        obtain ⟨p0, p1⟩ := inR_iff.1 h3
        obtain ⟨a, rfl⟩ : ∃ n : Nat, a = (n : Int) := ⟨a.toNat, by omega⟩
        obtain ⟨b, rfl⟩ : ∃ n : Nat, b = (n : Int) := ⟨b.toNat, by omega⟩
        obtain ⟨q, rfl⟩ : ∃ n : Nat, q = (n : Int) := ⟨q.toNat, by omega⟩
        have HA3 := Lib.hid h3
        have HV : Hid (cmpV a b p q = sd a b q p ∧ askE (askC a b p q) = 0) := by
          rw [h3] at hC
          exact ⟨by unfold cmpV; rw [hC, if_pos rfl, Int.toNat_natCast, Int.toNat_natCast, Int.toNat_natCast], by rw [hC]; rfl⟩
        clear h1 h2 h3 hC
        go_enter Tryd.func41, Tryd.ntmps41
        go_wp2_with fail
        refine (fine0 _ _ _ _ (by simp)).mono ?_
        rintro e w1 ⟨rfl, hq1⟩
        rw [HA.out]
        obtain ⟨hc_hq1, hf_hq1⟩ := bcell hq1; have sz_hq1 : w.heap.size + 1 ≤ w1.heap.size := (by have := hq1.size; (try simp at this); omega); have s0_hq1 : w.heap.size < w1.heap.size := (by omega)
        have HB1 := Lib.hid (below_call (below_alloc (Below.refl _ _) _) hq1)
        clear hq1
        go_wp2_with fail
        refine (within1 _ _ _ _ _ (by simp)).mono ?_
        rintro e w2 ⟨rfl, hq2⟩
        rw [HA2.out]
        obtain ⟨hc_hq2, hf_hq2⟩ := bcell hq2; have sz_hq2 : w.heap.size + 1 ≤ w2.heap.size := (by have := hq2.size; (try simp at this); omega); have s0_hq2 : w.heap.size < w2.heap.size := (by omega)
        have HB2 := Lib.hid (below_call HB1.out hq2)
        clear hq2
        go_wp2_with fail
        refine (within1 _ _ _ _ _ (by simp)).mono ?_
        rintro e w3 ⟨rfl, hq3⟩
        rw [HA3.out]
        obtain ⟨hc_hq3, hf_hq3⟩ := bcell hq3; have sz_hq3 : w.heap.size + 1 ≤ w3.heap.size := (by have := hq3.size; (try simp at this); omega); have s0_hq3 : w.heap.size < w3.heap.size := (by omega)
        have HB3 := Lib.hid (below_call HB2.out hq3)
        clear hq3
        go_wp2_with fail
        refine (side_any a b q p _ (by omega) (by omega) (by omega) (by omega) (by omega) (by omega) (by omega)).mono ?_
        rintro e w4 ⟨rfl, hq4⟩
        have HB4 := Lib.hid (below_call HB3.out hq4)
        clear hq4
        go_wp2_with fail
        go_ret2
        rw [HV.out.1, HV.out.2]
        exact ⟨rfl, HB4.out⟩
end Go.Proofs.YtpgnheankmlnfaaDoor
