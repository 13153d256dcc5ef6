/- The walks over exact.Bits, Compare and Mul. The walks over exact.order and Compare. -/
import Derived.Test.YtpgnheankmlnfaaDoorPower
namespace Go.Proofs.YtpgnheankmlnfaaDoor
open Go.RowKit
set_option linter.unusedVariables false

set_option maxRecDepth 100000 in
set_option maxHeartbeats 400000 in
theorem bits_any (s : Bool) (A : Option Addr) (l c : Nat) (x : Int) (w : World) (h : IsZ w s A l c x) (hl : l ≤ 128) :
    Calls Tryd.prog 77 #[.agg #[.bool s, .slice A l c]] w fun e w' => e = .returned (.tuple #[.int .i64 (bl x.natAbs), .int .i64 0]) ∧ Below w.heap.size w w' := by
  have H := Lib.hid h
  clear h
  have e0 : w.heap.size < w.heap.size + 1 := by omega
  go_enter Tryd.func77, Tryd.ntmps77
  go_wp2_with fail
  refine (check_ok _ _ _ _ _ _ (H.out.below (below_alloc (Below.refl _ _) _)) hl).mono ?_
  rintro e w1 ⟨rfl, hq1⟩
  obtain ⟨hc_hq1, hf_hq1⟩ := bcell hq1; have sz_hq1 : w.heap.size + 1 ≤ w1.heap.size := (by have := hq1.size; (try simp at this); omega); have s0_hq1 : w.heap.size < w1.heap.size := (by omega)
  have HB := Lib.hid (below_call (below_alloc (Below.refl _ _) _) hq1)
  have H1 := Lib.hid (H.out.below HB.out)
  go_wp2_with fail
  refine (width_any _ _ _ _ _ H1.out.2 (by omega)).mono ?_
  rintro e w' ⟨rfl, rfl⟩
  go_wp2_with fail
  go_ret2
  exact ⟨rfl, HB.out⟩

set_option maxRecDepth 100000 in
set_option maxHeartbeats 1000000 in
theorem all_any (b : Nat) (s1 : Bool) (A1 : Option Addr) (l1 c1 : Nat) (s2 : Bool) (A2 : Option Addr) (l2 c2 : Nat) (e1 e2 : Int) (w : World)
    (k0 : w.cell? ⟨b, 0, none⟩ = some (.bool s1)) (k1 : w.cell? ⟨b, 1, none⟩ = some (.slice A1 l1 c1)) (k2 : w.cell? ⟨b, 2, none⟩ = some (.bool s2)) (k3 : w.cell? ⟨b, 3, none⟩ = some (.slice A2 l2 c2))
    (h1 : ∀ W, Below w.heap.size w W → Calls Tryd.prog 86 #[.agg #[.bool s1, .slice A1 l1 c1]] W fun e w' => e = .returned (.int .i64 e1) ∧ Below W.heap.size W w')
    (h2 : ∀ W, Below w.heap.size w W → Calls Tryd.prog 86 #[.agg #[.bool s2, .slice A2 l2 c2]] W fun e w' => e = .returned (.int .i64 e2) ∧ Below W.heap.size W w') :
    Calls Tryd.prog 107 #[.func (.func 86) #[] #[], .slice (some ⟨b, 0, none⟩) 2 2] w fun e w' => e = .returned (.int .i64 (if e1 ≠ 0 then e1 else e2)) ∧ Below w.heap.size w w' := by
  have H1 := Lib.hid h1
  have H2 := Lib.hid h2
  clear h1 h2
  have hb := World.block_lt_of_cell? w _ k0
  have u0 : w.heap.size < w.heap.size + 1 := by omega
  go_enter Tryd.func107, Tryd.ntmps107
  go_wp2
  refine wp_loop_rounds 3 ?_
  rw [rounds_succ]
  go_wp2_with fail
  refine (H1.out _ (below_alloc (Below.refl _ _) _)).mono ?_
  rintro e w1 ⟨rfl, hq1⟩
  have HB1 := Lib.hid (below_call (below_alloc (Below.refl _ _) _) hq1)
  have K0 := (HB1.out.cell (p := ⟨b, 0, none⟩) hb).trans k0
  have K1 := (HB1.out.cell (p := ⟨b, 1, none⟩) hb).trans k1
  have K2 := (HB1.out.cell (p := ⟨b, 2, none⟩) hb).trans k2
  have K3 := (HB1.out.cell (p := ⟨b, 3, none⟩) hb).trans k3
  clear hq1 k0 k1 k2 k3
  have u1 : w1.heap.size < w1.heap.size + 1 := by omega
  by_cases z1 : e1 = 0
  · subst z1
    go_wp2_with fail
    rw [rounds_succ]
    go_wp2_with fail
    refine (H2.out _ (below_alloc HB1.out _)).mono ?_
    rintro e w2 ⟨rfl, hq2⟩
    have HB2 := Lib.hid (below_call (below_alloc HB1.out _) hq2)
    clear hq2
    by_cases z2 : e2 = 0
    · subst z2
      go_wp2_with fail
      rw [rounds_succ]
      go_wp2_with fail
      go_ret
      exact ⟨rfl, HB2.out⟩
    · have b2 : (e2 != 0) = true := by rw [bne_iff_ne]; exact z2
      go_wp2_with fail
      go_ret
      exact ⟨rfl, HB2.out⟩
  · have b1 : (e1 != 0) = true := by rw [bne_iff_ne]; exact z1
    go_wp2_with fail
    go_ret
    exact ⟨rfl, HB1.out⟩

/-- What is returned of a calculation: the integer if it is not too large. -/
def calV (z : Int) : Int := if z.natAbs < 2 ^ lim then z else 0
def calE (z : Int) : Int := if z.natAbs < 2 ^ lim then 0 else 2

set_option maxRecDepth 100000 in
set_option maxHeartbeats 2000000 in
theorem calc_ok (s1 : Bool) (A1 : Option Addr) (l1 c1 : Nat) (x : Int) (s2 : Bool) (A2 : Option Addr) (l2 c2 : Nat) (y z : Int) (g : Nat) (lb : Array Value) (w : World)
    (h1 : IsZ w s1 A1 l1 c1 x) (h2 : IsZ w s2 A2 l2 c2 y) (hl1 : l1 ≤ 128) (hl2 : l2 ≤ 128)
    (eg : ∀ args w, (callFunc g args).run Tryd.prog w = .ok (.enter g args) w)
    (hf : ∀ W, Below w.heap.size w W → Calls Tryd.prog g (#[.agg #[.bool s1, .slice A1 l1 c1], .agg #[.bool s2, .slice A2 l2 c2]] ++ lb) W (RetZ z W)) :
    Calls Tryd.prog 106 #[.agg #[.bool s1, .slice A1 l1 c1], .agg #[.bool s2, .slice A2 l2 c2], .func (.func g) #[] lb] w (RetZE (calV z) (calE z) w) := by
  have H1 := Lib.hid h1
  have H2 := Lib.hid h2
  have HF := Lib.hid hf
  clear h1 h2 hf
  go_enter Tryd.func106, Tryd.ntmps106
  go_wp2_with fail
  refine (all_any (w.heap.size + 1 + 1 + 1) s1 A1 l1 c1 s2 A2 l2 c2 0 0 _ (by simp [go_sem]) (by simp [go_sem]) (by simp [go_sem]) (by simp [go_sem]) ?_ ?_).mono ?_
  · intro W hW
    exact check_ok _ _ _ _ _ _ (H1.out.below (below_call (below_alloc (below_alloc (below_alloc (below_alloc (Below.refl _ _) _) _) _) _) hW)) hl1
  · intro W hW
    exact check_ok _ _ _ _ _ _ (H2.out.below (below_call (below_alloc (below_alloc (below_alloc (below_alloc (Below.refl _ _) _) _) _) _) hW)) hl2
  rintro e w1 ⟨rfl, hq1⟩
  obtain ⟨hc_hq1, hf_hq1⟩ := bcell hq1; have sz_hq1 : w.heap.size + 3 ≤ w1.heap.size := (by have := hq1.size; (try simp at this); omega); have s0_hq1 : w.heap.size < w1.heap.size := (by omega); have s1_hq1 : w.heap.size + 1 < w1.heap.size := (by omega); have s2_hq1 : w.heap.size + 1 + 1 < w1.heap.size := (by omega)
  have HB1 := Lib.hid (below_call (below_alloc (below_alloc (below_alloc (below_alloc (Below.refl _ _) _) _) _) _) hq1)
  have RC0 : w1.cell? ⟨w.heap.size + 1 + 1, 0, none⟩ = some (.bool false) := by simp [go_sem, hc_hq1]
  have RC1 : w1.cell? ⟨w.heap.size + 1 + 1, 1, none⟩ = some (.slice none 0 0) := by simp [go_sem, hc_hq1]
  have RF0 : w1.frozen? ⟨w.heap.size + 1 + 1, 0, none⟩ = false := by simp [go_sem, hf_hq1]
  have RF1 : w1.frozen? ⟨w.heap.size + 1 + 1, 1, none⟩ = false := by simp [go_sem, hf_hq1]
  go_wp2_with fail
  refine (HF.out _ HB1.out).mono ?_
  rintro e w2 ⟨s3, A3, l3, c3, rfl, hz, hq2⟩
  have HB2 := Lib.hid (below_call HB1.out hq2)
  have HZ := Lib.hid hz
  have fit := fits_iff z.natAbs
  rw [hz.2.1] at fit
  clear hz
  by_cases hl3 : l3 ≤ 128
  · have E1 : Hid (calV z = z ∧ calE z = 0) := ⟨by unfold calV; rw [if_pos (fit.1 hl3)], by unfold calE; rw [if_pos (fit.1 hl3)]⟩
    clear fit
    go_wp2_with fail
    refine (fits_any _ _ _ _ _ hl3).mono ?_
    rintro e w3 ⟨rfl, hq3⟩
    have HB3 := Lib.hid (below_call HB2.out hq3)
    have HZ3 := Lib.hid (HZ.out.below hq3)
    have hq := below_call hq2 hq3
    have R0 := (hq.cell (p := ⟨w.heap.size + 1 + 1, 0, none⟩) s2_hq1).trans RC0
    have R1 := (hq.cell (p := ⟨w.heap.size + 1 + 1, 1, none⟩) s2_hq1).trans RC1
    have R2 := (hq.frozen (p := ⟨w.heap.size + 1 + 1, 0, none⟩) s2_hq1).trans RF0
    have R3 := (hq.frozen (p := ⟨w.heap.size + 1 + 1, 1, none⟩) s2_hq1).trans RF1
    clear hq2 hq3 hq hc_hq1 hf_hq1
    go_wp2_with fail
    rw [E1.out.1, E1.out.2]
    exact bodyPost_retZE (w2 := w3) Tryd.results106 rfl rfl rfl R0 R1 (NoInt.bool _) (NoInt.slice _ _ _) HZ3.out HB3.out (by omega)
  · have E1 : Hid (calV z = 0 ∧ calE z = 2) := ⟨by unfold calV; rw [if_neg (fun k => hl3 (fit.2 k))], by unfold calE; rw [if_neg (fun k => hl3 (fit.2 k))]⟩
    clear fit
    go_wp2_with fail
    refine (fits_not _ _ _ _ _ (by omega)).mono ?_
    rintro e w3 ⟨rfl, hq3⟩
    have HB3 := Lib.hid (below_call HB2.out hq3)
    have hq := below_call hq2 hq3
    have R0 := (hq.cell (p := ⟨w.heap.size + 1 + 1, 0, none⟩) s2_hq1).trans RC0
    have R1 := (hq.cell (p := ⟨w.heap.size + 1 + 1, 1, none⟩) s2_hq1).trans RC1
    have R2 := (hq.frozen (p := ⟨w.heap.size + 1 + 1, 0, none⟩) s2_hq1).trans RF0
    have R3 := (hq.frozen (p := ⟨w.heap.size + 1 + 1, 1, none⟩) s2_hq1).trans RF1
    clear hq2 hq3 hq hc_hq1 hf_hq1
    go_wp2_with fail
    rw [E1.out.1, E1.out.2]
    exact bodyPost_retZE (w2 := w3) Tryd.results106 rfl rfl rfl R0 R1 (NoInt.bool _) (NoInt.slice _ _ _) (IsZ.zero _ _) HB3.out (by omega)

theorem enters_mul : ∀ (args : Array Value) (w : World), (callFunc 88 args).run Tryd.prog w = .ok (.enter 88 args) w :=
  Go.Proofs.enters_of Tryd.func88 (by kernel_rfl) rfl

set_option maxRecDepth 100000 in
set_option maxHeartbeats 2000000 in
theorem Mul_ok (s1 : Bool) (A1 : Option Addr) (l1 c1 : Nat) (x : Int) (s2 : Bool) (A2 : Option Addr) (l2 c2 : Nat) (y : Int) (w : World)
    (h1 : IsZ w s1 A1 l1 c1 x) (h2 : IsZ w s2 A2 l2 c2 y) (hl1 : l1 ≤ 128) (hl2 : l2 ≤ 128) :
    Calls Tryd.prog 91 #[.agg #[.bool s1, .slice A1 l1 c1], .agg #[.bool s2, .slice A2 l2 c2]] w (RetZE (calV (x * y)) (calE (x * y)) w) := by
  have H1 := Lib.hid h1
  have H2 := Lib.hid h2
  clear h1 h2
  go_enter Tryd.func91, Tryd.ntmps91
  go_wp2_with fail
  have hB0 := below_alloc (below_alloc (below_alloc (Below.refl w.heap.size w) (.cells #[.bool s1, .slice A1 l1 c1] 87)) (.cells #[.bool s2, .slice A2 l2 c2] 87)) (.cells #[.bool false, .slice none 0 0] 87)
  have HB0 := Lib.hid hB0
  clear hB0
  refine (calc_ok _ _ _ _ x _ _ _ _ y (x * y) _ _ _ (H1.out.below HB0.out) (H2.out.below HB0.out) hl1 hl2 enters_mul ?_).mono ?_
  · intro W hW
    exact mul_any _ _ _ _ _ _ _ _ _ _ _ (H1.out.below (below_call HB0.out hW)) (H2.out.below (below_call HB0.out hW)) (by omega) (by omega)
  rintro e w1 ⟨s3, A3, l3, c3, rfl, hz, hq1⟩
  obtain ⟨hc_hq1, hf_hq1⟩ := bcell hq1; have sz_hq1 : w.heap.size + 3 ≤ w1.heap.size := (by have := hq1.size; (try simp at this); omega); have s0_hq1 : w.heap.size < w1.heap.size := (by omega); have s1_hq1 : w.heap.size + 1 < w1.heap.size := (by omega); have s2_hq1 : w.heap.size + 1 + 1 < w1.heap.size := (by omega)
  have HZ := Lib.hid hz
  have HB1 := Lib.hid (below_call HB0.out hq1)
  have RC0 : w1.cell? ⟨w.heap.size + 1 + 1, 0, none⟩ = some (.bool false) := by simp [go_sem, hc_hq1]
  have RC1 : w1.cell? ⟨w.heap.size + 1 + 1, 1, none⟩ = some (.slice none 0 0) := by simp [go_sem, hc_hq1]
  have RF0 : w1.frozen? ⟨w.heap.size + 1 + 1, 0, none⟩ = false := by simp [go_sem, hf_hq1]
  have RF1 : w1.frozen? ⟨w.heap.size + 1 + 1, 1, none⟩ = false := by simp [go_sem, hf_hq1]
  clear hz hq1 hc_hq1 hf_hq1
  go_wp2_with fail
  exact bodyPost_retZE (w2 := w1) Tryd.results91 rfl rfl rfl RC0 RC1 (NoInt.bool _) (NoInt.slice _ _ _) HZ.out HB1.out (by omega)
end Go.Proofs.YtpgnheankmlnfaaDoor
namespace Go.Proofs.YtpgnheankmlnfaaDoor
open Go.RowKit
set_option linter.unusedVariables false

theorem cmp_neg {x y : Int} (hx : x < 0) (hy : y < 0) : cmpI (y.natAbs : Int) (x.natAbs : Int) = cmpI x y := by
  rcases Int.lt_trichotomy x y with h | h | h
  · rw [cmpI_lt h, cmpI_lt (by omega)]
  · rw [cmpI_eq h, cmpI_eq (by omega)]
  · rw [cmpI_gt h, cmpI_gt (by omega)]
theorem cmp_pos {x y : Int} (hx : 0 ≤ x) (hy : 0 ≤ y) : cmpI (x.natAbs : Int) (y.natAbs : Int) = cmpI x y := by
  rcases Int.lt_trichotomy x y with h | h | h
  · rw [cmpI_lt h, cmpI_lt (by omega)]
  · rw [cmpI_eq h, cmpI_eq (by omega)]
  · rw [cmpI_gt h, cmpI_gt (by omega)]

set_option maxRecDepth 100000 in
set_option maxHeartbeats 1000000 in
theorem order_any (s1 : Bool) (A1 : Option Addr) (l1 c1 : Nat) (x : Int) (s2 : Bool) (A2 : Option Addr) (l2 c2 : Nat) (y : Int) (w : World)
    (h1 : IsZ w s1 A1 l1 c1 x) (h2 : IsZ w s2 A2 l2 c2 y) :
    Calls Tryd.prog 108 #[.agg #[.bool s1, .slice A1 l1 c1], .agg #[.bool s2, .slice A2 l2 c2]] w fun e w' => e = .returned (.int .i64 (cmpI x y)) ∧ Below w.heap.size w w' := by
  have H1 := Lib.hid h1
  have H2 := Lib.hid h2
  have e1 := h1.1
  have e2 := h2.1
  clear h1 h2
  have hB0 := below_alloc (below_alloc (Below.refl w.heap.size w) (.cells #[.bool s1, .slice A1 l1 c1] 87)) (.cells #[.bool s2, .slice A2 l2 c2] 87)
  have HB0 := Lib.hid hB0
  clear hB0
  cases s1 <;> cases s2
  · have hx : 0 ≤ x := by simpa using e1
    have hy : 0 ≤ y := by simpa using e2
    clear e1 e2
    go_enter Tryd.func108, Tryd.ntmps108
    go_wp2_with fail
    refine (compare_any _ _ _ _ _ _ _ _ _ (H1.out.2.below HB0.out) (H2.out.2.below HB0.out)).mono ?_
    rintro e w1 ⟨rfl, hq1⟩
    have HQ := Lib.hid (below_call HB0.out hq1.below)
    clear hq1
    go_wp2_with fail
    go_ret
    exact ⟨ret_int (cmp_pos hx hy), HQ.out⟩
  · have hx : 0 ≤ x := by simpa using e1
    have hy : y < 0 := by simpa using e2
    clear e1 e2
    go_enter Tryd.func108, Tryd.ntmps108
    go_wp2_with fail
    go_ret
    exact ⟨ret_int (cmpI_gt (by omega)).symm, HB0.out⟩
  · have hx : x < 0 := by simpa using e1
    have hy : 0 ≤ y := by simpa using e2
    clear e1 e2
    go_enter Tryd.func108, Tryd.ntmps108
    go_wp2_with fail
    go_ret
    exact ⟨ret_int (cmpI_lt (by omega)).symm, HB0.out⟩
  · have hx : x < 0 := by simpa using e1
    have hy : y < 0 := by simpa using e2
    clear e1 e2
    go_enter Tryd.func108, Tryd.ntmps108
    go_wp2_with fail
    refine (compare_any _ _ _ _ _ _ _ _ _ (H2.out.2.below HB0.out) (H1.out.2.below HB0.out)).mono ?_
    rintro e w1 ⟨rfl, hq1⟩
    have HQ := Lib.hid (below_call HB0.out hq1.below)
    clear hq1
    go_wp2_with fail
    go_ret
    exact ⟨ret_int (cmp_neg hx hy), HQ.out⟩

set_option maxRecDepth 100000 in
set_option maxHeartbeats 1000000 in
theorem Compare_ok (s1 : Bool) (A1 : Option Addr) (l1 c1 : Nat) (x : Int) (s2 : Bool) (A2 : Option Addr) (l2 c2 : Nat) (y : Int) (w : World)
    (h1 : IsZ w s1 A1 l1 c1 x) (h2 : IsZ w s2 A2 l2 c2 y) (hl1 : l1 ≤ 128) (hl2 : l2 ≤ 128) :
    Calls Tryd.prog 92 #[.agg #[.bool s1, .slice A1 l1 c1], .agg #[.bool s2, .slice A2 l2 c2]] w fun e w' => e = .returned (.tuple #[.int .i64 (cmpI x y), .int .i64 0]) ∧ Below w.heap.size w w' := by
  have H1 := Lib.hid h1
  have H2 := Lib.hid h2
  clear h1 h2
  go_enter Tryd.func92, Tryd.ntmps92
  go_wp2_with fail
  refine (all_any (w.heap.size + 1 + 1) s1 A1 l1 c1 s2 A2 l2 c2 0 0 _ (by simp [go_sem]) (by simp [go_sem]) (by simp [go_sem]) (by simp [go_sem]) ?_ ?_).mono ?_
  · intro W hW
    exact check_ok _ _ _ _ _ _ (H1.out.below (below_call (below_alloc (below_alloc (below_alloc (Below.refl _ _) _) _) _) hW)) hl1
  · intro W hW
    exact check_ok _ _ _ _ _ _ (H2.out.below (below_call (below_alloc (below_alloc (below_alloc (Below.refl _ _) _) _) _) hW)) hl2
  rintro e w1 ⟨rfl, hq1⟩
  obtain ⟨hc_hq1, hf_hq1⟩ := bcell hq1; have sz_hq1 : w.heap.size + 2 ≤ w1.heap.size := (by have := hq1.size; (try simp at this); omega); have s0_hq1 : w.heap.size < w1.heap.size := (by omega); have s1_hq1 : w.heap.size + 1 < w1.heap.size := (by omega)
  have HB1 := Lib.hid (below_call (below_alloc (below_alloc (below_alloc (Below.refl _ _) _) _) _) hq1)
  go_wp2_with fail
  refine (order_any _ _ _ _ _ _ _ _ _ _ _ (H1.out.below HB1.out) (H2.out.below HB1.out)).mono ?_
  rintro e w2 ⟨rfl, hq2⟩
  have HB2 := Lib.hid (below_call HB1.out hq2)
  go_wp2_with fail
  go_ret2
  exact ⟨rfl, HB2.out⟩
end Go.Proofs.YtpgnheankmlnfaaDoor
