/- The walks over logs.within, fine, Floor, Ceil, Whole, CheckFloor, bounds, asked, side. The walks over logs.Floor, Ceil, Whole, CheckFloor, bounds, Bounds. Plain laws of the comparison 'sd' and of the rounded logarithm 'flo'. -/
import Derived.Test.YtpgnheankmlnfaaDoorWhole
namespace Go.Proofs.YtpgnheankmlnfaaDoor
open Go.RowKit
set_option linter.unusedVariables false

/-- x is from lo to hi. -/
def inR (lo hi x : Int) : Bool := decide (lo ≤ x) && decide (x ≤ hi)
def outR (lo hi x : Int) : Bool := decide (x < lo) || decide (hi < x)
theorem outR_not (lo hi x : Int) : outR lo hi x = !inR lo hi x := by
  unfold outR inR
  by_cases h1 : x < lo
  · have : ¬ lo ≤ x := by omega
    simp [h1, this]
  · have h2 : lo ≤ x := by omega
    by_cases h3 : hi < x
    · have : ¬ x ≤ hi := by omega
      simp [h1, h2, h3, this]
    · have : x ≤ hi := by omega
      simp [h1, h2, h3, this]
theorem any_outR (lo hi : Int) (xs : List Int) : (!xs.any (outR lo hi)) = xs.all (inR lo hi) := by
  induction xs with
  | nil => rfl
  | cons x xs ih => rw [List.any_cons, List.all_cons, Bool.not_or, ih, outR_not, Bool.not_not]
theorem inR_iff {lo hi x : Int} : inR lo hi x = true ↔ lo ≤ x ∧ x ≤ hi := by unfold inR; rw [Bool.and_eq_true, decide_eq_true_eq, decide_eq_true_eq]

/-- The elements of a new slice, written out. -/
theorem IsL.new (w : World) (t : TypeId) (xs : List Int) (hl : xs.length ≤ 1000000) : IsL (w.alloc (.cells (xs.map (Value.int .i64)).toArray t)) (some ⟨w.heap.size, 0, none⟩) xs.length xs.length xs := by
  refine ⟨rfl, Nat.le_refl _, by omega, fun h0 => ⟨_, 0, rfl, fun j hj => ?_⟩⟩
  rw [Nat.zero_add]
  have h1 : (w.alloc (.cells (xs.map (Value.int .i64)).toArray t)).heap[w.heap.size]? = some (.cells (xs.map (Value.int .i64)).toArray t) := heap_alloc_new w _
  rw [cell_of_row _ w.heap.size j _ t (0, 0) h1]
  rw [List.getElem?_toArray, List.getElem?_map, List.getElem?_eq_getElem hj, List.getD_eq_getElem?_getD, List.getElem?_eq_getElem hj]
  rfl
theorem IsL.new1 (w : World) (t : TypeId) (a : Int) : IsL (w.alloc (.cells #[.int .i64 a] t)) (some ⟨w.heap.size, 0, none⟩) 1 1 [a] := IsL.new w t [a] (by simp)
theorem IsL.new2 (w : World) (t : TypeId) (a b : Int) : IsL (w.alloc (.cells #[.int .i64 a, .int .i64 b] t)) (some ⟨w.heap.size, 0, none⟩) 2 2 [a, b] := IsL.new w t [a, b] (by simp)
theorem IsL.new4 (w : World) (t : TypeId) (a b c d : Int) : IsL (w.alloc (.cells #[.int .i64 a, .int .i64 b, .int .i64 c, .int .i64 d] t)) (some ⟨w.heap.size, 0, none⟩) 4 4 [a, b, c, d] := IsL.new w t [a, b, c, d] (by simp)

theorem enters_within1 : ∀ (args : Array Value) (w : World), (callFunc 72 args).run Tryd.prog w = .ok (.enter 72 args) w :=
  Go.Proofs.enters_of Tryd.func72 (by kernel_rfl) rfl
set_option maxHeartbeats 400000 in
theorem within1_any (b1 b2 : Nat) (lo hi : Int) (w : World) (h1 : w.cell? ⟨b1, 0, none⟩ = some (.int .i64 lo)) (h2 : w.cell? ⟨b2, 0, none⟩ = some (.int .i64 hi)) :
    PredInt 72 #[.pointer (some ⟨b1, 0, none⟩), .pointer (some ⟨b2, 0, none⟩)] (outR lo hi) w := by
  intro x
  show Calls _ _ #[.int .i64 x, .pointer (some ⟨b1, 0, none⟩), .pointer (some ⟨b2, 0, none⟩)] _ _
  by_cases h : x < lo
  · go_enter Tryd.func72, Tryd.ntmps72
    go_wp2
    go_ret
    exact ⟨by simp [outR, h], rfl⟩
  · have e : decide (x < lo) = false := decide_eq_false h
    go_enter Tryd.func72, Tryd.ntmps72
    go_wp2
    go_ret
    refine ⟨?_, rfl⟩
    simp [outR, e]

set_option maxRecDepth 100000 in
set_option maxHeartbeats 400000 in
theorem within_any (lo hi : Int) (A : Option Addr) (n c : Nat) (xs : List Int) (w : World) (h : IsL w A n c xs) :
    Calls Tryd.prog 52 #[.int .i64 lo, .int .i64 hi, .slice A n c] w fun e w' => e = .returned (.bool (xs.all (inR lo hi))) ∧ Below w.heap.size w w' := by
  have H := Lib.hid h
  clear h
  go_enter Tryd.func52, Tryd.ntmps52
  go_wp2_with fail
  refine (containsFunc_any _ _ _ xs _ _ (outR lo hi) _ (H.out.below (below_alloc (below_alloc (Below.refl _ _) _) _)) enters_within1 (within1_any _ _ lo hi _ (by simp [go_sem]) (by simp [go_sem]))).mono ?_
  rintro e w' ⟨rfl, rfl⟩
  go_wp2_with fail
  go_ret
  rw [← any_outR]
  exact ⟨rfl, below_alloc (below_alloc (Below.refl _ _) _) _⟩

set_option maxRecDepth 100000 in
set_option maxHeartbeats 400000 in
theorem fine_any (k : Int) (A : Option Addr) (n c : Nat) (xs : List Int) (w : World) (h : IsL w A n c xs) :
    Calls Tryd.prog 47 #[.int .i64 k, .slice A n c] w fun e w' => e = .returned (.bool (xs.all (inR 1 4095) && inR 0 8 k)) ∧ Below w.heap.size w w' := by
  have H := Lib.hid h
  clear h
  obtain ⟨v, hv⟩ : ∃ v, xs.all (inR 1 4095) = v := ⟨_, rfl⟩
  have HV := Lib.hid hv
  rw [hv]
  clear hv
  cases v
  · go_enter Tryd.func47, Tryd.ntmps47
    go_wp2_with fail
    refine (within_any _ _ _ _ _ xs _ H.out).mono ?_
    rintro e w1 ⟨rfl, hq1⟩
    rw [HV.out]
    have HB1 := Lib.hid hq1
    clear hq1
    go_wp2_with fail
    go_ret
    exact ⟨rfl, HB1.out⟩
  · go_enter Tryd.func47, Tryd.ntmps47
    go_wp2_with fail
    refine (within_any _ _ _ _ _ xs _ H.out).mono ?_
    rintro e w1 ⟨rfl, hq1⟩
    rw [HV.out]
    have HB1 := Lib.hid hq1
    clear hq1
    go_wp2_with fail
    refine (within_any 0 8 _ _ _ [k] _ (IsL.new1 _ _ _)).mono ?_
    rintro e w2 ⟨rfl, hq2⟩
    have HB2 := Lib.hid (below_call (below_alloc HB1.out _) hq2)
    clear hq2
    go_wp2_with fail
    go_ret
    exact ⟨by simp, HB2.out⟩
end Go.Proofs.YtpgnheankmlnfaaDoor
namespace Go.Proofs.YtpgnheankmlnfaaDoor
open Go.RowKit
set_option linter.unusedVariables false

/-- Whether fractions and a k can be asked about. -/
def askF (a b k : Int) : Bool := ([a, b].all (inR 1 4095) && inR 0 8 k)
theorem askF_iff {a b k : Int} : askF a b k = true ↔ (1 ≤ a ∧ a ≤ 4095) ∧ (1 ≤ b ∧ b ≤ 4095) ∧ 0 ≤ k ∧ k ≤ 8 := by
  unfold askF
  rw [Bool.and_eq_true, List.all_cons, List.all_cons, List.all_nil, Bool.and_true, Bool.and_eq_true, inR_iff, inR_iff, inR_iff, and_assoc]

theorem wrap_two (k : Nat) (h : k ≤ 8) : wrap64 (2 ^ k) = ((2 ^ k : Nat) : Int) := by
  rw [Int.natCast_pow]
  have h2 : 2 ^ k ≤ 2 ^ 8 := Nat.pow_le_pow_right (by decide) h
  have h3 : ((2 ^ k : Nat) : Int) = (2 : Int) ^ k := Int.natCast_pow 2 k
  unfold wrap64
  have h4 : (0 : Int) ≤ 2 ^ k := by rw [← h3]; exact Int.natCast_nonneg _
  have h5 : (2 : Int) ^ k ≤ 256 := by rw [← h3]; exact Int.ofNat_le.2 h2
  generalize (2 : Int) ^ k = z at h4 h5
  omega
theorem two_le (k : Nat) (h : k ≤ 8) : 2 ^ k ≤ 256 := Nat.pow_le_pow_right (by decide) h

def floV (a b k : Int) : Int := if askF a b k = true then flo a.toNat b.toNat (2 ^ k.toNat) else 0
def askE (ok : Bool) : Int := if ok = true then 0 else 1
def isW (a b q : Nat) : Bool := sd a b q (flo a b q) == 0
def cei (a b q : Nat) : Int := if isW a b q = true then flo a b q else flo a b q + 1
def ceiV (a b k : Int) : Int := if askF a b k = true then cei a.toNat b.toNat (2 ^ k.toNat) else 0
theorem flo_range {a b q : Nat} (ha : a ≤ 4095) (hb : b ≤ 4095) (hq : q ≤ 256) : -3073 ≤ flo a b q ∧ flo a b q ≤ 3072 := by
  have := wid_range ha hb hq
  unfold flo
  split <;> omega

set_option maxRecDepth 100000 in
set_option maxHeartbeats 400000 in
theorem Floor_any (a b k : Int) (w : World) :
    Calls Tryd.prog 17 #[.int .i64 a, .int .i64 b, .int .i64 k] w fun e w' => e = .returned (.tuple #[.int .i64 (floV a b k), .int .i64 (askE (askF a b k))]) ∧ Below w.heap.size w w' := by
  cases hask : askF a b k
  · have HA := Lib.hid hask
    have HV : Hid (floV a b k = 0 ∧ askE false = 1) := ⟨by unfold floV; rw [hask]; rfl, rfl⟩
    clear hask
    go_enter Tryd.func17, Tryd.ntmps17
    go_wp2_with fail
    refine (fine_any k _ _ _ [a, b] _ (IsL.new2 _ _ _ _)).mono ?_
    rintro e w1 ⟨rfl, hq1⟩
    rw [show ([a, b].all (inR 1 4095) && inR 0 8 k) = false from HA.out]
    have HB1 := Lib.hid (below_call (below_alloc (Below.refl _ _) _) hq1)
    clear hq1
    go_wp2_with fail
    go_ret2
    rw [HV.out.1, HV.out.2]
    exact ⟨rfl, HB1.out⟩
  · obtain ⟨⟨a0, a1⟩, ⟨b0, b1⟩, k0, k1⟩ := askF_iff.1 hask
    obtain ⟨a, rfl⟩ : ∃ n : Nat, a = (n : Int) := ⟨a.toNat, by omega⟩
    obtain ⟨b, rfl⟩ : ∃ n : Nat, b = (n : Int) := ⟨b.toNat, by omega⟩
    obtain ⟨k, rfl⟩ : ∃ n : Nat, k = (n : Int) := ⟨k.toNat, by omega⟩
    have HA := Lib.hid hask
    have HV : Hid (floV a b k = flo a b (2 ^ k) ∧ askE true = 0) := ⟨by unfold floV; rw [hask, if_pos rfl, Int.toNat_natCast, Int.toNat_natCast, Int.toNat_natCast], rfl⟩
    have HW := Lib.hid (wrap_two k (by omega))
    clear hask
    go_enter Tryd.func17, Tryd.ntmps17
    go_wp2_with fail
    refine (fine_any k _ _ _ [(a : Int), (b : Int)] _ (IsL.new2 _ _ _ _)).mono ?_
    rintro e w1 ⟨rfl, hq1⟩
    rw [show ([(a : Int), (b : Int)].all (inR 1 4095) && inR 0 8 (k : Int)) = true from HA.out]
    have HB1 := Lib.hid (below_call (below_alloc (Below.refl _ _) _) hq1)
    clear hq1
    go_wp2_with fail
    rw [HW.out]
    refine (whole_any a b (2 ^ k) _ (by omega) (by omega) (by omega) (by omega) (two_le k (by omega))).mono ?_
    rintro e w2 ⟨rfl, hq2⟩
    have HB2 := Lib.hid (below_call HB1.out hq2)
    clear hq2
    go_wp2_with fail
    go_ret2
    rw [HV.out.1, HV.out.2]
    exact ⟨rfl, HB2.out⟩

set_option maxRecDepth 100000 in
set_option maxHeartbeats 400000 in
theorem Ceil_any (a b k : Int) (w : World) :
    Calls Tryd.prog 19 #[.int .i64 a, .int .i64 b, .int .i64 k] w fun e w' => e = .returned (.tuple #[.int .i64 (ceiV a b k), .int .i64 (askE (askF a b k))]) ∧ Below w.heap.size w w' := by
  cases hask : askF a b k
  · have HA := Lib.hid hask
    have HV : Hid (ceiV a b k = 0 ∧ askE false = 1) := ⟨by unfold ceiV; rw [hask]; rfl, rfl⟩
    clear hask
    go_enter Tryd.func19, Tryd.ntmps19
    go_wp2_with fail
    refine (fine_any k _ _ _ [a, b] _ (IsL.new2 _ _ _ _)).mono ?_
    rintro e w1 ⟨rfl, hq1⟩
    rw [show ([a, b].all (inR 1 4095) && inR 0 8 k) = false from HA.out]
    have HB1 := Lib.hid (below_call (below_alloc (Below.refl _ _) _) hq1)
    clear hq1
    go_wp2_with fail
    go_ret2
    rw [HV.out.1, HV.out.2]
    exact ⟨rfl, HB1.out⟩
  · obtain ⟨⟨a0, a1⟩, ⟨b0, b1⟩, k0, k1⟩ := askF_iff.1 hask
    obtain ⟨a, rfl⟩ : ∃ n : Nat, a = (n : Int) := ⟨a.toNat, by omega⟩
    obtain ⟨b, rfl⟩ : ∃ n : Nat, b = (n : Int) := ⟨b.toNat, by omega⟩
    obtain ⟨k, rfl⟩ : ∃ n : Nat, k = (n : Int) := ⟨k.toNat, by omega⟩
    have HA := Lib.hid hask
    have HV : Hid (ceiV a b k = cei a b (2 ^ k) ∧ askE true = 0) := ⟨by unfold ceiV; rw [hask, if_pos rfl, Int.toNat_natCast, Int.toNat_natCast, Int.toNat_natCast], rfl⟩
    have HW := Lib.hid (wrap_two k (by omega))
    have hfr := flo_range (a := a) (b := b) (q := 2 ^ k) (by omega) (by omega) (two_le k (by omega))
    obtain ⟨m, hm⟩ : ∃ m, flo a b (2 ^ k) = m := ⟨_, rfl⟩
    obtain ⟨t, ht⟩ : ∃ t, isW a b (2 ^ k) = t := ⟨_, rfl⟩
    have HM := Lib.hid hm
    have HT := Lib.hid ht
    rw [hm] at hfr
    have HC : Hid (cei a b (2 ^ k) = if t = true then m else m + 1) := by unfold cei; rw [hm, ht]; exact Lib.hid rfl
    clear hask hm ht
    cases t
    all_goals
      go_enter Tryd.func19, Tryd.ntmps19
      go_wp2_with fail
      refine (fine_any k _ _ _ [(a : Int), (b : Int)] _ (IsL.new2 _ _ _ _)).mono ?_
      rintro e w1 ⟨rfl, hq1⟩
      rw [show ([(a : Int), (b : Int)].all (inR 1 4095) && inR 0 8 (k : Int)) = true from HA.out]
      have HB1 := Lib.hid (below_call (below_alloc (Below.refl _ _) _) hq1)
      clear hq1
      go_wp2_with fail
      rw [HW.out]
      refine (whole_any a b (2 ^ k) _ (by omega) (by omega) (by omega) (by omega) (two_le k (by omega))).mono ?_
      rintro e w2 ⟨rfl, hq2⟩
      rw [show (sd a b (2 ^ k) (flo a b (2 ^ k)) == 0) = _ from HT.out, HM.out]
      have HB2 := Lib.hid (below_call HB1.out hq2)
      clear hq2
      go_wp2_with fail
      go_ret2
      rw [HV.out.1, HV.out.2, HC.out]
      exact ⟨rfl, HB2.out⟩

/-- What Whole returns. -/
def whoV (a b : Int) : Int := if askF a b 0 = true ∧ isW a.toNat b.toNat 1 = true then flo a.toNat b.toNat 1 else 0
def whoB (a b : Int) : Bool := askF a b 0 && isW a.toNat b.toNat 1
set_option maxRecDepth 100000 in
set_option maxHeartbeats 400000 in
theorem Whole_any (a b : Int) (w : World) :
    Calls Tryd.prog 21 #[.int .i64 a, .int .i64 b] w fun e w' => e = .returned (.tuple #[.int .i64 (whoV a b), .bool (whoB a b), .int .i64 (askE (askF a b 0))]) ∧ Below w.heap.size w w' := by
  cases hask : askF a b 0
  · have HA := Lib.hid hask
    have HV : Hid (whoV a b = 0 ∧ whoB a b = false ∧ askE false = 1) := ⟨by unfold whoV; rw [hask]; rfl, by unfold whoB; rw [hask]; rfl, rfl⟩
    clear hask
    go_enter Tryd.func21, Tryd.ntmps21
    go_wp2_with fail
    refine (fine_any 0 _ _ _ [a, b] _ (IsL.new2 _ _ _ _)).mono ?_
    rintro e w1 ⟨rfl, hq1⟩
    rw [show ([a, b].all (inR 1 4095) && inR 0 8 0) = false from HA.out]
    have HB1 := Lib.hid (below_call (below_alloc (Below.refl _ _) _) hq1)
    clear hq1
    go_wp2_with fail
    go_ret3
    rw [HV.out.1, HV.out.2.1, HV.out.2.2]
    exact ⟨rfl, HB1.out⟩
  · obtain ⟨⟨a0, a1⟩, ⟨b0, b1⟩, _, _⟩ := askF_iff.1 hask
    obtain ⟨a, rfl⟩ : ∃ n : Nat, a = (n : Int) := ⟨a.toNat, by omega⟩
    obtain ⟨b, rfl⟩ : ∃ n : Nat, b = (n : Int) := ⟨b.toNat, by omega⟩
    have HA := Lib.hid hask
    obtain ⟨m, hm⟩ : ∃ m, flo a b 1 = m := ⟨_, rfl⟩
    obtain ⟨t, ht⟩ : ∃ t, isW a b 1 = t := ⟨_, rfl⟩
    have HM := Lib.hid hm
    have HT := Lib.hid ht
    have HV : Hid (whoV a b = (if t = true then m else 0) ∧ whoB a b = t ∧ askE true = 0) := ⟨by unfold whoV; rw [hask, Int.toNat_natCast, Int.toNat_natCast, ht, hm]; simp, by unfold whoB; rw [hask, Int.toNat_natCast, Int.toNat_natCast, ht]; rfl, rfl⟩
    clear hask hm ht
    cases t
    all_goals
      go_enter Tryd.func21, Tryd.ntmps21
      go_wp2_with fail
      refine (fine_any 0 _ _ _ [(a : Int), (b : Int)] _ (IsL.new2 _ _ _ _)).mono ?_
      rintro e w1 ⟨rfl, hq1⟩
      rw [show ([(a : Int), (b : Int)].all (inR 1 4095) && inR 0 8 0) = true from HA.out]
      have HB1 := Lib.hid (below_call (below_alloc (Below.refl _ _) _) hq1)
      clear hq1
      go_wp2_with fail
      refine (whole_any a b 1 _ (by omega) (by omega) (by omega) (by omega) (by decide)).mono ?_
      rintro e w2 ⟨rfl, hq2⟩
      rw [show (sd a b 1 (flo a b 1) == 0) = _ from HT.out, HM.out]
      have HB2 := Lib.hid (below_call HB1.out hq2)
      clear hq2
      go_wp2_with fail
      go_ret3
      rw [HV.out.1, HV.out.2.1, HV.out.2.2]
      exact ⟨rfl, HB2.out⟩

/-- What CheckFloor returns. -/
def chkF (a b k m : Int) : Int := if askF a b k = true then (if m = floV a b k then 0 else 32) else 1
set_option maxRecDepth 100000 in
set_option maxHeartbeats 400000 in
theorem CheckFloor_any (a b k m : Int) (w : World) :
    Calls Tryd.prog 23 #[.int .i64 a, .int .i64 b, .int .i64 k, .int .i64 m] w fun e w' => e = .returned (.int .i64 (chkF a b k m)) ∧ Below w.heap.size w w' := by
  have HF := Lib.hid (Floor_any a b k)
  obtain ⟨v, hv⟩ : ∃ v, floV a b k = v := ⟨_, rfl⟩
  have HC : Hid (chkF a b k m = if askF a b k = true then (if m = v then 0 else 32) else 1) := by unfold chkF; rw [hv]; exact Lib.hid rfl
  rw [hv] at HF
  clear hv
  cases hask : askF a b k
  · rw [hask] at HC HF
    have HC2 : Hid (chkF a b k m = 1) := HC.out
    clear hask HC
    go_enter Tryd.func23, Tryd.ntmps23
    go_wp2_with fail
    refine (HF.out _).mono ?_
    rintro e w1 ⟨rfl, hq1⟩
    rw [show askE false = 1 from rfl]
    have HB1 := Lib.hid hq1
    clear hq1
    go_wp2_with fail
    go_ret
    rw [HC2.out]
    exact ⟨rfl, HB1.out⟩
  · rw [hask] at HC HF
    have HC2 : Hid (chkF a b k m = if m = v then 0 else 32) := HC.out
    clear hask HC
    by_cases hmv : m = v
    case' pos => have b1 : (m != v) = false := bne_eq_false_iff_eq.2 hmv
    case' neg => have b1 : (m != v) = true := bne_iff_ne.2 hmv
    all_goals
      have HMV := Lib.hid hmv
      clear hmv
      go_enter Tryd.func23, Tryd.ntmps23
      go_wp2_with fail
      refine (HF.out _).mono ?_
      rintro e w1 ⟨rfl, hq1⟩
      rw [show askE true = 0 from rfl]
      have HB1 := Lib.hid hq1
      clear hq1
      go_wp2_with fail
      go_ret
      rw [HC2.out]
      first | (rw [if_pos HMV.out]; exact ⟨rfl, HB1.out⟩) | (rw [if_neg HMV.out]; exact ⟨rfl, HB1.out⟩)
end Go.Proofs.YtpgnheankmlnfaaDoor
namespace Go.Proofs.YtpgnheankmlnfaaDoor
open Go.RowKit
set_option linter.unusedVariables false

theorem cmpI_neg (a b : Int) : cmpI a b = -cmpI b a := by unfold cmpI; split <;> split <;> (try split) <;> (try split) <;> omega
theorem cmpI_mul {c : Int} (hc : 0 < c) (a b : Int) : cmpI (a * c) (b * c) = cmpI a b := by
  have h1 : a * c < b * c ↔ a < b := Int.mul_lt_mul_right hc
  have h2 : a * c = b * c ↔ a = b := Int.mul_eq_mul_right_iff (by omega)
  unfold cmpI
  simp only [h1, h2]
theorem cmpI_nonneg {a b : Int} : 0 ≤ cmpI a b ↔ b ≤ a := by unfold cmpI; split <;> (try split) <;> omega
theorem cmpI_pos {a b : Int} : 0 < cmpI a b ↔ b < a := by unfold cmpI; split <;> (try split) <;> omega
theorem cmpI_zero {a b : Int} : cmpI a b = 0 ↔ a = b := by unfold cmpI; split <;> (try split) <;> omega
theorem cmpI_neg_iff {a b : Int} : cmpI a b < 0 ↔ a < b := by unfold cmpI; split <;> (try split) <;> omega

/-- 'sd' over a difference of two exponents. -/
theorem sd_ef (a b q e f : Nat) : sd a b q ((e : Int) - f) = cmpI ((a ^ q * 2 ^ f : Nat) : Int) ((b ^ q * 2 ^ e : Nat) : Int) := by
  have key : ∀ (x y : Nat) (d g : Nat), cmpI (x : Int) ((y * 2 ^ d : Nat) : Int) = cmpI ((x * 2 ^ g : Nat) : Int) ((y * 2 ^ (d + g) : Nat) : Int) := fun x y d g => by
    rw [Nat.pow_add, ← Nat.mul_assoc, Int.natCast_mul x, Int.natCast_mul (y * 2 ^ d), cmpI_mul]
    have := Nat.two_pow_pos g
    omega
  unfold sd
  split
  · rename_i h
    obtain ⟨d, rfl⟩ : ∃ d, e = d + f := ⟨e - f, by omega⟩
    rw [show (((d + f : Nat) : Int) - f).toNat = d by omega, key (a ^ q) (b ^ q) d f]
  · rename_i h
    obtain ⟨d, rfl⟩ : ∃ d, f = d + e := ⟨f - e, by omega⟩
    rw [show (-((e : Int) - ((d + e : Nat) : Int))).toNat = d by omega, key (b ^ q) (a ^ q) d e, ← cmpI_neg]

theorem sd_neg (a b q : Nat) (m : Int) : sd b a q (-m) = -sd a b q m := by
  obtain ⟨e, f, rfl⟩ : ∃ e f : Nat, m = (e : Int) - f := ⟨m.toNat, (-m).toNat, by omega⟩
  rw [show -((e : Int) - f) = (f : Int) - e by omega, sd_ef, sd_ef, cmpI_neg]

theorem pow_pos' {a : Nat} (h : 0 < a) (q : Nat) : 0 < a ^ q := Nat.pow_pos h

/-- It falls. -/
theorem sd_anti {a b q : Nat} (hb : 0 < b) {m n : Int} (h : m < n) (h0 : sd a b q m ≤ 0) : sd a b q n < 0 := by
  obtain ⟨e, f, d, rfl, rfl⟩ : ∃ e f d : Nat, m = (e : Int) - f ∧ n = ((e + d + 1 : Nat) : Int) - f := ⟨m.toNat, (-m).toNat, (n - m - 1).toNat, by omega, by omega⟩
  rw [sd_ef] at h0 ⊢
  have h1 : ¬ (0 < cmpI ((a ^ q * 2 ^ f : Nat) : Int) ((b ^ q * 2 ^ e : Nat) : Int)) := by omega
  rw [cmpI_pos] at h1
  rw [cmpI_neg_iff]
  have h2 : b ^ q * 2 ^ e < b ^ q * 2 ^ (e + d + 1) := Nat.mul_lt_mul_of_pos_left (Nat.pow_lt_pow_right (by decide) (by omega)) (pow_pos' hb q)
  omega
theorem sd_anti' {a b q : Nat} (hb : 0 < b) {m n : Int} (h : m ≤ n) (h0 : 0 ≤ sd a b q n) : 0 ≤ sd a b q m := by
  rcases Int.lt_or_eq_of_le h with hl | rfl
  · by_cases hm : sd a b q m ≤ 0
    · have := sd_anti hb hl hm; omega
    · omega
  · exact h0

theorem flo_ok {a b q : Nat} (ha : 0 < a) (hb : 0 < b) : 0 ≤ sd a b q (flo a b q) ∧ sd a b q (flo a b q + 1) < 0 := by
  have hA := pow_pos' ha q
  have hB := pow_pos' hb q
  obtain ⟨A, hA'⟩ : ∃ A, a ^ q = A := ⟨_, rfl⟩
  obtain ⟨B, hB'⟩ : ∃ B, b ^ q = B := ⟨_, rfl⟩
  rw [hA'] at hA
  rw [hB'] at hB
  have a1 := bl_lt A
  have a2 := bl_ge (n := A) (by omega)
  have a3 := bl_pos (n := A) (by omega)
  have b1 := bl_lt B
  have b2 := bl_ge (n := B) (by omega)
  have b3 := bl_pos (n := B) (by omega)
  have hw : wid a b q = (bl A : Int) - bl B := by unfold wid; rw [hA', hB']
  have lo : 0 ≤ sd a b q (wid a b q - 1) := by
    rw [hw, show (bl A : Int) - bl B - 1 = (bl A : Int) - ((bl B + 1 : Nat) : Int) by omega, sd_ef, cmpI_nonneg, hA', hB']
    have k1 : B * 2 ^ bl A ≤ 2 ^ bl B * 2 ^ bl A := Nat.mul_le_mul_right _ (by omega)
    have k2 : 2 ^ (bl A - 1) * 2 ^ (bl B + 1) ≤ A * 2 ^ (bl B + 1) := Nat.mul_le_mul_right _ a2
    have k3 : 2 ^ (bl A - 1) * 2 ^ (bl B + 1) = 2 ^ bl B * 2 ^ bl A := by rw [← Nat.pow_add, ← Nat.pow_add]; congr 1; omega
    omega
  have hi : sd a b q (wid a b q + 1) < 0 := by
    rw [hw, show (bl A : Int) - bl B + 1 = ((bl A + 1 : Nat) : Int) - (bl B : Int) by omega, sd_ef, cmpI_neg_iff, hA', hB']
    have k1 : A * 2 ^ bl B < 2 ^ bl A * 2 ^ bl B := Nat.mul_lt_mul_of_pos_right a1 (Nat.two_pow_pos _)
    have k2 : 2 ^ (bl B - 1) * 2 ^ (bl A + 1) ≤ B * 2 ^ (bl A + 1) := Nat.mul_le_mul_right _ b2
    have k3 : 2 ^ (bl B - 1) * 2 ^ (bl A + 1) = 2 ^ bl A * 2 ^ bl B := by rw [← Nat.pow_add, ← Nat.pow_add]; congr 1; omega
    omega
  unfold flo
  split
  · rename_i h
    exact ⟨lo, by rw [show wid a b q - 1 + 1 = wid a b q by omega]; exact h⟩
  · rename_i h
    exact ⟨by omega, hi⟩
/-- 'flo' is the greatest number that is at most the logarithm. -/
theorem le_flo {a b q : Nat} (ha : 0 < a) (hb : 0 < b) {m : Int} : m ≤ flo a b q ↔ 0 ≤ sd a b q m := by
  obtain ⟨h1, h2⟩ := flo_ok (q := q) ha hb
  constructor
  · intro h; exact sd_anti' hb h h1
  · intro h
    by_cases hm : m ≤ flo a b q
    · exact hm
    · have := sd_anti' hb (show flo a b q + 1 ≤ m by omega) h; omega
theorem flo_lt {a b q : Nat} (ha : 0 < a) (hb : 0 < b) {m : Int} : flo a b q < m ↔ sd a b q m < 0 := by
  have := le_flo (q := q) ha hb (m := m); omega
theorem isW_iff {a b q : Nat} : isW a b q = true ↔ sd a b q (flo a b q) = 0 := by unfold isW; rw [beq_iff_eq]
/-- 'cei' is the least number that is at least the logarithm. -/
theorem cei_le {a b q : Nat} (ha : 0 < a) (hb : 0 < b) {m : Int} : cei a b q ≤ m ↔ sd a b q m ≤ 0 := by
  obtain ⟨h1, h2⟩ := flo_ok (q := q) ha hb
  unfold cei
  split
  · rename_i h
    rw [isW_iff] at h
    constructor
    · intro hm
      rcases Int.lt_or_eq_of_le hm with hl | rfl
      · have := sd_anti (q := q) (a := a) hb hl (by omega); omega
      · omega
    · intro hm
      by_cases hc : flo a b q ≤ m
      · exact hc
      · have := sd_anti (q := q) (a := a) hb (show m < flo a b q by omega) hm; omega
  · rename_i h
    rw [isW_iff] at h
    constructor
    · intro hm
      rcases Int.lt_or_eq_of_le hm with hl | rfl
      · have := sd_anti (q := q) (a := a) hb hl (by omega); omega
      · omega
    · intro hm
      by_cases hc : flo a b q + 1 ≤ m
      · exact hc
      · by_cases hq : m = flo a b q
        · subst hq; omega
        · have := sd_anti (q := q) (a := a) hb (show m < flo a b q by omega) hm; omega
theorem cei_neg {a b q : Nat} (ha : 0 < a) (hb : 0 < b) : cei a b q = -flo b a q := by
  have h : ∀ m, cei a b q ≤ m ↔ -flo b a q ≤ m := fun m => by
    rw [cei_le ha hb, show (-flo b a q ≤ m) = (-m ≤ flo b a q) by apply propext; omega, le_flo hb ha, sd_neg]
    omega
  have h1 := (h (cei a b q)).1 (Int.le_refl _)
  have h2 := (h (-flo b a q)).2 (Int.le_refl _)
  omega
end Go.Proofs.YtpgnheankmlnfaaDoor
