/- What laws on fractions ask of the chapter's functions. -/
import Derived.Test.YtpgnheankmlnfaaDoorLOrder
import Derived.Test.YtpgnheankmlnfaaDoorLaw
import Derived.Test.YtpgnheankmlnfaaDoorBet
namespace Go.Proofs.YtpgnheankmlnfaaDoor
open Go.RowKit
set_option linter.unusedVariables false

def smlB (p q : Int) : Bool := decide (1 ≤ q) && decide (q ≤ 256) && decide (-4096 ≤ p) && decide (p ≤ 4096)
theorem smlB_iff {p q : Int} : smlB p q = true ↔ ((1 ≤ q ∧ q ≤ 256) ∧ -4096 ≤ p) ∧ p ≤ 4096 := by
  unfold smlB
  rw [Bool.and_eq_true, Bool.and_eq_true, Bool.and_eq_true, decide_eq_true_eq, decide_eq_true_eq, decide_eq_true_eq, decide_eq_true_eq]
set_option maxRecDepth 100000 in
set_option maxHeartbeats 1000000 in
theorem small_any (p q : Int) (w : World) :
    Calls Tryd.prog 39 #[.agg #[.int .i64 p, .int .i64 q]] w fun e w' => e = .returned (.bool (smlB p q)) ∧ Below w.heap.size w w' := by
  have hb := below_alloc (Below.refl w.heap.size w) (.cells #[.int .i64 p, .int .i64 q] 39)
  obtain ⟨v, hv⟩ : ∃ v, smlB p q = v := ⟨_, rfl⟩
  have hv2 : v = (decide (1 ≤ q) && decide (q ≤ 256) && decide (-4096 ≤ p) && decide (p ≤ 4096)) := hv.symm
  rw [hv]
  have HV := Lib.hid hv2
  clear hv hv2
  by_cases h1 : 1 ≤ q
  · by_cases h2 : q ≤ 256
    · by_cases h3 : -4096 ≤ p
      · have HR : Hid (v = decide (p ≤ 4096)) := Lib.hid (by rw [HV.out, decide_eq_true h1, decide_eq_true h2, decide_eq_true h3]; simp)
        go_enter Tryd.func39, Tryd.ntmps39
        go_wp2_with fail
        go_ret
        exact ⟨by rw [HR.out]; rfl, hb⟩
      · have HR : Hid (v = false) := Lib.hid (by rw [HV.out, decide_eq_false h3]; simp)
        go_enter Tryd.func39, Tryd.ntmps39
        go_wp2_with fail
        go_ret
        exact ⟨by rw [HR.out]; rfl, hb⟩
    · have HR : Hid (v = false) := Lib.hid (by rw [HV.out, decide_eq_false h2]; simp)
      go_enter Tryd.func39, Tryd.ntmps39
      go_wp2_with fail
      go_ret
      exact ⟨by rw [HR.out]; rfl, hb⟩
  · have HR : Hid (v = false) := Lib.hid (by rw [HV.out, decide_eq_false h1]; simp)
    go_enter Tryd.func39, Tryd.ntmps39
    go_wp2_with fail
    go_ret
    exact ⟨by rw [HR.out]; rfl, hb⟩

theorem askO_of {a b o : Nat} (a0 : 0 < a) (a1 : a ≤ 4095) (b0 : 0 < b) (b1 : b ≤ 4095) (o0 : 1 ≤ o) (o1 : o ≤ 64) : askO a b o = true := askO_iff.2 ⟨⟨⟨by omega, by omega⟩, by omega, by omega⟩, by omega, by omega⟩
theorem Between_ok2 (a b o : Nat) (w : World) (h : askO a b o = true) {x : Quad} (hx : nearS a b o = x) :
    Calls Tryd.prog 37 #[.int .i64 a, .int .i64 b, .int .i64 o] w (RetQQE x 0 w) := by
  have := Between_any a b o w
  have e : btw a b o = nearS a b o := by unfold btw; rw [if_pos h]; rfl
  rw [e, h, hx] at this
  exact this
theorem Whole_ok (a b : Nat) (w : World) (h : askF a b 0 = true) :
    Calls Tryd.prog 21 #[.int .i64 a, .int .i64 b] w fun e w' => e = .returned (.tuple #[.int .i64 (if isW a b 1 = true then flo a b 1 else 0), .bool (isW a b 1), .int .i64 0]) ∧ Below w.heap.size w w' :=
  (Whole_any a b w).mono fun e w' hh => ⟨by
    rw [hh.1]
    unfold whoV whoB
    rw [h, Int.toNat_natCast, Int.toNat_natCast]
    simp only [true_and, Bool.true_and]
    rfl, hh.2⟩
theorem askC_of {a b q : Nat} {p : Int} (a0 : 0 < a) (a1 : a ≤ 4095) (b0 : 0 < b) (b1 : b ≤ 4095) (h : smlB p q = true) : askC a b p q = true := by
  obtain ⟨⟨⟨h1, h2⟩, h3⟩, h4⟩ := smlB_iff.1 h
  unfold askC
  rw [Bool.and_eq_true, Bool.and_eq_true, inR_iff, inR_iff]
  exact ⟨askF_of (k := 0) a0 a1 b0 b1 (by omega), by omega, by omega⟩
theorem Compare_ok2 (a b q : Nat) (p : Int) (w : World) (h : askC a b p q = true) :
    Calls Tryd.prog 41 #[.int .i64 a, .int .i64 b, .agg #[.int .i64 p, .int .i64 q]] w fun e w' => e = .returned (.tuple #[.int .i64 (sd a b q p), .int .i64 0]) ∧ Below w.heap.size w w' :=
  (Compare_any a b p q w).mono fun e w' hh => ⟨by rw [hh.1]; unfold cmpV; rw [h, if_pos rfl]; rfl, hh.2⟩
end Go.Proofs.YtpgnheankmlnfaaDoor
