/- The walks over the package exact's functions on integers, as far as the layer of logarithms reaches them. The walks over exact.Of, the check of integers, powers and products. -/
import Derived.Test.YtpgnheankmlnfaaDoorLimbs
import Derived.Deep.RegionHeld3
import Derived.StillTailTactics
namespace Go.Proofs.YtpgnheankmlnfaaDoor
open Go.RowKit
set_option linter.unusedVariables false

/-- A struct of a sign and limbs is returned as it is, memory has been made. -/
def RetAgg (s : Bool) (A : Option Addr) (n c : Nat) (w : World) (e : Ending) (w' : World) : Prop := e = .returned (.agg #[.bool s, .slice A n c]) ∧ Below w.heap.size w w'

set_option maxRecDepth 100000 in
set_option maxHeartbeats 400000 in
theorem signed_any (b : Bool) (A : Option Addr) (n c : Nat) (w : World) :
    Calls Tryd.prog 90 #[.bool b, .slice A n c] w (RetAgg (b && decide (0 < n)) A n c w) := by
  cases b
  · go_enter Tryd.func90, Tryd.ntmps90
    go_wp2
    refine bodyPost_ret (v := .agg #[.bool false, .slice A n c]) (by simp [results, Tryd.results90, go_sem]) rfl ?_
    exact ⟨rfl, below_alloc (Below.refl _ _) _⟩
  · go_enter Tryd.func90, Tryd.ntmps90
    go_wp2
    refine bodyPost_ret (v := .agg #[.bool (decide (0 < n)), .slice A n c]) (by simp [results, Tryd.results90, go_sem]) rfl ?_
    exact ⟨by rw [Bool.true_and], below_alloc (Below.refl _ _) _⟩

set_option maxRecDepth 100000 in
set_option maxHeartbeats 400000 in
theorem fits_any (s : Bool) (A : Option Addr) (n c : Nat) (w : World) (h : n ≤ 128) :
    Calls Tryd.prog 89 #[.agg #[.bool s, .slice A n c]] w fun e w' => e = .returned (.tuple #[.agg #[.bool s, .slice A n c], .int .i64 0]) ∧ Below w.heap.size w w' := by
  go_enter Tryd.func89, Tryd.ntmps89
  go_wp2
  refine bodyPost_ret (v := .tuple #[.agg #[.bool s, .slice A n c], .int .i64 0]) (by simp [results, Tryd.results89, go_sem]) rfl ?_
  exact ⟨rfl, below_alloc (below_alloc (Below.refl _ _) _) _⟩

set_option maxRecDepth 100000 in
set_option maxHeartbeats 400000 in
theorem fits_not (s : Bool) (A : Option Addr) (n c : Nat) (w : World) (h : 128 < n) :
    Calls Tryd.prog 89 #[.agg #[.bool s, .slice A n c]] w fun e w' => e = .returned (.tuple #[.agg #[.bool false, .slice none 0 0], .int .i64 2]) ∧ Below w.heap.size w w' := by
  go_enter Tryd.func89, Tryd.ntmps89
  go_wp2
  refine bodyPost_ret (v := .tuple #[.agg #[.bool false, .slice none 0 0], .int .i64 2]) (by simp [results, Tryd.results89, go_sem]) rfl ?_
  exact ⟨rfl, below_alloc (below_alloc (Below.refl _ _) _) _⟩

set_option maxRecDepth 100000 in
set_option maxHeartbeats 1000000 in
theorem mul_any (s : Bool) (A : Option Addr) (n c : Nat) (x : Int) (s' : Bool) (A' : Option Addr) (n' c' : Nat) (y : Int) (w : World) (h1 : IsZ w s A n c x) (h2 : IsZ w s' A' n' c' y) (hb1 : n ≤ 1000000) (hb2 : n' ≤ 1000000) :
    Calls Tryd.prog 88 #[.agg #[.bool s, .slice A n c], .agg #[.bool s', .slice A' n' c']] w (RetZ (x * y) w) := by
  have H1 := Lib.hid h1
  have H2 := Lib.hid h2
  clear h1 h2
  have e0 : w.heap.size < w.heap.size + 1 + 1 + 1 := by omega
  have e1 : w.heap.size + 1 < w.heap.size + 1 + 1 + 1 := by omega
  have e2 : w.heap.size + 1 + 1 < w.heap.size + 1 + 1 + 1 := by omega
  have e3 : ¬ (w.heap.size = w.heap.size + 1 + 1) := by omega
  have e4 : ¬ (w.heap.size + 1 + 1 = w.heap.size) := by omega
  go_enter Tryd.func88, Tryd.ntmps88
  go_wp2_with fail
  go_region_held3 (fun w' => w'.cell? ⟨w.heap.size, 0, none⟩ = some (.bool s) ∧ w'.cell? ⟨w.heap.size, 1, none⟩ = some (.slice A n c) ∧ w'.cell? ⟨w.heap.size + 1, 0, none⟩ = some (.bool s') ∧ w'.cell? ⟨w.heap.size + 1, 1, none⟩ = some (.slice A' n' c')) (go_keep)
    (first | (go_at_call 105; refine (times_any _ _ _ x.natAbs _ _ _ y.natAbs _ ?_ ?_ hb1 hb2).mono ?_; (exact H1.out.2.below (below_alloc (below_alloc (below_alloc (Below.refl _ _) _) _) _).drew); (exact H2.out.2.below (below_alloc (below_alloc (below_alloc (Below.refl _ _) _) _) _).drew); rintro e w1 ⟨A1, n1, c1, rfl, hl1, hq1⟩; obtain ⟨hc_hq1, hf_hq1⟩ := bcell hq1; have sz_hq1 : w.heap.size + 3 ≤ w1.heap.size := (by have := hq1.size; (try simp at this); omega); have s0_hq1 : w.heap.size < w1.heap.size := (by omega); have s1_hq1 : w.heap.size + 1 < w1.heap.size := (by omega); have s2_hq1 : w.heap.size + 1 + 1 < w1.heap.size := (by omega)) | (go_at_call 90; refine (signed_any _ _ _ _ _).mono ?_; rintro e w2 ⟨rfl, hq2⟩; obtain ⟨hc_hq2, hf_hq2⟩ := bcell hq2; have sz_hq2 : w.heap.size + 3 ≤ w2.heap.size := (by have := hq2.size; (try simp at this); omega); have s0_hq2 : w.heap.size < w2.heap.size := (by omega); have s1_hq2 : w.heap.size + 1 < w2.heap.size := (by omega); have s2_hq2 : w.heap.size + 1 + 1 < w2.heap.size := (by omega)))
  have HL1 := Lib.hid hl1
  go_wp2
  refine bodyPost_ret (v := .agg #[.bool ((!s == s') && decide (0 < n1)), .slice A1 n1 c1]) (by simp [results, Tryd.results88, go_sem, hc_hq1, hc_hq2, s2_hq1]) rfl ?_
  have hx := H1.out.1
  have hy := H2.out.1
  have c0 : w2.cell? ⟨w.heap.size + 1 + 1, 0, none⟩ = some (.bool false) := by simp [go_sem, hc_hq1, hc_hq2, s2_hq1]
  have c1' : w2.cell? ⟨w.heap.size + 1 + 1, 1, none⟩ = some (.slice none 0 0) := by simp [go_sem, hc_hq1, hc_hq2, s2_hq1]
  refine ⟨_, _, _, _, rfl, ⟨?_, ?_⟩, ?_⟩
  · have := sign_mul x y n1 HL1.out.1
    rw [← hx, ← hy] at this
    rw [← this]
    cases s <;> cases s' <;> rfl
  · rw [Int.natAbs_mul]
    refine ((HL1.out.below hq2).store c0 (NoInt.bool _) _).store (u := .slice none 0 0) ?_ (NoInt.slice _ _ _) _
    rw [World.cell?_setCell_other]
    · exact c1'
    · simp
  · exact below_setCell (below_setCell (below_call (below_call (below_alloc (below_alloc (below_alloc (Below.refl _ _) _) _) _).drew hq1) hq2) (by simp; omega) _) (by simp; omega) _
end Go.Proofs.YtpgnheankmlnfaaDoor
namespace Go.Proofs.YtpgnheankmlnfaaDoor
open Go.RowKit
set_option linter.unusedVariables false

set_option maxRecDepth 100000 in
set_option maxHeartbeats 1000000 in
theorem of_any (n : Int) (h0 : -9223372036854775808 ≤ n) (h1 : n ≤ 9223372036854775807) (w : World) :
    Calls Tryd.prog 76 #[.int .i64 n] w (RetZ n w) := by
  obtain ⟨N, hN⟩ : ∃ N : Nat, n.natAbs = N := ⟨_, rfl⟩
  have hm : N ≤ 9223372036854775808 := by omega
  have HD : Hid (N = n.natAbs) := Lib.hid hN.symm
  have hw : ∀ z : Int, IntKind.u64.wrap z = z % 18446744073709551616 := fun z => by simp [IntKind.wrap, IntKind.bits, IntKind.signed]
  have HZ : n < 0 → Hid (IntKind.u64.wrap (-IntKind.u64.wrap n) = (N : Int)) := fun h => Lib.hid (by rw [hw, hw]; omega)
  clear hN hw
  by_cases hn : n < 0
  case' pos =>
    have HZ1 := HZ hn
    clear HZ
    go_enter Tryd.func76, Tryd.ntmps76
    go_wp2
    rw [HZ1.out]
  case' neg =>
    obtain rfl : n = (N : Int) := by have := HD.out; omega
    clear HZ
    go_enter Tryd.func76, Tryd.ntmps76
    go_wp2
  all_goals
    go_loopw [3, 4] (fun s v wr => ∃ (u : Nat) (xs : List Int), s = .int .u64 u ∧ u ≤ 9223372036854775808 ∧ Hid (dig N = xs ++ dig u) ∧ Hid (OwnV wr (w.heap.size + 1) v xs) ∧ Hid (Below (w.heap.size + 1) (w.alloc (.cells #[.bool false, .slice none 0 0] 87)) wr)) (fun s _ _ => (intOf s).toNat)
  all_goals try
    case atStart => exact ⟨N, [], rfl, hm, rfl, OwnV.nil _ _, Below.refl _ _⟩
  all_goals
    obtain ⟨u, xs, rfl, hu, HDig, HO, HB⟩ := hrel
    have hsz := HB.out.size
    have HLen : Hid (xs.length ≤ 3) := by
      have h1 := dig_length_le (n := N) (k := 3) (by omega)
      rw [HDig.out, List.length_append] at h1
      exact Lib.hid (by omega)
    rw [World.size_alloc] at hsz
    by_cases h0 : 0 < u
    · go_wp2_with (at_builtin; refine wpList_append_int _ rfl _ _ rfl (w.heap.size + 1) _ xs _ HO.out rfl rfl (by have := HLen.out; omega) hsz ?_)
      intro v' w' HO' HB'
      have HO2 := Lib.hid HO'
      have HB2 := Lib.hid (HB.out.trans HB')
      clear HO' HB'
      go_wp2
      refine ⟨⟨u / 16777216, xs ++ [((u % 16777216 : Nat) : Int)], by go_num, by omega, ?_, HO2.out, HB2.out⟩, by simp [intOf]; omega⟩
      refine Lib.hid ?_
      rw [HDig.out, dig_pos (show u ≠ 0 by omega), List.append_assoc]
      rfl
    · obtain ⟨A, l, c, rfl, hl, hge⟩ := HO.out.isL
      obtain rfl : u = 0 := by omega
      have hd := HDig.out
      rw [dig_zero, List.append_nil] at hd
      have HL := Lib.hid hl
      have HDig2 := Lib.hid hd
      clear hl hge hd
      have s0 : w.heap.size < wr.heap.size := by omega
      have k0 : wr.cell? ⟨w.heap.size, 0, none⟩ = some (.bool false) := by rw [HB.out.cell (p := ⟨w.heap.size, 0, none⟩) (by simp)]; simp [go_sem]
      have k1 : wr.cell? ⟨w.heap.size, 1, none⟩ = some (.slice none 0 0) := by rw [HB.out.cell (p := ⟨w.heap.size, 1, none⟩) (by simp)]; simp [go_sem]
      have f0 : wr.frozen? ⟨w.heap.size, 0, none⟩ = false := by rw [HB.out.frozen (p := ⟨w.heap.size, 0, none⟩) (by simp)]; simp [go_sem]
      have f1 : wr.frozen? ⟨w.heap.size, 1, none⟩ = false := by rw [HB.out.frozen (p := ⟨w.heap.size, 1, none⟩) (by simp)]; simp [go_sem]
      go_wp2_with fail
      refine (signed_any _ _ _ _ _).mono ?_
      rintro e w2 ⟨rfl, hq2⟩
      obtain ⟨hc2, hf2⟩ := bcell hq2
      go_wp2
      refine bodyPost_retZ (w2 := w2) Tryd.results76 rfl rfl (x0 := .bool false) (x1 := .slice none 0 0) (by simp [hc2, s0, k0]) (by simp [hc2, s0, k1]) (NoInt.bool _) (NoInt.slice _ _ _) ⟨?_, ?_⟩ ?_ (Nat.le_refl _)
      · have k1 := HL.out.1
        rw [← HDig2.out] at k1
        have k2 := HD.out
        have k3 : N ≠ 0 → 0 < (dig N).length := dig_length_pos
        rw [k1] at k3
        first
          | (simp; done)
          | (rw [decide_eq_true hn, decide_eq_true (show 0 < l by omega)]; done)
          | (rw [decide_eq_true hn, Bool.true_and, decide_eq_true (show 0 < l by omega)]; done)
          | (rw [decide_eq_false (show ¬ ((N : Int) < 0) by omega), Bool.false_and]; done)
      · have := HL.out.below hq2
        rw [← HDig2.out, HD.out] at this
        exact this
      · exact below_call ((below_alloc (Below.refl _ _) _).trans (HB.out.mono (by simp))) hq2
end Go.Proofs.YtpgnheankmlnfaaDoor
