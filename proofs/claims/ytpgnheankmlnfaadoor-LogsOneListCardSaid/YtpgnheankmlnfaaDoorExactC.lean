/- The walks over slices.IndexFunc, slices.ContainsFunc and exact.Check. -/
import Derived.Test.YtpgnheankmlnfaaDoorExact
import Derived.Shelf.Abstract
namespace Go.Proofs.YtpgnheankmlnfaaDoor
open Go.RowKit
set_option linter.unusedVariables false

/-- Which element meets p first, counted from k on; -1: none. -/
def idxFrom (p : Int → Bool) : Nat → List Int → Int
  | _, [] => -1
  | k, x :: xs => if p x then k else idxFrom p (k + 1) xs
theorem idxFrom_any (p : Int → Bool) (k : Nat) (xs : List Int) : decide (0 ≤ idxFrom p k xs) = xs.any p := by
  induction xs generalizing k with
  | nil => rfl
  | cons x xs ih =>
    unfold idxFrom
    rw [List.any_cons]
    cases hp : p x
    · simpa using ih (k + 1)
    · simp

/-- A predicate over whole numbers, called in this world, answers and turns nothing. -/
def PredInt (g : Nat) (lb : Array Value) (p : Int → Bool) (w : World) : Prop := ∀ x : Int, Calls Tryd.prog g (#[.int .i64 x] ++ lb) w fun e w' => e = .returned (.bool (p x)) ∧ w = w'

set_option maxRecDepth 100000 in
set_option maxHeartbeats 400000 in
theorem indexFunc_any (A : Option Addr) (n c : Nat) (xs : List Int) (g : Nat) (lb : Array Value) (p : Int → Bool) (w : World) (h : IsL w A n c xs) (eg : ∀ args w, (callFunc g args).run Tryd.prog w = .ok (.enter g args) w) (hp : PredInt g lb p w) :
    Calls Tryd.prog 84 #[.slice A n c, .func (.func g) #[] lb] w fun e w' => e = .returned (.int .i64 (idxFrom p 0 xs)) ∧ w = w' := by
  have H := Lib.hid h
  have HP := Lib.hid hp
  have hb := h.2.2.1
  have hl := h.1
  rw [hl] at hb
  clear h hp hl
  go_enter Tryd.func84, Tryd.ntmps84
  go_wp2
  go_loop [8] (fun s => ∃ k : Nat, k ≤ n ∧ Hid (idxFrom p 0 xs = idxFrom p k (xs.drop k)) ∧ s = .int .i64 k) (fun s => n - (intOf s).toNat)
  case atStart => exact ⟨0, Nat.zero_le _, rfl, rfl⟩
  case round =>
    obtain ⟨k, hk, HI, rfl⟩ := hrel
    by_cases h0 : k < n
    · obtain ⟨b, off, rfl⟩ := H.out.2.2.addr (by rw [H.out.1]; omega)
      obtain ⟨x, hx, HX⟩ := H.out.2.2.cell k (by rw [H.out.1]; exact h0)
      have hd : xs.drop k = x :: xs.drop (k + 1) := by
        rw [List.drop_eq_getElem_cons (by rw [H.out.1]; exact h0), ← HX.out, List.getD_eq_getElem?_getD, List.getElem?_eq_getElem (by rw [H.out.1]; exact h0)]
        rfl
      have HD := Lib.hid hd
      clear hd
      have HPx := Lib.hid (HP.out x)
      cases hpx : p x
      · rw [hpx] at HPx
        have HPX := Lib.hid hpx
        clear hpx
        go_wp2_with fail
        refine HPx.out.mono ?_
        rintro e w' ⟨rfl, rfl⟩
        go_wp2
        go_round
        case rel => exact ⟨k + 1, by omega, by rw [HI.out, HD.out, idxFrom, HPX.out]; rfl, by go_num⟩
        case measure => simp [intOf]; omega
      · rw [hpx] at HPx
        have HPX := Lib.hid hpx
        clear hpx
        go_wp2_with fail
        refine HPx.out.mono ?_
        rintro e w' ⟨rfl, rfl⟩
        go_wp2
        go_ret
        exact ⟨ret_int (by rw [HI.out, HD.out, idxFrom, HPX.out]; rfl), rfl⟩
    · go_wp2
      go_ret
      refine ⟨ret_int ?_, rfl⟩
      rw [HI.out, List.drop_eq_nil_of_le (by rw [H.out.1]; omega)]
      rfl

set_option maxRecDepth 100000 in
set_option maxHeartbeats 400000 in
theorem containsFunc_any (A : Option Addr) (n c : Nat) (xs : List Int) (g : Nat) (lb : Array Value) (p : Int → Bool) (w : World) (h : IsL w A n c xs) (eg : ∀ args w, (callFunc g args).run Tryd.prog w = .ok (.enter g args) w) (hp : PredInt g lb p w) :
    Calls Tryd.prog 71 #[.slice A n c, .func (.func g) #[] lb] w fun e w' => e = .returned (.bool (xs.any p)) ∧ w = w' := by
  rw [← idxFrom_any p 0 xs]
  go_enter Tryd.func71, Tryd.ntmps71
  go_wp2_with fail
  refine (indexFunc_any _ _ _ xs g lb p _ h eg hp).mono ?_
  rintro e w' ⟨rfl, rfl⟩
  go_wp2
  go_ret
  exact ⟨rfl, rfl⟩

/-- No limb. -/
def badLimb (x : Int) : Bool := decide (x < 0) || decide (16777216 ≤ x)
theorem check1_any (w : World) : PredInt 103 #[] badLimb w := by
  intro x
  by_cases h : x < 0
  · go_enter Tryd.func103, Tryd.ntmps103
    go_wp2
    go_ret
    exact ⟨by simp [badLimb, h], rfl⟩
  · go_enter Tryd.func103, Tryd.ntmps103
    go_wp2
    go_ret
    have e : decide (x < 0) = false := decide_eq_false (by omega)
    refine ⟨?_, rfl⟩
    simp [badLimb, e]

theorem enters_check1 : ∀ (args : Array Value) (w : World), (callFunc 103 args).run Tryd.prog w = .ok (.enter 103 args) w :=
  Go.Proofs.enters_of Tryd.func103 (by kernel_rfl) rfl

set_option maxRecDepth 100000 in
set_option maxHeartbeats 1000000 in
theorem check_ok (s : Bool) (A : Option Addr) (n c : Nat) (z : Int) (w : World) (h : IsZ w s A n c z) (hn : n ≤ 128) :
    Calls Tryd.prog 86 #[.agg #[.bool s, .slice A n c]] w fun e w' => e = .returned (.int .i64 0) ∧ Below w.heap.size w w' := by
  have H := Lib.hid h
  have hlim : Hid ((dig z.natAbs).any badLimb = false) := by
    refine Lib.hid ?_
    rw [List.any_eq_false]
    intro x hx
    have := limb_dig z.natAbs x hx
    simp [badLimb]
    omega
  by_cases h0 : n = 0
  · subst h0
    have hs : s = false := by
      have h1 := h.1
      have h2 := (dig_nil_iff _).1 (List.length_eq_zero_iff.1 h.2.1)
      rw [h1]
      simp
      omega
    subst hs
    clear h
    go_enter Tryd.func86, Tryd.ntmps86
    go_wp2_with fail
    refine (containsFunc_any _ _ _ _ _ _ _ _ (H.out.2.below (below_alloc (Below.refl _ _) _)) enters_check1 (check1_any _)).mono ?_
    rintro e w' ⟨rfl, rfl⟩
    rw [hlim.out]
    go_wp2
    go_ret
    exact ⟨rfl, below_alloc (Below.refl _ _) _⟩
  · have htop := dig_top z.natAbs
    have hlen := h.2.1
    obtain ⟨b, off, rfl⟩ := h.2.2.2.addr (by omega)
    obtain ⟨x, hx, HX⟩ := h.2.2.2.cell (n - 1) (by omega)
    have hxb := (limb_dig z.natAbs).get (n - 1)
    have hx0 : x ≠ 0 := by
      have := HX.out
      rcases htop with k | k
      · omega
      · rw [hlen] at k; rw [← this]; exact k
    have hbx := World.block_lt_of_cell? w _ hx
    clear h htop hlen hxb
    have b1 : decide (128 < (n : Int)) = false := decide_eq_false (by omega)
    have b2 : ((n : Int) == 0) = false := beq_eq_false_iff_ne.2 (by omega)
    have b3 : (x == 0) = false := beq_eq_false_iff_ne.2 hx0
    go_enter Tryd.func86, Tryd.ntmps86
    go_wp2_with fail
    refine (containsFunc_any _ _ _ _ _ _ _ _ (H.out.2.below (below_alloc (Below.refl _ _) _)) enters_check1 (check1_any _)).mono ?_
    rintro e w' ⟨rfl, rfl⟩
    rw [hlim.out]
    go_wp2
    go_ret
    exact ⟨rfl, below_alloc (Below.refl _ _) _⟩
end Go.Proofs.YtpgnheankmlnfaaDoor
