/- Plain facts on limbs: the limbs of a natural number in base 2^24, their value, how many binary digits it has. No program in sight. Slices of whole numbers that are read: the word 'Rd', and how it lives on while memory is made. Plain facts: multiplication of limbs, row by row. The walk's law for 'append(xs, x)' onto a row of whole numbers of the call's own. -/
import Derived.Lib.BitFns
import Derived.WalkKit
import Derived.WalkSpells
import Derived.WalkLawsBesides
import Derived.Lib.Hide
import Derived.Deep.QuietTactic
import Derived.BigQuiet
import Derived.IntWalk
import Derived.WalkSmall
import Derived.Test.YtpgnheankmlnfaaDoorProg
namespace Go.Proofs.YtpgnheankmlnfaaDoor

/-- What limbs are worth, the lowest first. -/
def val : List Int → Int
  | [] => 0
  | x :: xs => x + 16777216 * val xs
/-- Limbs: each from 0 to 2^24 - 1. -/
def Limb (xs : List Int) : Prop := ∀ x ∈ xs, 0 ≤ x ∧ x < 16777216
/-- The limbs of n. -/
def dig (n : Nat) : List Int := if n = 0 then [] else ((n % 16777216 : Nat) : Int) :: dig (n / 16777216)
  termination_by n
  decreasing_by omega

theorem Limb.nil : Limb [] := fun _ h => by cases h
theorem Limb.cons {x : Int} {xs : List Int} (h0 : 0 ≤ x) (h1 : x < 16777216) (h : Limb xs) : Limb (x :: xs) := by
  intro y hy
  rcases List.mem_cons.1 hy with rfl | hy
  · exact ⟨h0, h1⟩
  · exact h y hy
theorem Limb.tail {x : Int} {xs : List Int} (h : Limb (x :: xs)) : Limb xs := fun y hy => h y (List.mem_cons_of_mem _ hy)
theorem Limb.head {x : Int} {xs : List Int} (h : Limb (x :: xs)) : 0 ≤ x ∧ x < 16777216 := h x List.mem_cons_self
theorem Limb.append {xs ys : List Int} (h : Limb xs) (k : Limb ys) : Limb (xs ++ ys) := by
  intro y hy
  rcases List.mem_append.1 hy with hy | hy
  · exact h y hy
  · exact k y hy
theorem Limb.take {xs : List Int} (h : Limb xs) (k : Nat) : Limb (xs.take k) := fun y hy => h y (List.mem_of_mem_take hy)
theorem Limb.drop {xs : List Int} (h : Limb xs) (k : Nat) : Limb (xs.drop k) := fun y hy => h y (List.mem_of_mem_drop hy)
theorem Limb.set {xs : List Int} (h : Limb xs) (k : Nat) {v : Int} (h0 : 0 ≤ v) (h1 : v < 16777216) : Limb (xs.set k v) := by
  intro y hy
  rcases List.mem_or_eq_of_mem_set hy with hy | rfl
  · exact h y hy
  · exact ⟨h0, h1⟩
theorem Limb.get {xs : List Int} (h : Limb xs) (k : Nat) : 0 ≤ xs.getD k 0 ∧ xs.getD k 0 < 16777216 := by
  rw [List.getD_eq_getElem?_getD]
  by_cases hk : k < xs.length
  · rw [List.getElem?_eq_getElem hk]
    exact h _ (List.getElem_mem hk)
  · rw [List.getElem?_eq_none (by omega)]
    exact ⟨Int.le_refl _, by decide⟩
theorem Limb.replicate (n : Nat) : Limb (List.replicate n 0) := by
  intro y hy
  rw [List.eq_of_mem_replicate hy]
  exact ⟨Int.le_refl _, by decide⟩

theorem val_nil : val [] = 0 := rfl
theorem val_cons (x : Int) (xs : List Int) : val (x :: xs) = x + 16777216 * val xs := rfl
theorem val_append (xs ys : List Int) : val (xs ++ ys) = val xs + 16777216 ^ xs.length * val ys := by
  induction xs with
  | nil => simp [val]
  | cons x xs ih =>
    simp only [List.cons_append, val, ih, List.length_cons, Int.pow_succ]
    grind
theorem val_nonneg {xs : List Int} (h : Limb xs) : 0 ≤ val xs := by
  induction xs with
  | nil => exact Int.le_refl _
  | cons x xs ih =>
    have := ih h.tail
    have := h.head
    simp only [val]
    omega
theorem val_lt {xs : List Int} (h : Limb xs) : val xs < 16777216 ^ xs.length := by
  induction xs with
  | nil => simp [val]
  | cons x xs ih =>
    have := ih h.tail
    have := h.head
    simp only [val, List.length_cons, Int.pow_succ]
    omega
theorem val_replicate (n : Nat) : val (List.replicate n 0) = 0 := by
  induction n with
  | zero => rfl
  | succ n ih => simp [List.replicate_succ, val, ih]
theorem val_set (xs : List Int) (k : Nat) (v : Int) (hk : k < xs.length) : val (xs.set k v) = val xs + (v - xs.getD k 0) * 16777216 ^ k := by
  induction xs generalizing k with
  | nil => simp at hk
  | cons x xs ih =>
    cases k with
    | zero => simp [val]; omega
    | succ k =>
      have := ih k (by simpa using hk)
      simp only [List.set_cons_succ, val, this, List.getD_cons_succ, Int.pow_succ]
      grind
theorem val_take_succ (xs : List Int) (k : Nat) (hk : k < xs.length) : val (xs.take (k + 1)) = val (xs.take k) + xs.getD k 0 * 16777216 ^ k := by
  rw [List.take_succ_eq_append_getElem hk, val_append]
  have : (xs.take k).length = k := by simp; omega
  rw [this, List.getD_eq_getElem?_getD, List.getElem?_eq_getElem hk]
  simp [val]
  grind
theorem val_split (xs : List Int) (k : Nat) (hk : k ≤ xs.length) : val xs = val (xs.take k) + 16777216 ^ k * val (xs.drop k) := by
  conv => lhs; rw [← List.take_append_drop k xs]
  rw [val_append]
  have : (xs.take k).length = k := by simp; omega
  rw [this]

theorem dig_zero : dig 0 = [] := by unfold dig; simp
theorem dig_pos {n : Nat} (h : n ≠ 0) : dig n = ((n % 16777216 : Nat) : Int) :: dig (n / 16777216) := by
  conv => lhs; unfold dig
  rw [if_neg h]
theorem dig_nil_iff (n : Nat) : dig n = [] ↔ n = 0 := by
  constructor
  · intro h
    by_cases e : n = 0
    · exact e
    · rw [dig_pos e] at h; cases h
  · rintro rfl; exact dig_zero
theorem val_dig (n : Nat) : val (dig n) = n := by
  induction n using Nat.strongRecOn with
  | _ n ih =>
    by_cases e : n = 0
    · subst e; rw [dig_zero]; rfl
    · rw [dig_pos e, val_cons, ih (n / 16777216) (by omega)]
      omega
theorem limb_dig (n : Nat) : Limb (dig n) := by
  induction n using Nat.strongRecOn with
  | _ n ih =>
    by_cases e : n = 0
    · subst e; rw [dig_zero]; exact Limb.nil
    · rw [dig_pos e]
      exact Limb.cons (by omega) (by omega) (ih (n / 16777216) (by omega))
/-- No zero on top. -/
def Top (xs : List Int) : Prop := xs.length = 0 ∨ xs.getD (xs.length - 1) 0 ≠ 0
theorem Top.tail {x : Int} {xs : List Int} (h : Top (x :: xs)) : Top xs := by
  rcases h with h | h
  · simp at h
  · cases xs with
    | nil => exact .inl rfl
    | cons y ys => exact .inr (by simpa using h)
theorem dig_top (n : Nat) : Top (dig n) := by
  induction n using Nat.strongRecOn with
  | _ n ih =>
    by_cases e : n = 0
    · subst e; rw [dig_zero]; exact .inl rfl
    · rw [dig_pos e]
      refine .inr ?_
      have k := ih (n / 16777216) (by omega)
      by_cases z : n / 16777216 = 0
      · rw [z, dig_zero]
        simp
        omega
      · have : (dig (n / 16777216)).length ≠ 0 := by
          intro h0
          exact z ((dig_nil_iff _).1 (List.length_eq_zero_iff.1 h0))
        rcases k with k | k
        · exact absurd k this
        · obtain ⟨m, hm⟩ : ∃ m, (dig (n / 16777216)).length = m + 1 := ⟨(dig (n / 16777216)).length - 1, by omega⟩
          rw [hm] at k
          simp only [List.length_cons, hm, Nat.add_sub_cancel, List.getD_cons_succ]
          simpa using k
/-- Limbs without a zero on top are the limbs of what they are worth. -/
theorem dig_of {xs : List Int} (h : Limb xs) (ht : Top xs) : xs = dig (val xs).toNat := by
  induction xs with
  | nil => rw [val_nil]; exact dig_zero.symm
  | cons x xs ih =>
    have e := ih h.tail ht.tail
    have hx := h.head
    have hv := val_nonneg h.tail
    have hne : (val (x :: xs)).toNat ≠ 0 := by
      rw [val_cons]
      intro h0
      have hx0 : x = 0 := by omega
      have hv0 : val xs = 0 := by omega
      rw [hv0] at e
      rw [show (0 : Int).toNat = 0 from rfl, dig_zero] at e
      subst e
      rcases ht with ht | ht
      · simp at ht
      · simp at ht; exact ht hx0
    rw [dig_pos hne]
    rw [val_cons] at hne ⊢
    have h1 : (((x + 16777216 * val xs).toNat % 16777216 : Nat) : Int) = x := by omega
    have h2 : (x + 16777216 * val xs).toNat / 16777216 = (val xs).toNat := by omega
    rw [h1, h2, ← e]
theorem dig_inj {m n : Nat} (h : dig m = dig n) : m = n := by
  have := val_dig m
  rw [h, val_dig] at this
  omega

/-- How many limbs are left without zeros on top. -/
def trimN (xs : List Int) : Nat → Nat
  | 0 => 0
  | m + 1 => if xs.getD m 0 = 0 then trimN xs m else m + 1
theorem trimN_step {xs : List Int} {k : Nat} (h : xs.getD k 0 = 0) : trimN xs (k + 1) = trimN xs k := by
  conv => lhs; unfold trimN
  rw [if_pos h]
theorem trimN_stop {xs : List Int} {k : Nat} (h : xs.getD k 0 ≠ 0) : trimN xs (k + 1) = k + 1 := by
  conv => lhs; unfold trimN
  rw [if_neg h]
theorem trimN_le (xs : List Int) (m : Nat) : trimN xs m ≤ m := by
  induction m with
  | zero => exact Nat.le_refl _
  | succ m ih => unfold trimN; split <;> omega
theorem trimN_val (xs : List Int) (m : Nat) (hm : m ≤ xs.length) : val (xs.take (trimN xs m)) = val (xs.take m) := by
  induction m with
  | zero => rfl
  | succ m ih =>
    unfold trimN
    split
    · rename_i h
      rw [ih (by omega), val_take_succ xs m (by omega), h]
      omega
    · rfl
theorem trimN_top (xs : List Int) (m : Nat) (hm : m ≤ xs.length) : Top (xs.take (trimN xs m)) := by
  induction m with
  | zero => exact .inl (by simp [trimN])
  | succ m ih =>
    unfold trimN
    split
    · exact ih (by omega)
    · rename_i h
      refine .inr ?_
      have : (xs.take (m + 1)).length = m + 1 := by simp; omega
      rw [this, List.getD_eq_getElem?_getD, List.getElem?_take]
      simpa [List.getD_eq_getElem?_getD] using h
/-- Trimmed limbs are the limbs of what they were worth. -/
theorem trim_dig {xs : List Int} (h : Limb xs) : xs.take (trimN xs xs.length) = dig (val xs).toNat := by
  have e := dig_of (h.take (trimN xs xs.length)) (trimN_top xs _ (Nat.le_refl _))
  rw [trimN_val xs _ (Nat.le_refl _), List.take_length] at e
  exact e
theorem trim_len {xs : List Int} (h : Limb xs) : trimN xs xs.length = (dig (val xs).toNat).length := by
  rw [← trim_dig h, List.length_take, Nat.min_eq_left (trimN_le xs _)]

theorem dig_length_le {n k : Nat} (h : n < 16777216 ^ k) : (dig n).length ≤ k := by
  induction k generalizing n with
  | zero =>
    have : n = 0 := by simpa using h
    subst this; rw [dig_zero]; exact Nat.le_refl _
  | succ k ih =>
    by_cases e : n = 0
    · subst e; rw [dig_zero]; exact Nat.zero_le _
    · rw [dig_pos e, List.length_cons]
      have := ih (n := n / 16777216) (by rw [Nat.pow_succ] at h; omega)
      omega
theorem powc (k : Nat) : ((16777216 ^ k : Nat) : Int) = 16777216 ^ k := Int.natCast_pow 16777216 k
theorem dig_lt (n : Nat) : n < 16777216 ^ (dig n).length := by
  have h := val_lt (limb_dig n)
  rw [val_dig, ← powc] at h
  exact Int.ofNat_lt.1 h
theorem dig_ge {n : Nat} (h : n ≠ 0) : 16777216 ^ ((dig n).length - 1) ≤ n := by
  by_cases hle : 16777216 ^ ((dig n).length - 1) ≤ n
  · exact hle
  · have := dig_length_le (n := n) (k := (dig n).length - 1) (by omega)
    have h0 : (dig n).length ≠ 0 := fun h0 => h ((dig_nil_iff _).1 (List.length_eq_zero_iff.1 h0))
    omega
theorem dig_length_pos {n : Nat} (h : n ≠ 0) : 0 < (dig n).length := by
  rw [dig_pos h]; simp
theorem dig_length_le_iff (n k : Nat) : (dig n).length ≤ k ↔ n < 16777216 ^ k := by
  constructor
  · intro h
    exact Nat.lt_of_lt_of_le (dig_lt n) (Nat.pow_le_pow_right (by decide) h)
  · exact dig_length_le
theorem dig_length_mono {m n : Nat} (h : m ≤ n) : (dig m).length ≤ (dig n).length :=
  dig_length_le (Nat.lt_of_le_of_lt h (dig_lt n))

/-- How many binary digits n has. -/
def bl (n : Nat) : Nat := if n = 0 then 0 else Nat.log2 n + 1
theorem bl_zero : bl 0 = 0 := rfl
theorem bl_lt (n : Nat) : n < 2 ^ bl n := by
  unfold bl
  split
  · rename_i h; subst h; decide
  · exact Nat.lt_log2_self
theorem bl_ge {n : Nat} (h : n ≠ 0) : 2 ^ (bl n - 1) ≤ n := by
  unfold bl
  rw [if_neg h]
  exact Nat.log2_self_le h
theorem bl_pos {n : Nat} (h : n ≠ 0) : 0 < bl n := by unfold bl; rw [if_neg h]; omega
theorem bl_le {n k : Nat} (h : n < 2 ^ k) : bl n ≤ k := by
  by_cases e : n = 0
  · subst e; exact Nat.zero_le _
  · have h1 := bl_ge e
    have h2 : 2 ^ (bl n - 1) < 2 ^ k := Nat.lt_of_le_of_lt h1 h
    have := (Nat.pow_lt_pow_iff_right (by decide : 1 < 2)).1 h2
    omega
theorem bl_unique {n k : Nat} (h1 : 2 ^ k ≤ n) (h2 : n < 2 ^ (k + 1)) : bl n = k + 1 := by
  have hn : n ≠ 0 := fun e => by subst e; have := Nat.two_pow_pos k; omega
  have a := bl_le h2
  have b : 2 ^ k < 2 ^ bl n := Nat.lt_of_le_of_lt h1 (bl_lt n)
  have := (Nat.pow_lt_pow_iff_right (by decide : 1 < 2)).1 b
  omega
theorem bl_half {n : Nat} (h : n ≠ 0) : bl n = bl (n / 2) + 1 := by
  by_cases z : n / 2 = 0
  · have : n = 1 := by omega
    subst this; decide
  · have a := bl_ge z
    have b := bl_lt (n / 2)
    have p := bl_pos z
    obtain ⟨k, hk⟩ : ∃ k, bl (n / 2) = k + 1 := ⟨bl (n / 2) - 1, by omega⟩
    rw [hk] at a b ⊢
    refine bl_unique ?_ ?_
    · rw [Nat.pow_succ]; simp at a; omega
    · rw [Nat.pow_succ]; omega
theorem bitLen_bl (x : Nat) (h : x < 2 ^ 64) : Lib.bitLen x = bl x := by
  induction x using Nat.strongRecOn with
  | _ x ih =>
    by_cases e : x = 0
    · subst e; decide
    · rw [Lib.bitLen_half x e h, ih (x / 2) (by omega) (by omega), bl_half e]; omega
/-- The width of limbs. -/
theorem bl_dig {n : Nat} (h : n ≠ 0) : bl n = ((dig n).length - 1) * 24 + bl ((dig n).getD ((dig n).length - 1) 0).toNat := by
  obtain ⟨k, hk⟩ : ∃ k, (dig n).length = k + 1 := ⟨(dig n).length - 1, by have := dig_length_pos h; omega⟩
  have hs := val_take_succ (dig n) k (by omega)
  rw [List.take_of_length_le (by omega), val_dig] at hs
  have hl := val_lt ((limb_dig n).take k)
  have hn := val_nonneg ((limb_dig n).take k)
  have hlen : ((dig n).take k).length = k := by simp; omega
  rw [hlen] at hl
  have ht : (dig n).getD k 0 ≠ 0 := by
    rcases dig_top n with t | t
    · omega
    · rw [hk] at t; simpa using t
  have hb := (limb_dig n).get k
  rw [hk]
  simp only [Nat.add_sub_cancel]
  obtain ⟨t, et⟩ : ∃ t : Nat, (dig n).getD k 0 = (t : Int) := ⟨((dig n).getD k 0).toNat, by omega⟩
  obtain ⟨r, er⟩ : ∃ r : Nat, val ((dig n).take k) = (r : Int) := ⟨(val ((dig n).take k)).toNat, by omega⟩
  rw [et] at hs ht ⊢
  rw [er] at hs hl
  have ht0 : t ≠ 0 := by omega
  rw [← powc] at hs hl
  have hs' : n = r + t * 16777216 ^ k := Int.ofNat.inj (by rw [Int.ofNat_eq_natCast, Int.ofNat_eq_natCast, Int.natCast_add, Int.natCast_mul]; exact hs)
  have hl' : r < 16777216 ^ k := Int.ofNat_lt.1 hl
  have e24 : 16777216 ^ k = 2 ^ (k * 24) := by rw [Nat.mul_comm, Nat.pow_mul]
  rw [e24] at hs' hl'
  rw [Int.toNat_natCast]
  have a := bl_ge ht0
  have b := bl_lt t
  have p := bl_pos ht0
  obtain ⟨j, hj⟩ : ∃ j, bl t = j + 1 := ⟨bl t - 1, by omega⟩
  rw [hj] at a b ⊢
  simp only [Nat.add_sub_cancel] at a
  rw [show k * 24 + (j + 1) = (k * 24 + j) + 1 by omega]
  refine bl_unique ?_ ?_
  · rw [Nat.pow_add, hs', Nat.mul_comm (2 ^ (k * 24))]
    have := Nat.mul_le_mul_right (2 ^ (k * 24)) a
    omega
  · rw [hs', show k * 24 + j + 1 = k * 24 + (j + 1) by omega, Nat.pow_add, Nat.mul_comm (2 ^ (k * 24))]
    have h3 : (t + 1) * 2 ^ (k * 24) ≤ 2 ^ (j + 1) * 2 ^ (k * 24) := Nat.mul_le_mul_right _ b
    rw [Nat.add_mul] at h3
    omega
end Go.Proofs.YtpgnheankmlnfaaDoor
namespace Go.Proofs.YtpgnheankmlnfaaDoor
open Go.RowKit
set_option linter.unusedVariables false

/-- A slice of whole numbers (from address A, as many as xs has) reads as xs. -/
def Rd (w : World) (A : Option Addr) (xs : List Int) : Prop :=
  xs.length ≤ 9223372036854775807 ∧ (0 < xs.length → ∃ b off, A = some ⟨b, off, none⟩ ∧ ∀ j, j < xs.length → w.cell? ⟨b, off + j, none⟩ = some (.int .i64 (xs.getD j 0)))

theorem Rd.below {w w1 : World} {A : Option Addr} {xs : List Int} (h : Rd w A xs) (hb : Below w.heap.size w w1) : Rd w1 A xs := by
  refine ⟨h.1, fun h0 => ?_⟩
  obtain ⟨b, off, e, hc⟩ := h.2 h0
  refine ⟨b, off, e, fun j hj => ?_⟩
  have := World.block_lt_of_cell? w _ (hc j hj)
  rw [hb.cell (p := ⟨b, off + j, none⟩) this]
  exact hc j hj
theorem below_drewN {B : Nat} {w W : World} (h : Below B w W) (n : Nat) : Below B w (W.drewN n) := ⟨h.os, h.tape, h.output, h.size, h.block⟩
theorem below_alloc {w W : World} (h : Below w.heap.size w W) (o : Obj) : Below w.heap.size w (W.alloc o) := h.alloc h.size o
theorem below_call {w w1 w2 : World} (h : Below w.heap.size w w1) (k : Below w1.heap.size w1 w2) : Below w.heap.size w w2 :=
  h.trans ⟨k.os, k.tape, k.output, k.size, fun i hi => k.block i (Nat.lt_of_lt_of_le hi h.size)⟩
theorem below_setCell {w W : World} (h : Below w.heap.size w W) {p : Addr} (hp : w.heap.size ≤ p.block) (u : Value) : Below w.heap.size w (W.setCell p u) := h.setCell hp u
theorem Rd.alloc {w : World} {A : Option Addr} {xs : List Int} (h : Rd w A xs) (o : Obj) : Rd (w.alloc o) A xs :=
  h.below ((Below.refl _ _).alloc (Nat.le_refl _) o)
theorem Rd.drew {w : World} {A : Option Addr} {xs : List Int} (h : Rd w A xs) : Rd w.drew A xs := h.below (Below.refl _ _).drew
theorem Rd.drewN {w : World} {A : Option Addr} {xs : List Int} (h : Rd w A xs) (n : Nat) : Rd (w.drewN n) A xs := h.below (below_drewN (Below.refl _ _) n)
theorem Rd.nil (w : World) (A : Option Addr) : Rd w A [] := ⟨by decide, fun h => absurd h (by decide)⟩
theorem Rd.take {w : World} {A : Option Addr} {xs : List Int} (h : Rd w A xs) (k : Nat) : Rd w A (xs.take k) := by
  have hl : (xs.take k).length ≤ xs.length := by simp; omega
  refine ⟨Nat.le_trans hl h.1, fun h0 => ?_⟩
  obtain ⟨b, off, e, hc⟩ := h.2 (by omega)
  refine ⟨b, off, e, fun j hj => ?_⟩
  rw [hc j (by omega)]
  rw [List.getD_eq_getElem?_getD, List.getD_eq_getElem?_getD, List.getElem?_take, if_pos (by rw [List.length_take] at hj; omega)]
/-- Some orders have been drawn, nothing else. -/
def Drawn (w w' : World) : Prop := ∃ n, w' = w.drewN n
theorem Drawn.refl (w : World) : Drawn w w := ⟨0, rfl⟩
theorem Drawn.drewN {w w' : World} (h : Drawn w w') (n : Nat) : Drawn w (w'.drewN n) := by
  obtain ⟨m, rfl⟩ := h
  exact ⟨m + n, World.drewN_drewN ..⟩
theorem Drawn.drew {w w' : World} (h : Drawn w w') : Drawn w w'.drew := h.drewN 1
theorem Drawn.below {w w' : World} (h : Drawn w w') : Below w.heap.size w w' := by
  obtain ⟨n, rfl⟩ := h
  exact below_drewN (Below.refl _ _) n
theorem Rd.drawn {w w1 : World} {A : Option Addr} {xs : List Int} (h : Rd w A xs) (hb : Drawn w w1) : Rd w1 A xs := h.below hb.below
/-- The cell of element k, under a name of its own. -/
theorem Rd.cell {w : World} {b off : Nat} {xs : List Int} (h : Rd w (some ⟨b, off, none⟩) xs) (k : Nat) (hk : k < xs.length) : ∃ x, w.cell? ⟨b, off + k, none⟩ = some (.int .i64 x) ∧ Hid (xs.getD k 0 = x) := by
  obtain ⟨b', off', e, hc⟩ := h.2 (by omega)
  cases e
  exact ⟨_, hc k hk, Lib.hid rfl⟩
theorem Rd.addr {w : World} {A : Option Addr} {xs : List Int} (h : Rd w A xs) (h0 : 0 < xs.length) : ∃ b off, A = some ⟨b, off, none⟩ := by
  obtain ⟨b, off, e, _⟩ := h.2 h0
  exact ⟨b, off, e⟩
/-- All old cells and marks read as before. -/
theorem bcell {W w1 : World} (hb : Below W.heap.size W w1) : (∀ b o, b < W.heap.size → w1.cell? ⟨b, o, none⟩ = W.cell? ⟨b, o, none⟩) ∧ (∀ b o, b < W.heap.size → w1.frozen? ⟨b, o, none⟩ = W.frozen? ⟨b, o, none⟩) :=
  ⟨fun b o h => hb.cell (p := ⟨b, o, none⟩) h, fun b o h => hb.frozen (p := ⟨b, o, none⟩) h⟩
/-- A call that makes memory, behind another one. -/
theorem below_then {B : Nat} {w w1 w2 : World} (h : Below B w w1) (hB : B ≤ w1.heap.size) (k : Below w1.heap.size w1 w2) : Below B w w2 :=
  h.trans ⟨k.os, k.tape, k.output, k.size, fun i hi => k.block i (Nat.lt_of_lt_of_le hi hB)⟩
theorem ret_int {k : IntKind} {a b : Int} (h : a = b) : Ending.returned (.int k a) = .returned (.int k b) := by rw [h]
/-- What the call's own row of whole numbers reads as. -/
theorem Rd.own {w : World} {base : Nat} {v : Value} {n : Nat} {xs : List Int} (h : w.ownsRow base 3 1 v n (xs.map (Value.int .i64))) :
    ∃ A c, v = .slice A xs.length c ∧ xs.length ≤ c ∧ Rd w A xs ∧ (∀ b off, A = some ⟨b, off, none⟩ → base ≤ b) := by
  have hn : xs.length = n := by have := h.1; simpa using this
  rcases h.2 with ⟨rfl, rfl⟩ | ⟨g, cap, cur, rfl, hb, hg, h1, h2, h3, h4⟩
  · have : xs = [] := List.length_eq_zero_iff.1 hn
    subst this
    exact ⟨none, 0, rfl, Nat.le_refl _, Rd.nil _ _, fun _ _ h => by cases h⟩
  · subst hn
    refine ⟨_, cap, rfl, h1, ⟨by simp only [maxLen] at h2; omega, fun h0 => ⟨g, 0, rfl, fun j hj => ?_⟩⟩, fun b off e => ?_⟩
    · have hc := h.cells (g := g) rfl j (.int .i64 (xs.getD j 0)) (by
        rw [List.getElem?_map, List.getElem?_eq_getElem hj, List.getD_eq_getElem?_getD, List.getElem?_eq_getElem hj]; rfl)
      have hadd : (⟨g, 0, none⟩ : Addr).add j = ⟨g, j, none⟩ := by unfold Addr.add; split <;> simp_all
      rw [hadd] at hc
      rw [Nat.zero_add]
      exact hc
    · cases e
      exact hb
/-- A row of whole numbers of the call's own, at the head of block g. -/
def Own (w : World) (base g n cap : Nat) (xs : List Int) : Prop := w.ownsRow base 3 1 (.slice (some ⟨g, 0, none⟩) n cap) n (xs.map (Value.int .i64))
theorem Own.len {w : World} {base g n cap : Nat} {xs : List Int} (h : Own w base g n cap xs) : xs.length = n := by have := h.1; simpa using this
theorem Own.cell {w : World} {base g n cap : Nat} {xs : List Int} (h : Own w base g n cap xs) (k : Nat) (hk : k < n) : ∃ x, w.cell? ⟨g, k, none⟩ = some (.int .i64 x) ∧ Hid (xs.getD k 0 = x) := by
  refine ⟨xs.getD k 0, ?_, Lib.hid rfl⟩
  rw [World.ownsRow.cellAt h k (by omega), List.getElem?_map, List.getD_eq_getElem?_getD, List.getElem?_eq_getElem (show k < xs.length by rw [h.len]; exact hk)]
  rfl
theorem Own.frozen {w : World} {base g n cap : Nat} {xs : List Int} (h : Own w base g n cap xs) (k : Nat) : w.frozen? ⟨g, k, none⟩ = false := World.ownsRow.frozenAt h k
theorem Own.set {w : World} {base g n cap : Nat} {xs : List Int} (h : Own w base g n cap xs) (k : Nat) (x : Int) : Own (w.setCell ⟨g, k, none⟩ (.int .i64 x)) base g n cap (xs.set k x) := by
  have := (World.ownsRow.stored h k (.int .i64 x)).1
  unfold Own
  rw [List.map_set]
  exact this
theorem Own.drewN {w : World} {base g n cap : Nat} {xs : List Int} (h : Own w base g n cap xs) (q : Nat) : Own (w.drewN q) base g n cap xs :=
  World.ownsRow.kept h (row := none) ⟨rfl, rfl, rfl, Nat.le_refl _, fun _ _ _ => rfl⟩ (by cases hv : (Value.slice (some ⟨g, 0, none⟩) n cap).ownBlock <;> simp)
theorem Own.below {w w1 : World} {base g n cap : Nat} {xs : List Int} (h : Own w base g n cap xs) (hb : Below w.heap.size w w1) : Own w1 base g n cap xs :=
  World.ownsRow.kept h (row := none) ⟨hb.os, hb.tape, hb.output, hb.size, fun k hk _ => hb.block k hk⟩ (by cases hv : (Value.slice (some ⟨g, 0, none⟩) n cap).ownBlock <;> simp)
theorem Own.rd {w : World} {base g n cap : Nat} {xs : List Int} (h : Own w base g n cap xs) : Rd w (some ⟨g, 0, none⟩) xs ∧ xs.length ≤ cap ∧ base ≤ g := by
  obtain ⟨A, c, e, h1, h2, h3⟩ := Rd.own h
  cases e
  exact ⟨h2, h1, h3 _ _ rfl⟩
theorem Own.ge {w : World} {base g n cap : Nat} {xs : List Int} (h : Own w base g n cap xs) : base ≤ g := h.rd.2.2
theorem madeCells_ints (n : Nat) : (madeCells (Value.int .i64 0).cells (n * 1)).toList = (List.replicate n (0 : Int)).map (Value.int .i64) := by
  rw [Nat.mul_one, List.map_replicate]
  exact toList_madeCells_one _ n
/-- 'x & (2^24 - 1)'. -/
theorem and_low24 (z : Int) : bits .and .i64 z 16777215 = z % 16777216 := by
  have e : (BitVec.ofInt 64 z).toNat = (z % 18446744073709551616).toNat := by
    rw [BitVec.toNat_ofInt]; rfl
  have e2 : (BitVec.ofInt 64 16777215).toNat = 2 ^ 24 - 1 := by decide
  have e3 : bits .and .i64 z 16777215 = IntKind.i64.wrap (((BitVec.ofInt 64 z).toNat &&& (BitVec.ofInt 64 16777215).toNat : Nat) : Int) := by
    rw [← BitVec.toNat_and]; rfl
  rw [e3, e, e2, Nat.and_two_pow_sub_one_eq_mod]
  have h : (((z % 18446744073709551616).toNat % 2 ^ 24 : Nat) : Int) = z % 16777216 := by omega
  rw [h, IntKind.wrap_i64]
  omega
/-- A slice (address A, length n, capacity c) that reads as xs. -/
def IsL (w : World) (A : Option Addr) (n c : Nat) (xs : List Int) : Prop := xs.length = n ∧ n ≤ c ∧ Rd w A xs
theorem IsL.below {w w1 : World} {A : Option Addr} {n c : Nat} {xs : List Int} (h : IsL w A n c xs) (hb : Below w.heap.size w w1) : IsL w1 A n c xs := ⟨h.1, h.2.1, h.2.2.below hb⟩
theorem IsL.nil (w : World) (c : Nat) : IsL w none 0 c [] := ⟨rfl, Nat.zero_le _, Rd.nil _ _⟩
/-- A call that returns a slice that reads as xs, and turns nothing that was there. -/
def RetSl (xs : List Int) (w : World) (e : Ending) (w' : World) : Prop := ∃ A n c, e = .returned (.slice A n c) ∧ IsL w' A n c xs ∧ Below w.heap.size w w'
theorem RetSl.nil (w : World) : RetSl [] w (.returned (.slice none 0 0)) w := ⟨none, 0, 0, rfl, IsL.nil _ _, Below.refl _ _⟩
/-- An integer: the sign, and limbs (address A, length n, capacity c). -/
def IsZ (w : World) (s : Bool) (A : Option Addr) (n c : Nat) (z : Int) : Prop := s = decide (z < 0) ∧ IsL w A n c (dig z.natAbs)
theorem IsZ.below {w w1 : World} {s : Bool} {A : Option Addr} {n c : Nat} {z : Int} (h : IsZ w s A n c z) (hb : Below w.heap.size w w1) : IsZ w1 s A n c z := ⟨h.1, h.2.below hb⟩
/-- A call that returns an integer, and turns nothing that was there. -/
def RetZ (z : Int) (w : World) (e : Ending) (w' : World) : Prop := ∃ s A n c, e = .returned (.agg #[.bool s, .slice A n c]) ∧ IsZ w' s A n c z ∧ Below w.heap.size w w'
theorem sign_mul (x y : Int) (n : Nat) (h : (dig (x.natAbs * y.natAbs)).length = n) : ((decide (x < 0) != decide (y < 0)) && decide (0 < n)) = decide (x * y < 0) := by
  have hz : 0 < n ↔ ¬ (x = 0 ∨ y = 0) := by
    rw [← h]
    constructor
    · intro h1 h2
      have : x.natAbs * y.natAbs = 0 := by rw [Nat.mul_eq_zero]; omega
      rw [this, dig_zero] at h1
      simp at h1
    · intro h1
      refine dig_length_pos ?_
      rw [Ne, Nat.mul_eq_zero]
      omega
  by_cases h0 : x = 0 ∨ y = 0
  · have e : ¬ (0 < n) := fun k => (hz.1 k) h0
    have e2 : x * y = 0 := Int.mul_eq_zero.2 h0
    rw [e2]
    simp [e]
  · have e : 0 < n := hz.2 h0
    rcases Int.lt_or_gt_of_ne (show x ≠ 0 by omega) with hx | hx <;> rcases Int.lt_or_gt_of_ne (show y ≠ 0 by omega) with hy | hy
    · have := Int.mul_pos_of_neg_of_neg hx hy
      simp [hx, hy]; omega
    · have := Int.mul_neg_of_neg_of_pos hx hy
      have k : ¬ (y < 0) := by omega
      simp [hx, k, e, this]
    · have := Int.mul_neg_of_pos_of_neg hx hy
      have k : ¬ (x < 0) := by omega
      simp [hy, k, e, this]
    · have := Int.mul_pos hx hy
      have k : ¬ (x < 0) := by omega
      have k2 : ¬ (y < 0) := by omega
      simp [k, k2]; omega
/-- No whole number of the type int. -/
def NoInt (u : Value) : Prop := ∀ k, u ≠ .int .i64 k
/-- A store to a cell that holds no whole number leaves what reads as whole numbers. -/
theorem Rd.store {w : World} {A : Option Addr} {xs : List Int} (h : Rd w A xs) {p : Addr} {u : Value} (hp : w.cell? p = .some u) (hu : NoInt u) (v : Value) : Rd (w.setCell p v) A xs := by
  refine ⟨h.1, fun h0 => ?_⟩
  obtain ⟨b, off, e, hc⟩ := h.2 h0
  refine ⟨b, off, e, fun j hj => ?_⟩
  rw [World.cell?_setCell_other]
  · exact hc j hj
  · intro e2
    rw [e2, hc j hj] at hp
    exact hu _ (Option.some.inj hp).symm
theorem IsL.store {w : World} {A : Option Addr} {n c : Nat} {xs : List Int} (h : IsL w A n c xs) {p : Addr} {u : Value} (hp : w.cell? p = some u) (hu : NoInt u) (v : Value) : IsL (w.setCell p v) A n c xs := ⟨h.1, h.2.1, h.2.2.store hp hu v⟩
theorem IsZ.store {w : World} {s : Bool} {A : Option Addr} {n c : Nat} {z : Int} (h : IsZ w s A n c z) {p : Addr} {u : Value} (hp : w.cell? p = some u) (hu : NoInt u) (v : Value) : IsZ (w.setCell p v) s A n c z := ⟨h.1, h.2.store hp hu v⟩
theorem NoInt.bool (b : Bool) : NoInt (.bool b) := fun k h => by cases h
theorem NoInt.slice (A : Option Addr) (n c : Nat) : NoInt (.slice A n c) := fun k h => by cases h
/-- How two whole numbers compare. -/
def cmpI (a b : Int) : Int := if a < b then -1 else if a = b then 0 else 1
theorem val_cmp {a b : List Int} (ha : Limb a) (hb : Limb b) (hl : a.length = b.length) (k : Nat) (hk : k < a.length) (he : a.drop (k + 1) = b.drop (k + 1)) (h : a.getD k 0 < b.getD k 0) : val a < val b := by
  have s1 := val_split a (k + 1) (by omega)
  have s2 := val_split b (k + 1) (by omega)
  have t1 := val_take_succ a k hk
  have t2 := val_take_succ b k (by omega)
  have l1 := val_lt (ha.take k)
  have l2 := val_nonneg (hb.take k)
  rw [List.length_take, Nat.min_eq_left (by omega)] at l1
  rw [he] at s1
  have h3 : a.getD k 0 * 16777216 ^ k + 16777216 ^ k ≤ b.getD k 0 * 16777216 ^ k := by
    have h4 := Int.mul_le_mul_of_nonneg_right (show a.getD k 0 + 1 ≤ b.getD k 0 by omega) (Int.le_of_lt (Int.lt_of_le_of_lt (val_nonneg (ha.take k)) l1))
    rw [Int.add_mul, Int.one_mul] at h4
    exact h4
  omega
theorem dig_eq_of_drop {a b : List Int} (hl : a.length = b.length) (he : a.drop 0 = b.drop 0) : a = b := by simpa using he
theorem drop_step {a b : List Int} (hl : a.length = b.length) (k : Nat) (hk : k < a.length) (he : a.drop (k + 1) = b.drop (k + 1)) (h : a.getD k 0 = b.getD k 0) : a.drop k = b.drop k := by
  rw [List.drop_eq_getElem_cons hk, List.drop_eq_getElem_cons (show k < b.length by omega), he]
  rw [List.getD_eq_getElem?_getD, List.getD_eq_getElem?_getD, List.getElem?_eq_getElem hk, List.getElem?_eq_getElem (show k < b.length by omega)] at h
  simp only [Option.getD_some] at h
  rw [h]
theorem cmpI_lt {a b : Int} (h : a < b) : cmpI a b = -1 := by unfold cmpI; rw [if_pos h]
theorem cmpI_eq {a b : Int} (h : a = b) : cmpI a b = 0 := by unfold cmpI; rw [if_neg (by omega), if_pos h]
theorem cmpI_gt {a b : Int} (h : b < a) : cmpI a b = 1 := by unfold cmpI; rw [if_neg (by omega), if_neg (by omega)]
theorem dig_cmp {m n : Nat} (hl : (dig m).length = (dig n).length) (k : Nat) (hk : k < (dig m).length) (he : (dig m).drop (k + 1) = (dig n).drop (k + 1)) (h : (dig m).getD k 0 < (dig n).getD k 0) : (m : Int) < n := by
  have := val_cmp (limb_dig m) (limb_dig n) hl k hk he h
  rwa [val_dig, val_dig] at this
theorem dig_len_lt {m n : Nat} (h : (dig m).length < (dig n).length) : (m : Int) < n := by
  by_cases hmn : m < n
  · omega
  · have := dig_length_mono (m := n) (n := m) (by omega)
    omega
end Go.Proofs.YtpgnheankmlnfaaDoor
namespace Go.Proofs.YtpgnheankmlnfaaDoor

/-- The rows up to i have been added. -/
def MulOut (a b : List Int) (i : Nat) (ys : List Int) : Prop :=
  ys.length = a.length + b.length ∧ Limb ys ∧ val ys = val (a.take i) * val b ∧ ∀ k, i + b.length ≤ k → ys.getD k 0 = 0
/-- .. and of row i the limbs up to j, with a carry. -/
def MulIn (a b : List Int) (i j : Nat) (ys : List Int) (c : Int) : Prop :=
  ys.length = a.length + b.length ∧ Limb ys ∧ 0 ≤ c ∧ c < 16777216 ∧ val ys + c * 16777216 ^ (i + j) = val (a.take i) * val b + a.getD i 0 * val (b.take j) * 16777216 ^ i ∧ ∀ k, i + b.length ≤ k → ys.getD k 0 = 0

theorem getD_set (xs : List Int) (k j : Nat) (v : Int) : (xs.set k v).getD j 0 = if k = j ∧ k < xs.length then v else xs.getD j 0 := by
  simp only [List.getD_eq_getElem?_getD, List.getElem?_set]
  by_cases h : k = j
  · subst h
    by_cases hk : k < xs.length
    · simp [hk]
    · simp [hk]
  · simp [h]
theorem mul_start (a b : List Int) : MulOut a b 0 (List.replicate (a.length + b.length) 0) := by
  refine ⟨by simp, Limb.replicate _, by rw [val_replicate]; simp [val], fun k _ => ?_⟩
  rw [List.getD_eq_getElem?_getD, List.getElem?_replicate]
  split <;> rfl
theorem mul_in {a b ys : List Int} {i : Nat} (h : MulOut a b i ys) : MulIn a b i 0 ys 0 := by
  obtain ⟨h1, h2, h3, h4⟩ := h
  exact ⟨h1, h2, Int.le_refl _, by decide, by rw [h3]; simp [val], h4⟩
theorem mul_bound {x y : Int} (h0 : 0 ≤ x) (h1 : x < 16777216) (k0 : 0 ≤ y) (k1 : y < 16777216) : 0 ≤ x * y ∧ x * y ≤ 281474943156225 := by
  refine ⟨Int.mul_nonneg h0 k0, ?_⟩
  have a := Int.mul_le_mul_of_nonneg_right (show x ≤ 16777215 by omega) k0
  omega
theorem mul_step {a b ys : List Int} {i j : Nat} {c n : Int} (ha : Limb a) (hb : Limb b) (hi : i < a.length) (hj : j < b.length) (h : MulIn a b i j ys c)
    (hn : n = c + (ys.getD (i + j) 0 + a.getD i 0 * b.getD j 0)) : MulIn a b i (j + 1) (ys.set (i + j) (n % 16777216)) (n / 16777216) := by
  obtain ⟨h1, h2, h3, h4, h5, h6⟩ := h
  have hy := h2.get (i + j)
  have hx := ha.get i
  have hz := hb.get j
  have hm := mul_bound hx.1 hx.2 hz.1 hz.2
  refine ⟨by simpa using h1, h2.set _ (by omega) (by omega), by omega, by omega, ?_, fun k hk => ?_⟩
  · rw [val_set ys (i + j) _ (by omega), val_take_succ b j hj]
    have e : n % 16777216 + 16777216 * (n / 16777216) = n := by omega
    obtain ⟨q, hq⟩ : ∃ q, n / 16777216 = q := ⟨_, rfl⟩
    obtain ⟨r, hr⟩ : ∃ r, n % 16777216 = r := ⟨_, rfl⟩
    rw [hq, hr] at e ⊢
    rw [show i + (j + 1) = (i + j) + 1 by omega, Int.pow_succ]
    have p : (16777216 : Int) ^ (i + j) = 16777216 ^ i * 16777216 ^ j := Int.pow_add ..
    grind
  · rw [getD_set, if_neg (by omega)]
    exact h6 k hk
theorem mul_row {a b ys : List Int} {i : Nat} {c : Int} (hi : i < a.length) (h : MulIn a b i b.length ys c) : MulOut a b (i + 1) (ys.set (i + b.length) c) := by
  obtain ⟨h1, h2, h3, h4, h5, h6⟩ := h
  refine ⟨by simpa using h1, h2.set _ h3 h4, ?_, fun k hk => ?_⟩
  · rw [val_set ys _ _ (by omega), h6 _ (Nat.le_refl _), val_take_succ a i hi]
    rw [List.take_length] at h5
    grind
  · rw [getD_set, if_neg (by omega)]
    exact h6 k (by omega)
theorem mul_done {m n : Nat} {ys : List Int} (h : MulOut (dig m) (dig n) (dig m).length ys) : ys.take (trimN ys ys.length) = dig (m * n) := by
  obtain ⟨h1, h2, h3, h4⟩ := h
  rw [trim_dig h2, h3, List.take_length, val_dig, val_dig]
  congr 1
theorem mul_len {m n : Nat} : (dig (m * n)).length ≤ (dig m).length + (dig n).length := by
  refine dig_length_le ?_
  rw [Nat.pow_add]
  by_cases h : n = 0
  · subst h; rw [Nat.mul_zero]; exact Nat.mul_pos (Nat.pow_pos (by decide)) (Nat.pow_pos (by decide))
  · exact Nat.mul_lt_mul'' (dig_lt m) (dig_lt n)
end Go.Proofs.YtpgnheankmlnfaaDoor
namespace Go.Proofs.YtpgnheankmlnfaaDoor
open Go.RowKit
set_option linter.unusedVariables false

theorem infoInt : (Tryd.prog.info? 3).map (fun i => (i.zero, i.size, i.bytes)) = some (some (.int .i64 0), 1, 8) := by kernel_rfl

/-- A slice of whole numbers of the call's own: its block is from base on. -/
def OwnV (w : World) (base : Nat) (v : Value) (xs : List Int) : Prop := w.ownsRow base 3 1 v xs.length (xs.map (Value.int .i64))
theorem OwnV.nil (w : World) (base : Nat) : OwnV w base (.slice none 0 0) [] := World.ownsRow_nil _ _ _ _
theorem OwnV.isL {w : World} {base : Nat} {v : Value} {xs : List Int} (h : OwnV w base v xs) : ∃ A n c, v = .slice A n c ∧ IsL w A n c xs ∧ (∀ b off, A = some ⟨b, off, none⟩ → base ≤ b) := by
  obtain ⟨A, c, e, h1, h2, h3⟩ := Rd.own h
  exact ⟨A, _, c, e, ⟨rfl, h1, h2⟩, h3⟩
theorem OwnV.below {w w1 : World} {base : Nat} {v : Value} {xs : List Int} (h : OwnV w base v xs) (hb : Below w.heap.size w w1) : OwnV w1 base v xs :=
  World.ownsRow.kept h (row := none) ⟨hb.os, hb.tape, hb.output, hb.size, fun k hk _ => hb.block k hk⟩ (by cases hv : v.ownBlock <;> simp)
/-- A store below the row's blocks. -/
theorem OwnV.setCell {w : World} {base : Nat} {v : Value} {xs : List Int} (h : OwnV w base v xs) {p : Addr} (hp : p.block < base) (u : Value) : OwnV (w.setCell p u) base v xs := ownsRow_setCell_below h hp u

theorem wpList_append_int (w : World) {ops : Array Oper} {rest : List Oper} {o : Oper} {a : Act} {Q : Exit → Act → World → Prop}
    (hg : o.guard = none) (s x : Operand) (hop : o.op = Op.call { callee := Callee.builtin Builtin.append, args := #[s, x], argTypes := #[30, 30] })
    (base : Nat) (v : Value) (xs : List Int) (y : Int) (hown : OwnV w base v xs) (hv : a.eval s = v) (hx : a.eval x = .slice (some ⟨w.heap.size, 0, none⟩) 1 1)
    (hlen : xs.length ≤ 10000000000) (hbase : base ≤ w.heap.size)
    (hK : ∀ v' w', OwnV w' base v' (xs ++ [y]) → Below base w w' → wpList Tryd.prog ops Q rest (a.put o.dst v') w') :
    wpList Tryd.prog ops Q (o :: rest) a (w.alloc (.cells #[.int .i64 y] 3)) := by
  obtain ⟨i0, hi, hz0, hz1, hz2⟩ := info_parts infoInt
  refine wpList_append_own _ hg s x 30 hop base 3 i0 (.int .i64 0) 1 8 Tryd.underlying30 hi hz0 hz1 hz2 rfl (by decide) v _ _ hv (World.ownsRow.alloc hown _) ⟨w.heap.size, 0, none⟩ 1 1 [.int .i64 y] hx rfl (cell_one_new _ _ _) (by intro u hu; simp at hu; subst hu; rfl) (by simp only [maxLen]; omega) (by omega) (by simp; omega) ?_
  intro v' w' h1 h2 _
  refine hK v' w' ?_ ?_
  · unfold OwnV
    rw [List.length_append, List.map_append]
    exact h1
  · have h3 : Below base w (w.alloc (.cells #[.int .i64 y] 3)) := (Below.refl _ _).alloc hbase _
    refine h3.grown h2 (by simp; omega) (fun k hk => ?_)
    exact (World.ownsRow.lt hown k hk).1
/-- An integer and an error are returned. -/
def RetZE (z : Int) (k : Int) (w : World) (e : Ending) (w' : World) : Prop := ∃ s A n c, e = .returned (.tuple #[.agg #[.bool s, .slice A n c], .int .i64 k]) ∧ IsZ w' s A n c z ∧ Below w.heap.size w w'

section
variable {B : Nat} {w w2 : World} {b : Bool} {A : Option Addr} {n c : Nat} {z : Int} {x0 x1 : Value}
theorem two_cells (h0 : w2.cell? ⟨B, 0, none⟩ = some x0) (h1 : w2.cell? ⟨B, 1, none⟩ = some x1) (u0 u1 : Value) :
    ((w2.setCell ⟨B, 0, none⟩ u0).setCell ⟨B, 1, none⟩ u1).cell? ⟨B, 0, none⟩ = some u0 ∧ ((w2.setCell ⟨B, 0, none⟩ u0).setCell ⟨B, 1, none⟩ u1).cell? ⟨B, 1, none⟩ = some u1 := by
  constructor
  · rw [World.cell?_setCell_other]
    · exact World.cell?_setCell_same _ _ _ h0
    · simp
  · refine World.cell?_setCell_same _ _ _ (u := x1) ?_
    rw [World.cell?_setCell_other]
    · exact h1
    · simp
theorem two_isZ (h0 : w2.cell? ⟨B, 0, none⟩ = some x0) (h1 : w2.cell? ⟨B, 1, none⟩ = some x1) (n0 : NoInt x0) (n1 : NoInt x1) (hz : IsZ w2 b A n c z) (u0 u1 : Value) :
    IsZ ((w2.setCell ⟨B, 0, none⟩ u0).setCell ⟨B, 1, none⟩ u1) b A n c z := by
  refine (hz.store h0 n0 _).store (u := x1) ?_ n1 _
  rw [World.cell?_setCell_other]
  · exact h1
  · simp
/-- The end of a function that returns an integer, which was stored into its place at last. -/
theorem bodyPost_retZ {fn : Func} {p : Tmp} {a : Act} (hres : fn.results = #[.cell p 87]) (hp : a.tmps.getD p undef = .pointer (some ⟨B, 0, none⟩)) (hd : a.defers = [])
    (h0 : w2.cell? ⟨B, 0, none⟩ = some x0) (h1 : w2.cell? ⟨B, 1, none⟩ = some x1) (n0 : NoInt x0) (n1 : NoInt x1) (hz : IsZ w2 b A n c z) (hb : Below w.heap.size w w2) (hB : w.heap.size ≤ B) :
    bodyPost Tryd.prog fn (RetZ z w) .ret a ((w2.setCell ⟨B, 0, none⟩ (.bool b)).setCell ⟨B, 1, none⟩ (.slice A n c)) := by
  obtain ⟨k0, k1⟩ := two_cells h0 h1 (.bool b) (.slice A n c)
  have hp2 : a.tmps[p]?.getD undef = .pointer (some ⟨B, 0, none⟩) := by simpa using hp
  refine bodyPost_ret (v := .agg #[.bool b, .slice A n c]) (by simp only [results, hres]; simp [go_sem, hp2, k0, k1]) hd ?_
  exact ⟨_, _, _, _, rfl, two_isZ h0 h1 n0 n1 hz _ _, below_setCell (below_setCell hb hB _) hB _⟩
theorem bodyPost_retZE {fn : Func} {p q : Tmp} {a : Act} {k : Int} (hres : fn.results = #[.cell p 87, .tmp q]) (hp : a.tmps.getD p undef = .pointer (some ⟨B, 0, none⟩)) (hq : a.tmps.getD q undef = .int .i64 k) (hd : a.defers = [])
    (h0 : w2.cell? ⟨B, 0, none⟩ = some x0) (h1 : w2.cell? ⟨B, 1, none⟩ = some x1) (n0 : NoInt x0) (n1 : NoInt x1) (hz : IsZ w2 b A n c z) (hb : Below w.heap.size w w2) (hB : w.heap.size ≤ B) :
    bodyPost Tryd.prog fn (RetZE z k w) .ret a ((w2.setCell ⟨B, 0, none⟩ (.bool b)).setCell ⟨B, 1, none⟩ (.slice A n c)) := by
  obtain ⟨k0, k1⟩ := two_cells h0 h1 (.bool b) (.slice A n c)
  have hp2 : a.tmps[p]?.getD undef = .pointer (some ⟨B, 0, none⟩) := by simpa using hp
  have hq2 : a.tmps[q]?.getD undef = .int .i64 k := by simpa using hq
  refine bodyPost_ret (v := .tuple #[.agg #[.bool b, .slice A n c], .int .i64 k]) (by simp only [results, hres]; simp [go_sem, hp2, hq2, k0, k1]) hd ?_
  exact ⟨_, _, _, _, rfl, two_isZ h0 h1 n0 n1 hz _ _, below_setCell (below_setCell hb hB _) hB _⟩
end

/-- A variable in memory (block g) that holds an integer. -/
def VarZ (w : World) (g : Nat) (z : Int) : Prop := ∃ s A n c, w.cell? ⟨g, 0, none⟩ = some (.bool s) ∧ w.cell? ⟨g, 1, none⟩ = some (.slice A n c) ∧ w.frozen? ⟨g, 0, none⟩ = false ∧ w.frozen? ⟨g, 1, none⟩ = false ∧ IsZ w s A n c z
theorem VarZ.lt {w : World} {g : Nat} {z : Int} (h : VarZ w g z) : g < w.heap.size := by
  obtain ⟨s, A, n, c, h0, _⟩ := h
  exact World.block_lt_of_cell? w _ h0
theorem VarZ.below {w w1 : World} {g : Nat} {z : Int} (h : VarZ w g z) (hb : Below w.heap.size w w1) : VarZ w1 g z := by
  have hl := h.lt
  obtain ⟨s, A, n, c, h0, h1, f0, f1, hz⟩ := h
  exact ⟨s, A, n, c, (hb.cell (p := ⟨g, 0, none⟩) hl).trans h0, (hb.cell (p := ⟨g, 1, none⟩) hl).trans h1, (hb.frozen (p := ⟨g, 0, none⟩) hl).trans f0, (hb.frozen (p := ⟨g, 1, none⟩) hl).trans f1, hz.below hb⟩
theorem VarZ.alloc {w : World} {g : Nat} {z : Int} (h : VarZ w g z) (o : Obj) : VarZ (w.alloc o) g z := h.below (below_alloc (Below.refl _ _) o)
theorem VarZ.drew {w : World} {g : Nat} {z : Int} (h : VarZ w g z) : VarZ w.drew g z := h.below (Below.refl _ _).drew
/-- A new variable. -/
theorem VarZ.new {w : World} {s : Bool} {A : Option Addr} {n c : Nat} {z : Int} (h : IsZ w s A n c z) (t : TypeId) : VarZ (w.alloc (.cells #[.bool s, .slice A n c] t)) w.heap.size z :=
  ⟨s, A, n, c, by simp [go_sem], by simp [go_sem], by simp [go_sem], by simp [go_sem], h.below (below_alloc (Below.refl _ _) _)⟩
theorem frozen_setCell (w : World) (p : Addr) (u : Value) (a : Addr) : (w.setCell p u).frozen? a = w.frozen? a := by simp [go_sem]
/-- The variable is written. -/
theorem VarZ.put {w : World} {g : Nat} {z : Int} (h : VarZ w g z) {s : Bool} {A : Option Addr} {n c : Nat} {z' : Int} (hz : IsZ w s A n c z') : VarZ ((w.setCell ⟨g, 0, none⟩ (.bool s)).setCell ⟨g, 1, none⟩ (.slice A n c)) g z' := by
  obtain ⟨s0, A0, n0, c0, h0, h1, f0, f1, _⟩ := h
  obtain ⟨k0, k1⟩ := two_cells h0 h1 (.bool s) (.slice A n c)
  exact ⟨s, A, n, c, k0, k1, by rw [frozen_setCell, frozen_setCell]; exact f0, by rw [frozen_setCell, frozen_setCell]; exact f1, two_isZ h0 h1 (NoInt.bool _) (NoInt.slice _ _ _) hz _ _⟩
/-- Another variable is written. -/
theorem VarZ.other {w : World} {g g' : Nat} {z z' : Int} (h : VarZ w g z) (k : VarZ w g' z') (hne : g ≠ g') (u0 u1 : Value) : VarZ ((w.setCell ⟨g', 0, none⟩ u0).setCell ⟨g', 1, none⟩ u1) g z := by
  obtain ⟨s, A, n, c, h0, h1, f0, f1, hz⟩ := h
  obtain ⟨_, _, _, _, k0, k1, _, _, _⟩ := k
  refine ⟨s, A, n, c, ?_, ?_, by rw [frozen_setCell, frozen_setCell]; exact f0, by rw [frozen_setCell, frozen_setCell]; exact f1, two_isZ k0 k1 (NoInt.bool _) (NoInt.slice _ _ _) hz _ _⟩
  · rw [World.cell?_setCell_other, World.cell?_setCell_other]
    · exact h0
    all_goals first | (simp; done) | (simp; omega)
  · rw [World.cell?_setCell_other, World.cell?_setCell_other]
    · exact h1
    all_goals first | (simp; done) | (simp; omega)
/-- The end of a function, its result's variable having been written. -/
theorem bodyPost_varZE {fn : Func} {p q : Tmp} {a : Act} {k : Int} {B : Nat} {w w2 : World} {z : Int} (hres : fn.results = #[.cell p 87, .tmp q]) (hp : a.tmps.getD p undef = .pointer (some ⟨B, 0, none⟩)) (hq : a.tmps.getD q undef = .int .i64 k) (hd : a.defers = [])
    (h : VarZ w2 B z) (hb : Below w.heap.size w w2) : bodyPost Tryd.prog fn (RetZE z k w) .ret a w2 := by
  obtain ⟨s, A, n, c, k0, k1, _, _, hz⟩ := h
  have hp2 : a.tmps[p]?.getD undef = .pointer (some ⟨B, 0, none⟩) := by simpa using hp
  have hq2 : a.tmps[q]?.getD undef = .int .i64 k := by simpa using hq
  refine bodyPost_ret (v := .tuple #[.agg #[.bool s, .slice A n c], .int .i64 k]) (by simp only [results, hres]; simp [go_sem, hp2, hq2, k0, k1]) hd ?_
  exact ⟨_, _, _, _, rfl, hz, hb⟩
theorem bodyPost_varZ {fn : Func} {p : Tmp} {a : Act} {B : Nat} {w w2 : World} {z : Int} (hres : fn.results = #[.cell p 87]) (hp : a.tmps.getD p undef = .pointer (some ⟨B, 0, none⟩)) (hd : a.defers = [])
    (h : VarZ w2 B z) (hb : Below w.heap.size w w2) : bodyPost Tryd.prog fn (RetZ z w) .ret a w2 := by
  obtain ⟨s, A, n, c, k0, k1, _, _, hz⟩ := h
  have hp2 : a.tmps[p]?.getD undef = .pointer (some ⟨B, 0, none⟩) := by simpa using hp
  refine bodyPost_ret (v := .agg #[.bool s, .slice A n c]) (by simp only [results, hres]; simp [go_sem, hp2, k0, k1]) hd ?_
  exact ⟨_, _, _, _, rfl, hz, hb⟩
theorem IsZ.zero (w : World) (c : Nat) : IsZ w false none 0 c 0 := ⟨by simp, by rw [show (0 : Int).natAbs = 0 from rfl, dig_zero]; exact IsL.nil _ _⟩

/-- 'make([]int, n)'. -/
theorem wpList_make_int (w : World) {ops : Array Oper} {rest : List Oper} {o : Oper} {a : Act} {Q : Exit → Act → World → Prop}
    (hg : o.guard = none) (l c : Operand) (hop : o.op = Op.makeSlice 30 l c) (L C : Int) (n : Nat) (hl : a.eval l = .int .i64 L) (hc : a.eval c = .int .i64 C) (hL : L = (n : Int)) (hC : C = (n : Int)) (hn : n ≤ 10000000000)
    (hK : ∀ w', Own w' w.heap.size w.heap.size n n (List.replicate n 0) → Below w.heap.size w w' → wpList Tryd.prog ops Q rest (a.put o.dst (.slice (some ⟨w.heap.size, 0, none⟩) n n)) w') :
    wpList Tryd.prog ops Q (o :: rest) a w := by
  obtain ⟨i0, hi, hz0, hz1, hz2⟩ := info_parts infoInt
  refine wpList_make_full w hg l c 30 hop w.heap.size 3 i0 (.int .i64 0) 1 Tryd.underlying30 hi hz0 hz1 .i64 .i64 L C n hl hc hL hC (by rw [hz2]; omega) (by simp only [maxLen]; omega) (Nat.le_refl _) ?_
  intro w1 hown hgrow
  refine hK w1 ?_ ((Below.refl _ _).grown hgrow (Nat.le_refl _) (fun k h => by cases h))
  have := madeCells_ints n
  show World.ownsRow _ _ _ _ _ _ _
  rw [← this]
  exact hown
/-- 'make([]int, 0, n)'. -/
theorem wpList_make_room (w : World) {ops : Array Oper} {rest : List Oper} {o : Oper} {a : Act} {Q : Exit → Act → World → Prop}
    (hg : o.guard = none) (l c : Operand) (hop : o.op = Op.makeSlice 30 l c) (C : Int) (n : Nat) (hl : a.eval l = .int .i64 0) (hc : a.eval c = .int .i64 C) (hC : C = (n : Int)) (hn : n ≤ 10000000000)
    (hK : ∀ w', OwnV w' w.heap.size (.slice (some ⟨w.heap.size, 0, none⟩) 0 n) [] → Below w.heap.size w w' → wpList Tryd.prog ops Q rest (a.put o.dst (.slice (some ⟨w.heap.size, 0, none⟩) 0 n)) w') :
    wpList Tryd.prog ops Q (o :: rest) a w := by
  obtain ⟨i0, hi, hz0, hz1, hz2⟩ := info_parts infoInt
  refine wpList_make_own w hg l c 30 hop w.heap.size 3 i0 (.int .i64 0) 1 Tryd.underlying30 hi hz0 hz1 .i64 .i64 C n hl hc hC (by rw [hz2]; omega) (by simp only [maxLen]; omega) (Nat.le_refl _) ?_
  intro w1 hown hgrow
  exact hK w1 hown ((Below.refl _ _).grown hgrow (Nat.le_refl _) (fun k h => by cases h))
end Go.Proofs.YtpgnheankmlnfaaDoor
