/- Variables of two whole numbers. Variables of two whole numbers whose block is known whole; a row of the call's own beside them. -/
import Derived.Test.YtpgnheankmlnfaaDoorRdig
import Derived.OneCell
namespace Go.Proofs.YtpgnheankmlnfaaDoor
open Go.RowKit
set_option linter.unusedVariables false

/-- Block g holds the two whole numbers p and q. -/
def VarQ (w : World) (g : Nat) (p q : Int) : Prop := w.cell? ⟨g, 0, none⟩ = some (.int .i64 p) ∧ w.cell? ⟨g, 1, none⟩ = some (.int .i64 q) ∧ w.frozen? ⟨g, 0, none⟩ = false ∧ w.frozen? ⟨g, 1, none⟩ = false
theorem VarQ.lt {w : World} {g : Nat} {p q : Int} (h : VarQ w g p q) : g < w.heap.size := World.block_lt_of_cell? w _ h.1
theorem VarQ.below {w w1 : World} {g : Nat} {p q : Int} (h : VarQ w g p q) (hb : Below w.heap.size w w1) : VarQ w1 g p q :=
  ⟨(hb.cell (p := ⟨g, 0, none⟩) h.lt).trans h.1, (hb.cell (p := ⟨g, 1, none⟩) h.lt).trans h.2.1, (hb.frozen (p := ⟨g, 0, none⟩) h.lt).trans h.2.2.1, (hb.frozen (p := ⟨g, 1, none⟩) h.lt).trans h.2.2.2⟩
theorem VarQ.alloc {w : World} {g : Nat} {p q : Int} (h : VarQ w g p q) (o : Obj) : VarQ (w.alloc o) g p q := h.below (below_alloc (Below.refl _ _) o)
theorem VarQ.drew {w : World} {g : Nat} {p q : Int} (h : VarQ w g p q) : VarQ w.drew g p q := h.below (Below.refl _ _).drew
theorem VarQ.drawn {w w1 : World} {g : Nat} {p q : Int} (h : VarQ w g p q) (hb : Drawn w w1) : VarQ w1 g p q := h.below hb.below
theorem VarQ.new (w : World) (p q : Int) (t : TypeId) : VarQ (w.alloc (.cells #[.int .i64 p, .int .i64 q] t)) w.heap.size p q :=
  ⟨by simp [go_sem], by simp [go_sem], by simp [go_sem], by simp [go_sem]⟩
theorem VarQ.put {w : World} {g : Nat} {p q : Int} (h : VarQ w g p q) (p' q' : Int) : VarQ ((w.setCell ⟨g, 0, none⟩ (.int .i64 p')).setCell ⟨g, 1, none⟩ (.int .i64 q')) g p' q' := by
  obtain ⟨h0, h1, f0, f1⟩ := h
  obtain ⟨k0, k1⟩ := two_cells h0 h1 (.int .i64 p') (.int .i64 q')
  exact ⟨k0, k1, by rw [frozen_setCell, frozen_setCell]; exact f0, by rw [frozen_setCell, frozen_setCell]; exact f1⟩
theorem VarQ.other {w : World} {g g' : Nat} {p q : Int} (h : VarQ w g p q) (hne : g ≠ g') (u0 u1 : Value) : VarQ ((w.setCell ⟨g', 0, none⟩ u0).setCell ⟨g', 1, none⟩ u1) g p q := by
  obtain ⟨h0, h1, f0, f1⟩ := h
  refine ⟨?_, ?_, by rw [frozen_setCell, frozen_setCell]; exact f0, by rw [frozen_setCell, frozen_setCell]; exact f1⟩
  · rw [World.cell?_setCell_other, World.cell?_setCell_other]
    · exact h0
    all_goals first | (simp; done) | (simp; omega)
  · rw [World.cell?_setCell_other, World.cell?_setCell_other]
    · exact h1
    all_goals first | (simp; done) | (simp; omega)
/-- A fraction and an error are returned. -/
def RetQE (p q k : Int) (w : World) (e : Ending) (w' : World) : Prop := e = .returned (.tuple #[.agg #[.int .i64 p, .int .i64 q], .int .i64 k]) ∧ Below w.heap.size w w'
section
variable {fn : Func} {r s : Tmp} {a : Act} {B : Nat} {w w2 : World} {p q k : Int}
theorem bodyPost_varQ (hres : fn.results = #[.cell r 39]) (hp : a.tmps.getD r undef = .pointer (some ⟨B, 0, none⟩)) (hd : a.defers = [])
    (h : VarQ w2 B p q) (hb : Below w.heap.size w w2) : bodyPost Tryd.prog fn (RetQ p q w) .ret a w2 := by
  obtain ⟨k0, k1, _, _⟩ := h
  have hp2 : a.tmps[r]?.getD undef = .pointer (some ⟨B, 0, none⟩) := by simpa using hp
  refine bodyPost_ret (v := .agg #[.int .i64 p, .int .i64 q]) (by simp only [results, hres]; simp [go_sem, hp2, k0, k1]) hd ?_
  exact ⟨rfl, hb⟩
theorem bodyPost_varQE (hres : fn.results = #[.cell r 39, .tmp s]) (hp : a.tmps.getD r undef = .pointer (some ⟨B, 0, none⟩)) (hq : a.tmps.getD s undef = .int .i64 k) (hd : a.defers = [])
    (h : VarQ w2 B p q) (hb : Below w.heap.size w w2) : bodyPost Tryd.prog fn (RetQE p q k w) .ret a w2 := by
  obtain ⟨k0, k1, _, _⟩ := h
  have hp2 : a.tmps[r]?.getD undef = .pointer (some ⟨B, 0, none⟩) := by simpa using hp
  have hq2 : a.tmps[s]?.getD undef = .int .i64 k := by simpa using hq
  refine bodyPost_ret (v := .tuple #[.agg #[.int .i64 p, .int .i64 q], .int .i64 k]) (by simp only [results, hres]; simp [go_sem, hp2, hq2, k0, k1]) hd ?_
  exact ⟨rfl, hb⟩
theorem bodyPost_varS (hres : fn.results = #[.cell r 55]) (hp : a.tmps.getD r undef = .pointer (some ⟨B, 0, none⟩)) (hd : a.defers = [])
    (h : VarQ w2 B p q) (hb : Below w.heap.size w w2) : bodyPost Tryd.prog fn (RetQ p q w) .ret a w2 := by
  obtain ⟨k0, k1, _, _⟩ := h
  have hp2 : a.tmps[r]?.getD undef = .pointer (some ⟨B, 0, none⟩) := by simpa using hp
  refine bodyPost_ret (v := .agg #[.int .i64 p, .int .i64 q]) (by simp only [results, hres]; simp [go_sem, hp2, k0, k1]) hd ?_
  exact ⟨rfl, hb⟩
theorem bodyPost_varSE (hres : fn.results = #[.cell r 55, .tmp s]) (hp : a.tmps.getD r undef = .pointer (some ⟨B, 0, none⟩)) (hq : a.tmps.getD s undef = .int .i64 k) (hd : a.defers = [])
    (h : VarQ w2 B p q) (hb : Below w.heap.size w w2) : bodyPost Tryd.prog fn (RetQE p q k w) .ret a w2 := by
  obtain ⟨k0, k1, _, _⟩ := h
  have hp2 : a.tmps[r]?.getD undef = .pointer (some ⟨B, 0, none⟩) := by simpa using hp
  have hq2 : a.tmps[s]?.getD undef = .int .i64 k := by simpa using hq
  refine bodyPost_ret (v := .tuple #[.agg #[.int .i64 p, .int .i64 q], .int .i64 k]) (by simp only [results, hres]; simp [go_sem, hp2, hq2, k0, k1]) hd ?_
  exact ⟨rfl, hb⟩
end
end Go.Proofs.YtpgnheankmlnfaaDoor
namespace Go.Proofs.YtpgnheankmlnfaaDoor
open Go.RowKit
set_option linter.unusedVariables false

/-- Block g is a fraction's variable. -/
def KQ (w : World) (g : Nat) (p q : Int) : Prop := w.heap[g]? = some (.cells #[.int .i64 p, .int .i64 q] 39 (0, 0))
theorem KQ.lt {w : World} {g : Nat} {p q : Int} (h : KQ w g p q) : g < w.heap.size := (Array.getElem?_eq_some_iff.1 h).1
theorem KQ.varQ {w : World} {g : Nat} {p q : Int} (h : KQ w g p q) : VarQ w g p q := by
  unfold KQ at h
  refine ⟨?_, ?_, ?_, ?_⟩ <;> simp [World.cell?, World.frozen?, h]
theorem KQ.new (w : World) (p q : Int) : KQ (w.alloc (.cells #[.int .i64 p, .int .i64 q] 39)) w.heap.size p q := by
  show (w.heap.push _)[w.heap.size]? = some _
  simp
theorem KQ.below {w w1 : World} {g : Nat} {p q : Int} (h : KQ w g p q) (hb : Below w.heap.size w w1) : KQ w1 g p q := (hb.block g h.lt).trans h
theorem KQ.alloc {w : World} {g : Nat} {p q : Int} (h : KQ w g p q) (o : Obj) : KQ (w.alloc o) g p q := h.below (below_alloc (Below.refl _ _) o)
theorem KQ.drew {w : World} {g : Nat} {p q : Int} (h : KQ w g p q) : KQ w.drew g p q := h
theorem KQ.put {w : World} {g : Nat} {p q : Int} (h : KQ w g p q) (p' q' : Int) : KQ ((w.setCell ⟨g, 0, none⟩ (.int .i64 p')).setCell ⟨g, 1, none⟩ (.int .i64 q')) g p' q' := by
  unfold KQ at h ⊢
  have h1 : (w.setCell ⟨g, 0, none⟩ (.int .i64 p')).heap[g]? = some (.cells #[.int .i64 p', .int .i64 q] 39 (0, 0)) := by
    simp [World.setCell, Array.getElem?_modify, h]
  generalize w.setCell ⟨g, 0, none⟩ (.int .i64 p') = w1 at h1 ⊢
  simp [World.setCell, Array.getElem?_modify, h1]
theorem KQ.other {w : World} {g g' : Nat} {p q : Int} (h : KQ w g p q) (hne : g ≠ g') (u0 u1 : Value) : KQ ((w.setCell ⟨g', 0, none⟩ u0).setCell ⟨g', 1, none⟩ u1) g p q := by
  unfold KQ at h ⊢
  rw [Below.heap_setCell _ _ _ _ hne, Below.heap_setCell _ _ _ _ hne]
  exact h
theorem KQ.grown {w w1 : World} {row : Option Nat} {g : Nat} {p q : Int} (h : KQ w g p q) (hg : w.grownBy w1 row) (hne : row ≠ some g) : KQ w1 g p q :=
  (hg.block g h.lt (fun e => hne e.symm)).trans h
theorem OwnV.ne {w : World} {base g : Nat} {v : Value} {xs : List Int} {p q : Int} (h : OwnV w base v xs) (k : KQ w g p q) : v.ownBlock ≠ some g := by
  intro e
  rcases h.2 with ⟨rfl, _⟩ | ⟨g', cap, cur, rfl, _, hgg, _⟩
  · simp [Value.ownBlock] at e
  · simp [Value.ownBlock] at e
    subst e
    unfold KQ at k
    rw [hgg] at k
    simp at k
theorem OwnV.put {w : World} {base g : Nat} {v : Value} {xs : List Int} {p q : Int} (h : OwnV w base v xs) (k : KQ w g p q) (u0 u1 : Value) : OwnV ((w.setCell ⟨g, 0, none⟩ u0).setCell ⟨g, 1, none⟩ u1) base v xs :=
  ownsRow_setCell_other (ownsRow_setCell_other h (h.ne k) _) (h.ne k) _

/-- 'append(xs, y)': what else lies is kept. -/
theorem wpList_append_keep (w : World) {ops : Array Oper} {rest : List Oper} {o : Oper} {a : Act} {Q : Exit → Act → World → Prop}
    (hg : o.guard = none) (s x : Operand) (hop : o.op = Op.call { callee := Callee.builtin Builtin.append, args := #[s, x], argTypes := #[30, 30] })
    (base : Nat) (v : Value) (xs : List Int) (y : Int) (hown : OwnV w base v xs) (hv : a.eval s = v) (hx : a.eval x = .slice (some ⟨w.heap.size, 0, none⟩) 1 1)
    (hlen : xs.length ≤ 10000000000) (hbase : base ≤ w.heap.size)
    (hK : ∀ v' w', OwnV w' base v' (xs ++ [y]) → Below base w w' → (w.alloc (.cells #[.int .i64 y] 3)).grownBy w' v.ownBlock → wpList Tryd.prog ops Q rest (a.put o.dst v') w') :
    wpList Tryd.prog ops Q (o :: rest) a (w.alloc (.cells #[.int .i64 y] 3)) := by
  obtain ⟨i0, hi, hz0, hz1, hz2⟩ := info_parts infoInt
  refine wpList_append_own _ hg s x 30 hop base 3 i0 (.int .i64 0) 1 8 Tryd.underlying30 hi hz0 hz1 hz2 rfl (by decide) v _ _ hv (World.ownsRow.alloc hown _) ⟨w.heap.size, 0, none⟩ 1 1 [.int .i64 y] hx rfl (cell_one_new _ _ _) (by intro u hu; simp at hu; subst hu; rfl) (by simp only [maxLen]; omega) (by omega) (by simp; omega) ?_
  intro v' w' h1 h2 _
  refine hK v' w' ?_ ?_ h2
  · unfold OwnV
    rw [List.length_append, List.map_append]
    exact h1
  · have h3 : Below base w (w.alloc (.cells #[.int .i64 y] 3)) := (Below.refl _ _).alloc hbase _
    refine h3.grown h2 (by simp; omega) (fun k hk => ?_)
    exact (World.ownsRow.lt hown k hk).1
theorem OwnV.lit (w : World) (base : Nat) (y : Int) (hb : base ≤ w.heap.size) : OwnV (w.alloc (.cells #[.int .i64 y] 3)) base (.slice (some ⟨w.heap.size, 0, none⟩) 1 1) [y] :=
  World.ownsRow_lit w #[.int .i64 y] 1 hb (by decide) rfl
theorem OwnV.alloc {w : World} {base : Nat} {v : Value} {xs : List Int} (h : OwnV w base v xs) (o : Obj) : OwnV (w.alloc o) base v xs := World.ownsRow.alloc h o
theorem OwnV.drew {w : World} {base : Nat} {v : Value} {xs : List Int} (h : OwnV w base v xs) : OwnV w.drew base v xs := World.ownsRow.drew h
end Go.Proofs.YtpgnheankmlnfaaDoor
