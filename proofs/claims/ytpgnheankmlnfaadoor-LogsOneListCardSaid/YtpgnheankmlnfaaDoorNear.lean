/- The walk over logs.nearer$1, the iterator, at whatever round. A range over an iterator that may go on for ever: the statement and one round, under the wide fence. -/
import Derived.Test.YtpgnheankmlnfaaDoorEq
import Derived.RangeFuncNested
import Derived.RangeFuncBound
import Derived.RangeFuncCalls
import Derived.RangeFuncLeaves
import Derived.Shelf.Abstract
import Derived.Shelf.RegionOpen
import Derived.WalkKit
import Derived.OwnWalkIn
import Derived.TacticsInMore
import Derived.LoopNIn
import Derived.LoopIn
namespace Go.Proofs.YtpgnheankmlnfaaDoor
open Go.RowKit
set_option linter.unusedVariables false

/-- Two fractions. -/
abbrev Quad := Int × Nat × Int × Nat
/-- The pair as a value. -/
def encQ (x : Quad) : Value := .agg #[.int .i64 x.1, .int .i64 x.2.1, .int .i64 x.2.2.1, .int .i64 x.2.2.2]
/-- Block g is a pair's variable. -/
def KP (w : World) (g : Nat) (x : Quad) : Prop := w.heap[g]? = some (.cells #[.int .i64 x.1, .int .i64 x.2.1, .int .i64 x.2.2.1, .int .i64 x.2.2.2] 77 (0, 0))
theorem KP.lt {w : World} {g : Nat} {x : Quad} (h : KP w g x) : g < w.heap.size := (Array.getElem?_eq_some_iff.1 h).1
theorem KP.cells {w : World} {g : Nat} {p r : Int} {q s : Nat} (h : KP w g (p, q, r, s)) :
    w.cell? ⟨g, 0, none⟩ = some (.int .i64 p) ∧ w.cell? ⟨g, 1, none⟩ = some (.int .i64 q) ∧ w.cell? ⟨g, 2, none⟩ = some (.int .i64 r) ∧ w.cell? ⟨g, 3, none⟩ = some (.int .i64 s) ∧
    w.frozen? ⟨g, 0, none⟩ = false ∧ w.frozen? ⟨g, 1, none⟩ = false ∧ w.frozen? ⟨g, 2, none⟩ = false ∧ w.frozen? ⟨g, 3, none⟩ = false := by
  unfold KP at h
  refine ⟨?_, ?_, ?_, ?_, ?_, ?_, ?_, ?_⟩ <;> simp [World.cell?, World.frozen?, h]
theorem KP.new (w : World) (p r : Int) (q s : Nat) : KP (w.alloc (.cells #[.int .i64 p, .int .i64 q, .int .i64 r, .int .i64 s] 77)) w.heap.size (p, q, r, s) := by
  show (w.heap.push _)[w.heap.size]? = some _
  simp
theorem KP.below {w w1 : World} {g : Nat} {x : Quad} (h : KP w g x) (hb : Below w.heap.size w w1) : KP w1 g x := (hb.block g h.lt).trans h
theorem KP.left {w : World} {g : Nat} {p r p' : Int} {q s q' : Nat} (h : KP w g (p, q, r, s)) : KP ((w.setCell ⟨g, 0, none⟩ (.int .i64 p')).setCell ⟨g, 1, none⟩ (.int .i64 q')) g (p', q', r, s) := by
  unfold KP at h ⊢
  have h1 : (w.setCell ⟨g, 0, none⟩ (.int .i64 p')).heap[g]? = some (.cells #[.int .i64 p', .int .i64 q, .int .i64 r, .int .i64 s] 77 (0, 0)) := by
    simp [World.setCell, Array.getElem?_modify, h]
  generalize w.setCell ⟨g, 0, none⟩ (.int .i64 p') = w1 at h1 ⊢
  simp [World.setCell, Array.getElem?_modify, h1]
theorem KP.right {w : World} {g : Nat} {p r p' : Int} {q s q' : Nat} (h : KP w g (p, q, r, s)) : KP ((w.setCell ⟨g, 2, none⟩ (.int .i64 p')).setCell ⟨g, 3, none⟩ (.int .i64 q')) g (p, q, p', q') := by
  unfold KP at h ⊢
  have h1 : (w.setCell ⟨g, 2, none⟩ (.int .i64 p')).heap[g]? = some (.cells #[.int .i64 p, .int .i64 q, .int .i64 p', .int .i64 s] 77 (0, 0)) := by
    simp [World.setCell, Array.getElem?_modify, h]
  generalize w.setCell ⟨g, 2, none⟩ (.int .i64 p') = w1 at h1 ⊢
  simp [World.setCell, Array.getElem?_modify, h1]
/-- How far the pair has come, read off the world. -/
def sumAt (w : World) (g : Nat) : Nat := (intOf ((w.cell? ⟨g, 1, none⟩).getD undef)).toNat + (intOf ((w.cell? ⟨g, 3, none⟩).getD undef)).toNat
theorem KP.sum {w : World} {g : Nat} {p r : Int} {q s : Nat} (h : KP w g (p, q, r, s)) : sumAt w g = q + s := by
  obtain ⟨_, h1, _, h3, _⟩ := h.cells
  unfold sumAt
  rw [h1, h3]
  simp [intOf]
/-- What a round keeps: all blocks but two. -/
def KeepX (B9 l : Nat) (W1 W2 : World) : Prop := W1.heap.size ≤ W2.heap.size ∧ ∀ k, k < W1.heap.size → k ≠ B9 → k ≠ l → W2.heap[k]? = W1.heap[k]?
/-- The pair that is come to from a pair. -/
def nearT (a b o : Nat) (p : Int) (q : Nat) (r : Int) (s : Nat) : Quad :=
  if h : q + s ≤ o ∧ ¬ (p = r ∧ q = s) ∧ 1 ≤ q ∧ 1 ≤ s then
    (if 0 < sd a b (q + s) (p + r) then nearT a b o (p + r) (q + s) r s else nearT a b o p q (p + r) (q + s))
  else (p, q, r, s)
termination_by 2 * o - (q + s)
decreasing_by all_goals omega
def nearS (a b o : Nat) : Quad := nearT a b o (flo a b 1) 1 (if isW a b 1 = true then flo a b 1 else flo a b 1 + 1) 1

set_option maxRecDepth 100000 in
set_option maxHeartbeats 4000000 in
theorem nearer1_in (a b o ba bb B9 l : Nat) (W : World) (J : Option Quad → World → Prop) (Jx : Quad → World → Prop)
    (ha0 : 0 < a) (ha : a ≤ 4095) (hb0 : 0 < b) (hb : b ≤ 4095) (ho0 : 1 ≤ o) (ho : o ≤ 64)
    (hca : W.cell? ⟨ba, 0, none⟩ = some (.int .i64 a)) (hcb : W.cell? ⟨bb, 0, none⟩ = some (.int .i64 b)) (n1 : ba ≠ B9) (n2 : ba ≠ l) (n3 : bb ≠ B9) (n4 : bb ≠ l) (n5 : B9 < W.heap.size) (n6 : l < W.heap.size)
    (hJ : ∀ x W1 W2, J x W1 → Below W.heap.size W1 W2 → J x W2)
    (hY : ∀ x y W1, J x W1 → y.2.1 ≤ 128 → y.2.2.2 ≤ 128 → YieldAt Fence.wide 0 Tryd.prog l #[encQ y] W1 fun e W' => (e = .returned (.bool true) ∧ y.2.1 + y.2.2.2 ≤ o ∧ J (some y) W' ∧ KeepX B9 l W1 W') ∨ (e = .returned (.bool false) ∧ o < y.2.1 + y.2.2.2 ∧ Jx y W'))
    (h0 : J none W) :
    CallsIn Fence.wide 0 Tryd.prog 73 #[.func (.yield l) #[] #[], .pointer (some ⟨ba, 0, none⟩), .pointer (some ⟨bb, 0, none⟩)] W fun e W' =>
      (∃ v, e = .returned v) ∧ ∃ y, y = nearS a b o ∧ (J (some y) W' ∨ Jx y W') := by
  refine callsIn_of_wp Tryd.func73 rfl trivial ?_ rfl
  simp only [Tryd.ntmps73, List.size_toArray, List.length_cons, List.length_nil, Nat.reduceAdd, Nat.reduceSub, Array.replicate_succ, Array.replicate_zero, List.push_toArray, List.append_toArray, List.nil_append, List.cons_append]
  have HJ := Lib.hid hJ
  have HY := Lib.hid hY
  have H0 := Lib.hid h0
  clear hJ hY h0
  have hba : ba < W.heap.size := World.block_lt_of_cell? W _ hca
  have hbb : bb < W.heap.size := World.block_lt_of_cell? W _ hcb
  obtain ⟨f0, f1⟩ := flo_range (a := a) (b := b) (q := 1) ha hb (by decide)
  obtain ⟨R, hR⟩ : ∃ R, nearS a b o = R := ⟨_, rfl⟩
  have hR2 := hR
  unfold nearS at hR2
  rw [hR]
  clear hR
  obtain ⟨m, hm⟩ : ∃ m, flo a b 1 = m := ⟨_, rfl⟩
  obtain ⟨t, ht⟩ : ∃ t, isW a b 1 = t := ⟨_, rfl⟩
  rw [hm] at f0 f1 hR2
  rw [ht] at hR2
  have HM := Lib.hid hm
  have HT : Hid ((sd a b 1 (flo a b 1) == 0) = t) := Lib.hid ht
  have HR := Lib.hid hR2
  clear hm ht hR2
  gi_wp2_with fail
  refine ⟨trivial, rfl, callsIn_wide.2 ((whole_any a b 1 _ ha hb ha0 hb0 (by decide)).mono ?_)⟩
  rintro e w1 ⟨rfl, hq1⟩
  rw [HT.out, HM.out]
  have HB1 := Lib.hid hq1
  clear hq1
  cases t
  case' false =>
    gi_wp2_with fail
    obtain ⟨W2, hW2⟩ : ∃ W2, w1.alloc (.cells #[.int .i64 m, .int .i64 1, .int .i64 (m + 1), .int .i64 1] 77) = W2 := ⟨_, rfl⟩
    have h1 : KP W2 w1.heap.size (m, 1, m + 1, 1) := by rw [← hW2]; exact KP.new w1 m (m + 1) 1 1
    have h2 : Below W.heap.size W W2 := by rw [← hW2]; exact below_alloc HB1.out _
    obtain ⟨r0, h1, hr0, hr1, hN⟩ : ∃ r0, KP W2 w1.heap.size (m, 1, r0, 1) ∧ -3074 ≤ r0 ∧ r0 ≤ 3073 ∧ nearT a b o m 1 r0 1 = R := ⟨m + 1, h1, by omega, by omega, HR.out⟩
  case' true =>
    gi_wp2_with fail
    obtain ⟨W2, hW2⟩ : ∃ W2, w1.alloc (.cells #[.int .i64 m, .int .i64 1, .int .i64 m, .int .i64 1] 77) = W2 := ⟨_, rfl⟩
    have h1 : KP W2 w1.heap.size (m, 1, m, 1) := by rw [← hW2]; exact KP.new w1 m m 1 1
    have h2 : Below W.heap.size W W2 := by rw [← hW2]; exact below_alloc HB1.out _
    obtain ⟨r0, h1, hr0, hr1, hN⟩ : ∃ r0, KP W2 w1.heap.size (m, 1, r0, 1) ∧ -3074 ≤ r0 ∧ r0 ≤ 3073 ∧ nearT a b o m 1 r0 1 = R := ⟨m, h1, by omega, by omega, HR.out⟩
  all_goals
    rw [hW2]
    have hgW : W.heap.size ≤ w1.heap.size := HB1.out.size
    obtain ⟨g, hg⟩ : ∃ g, w1.heap.size = g := ⟨_, rfl⟩
    rw [hg] at h1 hgW
    rw [hg]
    have hA := (h2.cell (p := ⟨ba, 0, none⟩) hba).trans hca
    have hB := (h2.cell (p := ⟨bb, 0, none⟩) hbb).trans hcb
    have hJ2 := HJ.out none _ _ H0.out h2
    have hs2 : W.heap.size ≤ W2.heap.size := h2.size
    have HK := Lib.hid h1
    have HN := Lib.hid hN
    have HA := Lib.hid hA
    have HBb := Lib.hid hB
    have HJ2 := Lib.hid hJ2
    clear hW2 h1 h2 hN hA hB hJ2 hg hca hcb HB1 HR HT HM H0
    gi_loopw [7] (fun _ wr => ∃ (p : Int) (q : Nat) (r : Int) (s : Nat) (jo : Option Quad), Hid (KP wr g (p, q, r, s)) ∧ Hid (J jo wr) ∧ Hid (nearT a b o p q r s = R) ∧ 1 ≤ q ∧ 1 ≤ s ∧ q ≤ 128 ∧ s ≤ 128 ∧ -4097 * (q : Int) ≤ p ∧ p ≤ 4097 * (q : Int) ∧ -4097 * (s : Int) ≤ r ∧ r ≤ 4097 * (s : Int) ∧ Hid (wr.cell? ⟨ba, 0, none⟩ = some (.int .i64 a)) ∧ Hid (wr.cell? ⟨bb, 0, none⟩ = some (.int .i64 b)) ∧ W.heap.size ≤ wr.heap.size) (fun _ wr => 1000 - sumAt wr g)
  all_goals try
    case atStart => exact ⟨m, 1, r0, 1, none, HK, HJ2, HN, by omega, by omega, by omega, by omega, by omega, by omega, by omega, by omega, HA, HBb, hs2⟩
  all_goals
    clear HK HJ2 HN HA HBb hs2
    obtain ⟨p, q, r, s, jo, HK, HJo, HN, q1, s1, q2, s2, p0, p1, r0', r1', HA, HBb, hsw⟩ := hrel
    obtain ⟨c0, c1, c2, c3, c4, c5, c6, c7⟩ := HK.out.cells
    have kg := HK.out.lt
    have HS0 := Lib.hid HK.out.sum
    obtain ⟨fn, tmps, assign, body, hy, hRd⟩ := HY.out jo (p, q, r, s) wr HJo.out q2 s2
    dsimp only [encQ] at hy
    gi_wp2_with fail
    refine ⟨rfl, hRd.mono ?_⟩
    clear hRd hy c0 c1 c2 c3 c4 c5 c6 c7
    rintro e W3 (⟨rfl, hle, hJ3, hK3⟩ | ⟨rfl, hgt, hJ3⟩)
    · have hle' : q + s ≤ o := hle
      have HK3 : Hid (KP W3 g (p, q, r, s)) := (hK3.2 g kg (by omega) (by omega)).trans HK.out
      have HA3 : Hid (W3.cell? ⟨ba, 0, none⟩ = some (.int .i64 a)) := (World.cell?_of_block (a := ⟨ba, 0, none⟩) (hK3.2 ba (by omega) n1 n2)).trans HA.out
      have HB3 : Hid (W3.cell? ⟨bb, 0, none⟩ = some (.int .i64 b)) := (World.cell?_of_block (a := ⟨bb, 0, none⟩) (hK3.2 bb (by omega) n3 n4)).trans HBb.out
      have HJ3 := Lib.hid hJ3
      have hsz3 : W.heap.size ≤ W3.heap.size := Nat.le_trans hsw hK3.1
      clear hK3 hJ3 hle HK HA HBb HJo
      obtain ⟨c0, c1, c2, c3, c4, c5, c6, c7⟩ := HK3.out.cells
      have kg3 := HK3.out.lt
      by_cases hE : p = r ∧ q = s
      · obtain ⟨rfl, rfl⟩ := hE
        have HR : Hid (R = (p, q, p, q)) := by rw [← HN.out, nearT, dif_neg (by rintro ⟨_, h, _⟩; exact h ⟨rfl, rfl⟩)]; exact Lib.hid rfl
        gi_wp2_with fail
        go_end0
        exact ⟨⟨_, rfl⟩, R, rfl, .inl (by rw [HR.out]; exact HJ3.out)⟩
      · gi_wp2_with fail
        --REST
        · have hpr : p = r := by assumption
          subst hpr
          have hE2 : ¬ (p = p ∧ q = s) := hE
          have HN3 := HN
          refine ⟨trivial, rfl, callsIn_wide.2 ((sum_any p q p s _ (by omega) (by omega) (by omega) (by omega)).mono ?_)⟩
          rintro e w4 ⟨rfl, hq4⟩
          obtain ⟨xq, hxq⟩ : ∃ x, q + s = x := ⟨_, rfl⟩
          obtain ⟨xp, hxp⟩ : ∃ x, p + p = x := ⟨_, rfl⟩
          rw [show ((q : Int) + s) = (xq : Int) by omega, hxp]
          have hx1 : 1 ≤ xq := by omega
          have hx2 : xq ≤ 64 := by omega
          have hx3 : -4097 * (xq : Int) ≤ xp := by omega
          have hx4 : xp ≤ 4097 * (xq : Int) := by omega
          have hqx : q < xq := by omega
          have hsx : s < xq := by omega
          have hN : R = if 0 < sd a b xq xp then nearT a b o xp xq p s else nearT a b o p q xp xq := by
            rw [← HN.out, nearT, dif_pos ⟨hle', hE2, q1, s1⟩, hxq, hxp]
          have HNX := Lib.hid hN
          have HK4 := Lib.hid (HK3.out.below hq4)
          have HA4 : Hid (w4.cell? ⟨ba, 0, none⟩ = some (.int .i64 a)) := (hq4.cell (p := ⟨ba, 0, none⟩) (by show ba < _; omega)).trans HA3.out
          have HB4 : Hid (w4.cell? ⟨bb, 0, none⟩ = some (.int .i64 b)) := (hq4.cell (p := ⟨bb, 0, none⟩) (by show bb < _; omega)).trans HB3.out
          have HJ4 := Lib.hid (HJ.out _ _ _ HJ3.out (hq4.mono hsz3))
          have hsz4 : W.heap.size ≤ w4.heap.size := Nat.le_trans hsz3 hq4.size
          clear hxq hxp hN hq4 HK3 HA3 HB3 HJ3 HN HN3 hE hE2 c0 c1 c2 c3 c4 c5 c6 c7 kg3 hsz3
          obtain ⟨c0, c1, c2, c3, c4, c5, c6, c7⟩ := HK4.out.cells
          have kg4 := HK4.out.lt
          have e0 := HA4.out
          have e1 := HB4.out
          have l0 : ba < w4.heap.size := by omega
          have l1 : bb < w4.heap.size := by omega
          gi_wp2_with fail
          refine ⟨trivial, rfl, callsIn_wide.2 ((side_any a b xq xp _ ha hb ha0 hb0 (by omega) (by omega) (by omega)).mono ?_)⟩
          rintro e w5 ⟨rfl, hq5⟩
          have hb5 := below_call (below_alloc (Below.refl w4.heap.size w4) (.cells #[.int .i64 xp, .int .i64 xq] 39)) hq5
          have HX5 := Lib.hid ((KQ.new w4 xp xq).below hq5)
          have HK5 := Lib.hid (HK4.out.below hb5)
          have HA5 : Hid (w5.cell? ⟨ba, 0, none⟩ = some (.int .i64 a)) := (hb5.cell (p := ⟨ba, 0, none⟩) l0).trans HA4.out
          have HB5 : Hid (w5.cell? ⟨bb, 0, none⟩ = some (.int .i64 b)) := (hb5.cell (p := ⟨bb, 0, none⟩) l1).trans HB4.out
          have HJ5 := Lib.hid (HJ.out _ _ _ HJ4.out (hb5.mono hsz4))
          have hsz5 : W.heap.size ≤ w5.heap.size := Nat.le_trans hsz4 hb5.size
          obtain ⟨g4, hg4⟩ : ∃ g, w4.heap.size = g := ⟨_, rfl⟩
          rw [hg4] at HX5 kg4
          rw [hg4]
          have gne : g ≠ g4 := by omega
          have gne' : g4 ≠ g := by omega
          clear hq5 hb5 HK4 HA4 HB4 HJ4 c0 c1 c2 c3 c4 c5 c6 c7 kg4 e0 e1 l0 l1 hsz4 hg4
          obtain ⟨c0, c1, c2, c3, c4, c5, c6, c7⟩ := HK5.out.cells
          obtain ⟨d0, d1, d2, d3⟩ := HX5.out.varQ
          have kg5 := HK5.out.lt
          have kx5 := HX5.out.lt
          obtain ⟨sv, hsv⟩ : ∃ v, sd a b xq xp = v := ⟨_, rfl⟩
          rw [hsv] at HNX
          rw [hsv]
          clear hsv
          by_cases hs : 0 < sv
          · have HN6 : Hid (nearT a b o xp xq p s = R) := Lib.hid (by rw [HNX.out, if_pos hs])
            gi_wp2_with fail
            have hw : Below W.heap.size w5 ((w5.setCell ⟨g, 0, none⟩ (.int .i64 xp)).setCell ⟨g, 1, none⟩ (.int .i64 xq)) := ((Below.refl _ w5).setCell (p := ⟨g, 0, none⟩) hgW _).setCell (p := ⟨g, 1, none⟩) hgW _
            have hk := HK5.out.left (p' := xp) (q' := xq)
            refine ⟨⟨xp, xq, p, s, _, Lib.hid hk, Lib.hid (HJ.out _ _ _ HJ5.out hw), HN6, by omega, by omega, by omega, by omega, by omega, by omega, by omega, by omega, Lib.hid ((hw.cell (p := ⟨ba, 0, none⟩) hba).trans HA5.out), Lib.hid ((hw.cell (p := ⟨bb, 0, none⟩) hbb).trans HB5.out), by simp; exact hsz5⟩, ?_⟩
            rw [hk.sum, HS0.out]
            omega
          · have HN6 : Hid (nearT a b o p q xp xq = R) := Lib.hid (by rw [HNX.out, if_neg hs])
            gi_wp2_with fail
            have hw : Below W.heap.size w5 ((w5.setCell ⟨g, 2, none⟩ (.int .i64 xp)).setCell ⟨g, 3, none⟩ (.int .i64 xq)) := ((Below.refl _ w5).setCell (p := ⟨g, 2, none⟩) hgW _).setCell (p := ⟨g, 3, none⟩) hgW _
            have hk := HK5.out.right (p' := xp) (q' := xq)
            refine ⟨⟨p, q, xp, xq, _, Lib.hid hk, Lib.hid (HJ.out _ _ _ HJ5.out hw), HN6, by omega, by omega, by omega, by omega, by omega, by omega, by omega, by omega, Lib.hid ((hw.cell (p := ⟨ba, 0, none⟩) hba).trans HA5.out), Lib.hid ((hw.cell (p := ⟨bb, 0, none⟩) hbb).trans HB5.out), by simp; exact hsz5⟩, ?_⟩
            rw [hk.sum, HS0.out]
            omega
        · have hE2 : ¬ (p = r ∧ q = s) := hE
          have HN3 := HN
          refine ⟨trivial, rfl, callsIn_wide.2 ((sum_any p q r s _ (by omega) (by omega) (by omega) (by omega)).mono ?_)⟩
          rintro e w4 ⟨rfl, hq4⟩
          obtain ⟨xq, hxq⟩ : ∃ x, q + s = x := ⟨_, rfl⟩
          obtain ⟨xp, hxp⟩ : ∃ x, p + r = x := ⟨_, rfl⟩
          rw [show ((q : Int) + s) = (xq : Int) by omega, hxp]
          have hx1 : 1 ≤ xq := by omega
          have hx2 : xq ≤ 64 := by omega
          have hx3 : -4097 * (xq : Int) ≤ xp := by omega
          have hx4 : xp ≤ 4097 * (xq : Int) := by omega
          have hqx : q < xq := by omega
          have hsx : s < xq := by omega
          have hN : R = if 0 < sd a b xq xp then nearT a b o xp xq r s else nearT a b o p q xp xq := by
            rw [← HN.out, nearT, dif_pos ⟨hle', hE2, q1, s1⟩, hxq, hxp]
          have HNX := Lib.hid hN
          have HK4 := Lib.hid (HK3.out.below hq4)
          have HA4 : Hid (w4.cell? ⟨ba, 0, none⟩ = some (.int .i64 a)) := (hq4.cell (p := ⟨ba, 0, none⟩) (by show ba < _; omega)).trans HA3.out
          have HB4 : Hid (w4.cell? ⟨bb, 0, none⟩ = some (.int .i64 b)) := (hq4.cell (p := ⟨bb, 0, none⟩) (by show bb < _; omega)).trans HB3.out
          have HJ4 := Lib.hid (HJ.out _ _ _ HJ3.out (hq4.mono hsz3))
          have hsz4 : W.heap.size ≤ w4.heap.size := Nat.le_trans hsz3 hq4.size
          clear hxq hxp hN hq4 HK3 HA3 HB3 HJ3 HN HN3 hE hE2 c0 c1 c2 c3 c4 c5 c6 c7 kg3 hsz3
          obtain ⟨c0, c1, c2, c3, c4, c5, c6, c7⟩ := HK4.out.cells
          have kg4 := HK4.out.lt
          have e0 := HA4.out
          have e1 := HB4.out
          have l0 : ba < w4.heap.size := by omega
          have l1 : bb < w4.heap.size := by omega
          gi_wp2_with fail
          refine ⟨trivial, rfl, callsIn_wide.2 ((side_any a b xq xp _ ha hb ha0 hb0 (by omega) (by omega) (by omega)).mono ?_)⟩
          rintro e w5 ⟨rfl, hq5⟩
          have hb5 := below_call (below_alloc (Below.refl w4.heap.size w4) (.cells #[.int .i64 xp, .int .i64 xq] 39)) hq5
          have HX5 := Lib.hid ((KQ.new w4 xp xq).below hq5)
          have HK5 := Lib.hid (HK4.out.below hb5)
          have HA5 : Hid (w5.cell? ⟨ba, 0, none⟩ = some (.int .i64 a)) := (hb5.cell (p := ⟨ba, 0, none⟩) l0).trans HA4.out
          have HB5 : Hid (w5.cell? ⟨bb, 0, none⟩ = some (.int .i64 b)) := (hb5.cell (p := ⟨bb, 0, none⟩) l1).trans HB4.out
          have HJ5 := Lib.hid (HJ.out _ _ _ HJ4.out (hb5.mono hsz4))
          have hsz5 : W.heap.size ≤ w5.heap.size := Nat.le_trans hsz4 hb5.size
          obtain ⟨g4, hg4⟩ : ∃ g, w4.heap.size = g := ⟨_, rfl⟩
          rw [hg4] at HX5 kg4
          rw [hg4]
          have gne : g ≠ g4 := by omega
          have gne' : g4 ≠ g := by omega
          clear hq5 hb5 HK4 HA4 HB4 HJ4 c0 c1 c2 c3 c4 c5 c6 c7 kg4 e0 e1 l0 l1 hsz4 hg4
          obtain ⟨c0, c1, c2, c3, c4, c5, c6, c7⟩ := HK5.out.cells
          obtain ⟨d0, d1, d2, d3⟩ := HX5.out.varQ
          have kg5 := HK5.out.lt
          have kx5 := HX5.out.lt
          obtain ⟨sv, hsv⟩ : ∃ v, sd a b xq xp = v := ⟨_, rfl⟩
          rw [hsv] at HNX
          rw [hsv]
          clear hsv
          by_cases hs : 0 < sv
          · have HN6 : Hid (nearT a b o xp xq r s = R) := Lib.hid (by rw [HNX.out, if_pos hs])
            gi_wp2_with fail
            have hw : Below W.heap.size w5 ((w5.setCell ⟨g, 0, none⟩ (.int .i64 xp)).setCell ⟨g, 1, none⟩ (.int .i64 xq)) := ((Below.refl _ w5).setCell (p := ⟨g, 0, none⟩) hgW _).setCell (p := ⟨g, 1, none⟩) hgW _
            have hk := HK5.out.left (p' := xp) (q' := xq)
            refine ⟨⟨xp, xq, r, s, _, Lib.hid hk, Lib.hid (HJ.out _ _ _ HJ5.out hw), HN6, by omega, by omega, by omega, by omega, by omega, by omega, by omega, by omega, Lib.hid ((hw.cell (p := ⟨ba, 0, none⟩) hba).trans HA5.out), Lib.hid ((hw.cell (p := ⟨bb, 0, none⟩) hbb).trans HB5.out), by simp; exact hsz5⟩, ?_⟩
            rw [hk.sum, HS0.out]
            omega
          · have HN6 : Hid (nearT a b o p q xp xq = R) := Lib.hid (by rw [HNX.out, if_neg hs])
            gi_wp2_with fail
            have hw : Below W.heap.size w5 ((w5.setCell ⟨g, 2, none⟩ (.int .i64 xp)).setCell ⟨g, 3, none⟩ (.int .i64 xq)) := ((Below.refl _ w5).setCell (p := ⟨g, 2, none⟩) hgW _).setCell (p := ⟨g, 3, none⟩) hgW _
            have hk := HK5.out.right (p' := xp) (q' := xq)
            refine ⟨⟨p, q, xp, xq, _, Lib.hid hk, Lib.hid (HJ.out _ _ _ HJ5.out hw), HN6, by omega, by omega, by omega, by omega, by omega, by omega, by omega, by omega, Lib.hid ((hw.cell (p := ⟨ba, 0, none⟩) hba).trans HA5.out), Lib.hid ((hw.cell (p := ⟨bb, 0, none⟩) hbb).trans HB5.out), by simp; exact hsz5⟩, ?_⟩
            rw [hk.sum, HS0.out]
            omega
    · have hgt' : o < q + s := hgt
      have HR : Hid (R = (p, q, r, s)) := by rw [← HN.out, nearT, dif_neg (by rintro ⟨h, _⟩; omega)]; exact Lib.hid rfl
      have HJ3 := Lib.hid hJ3
      clear hgt hJ3
      gi_wp2_with fail
      go_end0
      exact ⟨⟨_, rfl⟩, R, rfl, .inr (by rw [HR.out]; exact HJ3.out)⟩
end Go.Proofs.YtpgnheankmlnfaaDoor
namespace Go.Proofs.YtpgnheankmlnfaaDoor
open Go.RowKit
set_option linter.unusedVariables false

/-- The loop's record. -/
def recOf (fn : FuncId) (tmps : Array Value) (ps : Array Tmp) (assign body : Code) (D : Nat) (st : LoopState) (pe : Option Code) : Loop :=
  { state := st, pending := pe, fn, tmps, params := ps, assign, body, defers := D }

/-- The statement: the iterator is called in the world with the two new blocks. -/
theorem range_near {g : Operand} {ps : Array Tmp} {assign body : Code} {Q : Exit → Act → World → Prop} {act : Act} {W : World} {gf : Nat} {lb : Array Value}
    (hg : act.eval g = .func (.func gf) #[] lb) (eg : ∀ args w, (callFunc gf args).run Tryd.prog w = .ok (.enter gf args) w)
    (hit : ∀ fn, CallsIn Fence.wide 0 Tryd.prog gf (#[.func (.yield (W.heap.size + 1)) #[] #[]] ++ lb) ((W.alloc (.deferred (some []))).alloc (.loop (recOf fn act.tmps ps assign body W.heap.size .ready none)))
      (rangePost Fence.wide 0 Tryd.prog (W.heap.size + 1) Q { act with defers := [{ target := .collected W.heap.size, args := #[] }] ++ act.defers })) :
    (Code.rangeFunc g ps assign body).wpIn Fence.wide 0 Tryd.prog Q act W := by
  refine wpIn_rangeFunc ?_
  intro fn hfn
  have he := run_enterLoop_outer (P := Tryd.prog) (w := W) fn act.tmps ps assign body
  have hi := hit fn
  obtain ⟨W1, hW1⟩ : ∃ W1, (W.alloc (.deferred (some []))).alloc (.loop (recOf fn act.tmps ps assign body W.heap.size .ready none)) = W1 := ⟨_, rfl⟩
  rw [hW1] at hi
  have he2 : (Instr.enterLoop fn act.tmps ps assign body none).run Tryd.prog W = .ok (W.heap.size + 1, [{ target := .collected W.heap.size, args := #[] }]) W1 := by rw [← hW1]; exact he
  clear he hW1 hit
  refine ⟨W.heap.size + 1, [{ target := .collected W.heap.size, args := #[] }], W1, { target := .fn (.func gf) lb, args := #[.func (.yield (W.heap.size + 1)) #[] #[]] }, W1, gf, #[.func (.yield (W.heap.size + 1)) #[] #[]] ++ lb, W1, he2, ?_, ?_, ?_, ?_, ?_⟩
  · simp only [resolve, hg]
    simp [go_sem]
  · exact fun _ _ => True.intro
  · simp [invoke, go_sem, eg]
  · exact fun h => Bool.noConfusion h
  · exact hi

/-- One round, out of its body's walk. -/
theorem yield_near {fn : FuncId} {tmps : Array Value} {ps : Array Tmp} {assign body : Code} {D l : Nat} {args : Array Value} {W : World} {R : Ending → World → Prop}
    (hl : W.heap[l]? = some (.loop (recOf fn tmps ps assign body D .ready none))) (hps : args.size = ps.size)
    (h : assign.wpIn (Fence.wide.inRound l) 0 Tryd.prog (Exit.then (fun a₁ w₁ => w₁.heap[l]? = some (.loop (recOf fn tmps ps assign body D .ready none)) ∧
      body.wpIn (Fence.wide.inRound l) 0 Tryd.prog (roundPost Tryd.prog l R) a₁ (w₁.putObj l (.loop (recOf fn tmps ps assign body D .busy none)))) (fun _ _ _ => False))
      { tmps := (ps.zip args).foldl (fun t (p, v) => t.setIfInBounds p v) tmps, defers := [] } W) :
    YieldAt Fence.wide 0 Tryd.prog l args W R := by
  refine ⟨fn, _, assign, body, run_yield hl hps, roundIn_of_wpIn trivial (wpIn_mono h ?_)⟩
  rintro e a1 w1 hp
  cases e with
  | normal =>
    obtain ⟨h1, h2⟩ := hp
    exact ⟨_, run_beginRound h1 rfl, h2⟩
  | _ => exact hp.elim
/-- The return of a function with a range over a function: two fractions and an error. -/
theorem bodyPostM_two {fn : Func} {r1 r2 s : Tmp} {a : Act} {B1 B2 D : Nat} {w2 : World} {p q p' q' k : Int} {R : Ending → World → Prop} (hres : fn.results = #[.cell r1 39, .cell r2 39, .tmp s])
    (h1 : a.tmps.getD r1 undef = .pointer (some ⟨B1, 0, none⟩)) (h2 : a.tmps.getD r2 undef = .pointer (some ⟨B2, 0, none⟩)) (h3 : a.tmps.getD s undef = .int .i64 k)
    (hd : a.defers = [{ target := .collected D, args := #[] }]) (hD : w2.heap[D]? = some (.deferred (some [])))
    (k1 : KQ (w2.putObj D (.deferred none)) B1 p q) (k2 : KQ (w2.putObj D (.deferred none)) B2 p' q')
    (hR : R (.returned (.tuple #[.agg #[.int .i64 p, .int .i64 q], .agg #[.int .i64 p', .int .i64 q'], .int .i64 k])) (w2.putObj D (.deferred none))) :
    bodyPostM Fence.wide 0 Tryd.prog fn R .ret a w2 := by
  show LeavesInM Fence.wide 0 Tryd.prog fn a.tmps R a.defers .returning w2
  rw [hd]
  refine ⟨by simp, .inl ⟨D, _, rfl, run_takeDeferred hD, ?_⟩⟩
  obtain ⟨c0, c1, _, _⟩ := k1.varQ
  obtain ⟨d0, d1, _, _⟩ := k2.varQ
  generalize w2.putObj D (.deferred none) = W at *
  have h1' : a.tmps[r1]?.getD undef = .pointer (some ⟨B1, 0, none⟩) := by simpa using h1
  have h2' : a.tmps[r2]?.getD undef = .pointer (some ⟨B2, 0, none⟩) := by simpa using h2
  have h3' : a.tmps[s]?.getD undef = .int .i64 k := by simpa using h3
  refine ⟨_, ?_, hR⟩
  simp only [results, hres]
  simp [go_sem, h1', h2', h3', c0, c1, d0, d1]
end Go.Proofs.YtpgnheankmlnfaaDoor
