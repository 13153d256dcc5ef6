/- The walk over logs.Table. The walk over slices.Equal at spans; slices.Equal at whole numbers. -/
import Derived.Test.YtpgnheankmlnfaaDoorDivs
namespace Go.Proofs.YtpgnheankmlnfaaDoor
open Go.RowKit
set_option linter.unusedVariables false

theorem infoSpan : (Tryd.prog.info? 55).map (fun i => (i.zero, i.size, i.bytes)) = some (some (.agg #[.int .i64 0, .int .i64 0]), 2, 16) := by kernel_rfl
/-- The cells of a row of spans. -/
def flatS (xs : List (Int × Int)) : List Value := xs.flatMap fun x => [.int .i64 x.1, .int .i64 x.2]
theorem flatS_append (xs : List (Int × Int)) (x : Int × Int) : flatS (xs ++ [x]) = flatS xs ++ [.int .i64 x.1, .int .i64 x.2] := by
  unfold flatS
  rw [List.flatMap_append]
  rfl
/-- A slice of spans of the call's own. -/
def OwnS (w : World) (base : Nat) (v : Value) (xs : List (Int × Int)) : Prop := w.ownsRow base 55 2 v xs.length (flatS xs)
theorem OwnS.nil (w : World) (base : Nat) : OwnS w base (.slice none 0 0) [] := World.ownsRow_nil _ _ _ _
theorem OwnS.below {w w1 : World} {base : Nat} {v : Value} {xs : List (Int × Int)} (h : OwnS w base v xs) (hb : Below w.heap.size w w1) : OwnS w1 base v xs :=
  World.ownsRow.kept h (row := none) ⟨hb.os, hb.tape, hb.output, hb.size, fun k hk _ => hb.block k hk⟩ (by cases hv : v.ownBlock <;> simp)

theorem wpList_append_span (w : World) {ops : Array Oper} {rest : List Oper} {o : Oper} {a : Act} {Q : Exit → Act → World → Prop}
    (hg : o.guard = none) (s x : Operand) (hop : o.op = Op.call { callee := Callee.builtin Builtin.append, args := #[s, x], argTypes := #[60, 60] })
    (base : Nat) (v : Value) (xs : List (Int × Int)) (y z : Int) (hown : OwnS w base v xs) (hv : a.eval s = v) (hx : a.eval x = .slice (some ⟨w.heap.size, 0, none⟩) 1 1)
    (hlen : xs.length ≤ 1000000) (hbase : base ≤ w.heap.size)
    (hK : ∀ v' w', OwnS w' base v' (xs ++ [(y, z)]) → Below base w w' → wpList Tryd.prog ops Q rest (a.put o.dst v') w') :
    wpList Tryd.prog ops Q (o :: rest) a (w.alloc (.cells #[.int .i64 y, .int .i64 z] 55)) := by
  obtain ⟨i0, hi, hz0, hz1, hz2⟩ := info_parts infoSpan
  refine wpList_append_own _ hg s x 60 hop base 55 i0 (.agg #[.int .i64 0, .int .i64 0]) 2 16 Tryd.underlying60 hi hz0 hz1 hz2 rfl (by decide) v _ _ hv (World.ownsRow.alloc hown _) ⟨w.heap.size, 0, none⟩ 1 1 [.int .i64 y, .int .i64 z] hx rfl ?_ (by intro u hu; simp at hu; rcases hu with rfl | rfl <;> rfl) (by simp only [maxLen]; omega) (by omega) (by simp; omega) ?_
  · intro j u hu
    match j with
    | 0 => simp at hu; subst hu; simp [Addr.add, go_sem]
    | 1 => simp at hu; subst hu; simp [Addr.add, go_sem]
    | j + 2 => simp at hu
  intro v' w' h1 h2 _
  refine hK v' w' ?_ ?_
  · unfold OwnS
    rw [List.length_append, flatS_append]
    exact h1
  · have h3 : Below base w (w.alloc (.cells #[.int .i64 y, .int .i64 z] 55)) := (Below.refl _ _).alloc hbase _
    refine h3.grown h2 (by simp; omega) (fun k hk => ?_)
    exact (World.ownsRow.lt hown k hk).1

/-- 'fine(k, a, b)', the arguments laid in a new slice. -/
theorem fine2 (a b k : Int) (B : Nat) (w : World) (hB : w.heap.size = B) :
    Calls Tryd.prog 47 #[.int .i64 k, .slice (some ⟨B, 0, none⟩) 2 2] (w.alloc (.cells #[.int .i64 a, .int .i64 b] 3)) fun e w' => e = .returned (.bool (askF a b k)) ∧ Below w.heap.size w w' := by
  subst hB
  refine (fine_any k _ _ _ [a, b] _ (IsL.new2 _ _ _ _)).mono ?_
  rintro e w' ⟨rfl, h⟩
  exact ⟨rfl, below_call (below_alloc (Below.refl _ _) _) h⟩
/-- A slice that reads as spans. -/
def IsS (w : World) (A : Option Addr) (n c : Nat) (xs : List (Int × Int)) : Prop :=
  xs.length = n ∧ n ≤ c ∧ n ≤ 1000000 ∧ (0 < n → ∃ b off, A = some ⟨b, off, none⟩ ∧ ∀ j, j < n → w.cell? ⟨b, off + 2 * j, none⟩ = some (.int .i64 (xs.getD j (0, 0)).1) ∧ w.cell? ⟨b, off + 2 * j + 1, none⟩ = some (.int .i64 (xs.getD j (0, 0)).2))
theorem IsS.below {w w1 : World} {A : Option Addr} {n c : Nat} {xs : List (Int × Int)} (h : IsS w A n c xs) (hb : Below w.heap.size w w1) : IsS w1 A n c xs := by
  obtain ⟨h1, h2, h3, h4⟩ := h
  refine ⟨h1, h2, h3, fun h0 => ?_⟩
  obtain ⟨b, off, e, hc⟩ := h4 h0
  refine ⟨b, off, e, fun j hj => ?_⟩
  have hl := World.block_lt_of_cell? w _ (hc j hj).1
  exact ⟨(hb.cell (p := ⟨b, off + 2 * j, none⟩) hl).trans (hc j hj).1, (hb.cell (p := ⟨b, off + 2 * j + 1, none⟩) hl).trans (hc j hj).2⟩
theorem IsS.nil (w : World) (c : Nat) : IsS w none 0 c [] := ⟨rfl, Nat.zero_le _, by decide, fun h => absurd h (by decide)⟩
theorem flatS_get (xs : List (Int × Int)) : ∀ j, j < xs.length → (flatS xs)[2 * j]? = some (.int .i64 (xs.getD j (0, 0)).1) ∧ (flatS xs)[2 * j + 1]? = some (.int .i64 (xs.getD j (0, 0)).2) := by
  induction xs with
  | nil => intro j hj; simp at hj
  | cons x xs ih =>
    intro j hj
    have e : flatS (x :: xs) = .int .i64 x.1 :: .int .i64 x.2 :: flatS xs := rfl
    rw [e]
    cases j with
    | zero => exact ⟨rfl, rfl⟩
    | succ j =>
      have := ih j (by simpa using hj)
      rw [show 2 * (j + 1) = 2 * j + 1 + 1 by omega]
      exact this
theorem OwnS.isS {w : World} {base : Nat} {v : Value} {xs : List (Int × Int)} (h : OwnS w base v xs) (hl : xs.length ≤ 1000000) : ∃ A n c, v = .slice A n c ∧ IsS w A n c xs := by
  rcases h.2 with ⟨hv, hn⟩ | ⟨g, cap, cur, hv, hbg, hgc, h1, h2, h3, h4⟩
  · have he : xs = [] := List.length_eq_zero_iff.1 hn
    subst he
    exact ⟨none, 0, 0, hv, IsS.nil _ _⟩
  · refine ⟨_, _, _, hv, rfl, h1, hl, fun _ => ⟨g, 0, rfl, fun j hj => ?_⟩⟩
    have hc := World.ownsRow.cells h (g := g) (by rw [hv]; rfl)
    obtain ⟨g1, g2⟩ := flatS_get xs j hj
    have k1 := hc _ _ g1
    have k2 := hc _ _ g2
    have ha : ∀ j, (⟨g, 0, none⟩ : Addr).add j = ⟨g, j, none⟩ := by
      intro j
      unfold Addr.add
      split
      · rename_i h; rw [h]
      · simp
    rw [ha] at k1 k2
    rw [Nat.zero_add]
    exact ⟨k1, k2⟩
def askT (a b k : Int) : Bool := askF a b k && decide (a ≤ b) && decide (b - a < 16)
def tabR (a k n : Nat) : List (Int × Int) := (List.range n).map fun i => (flo (a + i) 1 (2 ^ k), cei (a + i) 1 (2 ^ k))
def tabL (a b k : Int) : List (Int × Int) := if askT a b k = true then tabR a.toNat k.toNat (b - a + 1).toNat else []
theorem tabR_succ (a k n : Nat) : tabR a k (n + 1) = tabR a k n ++ [(flo (a + n) 1 (2 ^ k), cei (a + n) 1 (2 ^ k))] := by
  unfold tabR
  rw [List.range_succ, List.map_append]
  rfl
/-- Spans and an error are returned. -/
def RetTE (xs : List (Int × Int)) (k : Int) (w : World) (e : Ending) (w' : World) : Prop := ∃ A n c, e = .returned (.tuple #[.slice A n c, .int .i64 k]) ∧ IsS w' A n c xs ∧ Below w.heap.size w w'

set_option maxRecDepth 100000 in
set_option maxHeartbeats 2000000 in
theorem Table_any (a b k : Int) (w : World) :
    Calls Tryd.prog 44 #[.int .i64 a, .int .i64 b, .int .i64 k] w (RetTE (tabL a b k) (askE (askT a b k)) w) := by
  obtain ⟨r, hr⟩ : ∃ r, tabL a b k = r := ⟨_, rfl⟩
  obtain ⟨t, ht⟩ : ∃ t, askT a b k = t := ⟨_, rfl⟩
  have hr2 : r = if t = true then tabR a.toNat k.toNat (b - a + 1).toNat else [] := by rw [← hr, ← ht]; rfl
  have ht2 : t = (askF a b k && decide (a ≤ b) && decide (b - a < 16)) := by rw [← ht]; rfl
  rw [hr, ht]
  obtain ⟨v, hv⟩ : ∃ v, askF a b k = v := ⟨_, rfl⟩
  rw [hv] at ht2
  have HR := Lib.hid hr2
  have HT := Lib.hid ht2
  have HV := Lib.hid hv
  clear hr ht hr2 ht2 hv
  go_enter Tryd.func44, Tryd.ntmps44
  go_wp2_with fail
  refine (fine2 a b k _ _ (by simp)).mono ?_
  rintro e w1 ⟨rfl, hq1⟩
  rw [HV.out]
  have HB1 := Lib.hid hq1
  clear hq1
  cases v
  · have HT1 : Hid (t = false) := Lib.hid HT.out
    have HR1 : Hid (r = []) := Lib.hid (by rw [HR.out, HT1.out]; rfl)
    go_wp2_with fail
    go_ret2
    rw [HT1.out, HR1.out]
    exact ⟨_, _, _, rfl, IsS.nil _ _, HB1.out⟩
  · obtain ⟨⟨a0, a1⟩, ⟨b0, b1⟩, k0, k1⟩ := askF_iff.1 HV.out
    by_cases hab : a ≤ b
    · by_cases hd : b - a < 16
      · have t1 : decide (b < a) = false := decide_eq_false (by omega)
        have t2 : decide (16 ≤ b - a) = false := decide_eq_false (by omega)
        have HT1 : Hid (t = true) := Lib.hid (by rw [HT.out, decide_eq_true hab, decide_eq_true hd]; rfl)
        obtain ⟨a, rfl⟩ : ∃ n : Nat, a = (n : Int) := ⟨a.toNat, by omega⟩
        obtain ⟨b, rfl⟩ : ∃ n : Nat, b = (n : Int) := ⟨b.toNat, by omega⟩
        obtain ⟨k, rfl⟩ : ∃ n : Nat, k = (n : Int) := ⟨k.toNat, by omega⟩
        have HR1 : Hid (r = tabR a k (b + 1 - a)) := Lib.hid (by rw [HR.out, HT1.out, if_pos rfl, Int.toNat_natCast, Int.toNat_natCast, show ((b : Int) - a + 1).toNat = b + 1 - a by omega])
        clear HR HT
        have t3 : decide (b < a) = false := decide_eq_false (by omega)
        have t4 : ¬ b < a := by omega
        go_wp2_with fail
        go_loopw [9, 8] (fun s v wr => ∃ i : Nat, s = .int .i64 ((a + i : Nat) : Int) ∧ i ≤ b + 1 - a ∧ Hid (OwnS wr w1.heap.size v (tabR a k i)) ∧ Hid (Below w1.heap.size w1 wr)) (fun s _ _ => 5000 - (intOf s).toNat)
        case atStart => exact ⟨0, rfl, by omega, OwnS.nil _ _, Below.refl _ _⟩
        case round =>
          obtain ⟨i, rfl, hi, HO, HB⟩ := hrel
          have hsz := HB.out.size
          obtain ⟨d, hd'⟩ : ∃ d, a + i = d := ⟨_, rfl⟩
          rw [hd']
          by_cases hlt : d ≤ b
          · have hlt' : (d : Int) ≤ b := by omega
            have hlen : (tabR a k i).length ≤ 1000000 := by unfold tabR; rw [List.length_map, List.length_range]; omega
            have HBd := Lib.hid (bounds_any d k · (by omega) (by omega) (by omega))
            obtain ⟨m, hm⟩ : ∃ m, flo d 1 (2 ^ k) = m := ⟨_, rfl⟩
            obtain ⟨c, hc⟩ : ∃ c, cei d 1 (2 ^ k) = c := ⟨_, rfl⟩
            rw [hm, hc] at HBd
            have hs := tabR_succ a k i
            rw [hd', hm, hc] at hs
            have HS := Lib.hid hs
            have HD := Lib.hid hd'
            have hi' : i + 1 ≤ b + 1 - a := by omega
            clear hm hc hs hd'
            go_wp2_with fail
            refine (HBd.out _).mono ?_
            rintro e w2 ⟨rfl, hq2⟩
            have HO2 := Lib.hid (HO.out.below hq2)
            have HB2 := Lib.hid (below_call HB.out hq2)
            have hsz2 := HB2.out.size
            clear hq2
            go_wp2_with (at_builtin; refine wpList_append_span _ rfl _ _ rfl w1.heap.size _ (tabR a k i) m c HO2.out rfl rfl hlen hsz2 ?_)
            intro v' w3 hO3 hB3
            rw [← HS.out] at hO3
            have HO3 := Lib.hid hO3
            have HB3 := Lib.hid (HB2.out.trans hB3)
            clear hO3 hB3
            go_wp2_with fail
            refine ⟨⟨i + 1, congrArg (Value.int .i64) (by have := HD.out; omega), hi', HO3, HB3⟩, ?_⟩
            simp [intOf]
            omega
          · have hlt' : ¬ (d : Int) ≤ b := by omega
            obtain rfl : i = b + 1 - a := by omega
            have hlen : (tabR a k (b + 1 - a)).length ≤ 1000000 := by unfold tabR; rw [List.length_map, List.length_range]; omega
            obtain ⟨A, n, c, rfl, hS⟩ := HO.out.isS hlen
            have HS := Lib.hid hS
            clear hS hd'
            go_wp2_with fail
            go_ret2
            rw [HT1.out, HR1.out]
            exact ⟨_, _, _, rfl, HS.out, below_call HB1.out HB.out⟩
      · have t1 : decide (b < a) = false := decide_eq_false (by omega)
        have t2 : decide (16 ≤ b - a) = true := decide_eq_true (by omega)
        have HT1 : Hid (t = false) := Lib.hid (by rw [HT.out, decide_eq_false hd]; simp)
        have HR1 : Hid (r = []) := Lib.hid (by rw [HR.out, HT1.out]; rfl)
        clear hd hab HR HT
        go_wp2_with fail
        go_ret2
        rw [HT1.out, HR1.out]
        exact ⟨_, _, _, rfl, IsS.nil _ _, HB1.out⟩
    · have t1 : decide (b < a) = true := decide_eq_true (by omega)
      have HT1 : Hid (t = false) := Lib.hid (by rw [HT.out, decide_eq_false hab]; simp)
      have HR1 : Hid (r = []) := Lib.hid (by rw [HR.out, HT1.out]; rfl)
      clear hab HR HT
      go_wp2_with fail
      go_ret2
      rw [HT1.out, HR1.out]
      exact ⟨_, _, _, rfl, IsS.nil _ _, HB1.out⟩
end Go.Proofs.YtpgnheankmlnfaaDoor
namespace Go.Proofs.YtpgnheankmlnfaaDoor
open Go.RowKit
set_option linter.unusedVariables false

theorem eq_of_get {xs ys : List (Int × Int)} (hl : xs.length = ys.length) (h : ∀ j, j < xs.length → xs.getD j (0, 0) = ys.getD j (0, 0)) : xs = ys := by
  refine List.ext_getElem hl fun j h1 h2 => ?_
  have := h j h1
  rwa [List.getD_eq_getElem?_getD, List.getD_eq_getElem?_getD, List.getElem?_eq_getElem h1, List.getElem?_eq_getElem h2] at this

set_option maxRecDepth 100000 in
set_option maxHeartbeats 1000000 in
theorem equalS_any (A : Option Addr) (n c : Nat) (xs : List (Int × Int)) (A' : Option Addr) (n' c' : Nat) (ys : List (Int × Int)) (w : World) (h : IsS w A n c xs) (h' : IsS w A' n' c' ys) :
    Calls Tryd.prog 46 #[.slice A n c, .slice A' n' c'] w fun e w' => e = .returned (.bool (xs == ys)) ∧ Below w.heap.size w w' := by
  obtain ⟨h1, h2, h3, h4⟩ := h
  obtain ⟨k1, k2, k3, k4⟩ := h'
  by_cases hn : n = n'
  · subst hn
    have HC := Lib.hid h4
    have HD := Lib.hid k4
    have b1 : ((n : Int) != n) = false := by simp
    clear h4 k4
    go_enter Tryd.func46, Tryd.ntmps46
    go_wp2_with fail
    go_loopw [13] (fun s wr => ∃ i : Nat, s = .int .i64 i ∧ i ≤ n ∧ Hid (∀ j, j < i → xs.getD j (0, 0) = ys.getD j (0, 0)) ∧ Hid (Drawn w wr)) (fun s _ => n - (intOf s).toNat)
    case atStart => exact ⟨0, rfl, by omega, Lib.hid (fun j hj => absurd hj (by omega)), Drawn.refl _⟩
    case round =>
      obtain ⟨i, rfl, hi, HE, HW⟩ := hrel
      by_cases hlt : i < n
      · obtain ⟨b, off, rfl, hc⟩ := HC.out (by omega)
        obtain ⟨b', off', rfl, hd⟩ := HD.out (by omega)
        obtain ⟨c0, c1⟩ := hc i hlt
        obtain ⟨d0, d1⟩ := hd i hlt
        rw [Nat.mul_comm] at c0 c1 d0 d1
        have hb := HW.out.below
        have l0 := World.block_lt_of_cell? w _ c0
        have l1 := World.block_lt_of_cell? w _ d0
        obtain ⟨⟨x0, x1⟩, hx⟩ : ∃ x, xs.getD i (0, 0) = x := ⟨_, rfl⟩
        obtain ⟨⟨y0, y1⟩, hy⟩ : ∃ y, ys.getD i (0, 0) = y := ⟨_, rfl⟩
        rw [hx] at c0 c1
        rw [hy] at d0 d1
        have e0 : wr.cell? ⟨b, off + i * 2, none⟩ = some (.int .i64 x0) := (hb.cell (p := ⟨b, off + i * 2, none⟩) l0).trans c0
        have e1 : wr.cell? ⟨b, off + i * 2 + 1, none⟩ = some (.int .i64 x1) := (hb.cell (p := ⟨b, off + i * 2 + 1, none⟩) l0).trans c1
        have f0 : wr.cell? ⟨b', off' + i * 2, none⟩ = some (.int .i64 y0) := (hb.cell (p := ⟨b', off' + i * 2, none⟩) l1).trans d0
        have f1 : wr.cell? ⟨b', off' + i * 2 + 1, none⟩ = some (.int .i64 y1) := (hb.cell (p := ⟨b', off' + i * 2 + 1, none⟩) l1).trans d1
        have HX := Lib.hid hx
        have HY := Lib.hid hy
        have hlt' : (i : Int) < n := by omega
        clear hc hd c0 c1 d0 d1 hb l0 l1 hx hy
        by_cases he : x0 = y0 ∧ x1 = y1
        · obtain ⟨rfl, rfl⟩ := he
          go_wp2_with fail
          go_quiet (fail)
          go_wp2_with fail
          refine ⟨⟨i + 1, rfl, by omega, Lib.hid (fun j hj => ?_), Lib.hid (HW.out.drewN _)⟩, by simp [intOf]; omega⟩
          by_cases hji : j = i
          · subst hji; rw [HX.out, HY.out]
          · exact HE.out j (by omega)
        · by_cases h0 : x0 = y0
          · subst h0
            have h1 : ¬ x1 = y1 := fun e => he ⟨rfl, e⟩
            have t1 : (x1 == y1) = false := beq_eq_false_iff_ne.2 h1
            have HNEQ := Lib.hid h1
            clear he h1
            have hne : (xs == ys) = false := by
              rw [beq_eq_false_iff_ne]
              intro e
              have h := HX.out
              rw [e, HY.out] at h
              cases h
              exact HNEQ.out rfl
            have HNE := Lib.hid hne
            clear hne
            go_wp2_with fail
            go_quiet (fail)
            go_wp2_with fail
            go_ret
            exact ⟨by rw [HNE.out]; rfl, (HW.out.drewN _).below⟩
          · have t1 : (x0 == y0) = false := beq_eq_false_iff_ne.2 h0
            have HNEQ := Lib.hid h0
            clear he h0
            have hne : (xs == ys) = false := by
              rw [beq_eq_false_iff_ne]
              intro e
              have h := HX.out
              rw [e, HY.out] at h
              cases h
              exact HNEQ.out rfl
            have HNE := Lib.hid hne
            clear hne
            go_wp2_with fail
            go_quiet (fail)
            go_wp2_with fail
            go_ret
            exact ⟨by rw [HNE.out]; rfl, (HW.out.drewN _).below⟩
      · obtain rfl : i = n := by omega
        have hxy : (xs == ys) = true := by rw [beq_iff_eq]; exact eq_of_get (by omega) (fun j hj => HE.out j (by omega))
        have HXY := Lib.hid hxy
        clear hxy
        go_wp2_with fail
        go_ret
        exact ⟨by rw [HXY.out]; rfl, HW.out.below⟩
  · have hne : (xs == ys) = false := by
      rw [beq_eq_false_iff_ne]
      intro e
      exact hn (by rw [← h1, ← k1, e])
    have HNE := Lib.hid hne
    have b1 : ((n : Int) != n') = true := by rw [bne_iff_ne]; omega
    clear h4 k4 hne
    go_enter Tryd.func46, Tryd.ntmps46
    go_wp2_with fail
    go_ret
    exact ⟨by rw [HNE.out]; rfl, Below.refl _ _⟩

theorem equalI_any (A : Option Addr) (n c : Nat) (xs : List Int) (A' : Option Addr) (n' c' : Nat) (ys : List Int) (w : World) (h : IsL w A n c xs) (h' : IsL w A' n' c' ys) :
    Calls Tryd.prog 31 #[.slice A n c, .slice A' n' c'] w fun e w' => e = .returned (.bool (xs == ys)) ∧ Below w.heap.size w w' := by
  obtain ⟨h1, h2, h3⟩ := h
  obtain ⟨k1, k2, k3⟩ := h'
  have l1 := h3.1
  have l2 := k3.1
  by_cases hn : n = n'
  · subst hn
    by_cases h0 : n = 0
    · subst h0
      refine (Tryd.slices_Equal_int_empty A A' c 0 c' w (by decide)).mono ?_
      rintro e w' ⟨rfl, rfl⟩
      have e1 : xs = [] := List.length_eq_zero_iff.1 h1
      have e2 : ys = [] := List.length_eq_zero_iff.1 k1
      subst e1 e2
      exact ⟨rfl, Below.refl _ _⟩
    · obtain ⟨b, off, rfl⟩ := h3.addr (by omega)
      obtain ⟨b', off', rfl⟩ := k3.addr (by omega)
      obtain ⟨_, _, e1, hc⟩ := h3.2 (by omega)
      obtain ⟨_, _, e2, hd⟩ := k3.2 (by omega)
      cases e1
      cases e2
      refine (Tryd.slices_Equal_int b off n c b' off' n c' xs ys w (by omega) (by omega) (by omega) (by omega) hc hd).mono ?_
      rintro e w' ⟨rfl, q, rfl⟩
      rw [List.take_of_length_le (by omega), List.take_of_length_le (by omega)]
      exact ⟨rfl, below_drewN (Below.refl _ _) q⟩
  · refine (Tryd.slices_Equal_int_lens A A' n c n' c' w hn).mono ?_
    rintro e w' ⟨rfl, rfl⟩
    have hne : (xs == ys) = false := by
      rw [beq_eq_false_iff_ne]
      intro e
      exact hn (by rw [← h1, ← k1, e])
    rw [hne]
    exact ⟨rfl, Below.refl _ _⟩
end Go.Proofs.YtpgnheankmlnfaaDoor
