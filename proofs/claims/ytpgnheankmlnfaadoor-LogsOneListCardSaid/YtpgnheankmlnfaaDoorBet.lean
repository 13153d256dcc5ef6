/- The walk over logs.nearer and Between. Between, for all arguments. -/
import Derived.Test.YtpgnheankmlnfaaDoorNear
namespace Go.Proofs.YtpgnheankmlnfaaDoor
open Go.RowKit
set_option linter.unusedVariables false

set_option maxRecDepth 100000 in
set_option maxHeartbeats 400000 in
theorem nearer_any (a b : Int) (w : World) :
    Calls Tryd.prog 59 #[.int .i64 a, .int .i64 b] w fun e w' => e = .returned (.func (.func 73) #[] #[.pointer (some ⟨w.heap.size, 0, none⟩), .pointer (some ⟨w.heap.size + 1, 0, none⟩)]) ∧ w' = (w.alloc (.cells #[.int .i64 a] 3)).alloc (.cells #[.int .i64 b] 3) := by
  go_enter Tryd.func59, Tryd.ntmps59
  go_wp2_with fail
  go_ret
  exact ⟨rfl, rfl⟩

theorem enters_near : ∀ (args : Array Value) (w : World), (callFunc 73 args).run Tryd.prog w = .ok (.enter 73 args) w :=
  Go.Proofs.enters_of Tryd.func73 (by kernel_rfl) rfl

theorem setCells_other (w : World) (g : Nat) (v0 v1 v2 v3 : Value) : (∀ k, k ≠ g → ((((w.setCell ⟨g, 0, none⟩ v0).setCell ⟨g, 1, none⟩ v1).setCell ⟨g, 2, none⟩ v2).setCell ⟨g, 3, none⟩ v3).heap[k]? = w.heap[k]?) ∧
    ((((w.setCell ⟨g, 0, none⟩ v0).setCell ⟨g, 1, none⟩ v1).setCell ⟨g, 2, none⟩ v2).setCell ⟨g, 3, none⟩ v3).heap.size = w.heap.size := by
  refine ⟨fun k hk => ?_, by simp⟩
  have h : ∀ (w : World) n v, (w.setCell ⟨g, n, none⟩ v).heap[k]? = w.heap[k]? := fun w n v => by
    simp [World.setCell, Array.getElem?_modify, Ne.symm hk]
  rw [h, h, h, h]
theorem below_putObj {b l : Nat} {w W : World} (h : Below b w W) (hl : b ≤ l) (o : Obj) : Below b w (W.putObj l o) :=
  ⟨h.os, h.tape, h.output, by simp; exact h.size, fun k hk => (World.putObj_heap_other (by omega)).trans (h.block k hk)⟩

set_option maxRecDepth 100000 in
set_option maxHeartbeats 4000000 in
theorem Between_ok (a b o : Nat) (w : World) (h : askO a b o = true) :
    CallsIn Fence.wide 0 Tryd.prog 37 #[.int .i64 a, .int .i64 b, .int .i64 o] w fun e w' => e = .returned (.tuple #[.agg #[.int .i64 (nearS a b o).1, .int .i64 (nearS a b o).2.1], .agg #[.int .i64 (nearS a b o).2.2.1, .int .i64 (nearS a b o).2.2.2], .int .i64 0]) ∧ Below w.heap.size w w' := by
  obtain ⟨⟨⟨a0, a1⟩, b0, b1⟩, o0, o1⟩ := askO_iff.1 h
  have HA := Lib.hid h
  clear h
  refine callsIn_of_wp_marks Tryd.func37 rfl trivial ?_ rfl
  simp only [Tryd.ntmps37, List.size_toArray, List.length_cons, List.length_nil, Nat.reduceAdd, Nat.reduceSub, Array.replicate_succ, Array.replicate_zero, List.push_toArray, List.append_toArray, List.nil_append, List.cons_append]
  have HB0 := Lib.hid (below_alloc (below_alloc (below_alloc (Below.refl w.heap.size w) (.cells #[.int .i64 o] 3)) (.cells #[.int .i64 0, .int .i64 0] 39)) (.cells #[.int .i64 0, .int .i64 0] 39))
  gi_wp2_with fail
  refine ⟨trivial, rfl, callsIn_wide.2 ((asked_any _ _ _ _).mono ?_)⟩
  rintro e w1 ⟨rfl, hq1⟩
  rw [HA.out]
  have HB1 := Lib.hid (below_call HB0.out hq1)
  gi_wp2_with fail
  refine ⟨trivial, rfl, callsIn_wide.2 ((nearer_any _ _ _).mono ?_)⟩
  rintro e w2 ⟨rfl, rfl⟩
  gi_wp2_with fail
  obtain ⟨W, hW⟩ : ∃ W, (((w1.alloc (.cells #[.int .i64 0, .int .i64 0, .int .i64 0, .int .i64 0] 77)).alloc (.cells #[.int .i64 a] 3)).alloc (.cells #[.int .i64 b] 3)) = W := ⟨_, rfl⟩
  have hWs : W.heap.size = w1.heap.size + 3 := by rw [← hW]; simp
  have hBW : Below w.heap.size w W := by rw [← hW]; exact below_alloc (below_alloc (below_alloc HB1.out _) _) _
  have hca : W.cell? ⟨w1.heap.size + 1, 0, none⟩ = some (.int .i64 a) := by rw [← hW]; simp [go_sem]
  have hcb : W.cell? ⟨w1.heap.size + 1 + 1, 0, none⟩ = some (.int .i64 b) := by rw [← hW]; simp [go_sem]
  have hs1 : w.heap.size + 3 ≤ w1.heap.size := by have := hq1.size; simp at this; omega
  have hb1 : Below w1.heap.size w1 W := by rw [← hW]; exact below_alloc (below_alloc (below_alloc (Below.refl _ _) _) _) _
  have hKL : KP W w1.heap.size (0, 0, 0, 0) := by
    have := KP.new w1 0 0 0 0
    rw [← hW]
    exact (this.below (below_alloc (Below.refl _ _) _)).below (below_alloc (Below.refl _ _) _)
  have hco : W.cell? ⟨w.heap.size, 0, none⟩ = some (.int .i64 o) := by
    rw [hb1.cell (p := ⟨w.heap.size, 0, none⟩) (by show w.heap.size < _; omega), hq1.cell (p := ⟨w.heap.size, 0, none⟩) (by show w.heap.size < _; simp; omega)]
    simp [go_sem]
  have hk6 : KQ W (w.heap.size + 1) 0 0 := by
    have := ((KQ.new (w.alloc (.cells #[.int .i64 o] 3)) 0 0).alloc (.cells #[.int .i64 0, .int .i64 0] 39)).below hq1
    rw [World.size_alloc] at this
    exact this.below hb1
  have hk7 : KQ W (w.heap.size + 1 + 1) 0 0 := by
    have := (KQ.new ((w.alloc (.cells #[.int .i64 o] 3)).alloc (.cells #[.int .i64 0, .int .i64 0] 39)) 0 0).below hq1
    rw [World.size_alloc, World.size_alloc] at this
    exact this.below hb1
  rw [hW]
  clear hW hq1 HB0 HB1 hb1
  refine range_near (gf := 73) rfl enters_near ?_
  intro fn
  generalize hrec : recOf fn _ _ _ _ _ = recf
  obtain ⟨l, hl⟩ : ∃ l, W.heap.size + 1 = l := ⟨_, rfl⟩
  obtain ⟨W1, hW1⟩ : ∃ W1, (W.alloc (.deferred (some []))).alloc (.loop (recf .ready none)) = W1 := ⟨_, rfl⟩
  have hb1 : Below W.heap.size W W1 := by rw [← hW1]; exact below_alloc (below_alloc (Below.refl _ _) _) _
  have hs1' : W1.heap.size = W.heap.size + 2 := by rw [← hW1]; simp
  have hD1 : W1.heap[W.heap.size]? = some (.deferred (some [])) := by
    rw [← hW1]; exact (Below.heap_alloc _ _ _ (by simp)).trans (World.alloc_heap_new W _)
  have hL1 : W1.heap[l]? = some (.loop (recf .ready none)) := by
    rw [← hW1, ← hl]; have := World.alloc_heap_new (W.alloc (.deferred (some []))) (.loop (recf .ready none)); rwa [World.size_alloc] at this
  rw [hW1, hl]
  clear hW1
  refine (nearer1_in a b o (w1.heap.size + 1) (w1.heap.size + 1 + 1) w1.heap.size l W1
    (fun jo W' => W'.heap[l]? = some (.loop (recf .ready none)) ∧ W'.heap[W.heap.size]? = some (.deferred (some [])) ∧ KP W' w1.heap.size (jo.getD (0, 0, 0, 0)) ∧ W'.cell? ⟨w.heap.size, 0, none⟩ = some (.int .i64 o) ∧ KQ W' (w.heap.size + 1) 0 0 ∧ KQ W' (w.heap.size + 1 + 1) 0 0 ∧ Below w.heap.size w W')
    (fun y W' => W'.heap[l]? = some (.loop (recf .done (some (.exit 0)))) ∧ W'.heap[W.heap.size]? = some (.deferred (some [])) ∧ KP W' w1.heap.size y ∧ KQ W' (w.heap.size + 1) 0 0 ∧ KQ W' (w.heap.size + 1 + 1) 0 0 ∧ Below w.heap.size w W')
    (by omega) (by omega) (by omega) (by omega) (by omega) (by omega) ((hb1.cell (p := ⟨w1.heap.size + 1, 0, none⟩) (by show w1.heap.size + 1 < _; omega)).trans hca) ((hb1.cell (p := ⟨w1.heap.size + 1 + 1, 0, none⟩) (by show w1.heap.size + 1 + 1 < _; omega)).trans hcb)
    (by omega) (by omega) (by omega) (by omega) (by omega) (by omega) ?_ ?_ ?_).mono ?_
  · rintro x W2 W3 ⟨j1, j2, j3, j4, j5, j6, j7⟩ hb
    refine ⟨(hb.block l (by omega)).trans j1, (hb.block W.heap.size (by omega)).trans j2, (hb.block w1.heap.size (by omega)).trans j3, (hb.cell (p := ⟨w.heap.size, 0, none⟩) (by show w.heap.size < _; omega)).trans j4, (hb.block _ (by omega)).trans j5, (hb.block _ (by omega)).trans j6, j7.trans (hb.mono (by omega))⟩
  · rintro x ⟨p, q, r, s⟩ W2 ⟨j1, j2, j3, j4, j5, j6, j7⟩ hq hs
    have hq : q ≤ 128 := hq
    have hs : s ≤ 128 := hs
    have HRR : Hid (∀ st pe st' pe', ({ recf st pe with state := st', pending := pe' } : Loop) = recf st' pe') := by
      rw [← hrec]
      exact Lib.hid fun _ _ _ _ => rfl
    rw [hWs] at hrec j2
    have j1' := j1
    rw [← hrec] at j1'
    refine yield_near j1' rfl ?_
    dsimp only [encQ]
    have HJ := Lib.hid (And.intro j1 (And.intro j2 (And.intro j3 (And.intro j4 (And.intro j5 (And.intro j6 j7))))))
    clear j1 j2 j3 j4 j5 j6 j7 j1' hL1 hD1 hb1 hk6 hk7 hKL hco hca hcb
    gi_wp2_with (rw [Oper.semAt_eq _ _ _ (fun c h => by cases h)]; go_simp; try go_bits)
    have hl5 : ∀ o, (W2.alloc o).heap[l]? = some (.loop (recf .ready none)) := fun o => (Below.heap_alloc _ _ _ (Array.getElem?_eq_some_iff.1 HJ.out.1).1).trans HJ.out.1
    refine ⟨hl5 _, ?_⟩
    generalize hW6 : World.putObj _ l _ = W6
    obtain ⟨n, hn⟩ : ∃ n, W2.heap.size = n := ⟨_, rfl⟩
    obtain ⟨W5, hW5⟩ : ∃ W5, W2.alloc (.cells #[.int .i64 p, .int .i64 q, .int .i64 r, .int .i64 s] 77) = W5 := ⟨_, rfl⟩
    have b5 : Below W2.heap.size W2 W5 := by rw [← hW5]; exact below_alloc (Below.refl _ _) _
    have hK5 : KP W5 n (p, q, r, s) := by rw [← hW5, ← hn]; exact KP.new W2 p r q s
    have s5 : W5.heap.size = n + 1 := by rw [← hW5, ← hn]; simp
    have hW6' : W5.putObj l (.loop (recf .busy none)) = W6 := by rw [← hW5]; exact hW6
    clear hW6 hW5 hl5
    rw [hn]
    obtain ⟨j1, j2, j3, j4, j5, j6, j7⟩ := HJ.out
    have ln : l < n := by rw [← hn]; exact (Array.getElem?_eq_some_iff.1 j1).1
    have e6 : ∀ k, k ≠ l → W6.heap[k]? = W5.heap[k]? := fun k hk => by rw [← hW6']; exact World.putObj_heap_other hk
    have s6 : W6.heap.size = n + 1 := by rw [← hW6']; simpa using s5
    have l6 : W6.heap[l]? = some (.loop (recf .busy none)) := by rw [← hW6']; exact World.putObj_heap_same (by omega)
    have k6 : KP W6 n (p, q, r, s) := (e6 n (by omega)).trans hK5
    have k9 : KP W6 w1.heap.size (x.getD (0, 0, 0, 0)) := (e6 _ (by omega)).trans (j3.below b5)
    have co6 : W6.cell? ⟨w.heap.size, 0, none⟩ = some (.int .i64 o) := (World.cell?_of_block (a := ⟨w.heap.size, 0, none⟩) (e6 w.heap.size (by omega))).trans ((b5.cell (p := ⟨w.heap.size, 0, none⟩) (World.block_lt_of_cell? W2 _ j4)).trans j4)
    have j26 := (e6 _ (by omega)).trans ((b5.block _ (by omega)).trans j2)
    have j56 : KQ W6 _ 0 0 := (e6 _ (by omega)).trans (j5.below b5)
    have j66 : KQ W6 _ 0 0 := (e6 _ (by omega)).trans (j6.below b5)
    have j76 : Below w.heap.size w W6 := by
      have h5 := j7.trans (b5.mono (by omega))
      exact ⟨by rw [← hW6']; exact h5.os, by rw [← hW6']; exact h5.tape, by rw [← hW6']; exact h5.output, by rw [← hW6']; simp; exact h5.size, fun k hk => (e6 k (by omega)).trans (h5.block k hk)⟩
    have keep : ∀ k, k < W2.heap.size → k ≠ l → W6.heap[k]? = W2.heap[k]? := fun k hk hkl => (e6 k hkl).trans (b5.block k hk)
    obtain ⟨⟨p0, q0, r0, s0⟩, hx⟩ : ∃ y, x.getD (0, 0, 0, 0) = y := ⟨_, rfl⟩
    rw [hx] at k9
    have HX := Lib.hid (And.intro j26 (And.intro j56 (And.intro j66 (And.intro j76 (And.intro l6 keep)))))
    clear j1 j2 j3 j4 j5 j6 j7 j26 j56 j66 j76 l6 keep hx e6 hW6' b5 hK5 HJ
    obtain ⟨c0, c1, c2, c3, c4, c5, c6, c7⟩ := k6.cells
    obtain ⟨d0, d1, d2, d3, d4, d5, d6, d7⟩ := k9.cells
    have lt9 := k9.lt
    clear hrec
    have hB9 : w.heap.size ≤ w1.heap.size := by omega
    have lne : l ≠ w1.heap.size := by omega
    have lne' : w1.heap.size ≠ l := by omega
    have lw : w.heap.size ≤ l := by omega
    by_cases hc : (o : Int) < q + s
    all_goals
      gi_wp2_with (rw [Oper.semAt_eq _ _ _ (fun c h => by cases h)]; go_simp; try go_bits)
      have hK := (k9.left (p' := p) (q' := q)).right (p' := r) (q' := s)
      have hO := setCells_other W6 w1.heap.size (.int .i64 p) (.int .i64 q) (.int .i64 r) (.int .i64 s)
      obtain ⟨i1, i2, i3, i4, i5, keep⟩ := HX.out
      have hBl := (((i4.setCell (p := ⟨w1.heap.size, 0, none⟩) hB9 (.int .i64 p)).setCell (p := ⟨w1.heap.size, 1, none⟩) hB9 (.int .i64 q)).setCell (p := ⟨w1.heap.size, 2, none⟩) hB9 (.int .i64 r)).setCell (p := ⟨w1.heap.size, 3, none⟩) hB9 (.int .i64 s)
      revert hK hO hBl
      generalize ((((W6.setCell ⟨w1.heap.size, 0, none⟩ (.int .i64 p)).setCell ⟨w1.heap.size, 1, none⟩ (.int .i64 q)).setCell ⟨w1.heap.size, 2, none⟩ (.int .i64 r)).setCell ⟨w1.heap.size, 3, none⟩ (.int .i64 s)) = W7
      intro hK hO hBl
      have hl7 := (hO.1 l lne).trans i5
      have e8 : ∀ o k, k ≠ l → (W7.putObj l o).heap[k]? = W7.heap[k]? := fun o k hk => World.putObj_heap_other hk
      have b8 : ∀ o, Below w.heap.size w (W7.putObj l o) := fun o => below_putObj hBl lw o
    · refine ⟨_, _, run_endRound (P := Tryd.prog) (some (.exit 0)) hl7, .inr ⟨rfl, by show o < q + s; omega, ?_, ?_, ?_, ?_, ?_, b8 _⟩⟩
      · rw [HRR.out]; exact World.putObj_heap_same (Array.getElem?_eq_some_iff.1 hl7).1
      · exact (e8 _ _ (by omega)).trans ((hO.1 _ (by omega)).trans i1)
      · exact (e8 _ _ lne').trans hK
      · exact (e8 _ _ (by omega)).trans ((hO.1 _ (by omega)).trans i2)
      · exact (e8 _ _ (by omega)).trans ((hO.1 _ (by omega)).trans i3)
    · refine ⟨_, _, run_endRound (P := Tryd.prog) none hl7, .inl ⟨rfl, by show q + s ≤ o; omega, ⟨?_, ?_, ?_, ?_, ?_, ?_, b8 _⟩, ?_, ?_⟩⟩
      · rw [HRR.out]; exact World.putObj_heap_same (Array.getElem?_eq_some_iff.1 hl7).1
      · exact (e8 _ _ (by omega)).trans ((hO.1 _ (by omega)).trans i1)
      · exact (e8 _ _ lne').trans hK
      · exact (World.cell?_of_block (a := ⟨w.heap.size, 0, none⟩) ((e8 _ w.heap.size (by omega)).trans (hO.1 w.heap.size (by omega)))).trans co6
      · exact (e8 _ _ (by omega)).trans ((hO.1 _ (by omega)).trans i2)
      · exact (e8 _ _ (by omega)).trans ((hO.1 _ (by omega)).trans i3)
      · rw [World.putObj_size, hO.2]; omega
      · exact fun k hk k9 kl => (e8 _ k kl).trans ((hO.1 k k9).trans (keep k hk kl))
  · refine ⟨hL1, hD1, (hb1.block _ (by omega)).trans hKL, (hb1.cell (p := ⟨w.heap.size, 0, none⟩) (by show w.heap.size < _; omega)).trans hco, (hb1.block _ (by omega)).trans hk6, (hb1.block _ (by omega)).trans hk7, hBW.trans (hb1.mono (by omega))⟩
  · rintro e W2 ⟨⟨v, rfl⟩, y, rfl, hJ | hJ⟩
    · obtain ⟨j1, j2, j3, j4, j5, j6, j7⟩ := hJ
      refine ⟨none, _, by have := run_endLoop (P := Tryd.prog) j1 (by rw [← hrec]; exact fun h => LoopState.noConfusion h); rw [← hrec] at this; exact this, ?_⟩
      generalize hX : W2.putObj l _ = W3
      have e3 : ∀ k, k ≠ l → W3.heap[k]? = W2.heap[k]? := fun k hk => by rw [← hX]; exact World.putObj_heap_other hk
      have i2 : W3.heap[W.heap.size]? = some (.deferred (some [])) := (e3 _ (by omega)).trans j2
      have i3 : KP W3 w1.heap.size (nearS a b o) := (e3 _ (by omega)).trans j3
      have i5 : KQ W3 (w.heap.size + 1) 0 0 := (e3 _ (by omega)).trans j5
      have i6 : KQ W3 (w.heap.size + 1 + 1) 0 0 := (e3 _ (by omega)).trans j6
      have i7 : Below w.heap.size w W3 := ⟨by rw [← hX]; exact j7.os, by rw [← hX]; exact j7.tape, by rw [← hX]; exact j7.output, by rw [← hX]; simp; exact j7.size, fun k hk => (e3 k (by omega)).trans (j7.block k hk)⟩
      clear hX e3 j1 j2 j3 j5 j6 j7
      obtain ⟨⟨p, q, r, s⟩, hR⟩ : ∃ R, nearS a b o = R := ⟨_, rfl⟩
      rw [hR] at i3
      obtain ⟨c0, c1, c2, c3, c4, c5, c6, c7⟩ := i3.cells
      obtain ⟨d0, d1, d2, d3⟩ := i5.varQ
      obtain ⟨e0, e1, e2, e3⟩ := i6.varQ
      have k3 := i3.lt
      dsimp only
      gi_wp2_with fail
      gi_region
      gi_wp2_with fail
      have hWp := ((i7.setCell (p := ⟨w.heap.size + 1, 0, none⟩) (by show w.heap.size ≤ w.heap.size + 1; omega) (.int .i64 p)).setCell (p := ⟨w.heap.size + 1, 1, none⟩) (by show w.heap.size ≤ w.heap.size + 1; omega) (.int .i64 q))
      have hWr := ((hWp.setCell (p := ⟨w.heap.size + 1 + 1, 0, none⟩) (by show w.heap.size ≤ w.heap.size + 1 + 1; omega) (.int .i64 r)).setCell (p := ⟨w.heap.size + 1 + 1, 1, none⟩) (by show w.heap.size ≤ w.heap.size + 1 + 1; omega) (.int .i64 s)).drew
      have hk1 := ((i5.put p q).other (g' := w.heap.size + 1 + 1) (by omega) (.int .i64 r) (.int .i64 s)).drew
      have hk2 := ((i6.other (g' := w.heap.size + 1) (by omega) (.int .i64 p) (.int .i64 q)).put r s).drew
      have hD : (((((W3.setCell ⟨w.heap.size + 1, 0, none⟩ (.int .i64 p)).setCell ⟨w.heap.size + 1, 1, none⟩ (.int .i64 q)).setCell ⟨w.heap.size + 1 + 1, 0, none⟩ (.int .i64 r)).setCell ⟨w.heap.size + 1 + 1, 1, none⟩ (.int .i64 s)).drew).heap[W.heap.size]? = some (.deferred (some [])) := by
        show ((((W3.setCell ⟨w.heap.size + 1, 0, none⟩ (.int .i64 p)).setCell ⟨w.heap.size + 1, 1, none⟩ (.int .i64 q)).setCell ⟨w.heap.size + 1 + 1, 0, none⟩ (.int .i64 r)).setCell ⟨w.heap.size + 1 + 1, 1, none⟩ (.int .i64 s)).heap[W.heap.size]? = _
        rw [Below.heap_setCell _ _ _ _ (by show W.heap.size ≠ w.heap.size + 1 + 1; omega), Below.heap_setCell _ _ _ _ (by show W.heap.size ≠ w.heap.size + 1 + 1; omega), Below.heap_setCell _ _ _ _ (by show W.heap.size ≠ w.heap.size + 1; omega), Below.heap_setCell _ _ _ _ (by show W.heap.size ≠ w.heap.size + 1; omega)]
        exact i2
      revert hWr hk1 hk2 hD
      generalize (((((W3.setCell ⟨w.heap.size + 1, 0, none⟩ (.int .i64 p)).setCell ⟨w.heap.size + 1, 1, none⟩ (.int .i64 q)).setCell ⟨w.heap.size + 1 + 1, 0, none⟩ (.int .i64 r)).setCell ⟨w.heap.size + 1 + 1, 1, none⟩ (.int .i64 s)).drew) = V
      intro hWr hk1 hk2 hD
      rw [hWs] at hD
      have hR' := hR
      refine bodyPostM_two (p := p) (q := q) (p' := r) (q' := s) (B1 := w.heap.size + 1) (B2 := w.heap.size + 1 + 1) (D := w1.heap.size + 3) Tryd.results37 rfl rfl rfl rfl hD ?_ ?_ ?_
      · exact (World.putObj_heap_other (by omega)).trans hk1
      · exact (World.putObj_heap_other (by omega)).trans hk2
      · rw [hR']
        exact ⟨rfl, below_putObj hWr (by omega) _⟩
    · obtain ⟨j1, j2, j3, j5, j6, j7⟩ := hJ
      refine ⟨some (.exit 0), _, by have := run_endLoop (P := Tryd.prog) j1 (by rw [← hrec]; exact fun h => LoopState.noConfusion h); rw [← hrec] at this; exact this, ?_⟩
      generalize hX : W2.putObj l _ = W3
      have e3 : ∀ k, k ≠ l → W3.heap[k]? = W2.heap[k]? := fun k hk => by rw [← hX]; exact World.putObj_heap_other hk
      have i2 : W3.heap[W.heap.size]? = some (.deferred (some [])) := (e3 _ (by omega)).trans j2
      have i3 : KP W3 w1.heap.size (nearS a b o) := (e3 _ (by omega)).trans j3
      have i5 : KQ W3 (w.heap.size + 1) 0 0 := (e3 _ (by omega)).trans j5
      have i6 : KQ W3 (w.heap.size + 1 + 1) 0 0 := (e3 _ (by omega)).trans j6
      have i7 : Below w.heap.size w W3 := ⟨by rw [← hX]; exact j7.os, by rw [← hX]; exact j7.tape, by rw [← hX]; exact j7.output, by rw [← hX]; simp; exact j7.size, fun k hk => (e3 k (by omega)).trans (j7.block k hk)⟩
      clear hX e3 j1 j2 j3 j5 j6 j7
      obtain ⟨⟨p, q, r, s⟩, hR⟩ : ∃ R, nearS a b o = R := ⟨_, rfl⟩
      rw [hR] at i3
      obtain ⟨c0, c1, c2, c3, c4, c5, c6, c7⟩ := i3.cells
      obtain ⟨d0, d1, d2, d3⟩ := i5.varQ
      obtain ⟨e0, e1, e2, e3⟩ := i6.varQ
      have k3 := i3.lt
      dsimp only
      gi_wp2_with fail
      gi_region
      gi_wp2_with fail
      have hWp := ((i7.setCell (p := ⟨w.heap.size + 1, 0, none⟩) (by show w.heap.size ≤ w.heap.size + 1; omega) (.int .i64 p)).setCell (p := ⟨w.heap.size + 1, 1, none⟩) (by show w.heap.size ≤ w.heap.size + 1; omega) (.int .i64 q))
      have hWr := ((hWp.setCell (p := ⟨w.heap.size + 1 + 1, 0, none⟩) (by show w.heap.size ≤ w.heap.size + 1 + 1; omega) (.int .i64 r)).setCell (p := ⟨w.heap.size + 1 + 1, 1, none⟩) (by show w.heap.size ≤ w.heap.size + 1 + 1; omega) (.int .i64 s)).drew
      have hk1 := ((i5.put p q).other (g' := w.heap.size + 1 + 1) (by omega) (.int .i64 r) (.int .i64 s)).drew
      have hk2 := ((i6.other (g' := w.heap.size + 1) (by omega) (.int .i64 p) (.int .i64 q)).put r s).drew
      have hD : (((((W3.setCell ⟨w.heap.size + 1, 0, none⟩ (.int .i64 p)).setCell ⟨w.heap.size + 1, 1, none⟩ (.int .i64 q)).setCell ⟨w.heap.size + 1 + 1, 0, none⟩ (.int .i64 r)).setCell ⟨w.heap.size + 1 + 1, 1, none⟩ (.int .i64 s)).drew).heap[W.heap.size]? = some (.deferred (some [])) := by
        show ((((W3.setCell ⟨w.heap.size + 1, 0, none⟩ (.int .i64 p)).setCell ⟨w.heap.size + 1, 1, none⟩ (.int .i64 q)).setCell ⟨w.heap.size + 1 + 1, 0, none⟩ (.int .i64 r)).setCell ⟨w.heap.size + 1 + 1, 1, none⟩ (.int .i64 s)).heap[W.heap.size]? = _
        rw [Below.heap_setCell _ _ _ _ (by show W.heap.size ≠ w.heap.size + 1 + 1; omega), Below.heap_setCell _ _ _ _ (by show W.heap.size ≠ w.heap.size + 1 + 1; omega), Below.heap_setCell _ _ _ _ (by show W.heap.size ≠ w.heap.size + 1; omega), Below.heap_setCell _ _ _ _ (by show W.heap.size ≠ w.heap.size + 1; omega)]
        exact i2
      revert hWr hk1 hk2 hD
      generalize (((((W3.setCell ⟨w.heap.size + 1, 0, none⟩ (.int .i64 p)).setCell ⟨w.heap.size + 1, 1, none⟩ (.int .i64 q)).setCell ⟨w.heap.size + 1 + 1, 0, none⟩ (.int .i64 r)).setCell ⟨w.heap.size + 1 + 1, 1, none⟩ (.int .i64 s)).drew) = V
      intro hWr hk1 hk2 hD
      rw [hWs] at hD
      have hR' := hR
      refine bodyPostM_two (p := p) (q := q) (p' := r) (q' := s) (B1 := w.heap.size + 1) (B2 := w.heap.size + 1 + 1) (D := w1.heap.size + 3) Tryd.results37 rfl rfl rfl rfl hD ?_ ?_ ?_
      · exact (World.putObj_heap_other (by omega)).trans hk1
      · exact (World.putObj_heap_other (by omega)).trans hk2
      · rw [hR']
        exact ⟨rfl, below_putObj hWr (by omega) _⟩
end Go.Proofs.YtpgnheankmlnfaaDoor
namespace Go.Proofs.YtpgnheankmlnfaaDoor
open Go.RowKit
set_option linter.unusedVariables false

/-- What Between returns. -/
def btw (a b o : Int) : Quad := if askO a b o = true then nearS a.toNat b.toNat o.toNat else (0, 0, 0, 0)
def RetQQE (x : Quad) (k : Int) (w : World) (e : Ending) (w' : World) : Prop := e = .returned (.tuple #[.agg #[.int .i64 x.1, .int .i64 x.2.1], .agg #[.int .i64 x.2.2.1, .int .i64 x.2.2.2], .int .i64 k]) ∧ Below w.heap.size w w'

/-- The return where nothing was deferred. -/
theorem bodyPostM_two0 {fn : Func} {r1 r2 s : Tmp} {a : Act} {B1 B2 : Nat} {w2 : World} {p q p' q' k : Int} {R : Ending → World → Prop} (hres : fn.results = #[.cell r1 39, .cell r2 39, .tmp s])
    (h1 : a.tmps.getD r1 undef = .pointer (some ⟨B1, 0, none⟩)) (h2 : a.tmps.getD r2 undef = .pointer (some ⟨B2, 0, none⟩)) (h3 : a.tmps.getD s undef = .int .i64 k)
    (hd : a.defers = [])
    (k1 : KQ w2 B1 p q) (k2 : KQ w2 B2 p' q')
    (hR : R (.returned (.tuple #[.agg #[.int .i64 p, .int .i64 q], .agg #[.int .i64 p', .int .i64 q'], .int .i64 k])) w2) :
    bodyPostM Fence.wide 0 Tryd.prog fn R .ret a w2 := by
  show LeavesInM Fence.wide 0 Tryd.prog fn a.tmps R a.defers .returning w2
  rw [hd]
  obtain ⟨c0, c1, _, _⟩ := k1.varQ
  obtain ⟨d0, d1, _, _⟩ := k2.varQ
  have h1' : a.tmps[r1]?.getD undef = .pointer (some ⟨B1, 0, none⟩) := by simpa using h1
  have h2' : a.tmps[r2]?.getD undef = .pointer (some ⟨B2, 0, none⟩) := by simpa using h2
  have h3' : a.tmps[s]?.getD undef = .int .i64 k := by simpa using h3
  refine ⟨_, ?_, hR⟩
  simp only [results, hres]
  simp [go_sem, h1', h2', h3', c0, c1, d0, d1]

set_option maxRecDepth 100000 in
set_option maxHeartbeats 4000000 in
theorem Between_no (a b o : Int) (w : World) (h : askO a b o = false) :
    CallsIn Fence.wide 0 Tryd.prog 37 #[.int .i64 a, .int .i64 b, .int .i64 o] w (RetQQE (0, 0, 0, 0) 1 w) := by
  have HA := Lib.hid h
  clear h
  refine callsIn_of_wp_marks Tryd.func37 rfl trivial ?_ rfl
  simp only [Tryd.ntmps37, List.size_toArray, List.length_cons, List.length_nil, Nat.reduceAdd, Nat.reduceSub, Array.replicate_succ, Array.replicate_zero, List.push_toArray, List.append_toArray, List.nil_append, List.cons_append]
  have HB0 := Lib.hid (below_alloc (below_alloc (below_alloc (Below.refl w.heap.size w) (.cells #[.int .i64 o] 3)) (.cells #[.int .i64 0, .int .i64 0] 39)) (.cells #[.int .i64 0, .int .i64 0] 39))
  gi_wp2_with fail
  refine ⟨trivial, rfl, callsIn_wide.2 ((asked_any _ _ _ _).mono ?_)⟩
  rintro e w1 ⟨rfl, hq1⟩
  rw [HA.out]
  have HB1 := Lib.hid (below_call HB0.out hq1)
  have hs1 : w.heap.size + 3 ≤ w1.heap.size := by have := hq1.size; simp at this; omega
  have hk6 : KQ w1 (w.heap.size + 1) 0 0 := by
    have := ((KQ.new (w.alloc (.cells #[.int .i64 o] 3)) 0 0).alloc (.cells #[.int .i64 0, .int .i64 0] 39)).below hq1
    rw [World.size_alloc] at this
    exact this
  have hk7 : KQ w1 (w.heap.size + 1 + 1) 0 0 := by
    have := (KQ.new ((w.alloc (.cells #[.int .i64 o] 3)).alloc (.cells #[.int .i64 0, .int .i64 0] 39)) 0 0).below hq1
    rw [World.size_alloc, World.size_alloc] at this
    exact this
  clear hq1 HB0
  obtain ⟨d0, d1, d2, d3⟩ := hk6.varQ
  obtain ⟨e0, e1, e2, e3⟩ := hk7.varQ
  have l6 := hk6.lt
  have l7 := hk7.lt
  gi_wp2_with fail
  have hWp := ((HB1.out.setCell (p := ⟨w.heap.size + 1, 0, none⟩) (by show w.heap.size ≤ w.heap.size + 1; omega) (.int .i64 0)).setCell (p := ⟨w.heap.size + 1, 1, none⟩) (by show w.heap.size ≤ w.heap.size + 1; omega) (.int .i64 0))
  have hWr := ((hWp.setCell (p := ⟨w.heap.size + 1 + 1, 0, none⟩) (by show w.heap.size ≤ w.heap.size + 1 + 1; omega) (.int .i64 0)).setCell (p := ⟨w.heap.size + 1 + 1, 1, none⟩) (by show w.heap.size ≤ w.heap.size + 1 + 1; omega) (.int .i64 0))
  exact bodyPostM_two0 (B1 := w.heap.size + 1) (B2 := w.heap.size + 1 + 1) Tryd.results37 rfl rfl rfl rfl ((hk6.put 0 0).other (g' := w.heap.size + 1 + 1) (by omega) (.int .i64 0) (.int .i64 0)) ((hk7.other (g' := w.heap.size + 1) (by omega) (.int .i64 0) (.int .i64 0)).put 0 0) ⟨rfl, hWr⟩

theorem Between_any (a b o : Int) (w : World) :
    Calls Tryd.prog 37 #[.int .i64 a, .int .i64 b, .int .i64 o] w (RetQQE (btw a b o) (askE (askO a b o)) w) := by
  refine (callsIn_wide (n := 0)).1 ?_
  cases h : askO a b o
  · have h2 : btw a b o = (0, 0, 0, 0) := by unfold btw; rw [h, if_neg (by decide)]
    rw [h2]
    exact Between_no a b o w h
  · obtain ⟨⟨⟨a0, a1⟩, b0, b1⟩, o0, o1⟩ := askO_iff.1 h
    obtain ⟨a, rfl⟩ : ∃ k : Nat, a = k := ⟨a.toNat, by omega⟩
    obtain ⟨b, rfl⟩ : ∃ k : Nat, b = k := ⟨b.toNat, by omega⟩
    obtain ⟨o, rfl⟩ : ∃ k : Nat, o = k := ⟨o.toNat, by omega⟩
    have h2 : btw a b o = nearS a b o := by unfold btw; rw [if_pos h]; rfl
    rw [h2]
    exact Between_ok a b o w h
end Go.Proofs.YtpgnheankmlnfaaDoor
