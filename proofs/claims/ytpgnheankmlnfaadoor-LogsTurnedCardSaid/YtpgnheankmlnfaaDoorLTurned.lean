/- The walk over the law LogsTurned. -/
import Derived.Test.YtpgnheankmlnfaaDoorLNarrower
namespace Go.Proofs.YtpgnheankmlnfaaDoor
open Go.RowKit
set_option linter.unusedVariables false

theorem ne_wrap7 (x : Int) : (wrap64 x != IntKind.i64.wrap x) = false := by rw [IntKind.wrap_i64]; unfold wrap64; exact bne_self_eq_false _
theorem eq_wrap7 (x : Int) : (wrap64 x == IntKind.i64.wrap x) = true := by rw [IntKind.wrap_i64]; unfold wrap64; exact beq_self_eq_true _
attribute [local go_sem] ne_wrap7 eq_wrap7

theorem keep4 {W w' : World} {g1 g2 g3 g4 : Nat} {p1 q1 p2 q2 p3 q3 p4 q4 : Int} (h1 : VarQ W g1 p1 q1) (h2 : VarQ W g2 p2 q2) (h3 : VarQ W g3 p3 q3) (h4 : VarQ W g4 p4 q4) (hb : Below W.heap.size W w') :
    w'.cell? ⟨g1, 0, none⟩ = some (.int .i64 p1) ∧ w'.cell? ⟨g1, 1, none⟩ = some (.int .i64 q1) ∧ w'.cell? ⟨g2, 0, none⟩ = some (.int .i64 p2) ∧ w'.cell? ⟨g2, 1, none⟩ = some (.int .i64 q2) ∧
    w'.cell? ⟨g3, 0, none⟩ = some (.int .i64 p3) ∧ w'.cell? ⟨g3, 1, none⟩ = some (.int .i64 q3) ∧ w'.cell? ⟨g4, 0, none⟩ = some (.int .i64 p4) ∧ w'.cell? ⟨g4, 1, none⟩ = some (.int .i64 q4) ∧ Below W.heap.size W w' := by
  obtain ⟨a1, a2, _⟩ := h1.below hb
  obtain ⟨a3, a4, _⟩ := h2.below hb
  obtain ⟨a5, a6, _⟩ := h3.below hb
  obtain ⟨a7, a8, _⟩ := h4.below hb
  exact ⟨a1, a2, a3, a4, a5, a6, a7, a8, hb⟩

set_option maxRecDepth 100000 in
set_option maxHeartbeats 8000000 in
theorem LogsTurned_any (a b o : Int) (w : World) :
    Calls Tryd.prog 10 #[.int .i64 a, .int .i64 b, .int .i64 o] w fun e w' => e = .returned (.bool true) ∧ Below w.heap.size w w' := by
  obtain ⟨v1, hv1⟩ : ∃ v, askF a b 0 = v := ⟨_, rfl⟩
  have HV1 := Lib.hid hv1
  clear hv1
  have HB0 := Lib.hid (Below.refl w.heap.size w)
  go_enter Tryd.func10, Tryd.ntmps10
  go_wp2_with fail
  refine (sane_any _).mono ?_
  rintro e w1 ⟨rfl, hq⟩
  have HB1 := Lib.hid (below_call HB0.out hq)
  clear hq HB0
  go_wp2_with fail
  refine (Right_any a b 0 _).mono ?_
  rintro e w2 ⟨rfl, hq⟩
  rw [HV1.out]
  have HB2 := Lib.hid (below_call HB1.out hq)
  clear hq HB1
  cases v1
  · go_wp2_with fail
    go_ret
    exact ⟨rfl, HB2.out⟩
  obtain ⟨⟨a0, a1⟩, ⟨b0, b1⟩, _, _⟩ := askF_iff.1 HV1.out
  by_cases ho0 : o < 1
  · have t1 : decide (o < 1) = true := decide_eq_true ho0
    go_wp2_with fail
    go_ret
    exact ⟨rfl, HB2.out⟩
  by_cases ho1 : 64 < o
  · have t1 : decide (o < 1) = false := decide_eq_false ho0
    have t2 : decide (64 < o) = true := decide_eq_true ho1
    go_wp2_with fail
    go_ret
    exact ⟨rfl, HB2.out⟩
  obtain ⟨a, rfl⟩ : ∃ n : Nat, a = (n : Int) := ⟨a.toNat, by omega⟩
  obtain ⟨b, rfl⟩ : ∃ n : Nat, b = (n : Int) := ⟨b.toNat, by omega⟩
  obtain ⟨o, rfl⟩ : ∃ n : Nat, o = (n : Int) := ⟨o.toNat, by omega⟩
  have ha0 : 0 < a := by omega
  have hb0 : 0 < b := by omega
  have HA := Lib.hid (askO_of (a := a) (b := b) (o := o) ha0 (by omega) hb0 (by omega) (by omega) (by omega))
  have HA' := Lib.hid (askO_of (a := b) (b := a) (o := o) hb0 (by omega) ha0 (by omega) (by omega) (by omega))
  have hnf := near_facts HA.out
  have htu := nearS_turn (o := o) ha0 hb0 (by omega)
  have hdb := nearS_dbl (o := o) ha0 hb0 (by omega)
  obtain ⟨⟨P, Q, R, S⟩, hnear⟩ : ∃ x, nearS a b o = x := ⟨_, rfl⟩
  rw [hnear] at hnf htu hdb
  dsimp only at hnf htu hdb
  obtain ⟨n1, n2, n3, n4, n5, n6, n7, n8, n9, n10⟩ := hnf
  have hwR : -R = wrap64 (-R) := (wrap64_id (by omega) (by omega)).symm
  have hwP : -P = wrap64 (-P) := (wrap64_id (by omega) (by omega)).symm
  have hwPQ : P + Q = wrap64 (P + Q) := (wrap64_id (by omega) (by omega)).symm
  have hwRS : R + S = wrap64 (R + S) := (wrap64_id (by omega) (by omega)).symm
  rw [hwR, hwP] at htu
  rw [hwPQ, hwRS] at hdb
  have HF1 := Lib.hid (Between_ok2 a b o · HA.out hnear)
  have HF2 := Lib.hid (Between_ok2 b a o · HA'.out htu)
  have HF3 : Hid (2 * a ≤ 4095 → ∀ w : World, Calls Tryd.prog 37 #[.int .i64 (2 * (a : Int)), .int .i64 b, .int .i64 o] w (RetQQE (wrap64 (P + Q), Q, wrap64 (R + S), S) 0 w)) := by
    refine Lib.hid fun h w => ?_
    have := Between_ok2 (2 * a) b o w (askO_of (by omega) (by omega) hb0 (by omega) (by omega) (by omega)) hdb
    simpa using this
  have HEX : Hid (2 * a ≤ 4095 → ∃ t ts, expL a b o = t :: ts ∧ (∀ w : World, Calls Tryd.prog 32 #[.int .i64 (2 * (a : Int)), .int .i64 b, .int .i64 o] w (RetSE ((t + 1) :: ts) 0 w)) ∧ -12 ≤ t ∧ t ≤ 12) := by
    refine Lib.hid fun h => ?_
    have h2 := askO_of (a := 2 * a) (b := b) (o := o) (by omega) (by omega) hb0 (by omega) (by omega) (by omega)
    obtain ⟨t, ts, e1, e2⟩ := expL_dbl HA.out h2
    refine ⟨t, ts, e1, fun w => ?_, ?_⟩
    · have := Expand_ok2 (2 * a) b o w h2 e2
      simpa using this
    · obtain ⟨f1, f2⟩ := flo_12 ha0 hb0 (by omega) (by omega)
      have : t = flo a b 1 := by
        unfold expL at e1
        rw [if_pos HA.out] at e1
        exact (List.cons.inj e1).1.symm
      omega
  clear hnear htu hdb n9 n10 hwR hwP hwPQ hwRS
  have s1 : decide ((o : Int) < 1) = false := decide_eq_false (by omega)
  have s2 : decide ((64 : Int) < o) = false := decide_eq_false (by omega)
  go_wp2_with fail
  refine (HF1.out _).mono ?_
  rintro e w3 ⟨rfl, hq⟩
  dsimp only
  have HB3 := Lib.hid (below_alloc (below_alloc (below_call HB2.out hq) (.cells #[.int .i64 P, .int .i64 Q] 39)) (.cells #[.int .i64 R, .int .i64 S] 39))
  have HU3 := Lib.hid ((VarQ.new w3 P Q 39).alloc (.cells #[.int .i64 R, .int .i64 S] 39))
  have HW3 := Lib.hid (VarQ.new (w3.alloc (.cells #[.int .i64 P, .int .i64 Q] 39)) R S 39)
  rw [World.size_alloc] at HW3
  clear hq HB2
  go_wp2_with fail
  refine (HF2.out _).mono ?_
  rintro e w4 ⟨rfl, hq⟩
  dsimp only
  have HB4 := Lib.hid (below_alloc (below_alloc (below_call HB3.out hq) (.cells #[.int .i64 (wrap64 (-R)), .int .i64 S] 39)) (.cells #[.int .i64 (wrap64 (-P)), .int .i64 Q] 39))
  have HU4 := Lib.hid (((HU3.out.below hq).alloc (.cells #[.int .i64 (wrap64 (-R)), .int .i64 S] 39)).alloc (.cells #[.int .i64 (wrap64 (-P)), .int .i64 Q] 39))
  have HW4 := Lib.hid (((HW3.out.below hq).alloc (.cells #[.int .i64 (wrap64 (-R)), .int .i64 S] 39)).alloc (.cells #[.int .i64 (wrap64 (-P)), .int .i64 Q] 39))
  have HX4 := Lib.hid ((VarQ.new w4 (wrap64 (-R)) S 39).alloc (.cells #[.int .i64 (wrap64 (-P)), .int .i64 Q] 39))
  have HY4 := Lib.hid (VarQ.new (w4.alloc (.cells #[.int .i64 (wrap64 (-R)), .int .i64 S] 39)) (wrap64 (-P)) Q 39)
  rw [World.size_alloc] at HY4
  obtain ⟨h, hh⟩ : ∃ h, w3.heap.size = h := ⟨_, rfl⟩
  rw [hh] at HU4 HW4 ⊢
  clear hq HB3 HU3 HW3 hh
  clear n5 n6 n7 n8
  go_wp2_with fail
  obtain ⟨W0, hW0⟩ : ∃ W0, ((w4.alloc (.cells #[.int .i64 (wrap64 (-R)), .int .i64 S] 39)).alloc (.cells #[.int .i64 (wrap64 (-P)), .int .i64 Q] 39)) = W0 := ⟨_, rfl⟩
  rw [hW0] at HB4 HU4 HW4 HX4 HY4 ⊢
  obtain ⟨h', hh'⟩ : ∃ h, w4.heap.size = h := ⟨_, rfl⟩
  rw [hh'] at HX4 HY4 ⊢
  clear hW0 hh'
  have HK := Lib.hid (fun (w' : World) (hb : Below W0.heap.size W0 w') => keep4 HU4.out HW4.out HX4.out HY4.out hb)
  have HQ := Lib.hid (fun (V : World) (p q : Int) (hb : Below W0.heap.size W0 V) =>
    (quot_any p q V).mono (R' := fun e w' => e = .returned (.agg #[.int .i64 p, .int .i64 q]) ∧ Below W0.heap.size W0 w') fun e w' h => ⟨h.1, below_call hb h.2⟩)
  obtain ⟨k1, k2, k3, k4, k5, k6, k7, k8, k9⟩ := HK.out W0 (Below.refl _ _)
  first | (go_region_held3 (fun w' => w'.cell? ⟨h, 0, none⟩ = some (.int .i64 P) ∧ w'.cell? ⟨h, 1, none⟩ = some (.int .i64 Q) ∧ w'.cell? ⟨h + 1, 0, none⟩ = some (.int .i64 R) ∧ w'.cell? ⟨h + 1, 1, none⟩ = some (.int .i64 S) ∧
      w'.cell? ⟨h', 0, none⟩ = some (.int .i64 (wrap64 (-R))) ∧ w'.cell? ⟨h', 1, none⟩ = some (.int .i64 S) ∧ w'.cell? ⟨h' + 1, 0, none⟩ = some (.int .i64 (wrap64 (-P))) ∧ w'.cell? ⟨h' + 1, 1, none⟩ = some (.int .i64 Q) ∧ Below W0.heap.size W0 w')
    (first | (refine HK.out _ ?_; assumption) | (refine HK.out _ (Below.drew ?_); go_split_ands; assumption))
    (first | (go_at_call 38; refine Calls.mono (HQ.out _ _ _ ?_) ?_; (go_split_ands; assumption); rintro e w5 ⟨rfl, hbb⟩))) | skip
  have HB5 := Lib.hid (HB4.out.trans (hbb.mono HB4.out.size))
  have HU5 := Lib.hid (HU4.out.below hbb)
  have HW5 := Lib.hid (HW4.out.below hbb)
  clear HB4 HU4 HW4 HX4 HY4 HK HQ k1 k2 k3 k4 k5 k6 k7 k8 k9
  by_cases h2 : 2 * a ≤ 4095
  case neg =>
    have t1 : decide ((4095 : Int) < 2 * (a : Int)) = true := decide_eq_true (by omega)
    have t2 : (4095 : Int) < 2 * (a : Int) := by omega
    go_wp2_with fail
    go_ret
    exact ⟨rfl, HB5.out⟩
  have t1 : decide ((4095 : Int) < 2 * (a : Int)) = false := decide_eq_false (by omega)
  have t2 : ¬ (4095 : Int) < 2 * (a : Int) := by omega
  obtain ⟨t, ts, hxs, hex, tl0, tl1⟩ := HEX.out h2
  have HF4 := Lib.hid hex
  have HF5 := Lib.hid (Expand_ok2 a b o · HA.out hxs)
  have HF6 := Lib.hid (HF3.out h2)
  clear hxs hex
  go_wp2_with fail
  refine (HF6.out _).mono ?_
  rintro e w6 ⟨rfl, hq⟩
  dsimp only
  have HB6 := Lib.hid (below_alloc (below_alloc (below_call HB5.out hq) (.cells #[.int .i64 (wrap64 (P + Q)), .int .i64 Q] 39)) (.cells #[.int .i64 (wrap64 (R + S)), .int .i64 S] 39))
  have HU6 := Lib.hid (((HU5.out.below hq).alloc (.cells #[.int .i64 (wrap64 (P + Q)), .int .i64 Q] 39)).alloc (.cells #[.int .i64 (wrap64 (R + S)), .int .i64 S] 39))
  have HW6 := Lib.hid (((HW5.out.below hq).alloc (.cells #[.int .i64 (wrap64 (P + Q)), .int .i64 Q] 39)).alloc (.cells #[.int .i64 (wrap64 (R + S)), .int .i64 S] 39))
  have HX6 := Lib.hid ((VarQ.new w6 (wrap64 (P + Q)) Q 39).alloc (.cells #[.int .i64 (wrap64 (R + S)), .int .i64 S] 39))
  have HY6 := Lib.hid (VarQ.new (w6.alloc (.cells #[.int .i64 (wrap64 (P + Q)), .int .i64 Q] 39)) (wrap64 (R + S)) S 39)
  rw [World.size_alloc] at HY6
  clear hq HB5 HU5 HW5
  go_wp2_with fail
  refine (HF5.out _).mono ?_
  rintro e w7 ⟨A7, m7, c7, rfl, hE, hq⟩
  have HL7 := Lib.hid hE
  have HB7 := Lib.hid (below_call HB6.out hq)
  have HU7 := Lib.hid (HU6.out.below hq)
  have HW7 := Lib.hid (HW6.out.below hq)
  have HX7 := Lib.hid (HX6.out.below hq)
  have HY7 := Lib.hid (HY6.out.below hq)
  obtain ⟨g, hg⟩ : ∃ g, w6.heap.size = g := ⟨_, rfl⟩
  rw [hg] at HX7 HY7 ⊢
  clear hq hE HB6 HU6 HW6 HX6 HY6 hg
  go_wp2_with fail
  refine (HF4.out _).mono ?_
  rintro e w8 ⟨A8, m8, c8, rfl, hE, hq⟩
  have HM8 := Lib.hid hE
  have HL8 := Lib.hid (HL7.out.below hq)
  have HB8 := Lib.hid (below_call HB7.out hq)
  have HU8 := Lib.hid (HU7.out.below hq)
  have HW8 := Lib.hid (HW7.out.below hq)
  have HX8 := Lib.hid (HX7.out.below hq)
  have HY8 := Lib.hid (HY7.out.below hq)
  clear hq hE HB7 HU7 HW7 HX7 HY7 HL7
  have hm7 := HL8.out.1
  have hm8 := HM8.out.1
  rw [List.length_cons] at hm7 hm8
  obtain rfl : m7 = m8 := by omega
  have q1 : ¬ (m7 : Int) < 1 := by omega
  have q2 : ¬ m7 < 1 := by omega
  have q2' : ¬ m7 = 0 := by omega
  go_wp2_with fail
  obtain ⟨b7, o7, hA7, hc7⟩ := HL8.out.2.2.2 (by simp)
  subst hA7
  obtain ⟨b8, o8, hA8, hc8⟩ := HM8.out.2.2.2 (by simp)
  subst hA8
  have d7 := hc7 0 (by simp)
  have d8 := hc8 0 (by simp)
  rw [Nat.add_zero, List.getD_cons_zero] at d7 d8
  have hwt : t + 1 = wrap64 (t + 1) := (wrap64_id (by omega) (by omega)).symm
  rw [hwt] at d8
  have hcc7 := HL8.out.2.1
  have hcc8 := HM8.out.2.1
  have r1 : (1 : Int) ≤ m7 := by omega
  have r2 : (m7 : Int) ≤ c7 := by omega
  have r3 : (m7 : Int) ≤ c8 := by omega
  have r4 : 0 < m7 := by omega
  have r5 : (0 : Int) < m7 := by omega
  have HK := Lib.hid (fun (w' : World) (hb : Below w8.heap.size w8 w') => And.intro ((hb.cell (p := ⟨b7, o7, none⟩) (World.block_lt_of_cell? w8 _ d7)).trans d7) (And.intro ((hb.cell (p := ⟨b8, o8, none⟩) (World.block_lt_of_cell? w8 _ d8)).trans d8) (keep4 HU8.out HW8.out HX8.out HY8.out hb)))
  have HQ := Lib.hid (fun (V : World) (p q : Int) (hb : Below w8.heap.size w8 V) =>
    (quot_any p q V).mono (R' := fun e w' => e = .returned (.agg #[.int .i64 p, .int .i64 q]) ∧ Below w8.heap.size w8 w') fun e w' h => ⟨h.1, below_call hb h.2⟩)
  obtain ⟨k0', k0'', k1, k2, k3, k4, k5, k6, k7, k8, k9⟩ := HK.out w8 (Below.refl _ _)
  clear hwt d7 d8 hc7 hc8 hcc7 hcc8 tl0 tl1 HF1 HF2 HF3 HF4 HF5 HF6 HEX
  by_cases e7 : c7 = 1
  · by_cases e8 : c8 = 1
    · subst e7 e8
      obtain rfl : m7 = 1 := by omega
      go_region_held3 (fun w' => w'.cell? ⟨b7, o7, none⟩ = some (.int .i64 t) ∧ w'.cell? ⟨b8, o8, none⟩ = some (.int .i64 (wrap64 (t + 1))) ∧ w'.cell? ⟨h, 0, none⟩ = some (.int .i64 P) ∧ w'.cell? ⟨h, 1, none⟩ = some (.int .i64 Q) ∧ w'.cell? ⟨h + 1, 0, none⟩ = some (.int .i64 R) ∧ w'.cell? ⟨h + 1, 1, none⟩ = some (.int .i64 S) ∧
      w'.cell? ⟨g, 0, none⟩ = some (.int .i64 (wrap64 (P + Q))) ∧ w'.cell? ⟨g, 1, none⟩ = some (.int .i64 Q) ∧ w'.cell? ⟨g + 1, 0, none⟩ = some (.int .i64 (wrap64 (R + S))) ∧ w'.cell? ⟨g + 1, 1, none⟩ = some (.int .i64 S) ∧ Below w8.heap.size w8 w')
        (first | (refine HK.out _ ?_; assumption) | (refine HK.out _ (Below.drew ?_); go_split_ands; assumption))
        (first
          | (go_at_call 38; refine Calls.mono (HQ.out _ _ _ ?_) ?_; (go_split_ands; assumption); rintro e w9 ⟨rfl, hbb⟩)
          | (go_at_call 31; refine Calls.mono (equalI_same (xs := ts) ?_ ?_) ?_; (first | exact (HM8.out.below (by go_split_ands; assumption)).tail0 (by omega) | exact (HM8.out.below (by go_split_ands; assumption)).tail); (first | exact (HL8.out.below (by go_split_ands; assumption)).tail0 (by omega) | exact (HL8.out.below (by go_split_ands; assumption)).tail); rintro e w9 ⟨rfl, hq9⟩; have hbb : Below w8.heap.size w8 w9 := below_call (by go_split_ands; assumption) hq9; clear hq9))
      have HBf := HB8.out.trans (hbb.mono HB8.out.size)
      go_wp2_with fail
      go_ret
      exact ⟨rfl, HBf⟩
    · subst e7
      obtain rfl : m7 = 1 := by omega
      go_region_held3 (fun w' => w'.cell? ⟨b7, o7, none⟩ = some (.int .i64 t) ∧ w'.cell? ⟨b8, o8, none⟩ = some (.int .i64 (wrap64 (t + 1))) ∧ w'.cell? ⟨h, 0, none⟩ = some (.int .i64 P) ∧ w'.cell? ⟨h, 1, none⟩ = some (.int .i64 Q) ∧ w'.cell? ⟨h + 1, 0, none⟩ = some (.int .i64 R) ∧ w'.cell? ⟨h + 1, 1, none⟩ = some (.int .i64 S) ∧
      w'.cell? ⟨g, 0, none⟩ = some (.int .i64 (wrap64 (P + Q))) ∧ w'.cell? ⟨g, 1, none⟩ = some (.int .i64 Q) ∧ w'.cell? ⟨g + 1, 0, none⟩ = some (.int .i64 (wrap64 (R + S))) ∧ w'.cell? ⟨g + 1, 1, none⟩ = some (.int .i64 S) ∧ Below w8.heap.size w8 w')
        (first | (refine HK.out _ ?_; assumption) | (refine HK.out _ (Below.drew ?_); go_split_ands; assumption))
        (first
          | (go_at_call 38; refine Calls.mono (HQ.out _ _ _ ?_) ?_; (go_split_ands; assumption); rintro e w9 ⟨rfl, hbb⟩)
          | (go_at_call 31; refine Calls.mono (equalI_same (xs := ts) ?_ ?_) ?_; (first | exact (HM8.out.below (by go_split_ands; assumption)).tail0 (by omega) | exact (HM8.out.below (by go_split_ands; assumption)).tail); (first | exact (HL8.out.below (by go_split_ands; assumption)).tail0 (by omega) | exact (HL8.out.below (by go_split_ands; assumption)).tail); rintro e w9 ⟨rfl, hq9⟩; have hbb : Below w8.heap.size w8 w9 := below_call (by go_split_ands; assumption) hq9; clear hq9))
      have HBf := HB8.out.trans (hbb.mono HB8.out.size)
      go_wp2_with fail
      go_ret
      exact ⟨rfl, HBf⟩
  · by_cases e8 : c8 = 1
    · subst e8
      obtain rfl : m7 = 1 := by omega
      go_region_held3 (fun w' => w'.cell? ⟨b7, o7, none⟩ = some (.int .i64 t) ∧ w'.cell? ⟨b8, o8, none⟩ = some (.int .i64 (wrap64 (t + 1))) ∧ w'.cell? ⟨h, 0, none⟩ = some (.int .i64 P) ∧ w'.cell? ⟨h, 1, none⟩ = some (.int .i64 Q) ∧ w'.cell? ⟨h + 1, 0, none⟩ = some (.int .i64 R) ∧ w'.cell? ⟨h + 1, 1, none⟩ = some (.int .i64 S) ∧
      w'.cell? ⟨g, 0, none⟩ = some (.int .i64 (wrap64 (P + Q))) ∧ w'.cell? ⟨g, 1, none⟩ = some (.int .i64 Q) ∧ w'.cell? ⟨g + 1, 0, none⟩ = some (.int .i64 (wrap64 (R + S))) ∧ w'.cell? ⟨g + 1, 1, none⟩ = some (.int .i64 S) ∧ Below w8.heap.size w8 w')
        (first | (refine HK.out _ ?_; assumption) | (refine HK.out _ (Below.drew ?_); go_split_ands; assumption))
        (first
          | (go_at_call 38; refine Calls.mono (HQ.out _ _ _ ?_) ?_; (go_split_ands; assumption); rintro e w9 ⟨rfl, hbb⟩)
          | (go_at_call 31; refine Calls.mono (equalI_same (xs := ts) ?_ ?_) ?_; (first | exact (HM8.out.below (by go_split_ands; assumption)).tail0 (by omega) | exact (HM8.out.below (by go_split_ands; assumption)).tail); (first | exact (HL8.out.below (by go_split_ands; assumption)).tail0 (by omega) | exact (HL8.out.below (by go_split_ands; assumption)).tail); rintro e w9 ⟨rfl, hq9⟩; have hbb : Below w8.heap.size w8 w9 := below_call (by go_split_ands; assumption) hq9; clear hq9))
      have HBf := HB8.out.trans (hbb.mono HB8.out.size)
      go_wp2_with fail
      go_ret
      exact ⟨rfl, HBf⟩
    · have e9 : ¬ m7 - 1 = 0 ∨ m7 = 1 := by omega
      clear e9
      go_region_held3 (fun w' => w'.cell? ⟨b7, o7, none⟩ = some (.int .i64 t) ∧ w'.cell? ⟨b8, o8, none⟩ = some (.int .i64 (wrap64 (t + 1))) ∧ w'.cell? ⟨h, 0, none⟩ = some (.int .i64 P) ∧ w'.cell? ⟨h, 1, none⟩ = some (.int .i64 Q) ∧ w'.cell? ⟨h + 1, 0, none⟩ = some (.int .i64 R) ∧ w'.cell? ⟨h + 1, 1, none⟩ = some (.int .i64 S) ∧
      w'.cell? ⟨g, 0, none⟩ = some (.int .i64 (wrap64 (P + Q))) ∧ w'.cell? ⟨g, 1, none⟩ = some (.int .i64 Q) ∧ w'.cell? ⟨g + 1, 0, none⟩ = some (.int .i64 (wrap64 (R + S))) ∧ w'.cell? ⟨g + 1, 1, none⟩ = some (.int .i64 S) ∧ Below w8.heap.size w8 w')
        (first | (refine HK.out _ ?_; assumption) | (refine HK.out _ (Below.drew ?_); go_split_ands; assumption))
        (first
          | (go_at_call 38; refine Calls.mono (HQ.out _ _ _ ?_) ?_; (go_split_ands; assumption); rintro e w9 ⟨rfl, hbb⟩)
          | (go_at_call 31; refine Calls.mono (equalI_same (xs := ts) ?_ ?_) ?_; (first | exact (HM8.out.below (by go_split_ands; assumption)).tail0 (by omega) | exact (HM8.out.below (by go_split_ands; assumption)).tail); (first | exact (HL8.out.below (by go_split_ands; assumption)).tail0 (by omega) | exact (HL8.out.below (by go_split_ands; assumption)).tail); rintro e w9 ⟨rfl, hq9⟩; have hbb : Below w8.heap.size w8 w9 := below_call (by go_split_ands; assumption) hq9; clear hq9))
      have HBf := HB8.out.trans (hbb.mono HB8.out.size)
      go_wp2_with fail
      go_ret
      exact ⟨rfl, HBf⟩
end Go.Proofs.YtpgnheankmlnfaaDoor
