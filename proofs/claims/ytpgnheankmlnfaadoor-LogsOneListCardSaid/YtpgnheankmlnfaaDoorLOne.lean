/- The walk over the law LogsOneList. -/
import Derived.Test.YtpgnheankmlnfaaDoorLConv
namespace Go.Proofs.YtpgnheankmlnfaaDoor
open Go.RowKit
set_option linter.unusedVariables false

/-- What a list of terms that Fold takes is. -/
theorem one_facts {xs : List Int} {P Q : Int} (h : folV xs = (P, Q, 0)) : 1 ≤ Q ∧ Q ≤ 1073741824 ∧ P ≤ 1073741824 ∧ -1073741824 ≤ P ∧ Nat.gcd P.natAbs Q.natAbs = 1 := by
  obtain ⟨t, ts, e, h1, h2, h3⟩ := folV_ok h
  have := cf_gcd xs
  rw [h2] at this
  exact ⟨h3.1, h3.2.1, h3.2.2.1, h3.2.2.2, this⟩
theorem one_one {xs ys : List Int} {P Q P' Q' : Int} (h : folV xs = (P, Q, 0)) (h' : folV ys = (P', Q', 0)) (hx : xs.length = 1 ∨ 2 ≤ xs.getD (xs.length - 1) 0) (hy : ys.length = 1 ∨ 2 ≤ ys.getD (ys.length - 1) 0) : (xs == ys) = (P == P' && Q == Q') := by
  obtain ⟨t, ts, rfl, h1, h2, _⟩ := folV_ok h
  obtain ⟨u, us, rfl, k1, k2, _⟩ := folV_ok h'
  have tidy : ∀ {t : Int} {ts : List Int}, (∀ x ∈ ts, 1 ≤ x) → ((t :: ts).length = 1 ∨ 2 ≤ (t :: ts).getD ((t :: ts).length - 1) 0) → Tidy ts := fun {t ts} a b => by
    refine ⟨a, ?_⟩
    rcases ts with _ | ⟨v, vs⟩
    · exact .inl rfl
    · right
      rcases b with b | b
      · simp at b
      · simpa using b
  have hT := tidy h1 hx
  have hU := tidy k1 hy
  rw [Bool.eq_iff_iff, beq_iff_eq, Bool.and_eq_true, beq_iff_eq, beq_iff_eq]
  constructor
  · intro e
    rw [e, k2] at h2
    exact ⟨congrArg Prod.fst h2.symm, congrArg Prod.snd h2.symm⟩
  · rintro ⟨rfl, rfl⟩
    obtain ⟨rfl, rfl⟩ := cf_one ts us t u hT hU (h2.trans k2.symm)
    rfl

/-- Block g holds the four whole numbers of a row of two fractions. -/
def SQ (w : World) (g : Nat) (p q r s : Int) : Prop := w.cell? ⟨g, 0, none⟩ = some (.int .i64 p) ∧ w.cell? ⟨g, 1, none⟩ = some (.int .i64 q) ∧ w.cell? ⟨g, 2, none⟩ = some (.int .i64 r) ∧ w.cell? ⟨g, 3, none⟩ = some (.int .i64 s)
theorem SQ.lt {w : World} {g : Nat} {p q r s : Int} (h : SQ w g p q r s) : g < w.heap.size := World.block_lt_of_cell? w _ h.1
theorem SQ.below {w w1 : World} {g : Nat} {p q r s : Int} (h : SQ w g p q r s) (hb : Below w.heap.size w w1) : SQ w1 g p q r s :=
  ⟨(hb.cell (p := ⟨g, 0, none⟩) h.lt).trans h.1, (hb.cell (p := ⟨g, 1, none⟩) h.lt).trans h.2.1, (hb.cell (p := ⟨g, 2, none⟩) h.lt).trans h.2.2.1, (hb.cell (p := ⟨g, 3, none⟩) h.lt).trans h.2.2.2⟩
theorem SQ.new (w : World) (p q r s : Int) (t : TypeId) : SQ (w.alloc (.cells #[.int .i64 p, .int .i64 q, .int .i64 r, .int .i64 s] t)) w.heap.size p q r s :=
  ⟨by simp [go_sem], by simp [go_sem], by simp [go_sem], by simp [go_sem]⟩

theorem keep2 {W w' : World} {g1 g2 : Nat} {p1 q1 p2 q2 : Int} (h1 : VarQ W g1 p1 q1) (h2 : VarQ W g2 p2 q2) (hb : Below W.heap.size W w') :
    w'.cell? ⟨g1, 0, none⟩ = some (.int .i64 p1) ∧ w'.cell? ⟨g1, 1, none⟩ = some (.int .i64 q1) ∧ w'.cell? ⟨g2, 0, none⟩ = some (.int .i64 p2) ∧ w'.cell? ⟨g2, 1, none⟩ = some (.int .i64 q2) ∧ Below W.heap.size W w' :=
  ⟨(h1.below hb).1, (h1.below hb).2.1, (h2.below hb).1, (h2.below hb).2.1, hb⟩

set_option maxRecDepth 100000 in
set_option maxHeartbeats 8000000 in
theorem LogsOneList_any (A : Option Addr) (n c : Nat) (xs : List Int) (A' : Option Addr) (n' c' : Nat) (ys : List Int) (w : World) (h : IsL w A n c xs) (h' : IsL w A' n' c' ys) :
    Calls Tryd.prog 9 #[.slice A n c, .slice A' n' c'] w fun e w' => e = .returned (.bool true) ∧ Below w.heap.size w w' := by
  have HB0 := Lib.hid (Below.refl w.heap.size w)
  have HL0 := Lib.hid h
  have HM0 := Lib.hid h'
  have hn := h.1
  have hn' := h'.1
  clear h h'
  go_enter Tryd.func9, Tryd.ntmps9
  go_wp2_with fail
  refine (sane_any _).mono ?_
  rintro e w1 ⟨rfl, hq⟩
  have HB1 := Lib.hid (below_call HB0.out hq)
  have HL1 := Lib.hid (HL0.out.below hq)
  have HM1 := Lib.hid (HM0.out.below hq)
  clear hq HB0 HL0 HM0
  by_cases h1 : 16 < n
  · have t1 : (16 : Int) < n := by omega
    go_wp2_with fail
    go_ret
    exact ⟨rfl, HB1.out⟩
  have t1 : ¬ (16 : Int) < n := by omega
  by_cases h2 : 16 < n'
  · have t2 : (16 : Int) < n' := by omega
    go_wp2_with fail
    go_ret
    exact ⟨rfl, HB1.out⟩
  have t2 : ¬ (16 : Int) < n' := by omega
  go_wp2_with fail
  refine Calls.mono (Fold_any _ _ _ _ _ HL1.out) ?_
  rintro e w2 ⟨rfl, hq⟩
  obtain ⟨⟨P, Q, E⟩, hf⟩ : ∃ x, folV xs = x := ⟨_, rfl⟩
  rw [hf]
  have HF := Lib.hid hf
  have HB2 := Lib.hid (below_alloc (below_call HB1.out hq) (.cells #[.int .i64 P, .int .i64 Q] 39))
  have HL2 := Lib.hid ((HL1.out.below hq).below (below_alloc (Below.refl _ _) (.cells #[.int .i64 P, .int .i64 Q] 39)))
  have HM2 := Lib.hid ((HM1.out.below hq).below (below_alloc (Below.refl _ _) (.cells #[.int .i64 P, .int .i64 Q] 39)))
  have HX2 := Lib.hid (VarQ.new w2 P Q 39)
  clear hq hf HB1 HL1 HM1
  dsimp only
  go_wp2_with fail
  refine Calls.mono (Fold_any _ _ _ _ _ HM2.out) ?_
  rintro e w3 ⟨rfl, hq⟩
  obtain ⟨⟨P', Q', E'⟩, hf⟩ : ∃ x, folV ys = x := ⟨_, rfl⟩
  rw [hf]
  have HF' := Lib.hid hf
  have hba := below_alloc (Below.refl w3.heap.size w3) (.cells #[.int .i64 P', .int .i64 Q'] 39)
  have HB3 := Lib.hid (below_alloc (below_call HB2.out hq) (.cells #[.int .i64 P', .int .i64 Q'] 39))
  have HL3 := Lib.hid ((HL2.out.below hq).below hba)
  have HM3 := Lib.hid ((HM2.out.below hq).below hba)
  have HX3 := Lib.hid ((HX2.out.below hq).alloc (.cells #[.int .i64 P', .int .i64 Q'] 39))
  have HY3 := Lib.hid (VarQ.new w3 P' Q' 39)
  obtain ⟨g, hg⟩ : ∃ g, w2.heap.size = g := ⟨_, rfl⟩
  rw [hg] at HX3 ⊢
  clear hq hf hba hg HB2 HL2 HM2 HX2
  dsimp only
  by_cases hE : E = 0
  case neg =>
    have t3 : (E == 0) = false := by simpa using hE
    have t4 : (E != 0) = true := by simpa using hE
    clear hE
    go_wp2_with fail
    go_ret
    exact ⟨rfl, HB3.out⟩
  subst hE
  by_cases hE : E' = 0
  case neg =>
    have t3 : (E' == 0) = false := by simpa using hE
    have t4 : (E' != 0) = true := by simpa using hE
    clear hE
    go_wp2_with fail
    go_ret
    exact ⟨rfl, HB3.out⟩
  subst hE
  obtain ⟨q0, q1, p1, p0, hgc⟩ := one_facts HF.out
  obtain ⟨q0', q1', p1', p0', hgc'⟩ := one_facts HF'.out
  have HGC := Lib.hid hgc
  have HGC' := Lib.hid hgc'
  clear hgc hgc'
  obtain ⟨e0, e1, _, _⟩ := HX3.out
  obtain ⟨f0, f1, _, _⟩ := HY3.out
  go_wp2_with fail
  obtain ⟨W3, hW3⟩ : ∃ W, w3.alloc (.cells #[.int .i64 P', .int .i64 Q'] 39) = W := ⟨_, rfl⟩
  have hz : W3.heap.size = w3.heap.size + 1 := by rw [← hW3]; simp
  rw [hW3] at HB3 HL3 HM3 HX3 HY3 ⊢
  clear e0 e1 f0 f1 hW3
  have hbs := below_alloc (Below.refl W3.heap.size W3) (.cells #[.int .i64 P, .int .i64 Q, .int .i64 P', .int .i64 Q'] 39)
  have HS4 := Lib.hid (SQ.new W3 P Q P' Q' 39)
  have HB4 := Lib.hid (below_alloc HB3.out (.cells #[.int .i64 P, .int .i64 Q, .int .i64 P', .int .i64 Q'] 39))
  have HL4 := Lib.hid (HL3.out.below hbs)
  have HM4 := Lib.hid (HM3.out.below hbs)
  have HX4 := Lib.hid (HX3.out.below hbs)
  have HY4 := Lib.hid (HY3.out.below hbs)
  obtain ⟨k, hk⟩ : ∃ k, w3.heap.size = k := ⟨_, rfl⟩
  rw [hz, hk] at HS4
  rw [hk] at HY4 ⊢
  generalize W3.alloc (.cells #[.int .i64 P, .int .i64 Q, .int .i64 P', .int .i64 Q'] 39) = W4 at HS4 HB4 HL4 HM4 HX4 HY4 ⊢
  clear hbs HB3 HL3 HM3 HX3 HY3 hk hz
  go_loopw [43] (fun s0 wr => ∃ i : Nat, s0 = .int .i64 i ∧ i ≤ 2 ∧ Hid (SQ wr (k + 1) P Q P' Q') ∧ Hid (VarQ wr g P Q) ∧ Hid (VarQ wr k P' Q') ∧ Hid (IsL wr A n c xs) ∧ Hid (IsL wr A' n' c' ys) ∧ Hid (Below w.heap.size w wr)) (fun s0 _ => 100 - (intOf s0).toNat)
  case atStart => exact ⟨0, rfl, by omega, HS4, HX4, HY4, HL4, HM4, HB4.out⟩
  case round =>
    clear HS4 HX4 HY4 HL4 HM4 HB4
    obtain ⟨i, rfl, hi, HS, HX, HY, HL, HM, HB⟩ := hrel
    obtain rfl | rfl | rfl : i = 0 ∨ i = 1 ∨ i = 2 := by omega
--R0
    · obtain ⟨e0, e1, e2, e3⟩ := HS.out
      go_wp2_with fail
      clear e0 e1 e2 e3
      have hba := below_alloc (Below.refl wr.heap.size wr) (.cells #[.int .i64 P, .int .i64 Q] 39)
      have HS5 := Lib.hid (HS.out.below hba)
      have HX5 := Lib.hid (HX.out.below hba)
      have HY5 := Lib.hid (HY.out.below hba)
      have HL5 := Lib.hid (HL.out.below hba)
      have HM5 := Lib.hid (HM.out.below hba)
      have HZ5 := Lib.hid (VarQ.new wr P Q 39)
      have HB5 := Lib.hid (below_alloc HB.out (.cells #[.int .i64 P, .int .i64 Q] 39))
      clear hba HS HX HY HL HM HB
      obtain ⟨j, hj⟩ : ∃ j, wr.heap.size = j := ⟨_, rfl⟩
      rw [hj] at HZ5 ⊢
      generalize wr.alloc (.cells #[.int .i64 P, .int .i64 Q] 39) = W5 at HS5 HX5 HY5 HL5 HM5 HZ5 HB5 ⊢
      clear hj
      obtain ⟨f0, f1, _, _⟩ := HZ5.out
      go_region
      have x0 : 0 ≤ max P (-P) := by omega
      have x1 : max P (-P) ≤ 1073741824 := by omega
      have HG5 : Hid (Nat.gcd (max P (-P)).natAbs Q.natAbs = 1) := by
        rw [show (max P (-P)).natAbs = P.natAbs by omega]; exact HGC.out
      go_wp2_with fail
      go_loopw [11, 12] (fun s t wr2 => ∃ m o : Int, s = .int .i64 m ∧ t = .int .i64 o ∧ Hid (Nat.gcd m.natAbs o.natAbs = 1) ∧ 0 ≤ m ∧ m ≤ 1073741824 ∧ 0 ≤ o ∧ o ≤ 1073741824 ∧ Hid (Drawn W5 wr2)) (fun _ t _ => (intOf t).natAbs)
      case atStart => exact ⟨_, _, rfl, rfl, HG5.out, x0, x1, by omega, by omega, (Drawn.refl _).drew⟩
      case round =>
        clear HG5 f0 f1
        obtain ⟨m, o, rfl, rfl, HGG, m0, m1, o0, o1, HD⟩ := hrel
        by_cases ho : o = 0
        · subst ho
          have hm : m = 1 := by have := HGG.out; simp at this; omega
          subst hm
          have HZ6 := Lib.hid (HZ5.out.drawn HD.out)
          obtain ⟨f0, f1, _, _⟩ := HZ6.out
          go_wp2_with fail
          refine ⟨⟨0+1, by simp, by omega, Lib.hid (HS5.out.below HD.out.below), Lib.hid (HX5.out.below HD.out.below), Lib.hid (HY5.out.below HD.out.below), Lib.hid (HL5.out.below HD.out.below), Lib.hid (HM5.out.below HD.out.below), Lib.hid (HB5.out.trans (HD.out.below.mono HB5.out.size))⟩, ?_⟩
          simp [intOf]
        · have b1 : (o != 0) = true := bne_iff_ne.2 ho
          go_wp2_with fail
          go_quiet (fail)
          go_wp2_with fail
          have ht : (m % o).natAbs = m.natAbs % o.natAbs := by rw [← Int.tmod_eq_emod_of_nonneg m0]; exact Int.natAbs_tmod ..
          have hl : m.natAbs % o.natAbs < o.natAbs := Nat.mod_lt _ (by omega)
          have hnn : 0 ≤ m % o := Int.emod_nonneg _ ho
          refine ⟨⟨o, m % o, rfl, rfl, Lib.hid ?_, by omega, by omega, by omega, by omega, Lib.hid (HD.out.drewN _)⟩, ?_⟩
          · rw [ht, ← HGG.out, Nat.gcd_comm o.natAbs, Nat.gcd_comm m.natAbs o.natAbs, Nat.gcd_rec o.natAbs m.natAbs]
          · show (m % o).natAbs < o.natAbs
            omega
    · obtain ⟨e0, e1, e2, e3⟩ := HS.out
      go_wp2_with fail
      clear e0 e1 e2 e3
      have hba := below_alloc (Below.refl wr.heap.size wr) (.cells #[.int .i64 P', .int .i64 Q'] 39)
      have HS5 := Lib.hid (HS.out.below hba)
      have HX5 := Lib.hid (HX.out.below hba)
      have HY5 := Lib.hid (HY.out.below hba)
      have HL5 := Lib.hid (HL.out.below hba)
      have HM5 := Lib.hid (HM.out.below hba)
      have HZ5 := Lib.hid (VarQ.new wr P' Q' 39)
      have HB5 := Lib.hid (below_alloc HB.out (.cells #[.int .i64 P', .int .i64 Q'] 39))
      clear hba HS HX HY HL HM HB
      obtain ⟨j, hj⟩ : ∃ j, wr.heap.size = j := ⟨_, rfl⟩
      rw [hj] at HZ5 ⊢
      generalize wr.alloc (.cells #[.int .i64 P', .int .i64 Q'] 39) = W5 at HS5 HX5 HY5 HL5 HM5 HZ5 HB5 ⊢
      clear hj
      obtain ⟨f0, f1, _, _⟩ := HZ5.out
      go_region
      have x0 : 0 ≤ max P' (-P') := by omega
      have x1 : max P' (-P') ≤ 1073741824 := by omega
      have HG5 : Hid (Nat.gcd (max P' (-P')).natAbs Q'.natAbs = 1) := by
        rw [show (max P' (-P')).natAbs = P'.natAbs by omega]; exact HGC'.out
      go_wp2_with fail
      go_loopw [11, 12] (fun s t wr2 => ∃ m o : Int, s = .int .i64 m ∧ t = .int .i64 o ∧ Hid (Nat.gcd m.natAbs o.natAbs = 1) ∧ 0 ≤ m ∧ m ≤ 1073741824 ∧ 0 ≤ o ∧ o ≤ 1073741824 ∧ Hid (Drawn W5 wr2)) (fun _ t _ => (intOf t).natAbs)
      case atStart => exact ⟨_, _, rfl, rfl, HG5.out, x0, x1, by omega, by omega, (Drawn.refl _).drew⟩
      case round =>
        clear HG5 f0 f1
        obtain ⟨m, o, rfl, rfl, HGG, m0, m1, o0, o1, HD⟩ := hrel
        by_cases ho : o = 0
        · subst ho
          have hm : m = 1 := by have := HGG.out; simp at this; omega
          subst hm
          have HZ6 := Lib.hid (HZ5.out.drawn HD.out)
          obtain ⟨f0, f1, _, _⟩ := HZ6.out
          go_wp2_with fail
          refine ⟨⟨1+1, by simp, by omega, Lib.hid (HS5.out.below HD.out.below), Lib.hid (HX5.out.below HD.out.below), Lib.hid (HY5.out.below HD.out.below), Lib.hid (HL5.out.below HD.out.below), Lib.hid (HM5.out.below HD.out.below), Lib.hid (HB5.out.trans (HD.out.below.mono HB5.out.size))⟩, ?_⟩
          simp [intOf]
        · have b1 : (o != 0) = true := bne_iff_ne.2 ho
          go_wp2_with fail
          go_quiet (fail)
          go_wp2_with fail
          have ht : (m % o).natAbs = m.natAbs % o.natAbs := by rw [← Int.tmod_eq_emod_of_nonneg m0]; exact Int.natAbs_tmod ..
          have hl : m.natAbs % o.natAbs < o.natAbs := Nat.mod_lt _ (by omega)
          have hnn : 0 ≤ m % o := Int.emod_nonneg _ ho
          refine ⟨⟨o, m % o, rfl, rfl, Lib.hid ?_, by omega, by omega, by omega, by omega, Lib.hid (HD.out.drewN _)⟩, ?_⟩
          · rw [ht, ← HGG.out, Nat.gcd_comm o.natAbs, Nat.gcd_comm m.natAbs o.natAbs, Nat.gcd_rec o.natAbs m.natAbs]
          · show (m % o).natAbs < o.natAbs
            omega
--R1E
    · have hn1 : 1 ≤ n := by obtain ⟨_, _, e, _⟩ := folV_ok HF.out; rw [← hn, e]; simp
      have hn1' : 1 ≤ n' := by obtain ⟨_, _, e, _⟩ := folV_ok HF'.out; rw [← hn', e]; simp
      obtain ⟨b, off, hA, hc⟩ := HL.out.2.2.2 (by omega)
      subst hA
      obtain ⟨b', off', hA, hc'⟩ := HM.out.2.2.2 (by omega)
      subst hA
      obtain ⟨x, hx⟩ : ∃ x, xs.getD (xs.length - 1) 0 = x := ⟨_, rfl⟩
      obtain ⟨y, hy⟩ : ∃ y, ys.getD (ys.length - 1) 0 = y := ⟨_, rfl⟩
      have d := hc (xs.length - 1) (by omega)
      have d' := hc' (ys.length - 1) (by omega)
      rw [hx, hn] at d
      rw [hy, hn'] at d'
      have HO : Hid (n = 1 ∨ 2 ≤ x → n' = 1 ∨ 2 ≤ y → (xs == ys) = (P == P' && Q == Q')) := Lib.hid fun h h' => by
        rw [← hn, ← hx] at h
        rw [← hn', ← hy] at h'
        exact one_one HF.out HF'.out h h'
      clear hc hc'
      have hnc := HL.out.2.1
      have hnc' := HM.out.2.1
      obtain ⟨u, rfl⟩ : ∃ u, n = u + 1 := ⟨n - 1, by omega⟩
      obtain ⟨v, rfl⟩ : ∃ v, n' = v + 1 := ⟨n' - 1, by omega⟩
      rw [Nat.add_sub_cancel] at d d'
      by_cases c1 : 0 < u
      · have c3 : (0 : Int) < u := by omega
        by_cases c2 : x < 2
        · go_wp2_with fail
          go_ret
          exact ⟨rfl, HB.out⟩
        · have HU : Hid (u + 1 = 1 ∨ 2 ≤ x) := Lib.hid (.inr (by omega))
          by_cases c4 : 0 < v
          · have c6 : (0 : Int) < v := by omega
            by_cases c5 : y < 2
            · go_wp2_with fail
              go_ret
              exact ⟨rfl, HB.out⟩
            · have HV : Hid (v + 1 = 1 ∨ 2 ≤ y) := Lib.hid (.inr (by omega))
              go_wp2_with fail
              clear d d'
              by_cases hP : P = P'
              · by_cases hQ : Q = Q'
                · subst hP hQ
                  have HE : Hid ((xs == ys) = true) := Lib.hid (by rw [HO.out HU.out HV.out]; simp)
                  have HK := Lib.hid (fun (w' : World) (hb : Below wr.heap.size wr w') => keep2 HX.out HY.out hb)
                  obtain ⟨k1, k2, k3, k4, k5⟩ := HK.out wr (Below.refl _ _)
                  go_region_held3 (fun w' => w'.cell? ⟨g, 0, none⟩ = some (.int .i64 P) ∧ w'.cell? ⟨g, 1, none⟩ = some (.int .i64 Q) ∧ w'.cell? ⟨k, 0, none⟩ = some (.int .i64 P) ∧ w'.cell? ⟨k, 1, none⟩ = some (.int .i64 Q) ∧ Below wr.heap.size wr w')
                    (first | (refine HK.out _ ?_; assumption) | (refine HK.out _ (Below.drew ?_); go_split_ands; assumption))
                    (first
                      | (go_at_call 31; refine Calls.mono (equalI_any _ _ _ xs _ _ _ ys _ (HL.out.below (by go_split_ands; assumption)) (HM.out.below (by go_split_ands; assumption))) ?_; rintro e w9 ⟨he, hq9⟩; rw [HE.out] at he; subst he; have hbb : Below wr.heap.size wr w9 := below_call (by go_split_ands; assumption) hq9; clear hq9))
                  have HBf := HB.out.trans (hbb.mono HB.out.size)
                  go_wp2_with fail
                  go_ret
                  exact ⟨rfl, HBf⟩
                · subst hP
                  have HE : Hid ((xs == ys) = false) := Lib.hid (by rw [HO.out HU.out HV.out]; simp [hQ])
                  have HK := Lib.hid (fun (w' : World) (hb : Below wr.heap.size wr w') => keep2 HX.out HY.out hb)
                  obtain ⟨k1, k2, k3, k4, k5⟩ := HK.out wr (Below.refl _ _)
                  go_region_held3 (fun w' => w'.cell? ⟨g, 0, none⟩ = some (.int .i64 P) ∧ w'.cell? ⟨g, 1, none⟩ = some (.int .i64 Q) ∧ w'.cell? ⟨k, 0, none⟩ = some (.int .i64 P) ∧ w'.cell? ⟨k, 1, none⟩ = some (.int .i64 Q') ∧ Below wr.heap.size wr w')
                    (first | (refine HK.out _ ?_; assumption) | (refine HK.out _ (Below.drew ?_); go_split_ands; assumption))
                    (first
                      | (go_at_call 31; refine Calls.mono (equalI_any _ _ _ xs _ _ _ ys _ (HL.out.below (by go_split_ands; assumption)) (HM.out.below (by go_split_ands; assumption))) ?_; rintro e w9 ⟨he, hq9⟩; rw [HE.out] at he; subst he; have hbb : Below wr.heap.size wr w9 := below_call (by go_split_ands; assumption) hq9; clear hq9))
                  have HBf := HB.out.trans (hbb.mono HB.out.size)
                  go_wp2_with fail
                  go_ret
                  exact ⟨rfl, HBf⟩
              · have HE : Hid ((xs == ys) = false) := Lib.hid (by rw [HO.out HU.out HV.out]; simp [hP])
                have HK := Lib.hid (fun (w' : World) (hb : Below wr.heap.size wr w') => keep2 HX.out HY.out hb)
                obtain ⟨k1, k2, k3, k4, k5⟩ := HK.out wr (Below.refl _ _)
                go_region_held3 (fun w' => w'.cell? ⟨g, 0, none⟩ = some (.int .i64 P) ∧ w'.cell? ⟨g, 1, none⟩ = some (.int .i64 Q) ∧ w'.cell? ⟨k, 0, none⟩ = some (.int .i64 P') ∧ w'.cell? ⟨k, 1, none⟩ = some (.int .i64 Q') ∧ Below wr.heap.size wr w')
                  (first | (refine HK.out _ ?_; assumption) | (refine HK.out _ (Below.drew ?_); go_split_ands; assumption))
                  (first
                    | (go_at_call 31; refine Calls.mono (equalI_any _ _ _ xs _ _ _ ys _ (HL.out.below (by go_split_ands; assumption)) (HM.out.below (by go_split_ands; assumption))) ?_; rintro e w9 ⟨he, hq9⟩; rw [HE.out] at he; subst he; have hbb : Below wr.heap.size wr w9 := below_call (by go_split_ands; assumption) hq9; clear hq9))
                have HBf := HB.out.trans (hbb.mono HB.out.size)
                go_wp2_with fail
                go_ret
                exact ⟨rfl, HBf⟩
          · obtain rfl : v = 0 := by omega
            have HV : Hid (0 + 1 = 1 ∨ 2 ≤ y) := Lib.hid (.inl rfl)
            go_wp2_with fail
            clear d d'
            by_cases hP : P = P'
            · by_cases hQ : Q = Q'
              · subst hP hQ
                have HE : Hid ((xs == ys) = true) := Lib.hid (by rw [HO.out HU.out HV.out]; simp)
                have HK := Lib.hid (fun (w' : World) (hb : Below wr.heap.size wr w') => keep2 HX.out HY.out hb)
                obtain ⟨k1, k2, k3, k4, k5⟩ := HK.out wr (Below.refl _ _)
                go_region_held3 (fun w' => w'.cell? ⟨g, 0, none⟩ = some (.int .i64 P) ∧ w'.cell? ⟨g, 1, none⟩ = some (.int .i64 Q) ∧ w'.cell? ⟨k, 0, none⟩ = some (.int .i64 P) ∧ w'.cell? ⟨k, 1, none⟩ = some (.int .i64 Q) ∧ Below wr.heap.size wr w')
                  (first | (refine HK.out _ ?_; assumption) | (refine HK.out _ (Below.drew ?_); go_split_ands; assumption))
                  (first
                    | (go_at_call 31; refine Calls.mono (equalI_any _ _ _ xs _ _ _ ys _ (HL.out.below (by go_split_ands; assumption)) (HM.out.below (by go_split_ands; assumption))) ?_; rintro e w9 ⟨he, hq9⟩; rw [HE.out] at he; subst he; have hbb : Below wr.heap.size wr w9 := below_call (by go_split_ands; assumption) hq9; clear hq9))
                have HBf := HB.out.trans (hbb.mono HB.out.size)
                go_wp2_with fail
                go_ret
                exact ⟨rfl, HBf⟩
              · subst hP
                have HE : Hid ((xs == ys) = false) := Lib.hid (by rw [HO.out HU.out HV.out]; simp [hQ])
                have HK := Lib.hid (fun (w' : World) (hb : Below wr.heap.size wr w') => keep2 HX.out HY.out hb)
                obtain ⟨k1, k2, k3, k4, k5⟩ := HK.out wr (Below.refl _ _)
                go_region_held3 (fun w' => w'.cell? ⟨g, 0, none⟩ = some (.int .i64 P) ∧ w'.cell? ⟨g, 1, none⟩ = some (.int .i64 Q) ∧ w'.cell? ⟨k, 0, none⟩ = some (.int .i64 P) ∧ w'.cell? ⟨k, 1, none⟩ = some (.int .i64 Q') ∧ Below wr.heap.size wr w')
                  (first | (refine HK.out _ ?_; assumption) | (refine HK.out _ (Below.drew ?_); go_split_ands; assumption))
                  (first
                    | (go_at_call 31; refine Calls.mono (equalI_any _ _ _ xs _ _ _ ys _ (HL.out.below (by go_split_ands; assumption)) (HM.out.below (by go_split_ands; assumption))) ?_; rintro e w9 ⟨he, hq9⟩; rw [HE.out] at he; subst he; have hbb : Below wr.heap.size wr w9 := below_call (by go_split_ands; assumption) hq9; clear hq9))
                have HBf := HB.out.trans (hbb.mono HB.out.size)
                go_wp2_with fail
                go_ret
                exact ⟨rfl, HBf⟩
            · have HE : Hid ((xs == ys) = false) := Lib.hid (by rw [HO.out HU.out HV.out]; simp [hP])
              have HK := Lib.hid (fun (w' : World) (hb : Below wr.heap.size wr w') => keep2 HX.out HY.out hb)
              obtain ⟨k1, k2, k3, k4, k5⟩ := HK.out wr (Below.refl _ _)
              go_region_held3 (fun w' => w'.cell? ⟨g, 0, none⟩ = some (.int .i64 P) ∧ w'.cell? ⟨g, 1, none⟩ = some (.int .i64 Q) ∧ w'.cell? ⟨k, 0, none⟩ = some (.int .i64 P') ∧ w'.cell? ⟨k, 1, none⟩ = some (.int .i64 Q') ∧ Below wr.heap.size wr w')
                (first | (refine HK.out _ ?_; assumption) | (refine HK.out _ (Below.drew ?_); go_split_ands; assumption))
                (first
                  | (go_at_call 31; refine Calls.mono (equalI_any _ _ _ xs _ _ _ ys _ (HL.out.below (by go_split_ands; assumption)) (HM.out.below (by go_split_ands; assumption))) ?_; rintro e w9 ⟨he, hq9⟩; rw [HE.out] at he; subst he; have hbb : Below wr.heap.size wr w9 := below_call (by go_split_ands; assumption) hq9; clear hq9))
              have HBf := HB.out.trans (hbb.mono HB.out.size)
              go_wp2_with fail
              go_ret
              exact ⟨rfl, HBf⟩
      · obtain rfl : u = 0 := by omega
        have HU : Hid (0 + 1 = 1 ∨ 2 ≤ x) := Lib.hid (.inl rfl)
        by_cases c4 : 0 < v
        · have c6 : (0 : Int) < v := by omega
          by_cases c5 : y < 2
          · go_wp2_with fail
            go_ret
            exact ⟨rfl, HB.out⟩
          · have HV : Hid (v + 1 = 1 ∨ 2 ≤ y) := Lib.hid (.inr (by omega))
            go_wp2_with fail
            clear d d'
            by_cases hP : P = P'
            · by_cases hQ : Q = Q'
              · subst hP hQ
                have HE : Hid ((xs == ys) = true) := Lib.hid (by rw [HO.out HU.out HV.out]; simp)
                have HK := Lib.hid (fun (w' : World) (hb : Below wr.heap.size wr w') => keep2 HX.out HY.out hb)
                obtain ⟨k1, k2, k3, k4, k5⟩ := HK.out wr (Below.refl _ _)
                go_region_held3 (fun w' => w'.cell? ⟨g, 0, none⟩ = some (.int .i64 P) ∧ w'.cell? ⟨g, 1, none⟩ = some (.int .i64 Q) ∧ w'.cell? ⟨k, 0, none⟩ = some (.int .i64 P) ∧ w'.cell? ⟨k, 1, none⟩ = some (.int .i64 Q) ∧ Below wr.heap.size wr w')
                  (first | (refine HK.out _ ?_; assumption) | (refine HK.out _ (Below.drew ?_); go_split_ands; assumption))
                  (first
                    | (go_at_call 31; refine Calls.mono (equalI_any _ _ _ xs _ _ _ ys _ (HL.out.below (by go_split_ands; assumption)) (HM.out.below (by go_split_ands; assumption))) ?_; rintro e w9 ⟨he, hq9⟩; rw [HE.out] at he; subst he; have hbb : Below wr.heap.size wr w9 := below_call (by go_split_ands; assumption) hq9; clear hq9))
                have HBf := HB.out.trans (hbb.mono HB.out.size)
                go_wp2_with fail
                go_ret
                exact ⟨rfl, HBf⟩
              · subst hP
                have HE : Hid ((xs == ys) = false) := Lib.hid (by rw [HO.out HU.out HV.out]; simp [hQ])
                have HK := Lib.hid (fun (w' : World) (hb : Below wr.heap.size wr w') => keep2 HX.out HY.out hb)
                obtain ⟨k1, k2, k3, k4, k5⟩ := HK.out wr (Below.refl _ _)
                go_region_held3 (fun w' => w'.cell? ⟨g, 0, none⟩ = some (.int .i64 P) ∧ w'.cell? ⟨g, 1, none⟩ = some (.int .i64 Q) ∧ w'.cell? ⟨k, 0, none⟩ = some (.int .i64 P) ∧ w'.cell? ⟨k, 1, none⟩ = some (.int .i64 Q') ∧ Below wr.heap.size wr w')
                  (first | (refine HK.out _ ?_; assumption) | (refine HK.out _ (Below.drew ?_); go_split_ands; assumption))
                  (first
                    | (go_at_call 31; refine Calls.mono (equalI_any _ _ _ xs _ _ _ ys _ (HL.out.below (by go_split_ands; assumption)) (HM.out.below (by go_split_ands; assumption))) ?_; rintro e w9 ⟨he, hq9⟩; rw [HE.out] at he; subst he; have hbb : Below wr.heap.size wr w9 := below_call (by go_split_ands; assumption) hq9; clear hq9))
                have HBf := HB.out.trans (hbb.mono HB.out.size)
                go_wp2_with fail
                go_ret
                exact ⟨rfl, HBf⟩
            · have HE : Hid ((xs == ys) = false) := Lib.hid (by rw [HO.out HU.out HV.out]; simp [hP])
              have HK := Lib.hid (fun (w' : World) (hb : Below wr.heap.size wr w') => keep2 HX.out HY.out hb)
              obtain ⟨k1, k2, k3, k4, k5⟩ := HK.out wr (Below.refl _ _)
              go_region_held3 (fun w' => w'.cell? ⟨g, 0, none⟩ = some (.int .i64 P) ∧ w'.cell? ⟨g, 1, none⟩ = some (.int .i64 Q) ∧ w'.cell? ⟨k, 0, none⟩ = some (.int .i64 P') ∧ w'.cell? ⟨k, 1, none⟩ = some (.int .i64 Q') ∧ Below wr.heap.size wr w')
                (first | (refine HK.out _ ?_; assumption) | (refine HK.out _ (Below.drew ?_); go_split_ands; assumption))
                (first
                  | (go_at_call 31; refine Calls.mono (equalI_any _ _ _ xs _ _ _ ys _ (HL.out.below (by go_split_ands; assumption)) (HM.out.below (by go_split_ands; assumption))) ?_; rintro e w9 ⟨he, hq9⟩; rw [HE.out] at he; subst he; have hbb : Below wr.heap.size wr w9 := below_call (by go_split_ands; assumption) hq9; clear hq9))
              have HBf := HB.out.trans (hbb.mono HB.out.size)
              go_wp2_with fail
              go_ret
              exact ⟨rfl, HBf⟩
        · obtain rfl : v = 0 := by omega
          have HV : Hid (0 + 1 = 1 ∨ 2 ≤ y) := Lib.hid (.inl rfl)
          go_wp2_with fail
          clear d d'
          by_cases hP : P = P'
          · by_cases hQ : Q = Q'
            · subst hP hQ
              have HE : Hid ((xs == ys) = true) := Lib.hid (by rw [HO.out HU.out HV.out]; simp)
              have HK := Lib.hid (fun (w' : World) (hb : Below wr.heap.size wr w') => keep2 HX.out HY.out hb)
              obtain ⟨k1, k2, k3, k4, k5⟩ := HK.out wr (Below.refl _ _)
              go_region_held3 (fun w' => w'.cell? ⟨g, 0, none⟩ = some (.int .i64 P) ∧ w'.cell? ⟨g, 1, none⟩ = some (.int .i64 Q) ∧ w'.cell? ⟨k, 0, none⟩ = some (.int .i64 P) ∧ w'.cell? ⟨k, 1, none⟩ = some (.int .i64 Q) ∧ Below wr.heap.size wr w')
                (first | (refine HK.out _ ?_; assumption) | (refine HK.out _ (Below.drew ?_); go_split_ands; assumption))
                (first
                  | (go_at_call 31; refine Calls.mono (equalI_any _ _ _ xs _ _ _ ys _ (HL.out.below (by go_split_ands; assumption)) (HM.out.below (by go_split_ands; assumption))) ?_; rintro e w9 ⟨he, hq9⟩; rw [HE.out] at he; subst he; have hbb : Below wr.heap.size wr w9 := below_call (by go_split_ands; assumption) hq9; clear hq9))
              have HBf := HB.out.trans (hbb.mono HB.out.size)
              go_wp2_with fail
              go_ret
              exact ⟨rfl, HBf⟩
            · subst hP
              have HE : Hid ((xs == ys) = false) := Lib.hid (by rw [HO.out HU.out HV.out]; simp [hQ])
              have HK := Lib.hid (fun (w' : World) (hb : Below wr.heap.size wr w') => keep2 HX.out HY.out hb)
              obtain ⟨k1, k2, k3, k4, k5⟩ := HK.out wr (Below.refl _ _)
              go_region_held3 (fun w' => w'.cell? ⟨g, 0, none⟩ = some (.int .i64 P) ∧ w'.cell? ⟨g, 1, none⟩ = some (.int .i64 Q) ∧ w'.cell? ⟨k, 0, none⟩ = some (.int .i64 P) ∧ w'.cell? ⟨k, 1, none⟩ = some (.int .i64 Q') ∧ Below wr.heap.size wr w')
                (first | (refine HK.out _ ?_; assumption) | (refine HK.out _ (Below.drew ?_); go_split_ands; assumption))
                (first
                  | (go_at_call 31; refine Calls.mono (equalI_any _ _ _ xs _ _ _ ys _ (HL.out.below (by go_split_ands; assumption)) (HM.out.below (by go_split_ands; assumption))) ?_; rintro e w9 ⟨he, hq9⟩; rw [HE.out] at he; subst he; have hbb : Below wr.heap.size wr w9 := below_call (by go_split_ands; assumption) hq9; clear hq9))
              have HBf := HB.out.trans (hbb.mono HB.out.size)
              go_wp2_with fail
              go_ret
              exact ⟨rfl, HBf⟩
          · have HE : Hid ((xs == ys) = false) := Lib.hid (by rw [HO.out HU.out HV.out]; simp [hP])
            have HK := Lib.hid (fun (w' : World) (hb : Below wr.heap.size wr w') => keep2 HX.out HY.out hb)
            obtain ⟨k1, k2, k3, k4, k5⟩ := HK.out wr (Below.refl _ _)
            go_region_held3 (fun w' => w'.cell? ⟨g, 0, none⟩ = some (.int .i64 P) ∧ w'.cell? ⟨g, 1, none⟩ = some (.int .i64 Q) ∧ w'.cell? ⟨k, 0, none⟩ = some (.int .i64 P') ∧ w'.cell? ⟨k, 1, none⟩ = some (.int .i64 Q') ∧ Below wr.heap.size wr w')
              (first | (refine HK.out _ ?_; assumption) | (refine HK.out _ (Below.drew ?_); go_split_ands; assumption))
              (first
                | (go_at_call 31; refine Calls.mono (equalI_any _ _ _ xs _ _ _ ys _ (HL.out.below (by go_split_ands; assumption)) (HM.out.below (by go_split_ands; assumption))) ?_; rintro e w9 ⟨he, hq9⟩; rw [HE.out] at he; subst he; have hbb : Below wr.heap.size wr w9 := below_call (by go_split_ands; assumption) hq9; clear hq9))
            have HBf := HB.out.trans (hbb.mono HB.out.size)
            go_wp2_with fail
            go_ret
            exact ⟨rfl, HBf⟩
end Go.Proofs.YtpgnheankmlnfaaDoor
