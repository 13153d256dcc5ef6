/- The walk over the law LogsConvergents. -/
import Derived.Test.YtpgnheankmlnfaaDoorLNarrower
import Derived.Test.YtpgnheankmlnfaaDoorLawG
namespace Go.Proofs.YtpgnheankmlnfaaDoor
open Go.RowKit
set_option linter.unusedVariables false

theorem mul_le64 {x : Int} {k : Nat} (h0 : -4096 ≤ x) (h1 : x ≤ 4096) (h2 : k ≤ 64) : -262144 ≤ x * k ∧ x * k ≤ 262144 := by
  have a1 : -4096 * (k : Int) ≤ x * k := Int.mul_le_mul_of_nonneg_right h0 (by omega)
  have a2 : x * (k : Int) ≤ 4096 * k := Int.mul_le_mul_of_nonneg_right h1 (by omega)
  omega

theorem IsL.setOther {w : World} {b off n c g j : Nat} {xs : List Int} (h : IsL w (some ⟨b, off, none⟩) n c xs) (hne : b ≠ g) (v : Value) : IsL (w.setCell ⟨g, j, none⟩ v) (some ⟨b, off, none⟩) n c xs :=
  ⟨h.1, h.2.1, h.2.2.1, fun h0 => by
    obtain ⟨b', off', e, hc⟩ := h.2.2.2 h0
    cases e
    exact ⟨b, off, rfl, fun k hk => (World.cell?_of_block (a := ⟨b, off + k, none⟩) (Below.heap_setCell _ _ _ _ hne)).trans (hc k hk)⟩⟩

set_option maxRecDepth 100000 in
set_option maxHeartbeats 8000000 in
theorem LogsConvergents_any (a b o : Int) (w : World) :
    Calls Tryd.prog 15 #[.int .i64 a, .int .i64 b, .int .i64 o] w fun e w' => e = .returned (.bool true) ∧ Below w.heap.size w w' := by
  obtain ⟨v1, hv1⟩ : ∃ v, askF a b 0 = v := ⟨_, rfl⟩
  have HV1 := Lib.hid hv1
  clear hv1
  have HB0 := Lib.hid (Below.refl w.heap.size w)
  go_enter Tryd.func15, Tryd.ntmps15
  go_wp2_with fail
  refine (sane_any _).mono ?_
  rintro e w1 ⟨rfl, hq⟩
  have HB1 := Lib.hid (below_call HB0.out hq)
  clear hq HB0
  go_wp2_with fail
  refine (Right_any a b 0 _).mono ?_
  rintro e w2 ⟨rfl, hq⟩
  rw [HV1.out]
  have HB2 := Lib.hid (below_call HB1.out hq)
  clear hq HB1
  cases v1
  · go_wp2_with fail
    go_ret
    exact ⟨rfl, HB2.out⟩
  obtain ⟨⟨a0, a1⟩, ⟨b0, b1⟩, _, _⟩ := askF_iff.1 HV1.out
  by_cases ho0 : o < 1
  · have t1 : decide (o < 1) = true := decide_eq_true ho0
    go_wp2_with fail
    go_ret
    exact ⟨rfl, HB2.out⟩
  by_cases ho1 : 64 < o
  · have t1 : decide (o < 1) = false := decide_eq_false ho0
    have t2 : decide (64 < o) = true := decide_eq_true ho1
    go_wp2_with fail
    go_ret
    exact ⟨rfl, HB2.out⟩
  obtain ⟨a, rfl⟩ : ∃ n : Nat, a = (n : Int) := ⟨a.toNat, by omega⟩
  obtain ⟨b, rfl⟩ : ∃ n : Nat, b = (n : Int) := ⟨b.toNat, by omega⟩
  obtain ⟨o, rfl⟩ : ∃ n : Nat, o = (n : Int) := ⟨o.toNat, by omega⟩
  have ha0 : 0 < a := by omega
  have hb0 : 0 < b := by omega
  have HA := Lib.hid (askO_of (a := a) (b := b) (o := o) ha0 (by omega) hb0 (by omega) (by omega) (by omega))
  obtain ⟨l1, l2, hco⟩ := expL_conv HA.out
  obtain ⟨xs, hxs⟩ : ∃ xs, expL a b o = xs := ⟨_, rfl⟩
  rw [hxs] at l1 l2 hco
  have HF2 := Lib.hid (Expand_ok2 a b o · HA.out hxs)
  have HCO := Lib.hid hco
  obtain ⟨⟨P, Q, R, S⟩, hnear⟩ : ∃ x, nearS a b o = x := ⟨_, rfl⟩
  have HF1 := Lib.hid (Between_ok2 a b o · HA.out hnear)
  have HNE := Lib.hid hnear
  clear hco hxs hnear
  have s1 : decide ((o : Int) < 1) = false := decide_eq_false (by omega)
  have s2 : decide ((64 : Int) < o) = false := decide_eq_false (by omega)
  have ho64 : o ≤ 64 := by omega
  go_wp2_with fail
  refine (HF2.out _).mono ?_
  rintro e w3 ⟨A, n, c, rfl, hE, hq⟩
  have HL3 := Lib.hid hE
  have HB3 := Lib.hid (below_call HB2.out hq)
  have hn := HL3.out.1
  have n1 : 1 ≤ n := by omega
  have n2 : n ≤ 16 := by omega
  have n3 : (1 : Int) ≤ n := by omega
  have n4 : (n : Int) ≤ 16 := by omega
  clear hq hE HB2
  go_wp2_with fail
  refine (HF1.out _).mono ?_
  rintro e w4 ⟨rfl, hq⟩
  dsimp only
  have HB4 := Lib.hid (below_alloc (below_alloc (below_call HB3.out hq) (.cells #[.int .i64 P, .int .i64 Q] 39)) (.cells #[.int .i64 R, .int .i64 S] 39))
  have HU4 := Lib.hid ((KQ.new w4 P Q).alloc (.cells #[.int .i64 R, .int .i64 S] 39))
  have HW4 := Lib.hid (KQ.new (w4.alloc (.cells #[.int .i64 P, .int .i64 Q] 39)) R S)
  have HL4 := Lib.hid ((HL3.out.below hq).below (below_alloc (below_alloc (Below.refl _ _) (.cells #[.int .i64 P, .int .i64 Q] 39)) (.cells #[.int .i64 R, .int .i64 S] 39)))
  rw [World.size_alloc] at HW4
  have hwh : w.heap.size ≤ w4.heap.size := by have := HB3.out.size; have := hq.size; omega
  have hbk : ∀ b off, A = some ⟨b, off, none⟩ → b < w4.heap.size := fun b off e => by
    subst e
    obtain ⟨b', off', e', hc⟩ := (HL3.out.below hq).2.2.2 (by omega)
    cases e'
    exact World.block_lt_of_cell? w4 _ (hc 0 (by omega))
  clear hq HB3 HL3
  go_wp2_with fail
  obtain ⟨W4, hW4⟩ : ∃ W, ((w4.alloc (.cells #[.int .i64 P, .int .i64 Q] 39)).alloc (.cells #[.int .i64 R, .int .i64 S] 39)) = W := ⟨_, rfl⟩
  rw [hW4] at HB4 HU4 HW4 HL4 ⊢
  have hz4 : W4.heap.size = w4.heap.size + 1 + 1 := by rw [← hW4]; simp
  clear hW4
  obtain ⟨W5, hW5⟩ : ∃ W, W4.alloc (.cells #[.int .i64 0, .int .i64 0] 39) = W := ⟨_, rfl⟩
  have hb5 : Below W4.heap.size W4 W5 := by rw [← hW5]; exact below_alloc (Below.refl _ _) _
  have HB5 := Lib.hid (HB4.out.trans (hb5.mono HB4.out.size))
  have HU5 := Lib.hid (HU4.out.below hb5)
  have HW5 := Lib.hid (HW4.out.below hb5)
  have HL5 := Lib.hid (HL4.out.below hb5)
  have HX5 := Lib.hid (show KQ W5 (w4.heap.size + 1 + 1) 0 0 by rw [← hW5, ← hz4]; exact KQ.new W4 0 0)
  rw [hW5]
  clear hW5 hb5 HB4 HU4 HW4 HL4 hz4
  obtain ⟨h, hh⟩ : ∃ h, w4.heap.size = h := ⟨_, rfl⟩
  rw [hh] at HU5 HW5 HX5 hwh hbk ⊢
  clear hh
  obtain ⟨h2, hh2⟩ : ∃ h2, h + 1 + 1 = h2 := ⟨_, rfl⟩
  rw [hh2] at HX5 ⊢
  have ne1 : h ≠ h2 := by omega
  have ne2 : h + 1 ≠ h2 := by omega
  have hwh2 : w.heap.size ≤ h2 := by omega
  have hlt2 : h < h2 := by omega
  clear hh2
  obtain ⟨bk, off, hA, _⟩ := HL5.out.2.2.2 (by omega)
  subst hA
  have hnc := HL5.out.2.1
  have hb1 := hbk _ _ rfl
  clear hbk
  have ne5 : bk ≠ h2 := by omega
  go_loopw [67] (fun s wr => ∃ (i : Nat) (pl : Int) (ql : Nat), s = .int .i64 i ∧ i ≤ n ∧ ql ≤ 64 ∧ -4096 ≤ pl ∧ pl ≤ 4096 ∧ Hid (KQ wr h2 pl ql) ∧ Hid (0 < i → folV (xs.take i) = (pl, (ql : Int), 0)) ∧ Hid (i = n → (P = pl ∧ Q = ql) ∨ (R = pl ∧ S = ql)) ∧ Hid (KQ wr h P Q) ∧ Hid (KQ wr (h + 1) R S) ∧ Hid (IsL wr (some ⟨bk, off, none⟩) n c xs) ∧ Hid (Below w.heap.size w wr)) (fun s _ => 100 - (intOf s).toNat)
  case atStart => exact ⟨0, 0, 0, rfl, by omega, by omega, by omega, by omega, HX5, Lib.hid (fun h => by omega), Lib.hid (fun h => by omega), HU5, HW5, HL5, HB5.out⟩
  case round =>
    clear HX5 HU5 HW5 HL5 HB5
    obtain ⟨i, pl, ql, rfl, hi, ql0, pl0, pl1, HX, HPV, HLA, HU, HW, HL, HB⟩ := hrel
    by_cases hlt : i < n
    · have hlt' : (i : Int) < n := by omega
      have hic : (i : Int) + 1 ≤ c := by omega
      have hic' : i + 1 ≤ c := by omega
      obtain ⟨Pi, Qi, Pp, Qp, co⟩ := HCO.out i (by omega)
      have hpp : 0 < i → pl = Pp ∧ ql = Qp := fun h0 => by
        have h1 := HPV.out h0
        rw [co.prev h0] at h1
        simp only [Prod.mk.injEq] at h1
        omega
      have HT := Lib.hid (show IsL wr (some ⟨bk, off, none⟩) (i + 1) (i + 1) (xs.take (i + 1)) from ⟨by rw [List.length_take]; omega, Nat.le_refl _, HL.out.2.2.take _⟩)
      have HCV := Lib.hid co
      have q1 := co.q1
      have qo := co.qo
      have p0 := co.p0
      have p1 := co.p1
      have hdet : 0 < i → Pi * ql - pl * Qi = if i % 2 = 1 then 1 else -1 := fun h0 => by
        rw [(hpp h0).1, (hpp h0).2]; exact co.det h0
      have HDET := Lib.hid hdet
      clear co hpp hdet
      go_wp2_with fail
      refine Calls.mono (Fold_any _ _ _ _ _ HT.out) ?_
      rintro e w6 ⟨rfl, hq⟩
      rw [HCV.out.fold]
      have HX6 := Lib.hid (HX.out.below hq)
      have HU6 := Lib.hid (HU.out.below hq)
      have HW6 := Lib.hid (HW.out.below hq)
      have HL6 := Lib.hid (HL.out.below hq)
      have HB6 := Lib.hid (below_call HB.out hq)
      clear hq HX HU HW HL HB HT
      dsimp only
      have hba := below_alloc (Below.refl w6.heap.size w6) (.cells #[.int .i64 Pi, .int .i64 Qi] 39)
      have HS1 := Lib.hid (small_ok (p := Pi) (q := Qi) · (smlB_iff.2 ⟨⟨⟨by omega, by omega⟩, by omega⟩, by omega⟩))
      have HS2 := Lib.hid (Compare_ok2 a b Qi Pi · (askC_of ha0 (by omega) hb0 (by omega) (smlB_iff.2 ⟨⟨⟨by omega, by omega⟩, by omega⟩, by omega⟩)))
      go_wp2_with fail
      refine (HS1.out _).mono ?_
      rintro e w7 ⟨rfl, hq⟩
      have HX7 := Lib.hid ((HX6.out.below hba).below hq)
      have HU7 := Lib.hid ((HU6.out.below hba).below hq)
      have HW7 := Lib.hid ((HW6.out.below hba).below hq)
      have HL7 := Lib.hid ((HL6.out.below hba).below hq)
      have HY7 := Lib.hid ((KQ.new w6 Pi Qi).below hq)
      have HB7 := Lib.hid (below_call (below_alloc HB6.out _) hq)
      obtain ⟨h3, hh3⟩ : ∃ h3, w6.heap.size = h3 := ⟨_, rfl⟩
      have ne3 : h3 ≠ h2 := by have := HX6.out.lt; omega
      have ne4 : h2 ≠ h3 := fun h => ne3 h.symm
      rw [hh3] at HY7 ⊢
      clear hq hba HX6 HU6 HW6 HL6 HB6 hh3
      have t1 : decide ((o : Int) < Qi) = false := decide_eq_false (by omega)
      have t1' : ¬ o < Qi := by omega
      obtain ⟨e0, e1, _, _⟩ := HY7.out.varQ
      go_wp2_with fail
      refine (HS2.out _).mono ?_
      rintro e w8 ⟨rfl, hq⟩
      have HX8 := Lib.hid (HX7.out.below hq)
      have HU8 := Lib.hid (HU7.out.below hq)
      have HW8 := Lib.hid (HW7.out.below hq)
      have HL8 := Lib.hid (HL7.out.below hq)
      have HY8 := Lib.hid (HY7.out.below hq)
      have HB8 := Lib.hid (below_call HB7.out hq)
      clear hq HX7 HU7 HW7 HL7 HY7 HB7 e0 e1
      obtain ⟨e0, e1, e2, e3⟩ := HY8.out.varQ
      obtain ⟨e4, e5, e6, e7⟩ := HX8.out.varQ
      have kx := HX8.out.lt
      have ky := HY8.out.lt
      obtain ⟨sv, hsv⟩ : ∃ v, sd a b Qi Pi = v := ⟨_, rfl⟩
      have hev := HCV.out.even
      have hod := HCV.out.odd
      have hze := HCV.out.zero
      have h3v := sd_3 a b Qi Pi
      rw [hsv] at hev hod hze h3v ⊢
      clear hsv
      have hlen : xs.length = n := HL8.out.1
      obtain ⟨y1, y2⟩ := mul_le64 (x := Pi) (k := ql) p0 p1 ql0
      obtain ⟨y3, y4⟩ := mul_le64 (x := pl) (k := Qi) pl0 pl1 (by omega)
      have hd := HDET.out
      obtain ⟨z1, hz1⟩ : ∃ z : Int, Pi * (ql : Int) = z := ⟨_, rfl⟩
      obtain ⟨z2, hz2⟩ : ∃ z : Int, pl * (Qi : Int) = z := ⟨_, rfl⟩
      rw [hz1] at y1 y2 hd
      rw [hz2] at y3 y4 hd
      have HR : Hid (∀ (W : World) (v u : Int), v = (i : Int) + 1 → u = i → KQ W h2 Pi Qi → KQ W h P Q → KQ W (h + 1) R S → IsL W (some ⟨bk, off, none⟩) n c xs → Below w.heap.size w W →
          (∃ (i' : Nat) (pl : Int) (ql : Nat), Value.int .i64 v = .int .i64 i' ∧ i' ≤ n ∧ ql ≤ 64 ∧ -4096 ≤ pl ∧ pl ≤ 4096 ∧ Hid (KQ W h2 pl ql) ∧ Hid (0 < i' → folV (xs.take i') = (pl, (ql : Int), 0)) ∧ Hid (i' = n → (P = pl ∧ Q = ql) ∨ (R = pl ∧ S = ql)) ∧ Hid (KQ W h P Q) ∧ Hid (KQ W (h + 1) R S) ∧ Hid (IsL W (some ⟨bk, off, none⟩) n c xs) ∧ Hid (Below w.heap.size w W)) ∧
          100 - (intOf (Value.int .i64 v)).toNat < 100 - (intOf (Value.int .i64 u)).toNat) := by
        refine Lib.hid fun W v u hv hu g1 g2 g3 g4 g5 => ⟨⟨i + 1, Pi, Qi, by rw [hv]; simp, by omega, by omega, p0, p1, Lib.hid g1, Lib.hid (fun _ => HCV.out.fold), Lib.hid (fun hh => ?_), Lib.hid g2, Lib.hid g3, Lib.hid g4, Lib.hid g5⟩, ?_⟩
        · have := HCV.out.last (by omega)
          rw [HNE.out] at this
          exact this
        · subst hv hu; simp [intOf]; omega
      have m1 : wrap64 (Pi * (ql : Int)) = z1 := by rw [hz1]; exact wrap64_id (by omega) (by omega)
      have m2 : wrap64 (pl * (Qi : Int)) = z2 := by rw [hz2]; exact wrap64_id (by omega) (by omega)
      have ne5' := ne5
      have hmod : (i : Int).tmod 2 = ((i % 2 : Nat) : Int) := by rw [Int.natCast_emod]; exact Int.tmod_eq_emod_of_nonneg (by omega)
      by_cases hpar : i % 2 = 0
      · have hm : (i : Int).tmod 2 = 0 := by rw [hmod, hpar]; rfl
        have hs0 := hev hpar
        clear hmod
        by_cases hi0 : i = 0
        · subst hi0
          rcases h3v with rfl | rfl | rfl
          · omega
          · have hi2 : ¬ (1 : Int) < n := by have := hze rfl; omega
            have hi3 : ¬ 1 < n := by have := hze rfl; omega
            clear hev hod hze hd
            go_wp2_with fail
            exact HR.out _ _ _ (by simp) (by simp) (HX8.out.put _ _) (HU8.out.other ne1 _ _) (HW8.out.other ne2 _ _) ((HL8.out.setOther ne5 _).setOther ne5 _) (below_setCell (below_setCell HB8.out (by show w.heap.size ≤ h2; omega) _) (by show w.heap.size ≤ h2; omega) _)
          · clear hev hod hze hd
            go_wp2_with fail
            exact HR.out _ _ _ (by simp) (by simp) (HX8.out.put _ _) (HU8.out.other ne1 _ _) (HW8.out.other ne2 _ _) ((HL8.out.setOther ne5 _).setOther ne5 _) (below_setCell (below_setCell HB8.out (by show w.heap.size ≤ h2; omega) _) (by show w.heap.size ≤ h2; omega) _)
        · have hi1 : (0 : Int) < i := by omega
          have hi1' : 0 < i := by omega
          have hdd := hd hi1'
          rw [if_neg (by omega)] at hdd
          have hq : (z1 - z2 != -1) = false := by rw [hdd]; rfl
          clear hdd
          rcases h3v with rfl | rfl | rfl
          · omega
          · have hi2 : ¬ (i : Int) + 1 < n := by have := hze rfl; omega
            have hi3 : ¬ i + 1 < n := by have := hze rfl; omega
            clear hev hod hze hd
            go_wp2_with fail
            exact HR.out _ _ _ (by simp) (by simp) (HX8.out.put _ _) (HU8.out.other ne1 _ _) (HW8.out.other ne2 _ _) ((HL8.out.setOther ne5 _).setOther ne5 _) (below_setCell (below_setCell HB8.out (by show w.heap.size ≤ h2; omega) _) (by show w.heap.size ≤ h2; omega) _)
          · clear hev hod hze hd
            go_wp2_with fail
            exact HR.out _ _ _ (by simp) (by simp) (HX8.out.put _ _) (HU8.out.other ne1 _ _) (HW8.out.other ne2 _ _) ((HL8.out.setOther ne5 _).setOther ne5 _) (below_setCell (below_setCell HB8.out (by show w.heap.size ≤ h2; omega) _) (by show w.heap.size ≤ h2; omega) _)
      · have hm : (i : Int).tmod 2 = 1 := by rw [hmod, show i % 2 = 1 by omega]; rfl
        have hs0 := hod (by omega)
        clear hmod
        have hi1 : (0 : Int) < i := by omega
        have hi1' : 0 < i := by omega
        have hdd := hd hi1'
        rw [if_pos (by omega)] at hdd
        have hq : (z1 - z2 != 1) = false := by rw [hdd]; rfl
        clear hdd
        rcases h3v with rfl | rfl | rfl
        · clear hev hod hze hd
          go_wp2_with fail
          exact HR.out _ _ _ (by simp) (by simp) (HX8.out.put _ _) (HU8.out.other ne1 _ _) (HW8.out.other ne2 _ _) ((HL8.out.setOther ne5 _).setOther ne5 _) (below_setCell (below_setCell HB8.out (by show w.heap.size ≤ h2; omega) _) (by show w.heap.size ≤ h2; omega) _)
        · have hi2 : ¬ (i : Int) + 1 < n := by have := hze rfl; omega
          have hi3 : ¬ i + 1 < n := by have := hze rfl; omega
          clear hev hod hze hd
          go_wp2_with fail
          exact HR.out _ _ _ (by simp) (by simp) (HX8.out.put _ _) (HU8.out.other ne1 _ _) (HW8.out.other ne2 _ _) ((HL8.out.setOther ne5 _).setOther ne5 _) (below_setCell (below_setCell HB8.out (by show w.heap.size ≤ h2; omega) _) (by show w.heap.size ≤ h2; omega) _)
        · omega
    · obtain rfl : n = i := by omega
      have hla := HLA.out rfl
      obtain ⟨e0, e1, _, _⟩ := HX.out.varQ
      obtain ⟨e2, e3, _, _⟩ := HU.out.varQ
      obtain ⟨e4, e5, _, _⟩ := HW.out.varQ
      have hni : ¬ (n : Int) < n := by omega
      clear HPV HLA
      by_cases hu : pl = P ∧ ql = Q
      · obtain ⟨rfl, rfl⟩ := hu
        clear hla
        go_wp2_with fail
        go_ret
        exact ⟨rfl, HB.out⟩
      · have hR : R = pl ∧ S = ql := by
          rcases hla with ⟨h1, h2⟩ | h1
          · exact absurd ⟨h1.symm, h2.symm⟩ hu
          · exact h1
        obtain ⟨rfl, rfl⟩ := hR
        clear hla
        by_cases hP : R = P
        · subst hP
          have hS : ¬ S = Q := fun h => hu ⟨rfl, h⟩
          have hS2 : ((S : Int) == Q) = false := by simpa using (show ¬ (S : Int) = Q by omega)
          have hS3 : (S == Q) = false := by simpa using hS
          clear hu
          go_wp2_with fail
          go_ret
          exact ⟨rfl, HB.out⟩
        · have hP2 : (R == P) = false := by simpa using hP
          clear hu
          go_wp2_with fail
          go_ret
          exact ⟨rfl, HB.out⟩
end Go.Proofs.YtpgnheankmlnfaaDoor
