/- The walks over logs.lowest and CheckBetween. The walk over logs.CheckBetween. -/
import Derived.Test.YtpgnheankmlnfaaDoorDig
namespace Go.Proofs.YtpgnheankmlnfaaDoor
open Go.RowKit
set_option linter.unusedVariables false

/-- Whether a fraction is in lowest terms, with a denominator of at most o. -/
def lowB (p q o : Int) : Bool := inR 1 o q && inR (-4096) 4096 p && (Nat.gcd p.natAbs q.natAbs == 1)

set_option maxRecDepth 100000 in
set_option maxHeartbeats 1000000 in
theorem lowest_any (p q o : Int) (w : World) (ho : o ≤ 1000000) :
    Calls Tryd.prog 60 #[.agg #[.int .i64 p, .int .i64 q], .int .i64 o] w fun e w' => e = .returned (.bool (lowB p q o)) ∧ Below w.heap.size w w' := by
  cases h1 : inR 1 o q
  · have HA := Lib.hid h1
    have HV : Hid (lowB p q o = false) := by unfold lowB; rw [h1]; exact Lib.hid rfl
    rw [HV.out]
    clear h1
    go_enter Tryd.func60, Tryd.ntmps60
    go_wp2_with fail
    refine (within1 _ _ _ _ _ (by simp)).mono ?_
    rintro e w1 ⟨rfl, hq1⟩
    rw [HA.out]
    have HB1 := Lib.hid (below_call (below_alloc (Below.refl _ _) _) hq1)
    clear hq1
    go_wp2_with fail
    go_ret
    exact ⟨rfl, HB1.out⟩
  · cases h2 : inR (-4096) 4096 p
    · have HA := Lib.hid h1
      have HA2 := Lib.hid h2
      have HV : Hid (lowB p q o = false) := by unfold lowB; rw [h1, h2]; exact Lib.hid rfl
      rw [HV.out]
      clear h1 h2
      go_enter Tryd.func60, Tryd.ntmps60
      go_wp2_with fail
      refine (within1 _ _ _ _ _ (by simp)).mono ?_
      rintro e w1 ⟨rfl, hq1⟩
      rw [HA.out]
      obtain ⟨hc_hq1, hf_hq1⟩ := bcell hq1; have sz_hq1 : w.heap.size + 1 ≤ w1.heap.size := (by have := hq1.size; (try simp at this); omega); have s0_hq1 : w.heap.size < w1.heap.size := (by omega)
      have HB1 := Lib.hid (below_call (below_alloc (Below.refl _ _) _) hq1)
      clear hq1
      go_wp2_with fail
      refine (within1 _ _ _ _ _ (by simp)).mono ?_
      rintro e w2 ⟨rfl, hq2⟩
      rw [HA2.out]
      have HB2 := Lib.hid (below_call HB1.out hq2)
      clear hq2
      go_wp2_with fail
      go_ret
      exact ⟨rfl, HB2.out⟩
    · obtain ⟨q0, q1⟩ := inR_iff.1 h1
      obtain ⟨p0, p1⟩ := inR_iff.1 h2
      have HA := Lib.hid h1
      have HA2 := Lib.hid h2
      have HV : Hid (lowB p q o = (Nat.gcd p.natAbs q.natAbs == 1)) := by unfold lowB; rw [h1, h2]; exact Lib.hid rfl
      rw [HV.out]
      obtain ⟨g, hg⟩ : ∃ g, Nat.gcd p.natAbs q.natAbs = g := ⟨_, rfl⟩
      rw [hg]
      have HG := Lib.hid hg
      clear h1 h2 hg
      go_enter Tryd.func60, Tryd.ntmps60
      go_wp2_with fail
      refine (within1 _ _ _ _ _ (by simp)).mono ?_
      rintro e w1 ⟨rfl, hq1⟩
      rw [HA.out]
      obtain ⟨hc_hq1, hf_hq1⟩ := bcell hq1; have sz_hq1 : w.heap.size + 1 ≤ w1.heap.size := (by have := hq1.size; (try simp at this); omega); have s0_hq1 : w.heap.size < w1.heap.size := (by omega)
      have HB1 := Lib.hid (below_call (below_alloc (Below.refl _ _) _) hq1)
      clear hq1
      go_wp2_with fail
      refine (within1 _ _ _ _ _ (by simp)).mono ?_
      rintro e w2 ⟨rfl, hq2⟩
      rw [HA2.out]
      obtain ⟨hc_hq2, hf_hq2⟩ := bcell hq2; have sz_hq2 : w.heap.size + 1 ≤ w2.heap.size := (by have := hq2.size; (try simp at this); omega); have s0_hq2 : w.heap.size < w2.heap.size := (by omega)
      have HB2 := Lib.hid (below_call HB1.out hq2)
      clear hq2
      go_wp2_with fail
      go_quiet (fail)
      go_wp2_with fail
      go_loopw [5, 6] (fun s t wr => ∃ m n : Int, s = .int .i64 m ∧ t = .int .i64 n ∧ Hid (Nat.gcd m.natAbs n.natAbs = g) ∧ -1000000 ≤ m ∧ m ≤ 1000000 ∧ -1000000 ≤ n ∧ n ≤ 1000000 ∧ Hid (Drawn w2 wr)) (fun _ t _ => (intOf t).natAbs)
      case atStart => exact ⟨p, q, rfl, rfl, HG.out, by omega, by omega, by omega, by omega, (Drawn.refl _).drewN _⟩
      case round =>
        obtain ⟨m, n, rfl, rfl, HGG, m0, m1, n0, n1, HD⟩ := hrel
        by_cases hn : n = 0
        · subst hn
          have hgm : m.natAbs = g := by have := HGG.out; simpa using this
          have HW : Hid (Below w.heap.size w wr) := Lib.hid (HB2.out.trans (HD.out.below.mono (by omega)))
          have HE : Hid ((g == 1) = (m == 1 || m == -1)) := by
            refine Lib.hid ?_
            rw [Bool.eq_iff_iff]; simp only [Bool.or_eq_true, beq_iff_eq]; omega
          clear hgm
          go_wp2_with fail
          next hm => 
            go_ret
            subst hm
            exact ⟨by rw [HE.out]; rfl, HW.out⟩
          next hm =>
            go_ret
            exact ⟨by rw [HE.out]; rfl, HW.out⟩
        · have b1 : (n != 0) = true := bne_iff_ne.2 hn
          go_wp2_with fail
          go_quiet (fail)
          go_wp2_with fail
          have ht : (m.tmod n).natAbs = m.natAbs % n.natAbs := Int.natAbs_tmod ..
          have hl : m.natAbs % n.natAbs < n.natAbs := Nat.mod_lt _ (by omega)
          refine ⟨⟨n, m.tmod n, rfl, rfl, Lib.hid ?_, by omega, by omega, by omega, by omega, Lib.hid (HD.out.drewN _)⟩, ?_⟩
          · rw [ht, ← HGG.out, Nat.gcd_comm n.natAbs, Nat.gcd_comm m.natAbs n.natAbs, Nat.gcd_rec n.natAbs m.natAbs]
          · show (m.tmod n).natAbs < n.natAbs
            omega
end Go.Proofs.YtpgnheankmlnfaaDoor
namespace Go.Proofs.YtpgnheankmlnfaaDoor
open Go.RowKit
set_option linter.unusedVariables false

/-- The answer of CheckBetween. -/
def chkW (a b o p q r s : Int) : Int :=
  if askO a b o = false then 1
  else if lowB p q o = false then 32
  else if lowB r s o = false then 32
  else if sd a.toNat b.toNat q.toNat p < 0 then 32
  else if 0 < sd a.toNat b.toNat s.toNat r then 32
  else if p = r ∧ q = s then 0
  else if sd a.toNat b.toNat q.toNat p = 0 then 32
  else if sd a.toNat b.toNat s.toNat r = 0 then 32
  else if r * q - p * s ≠ 1 then 32
  else if q + s ≤ o then 32 else 0
theorem lowB_iff {p q o : Int} : lowB p q o = true ↔ (1 ≤ q ∧ q ≤ o) ∧ (-4096 ≤ p ∧ p ≤ 4096) ∧ Nat.gcd p.natAbs q.natAbs = 1 := by
  unfold lowB
  rw [Bool.and_eq_true, Bool.and_eq_true, inR_iff, inR_iff, beq_iff_eq, and_assoc]

set_option maxRecDepth 100000 in
set_option maxHeartbeats 4000000 in
theorem CheckBetween_any (a b o p q r s : Int) (w : World) :
    Calls Tryd.prog 40 #[.int .i64 a, .int .i64 b, .int .i64 o, .agg #[.int .i64 p, .int .i64 q], .agg #[.int .i64 r, .int .i64 s]] w fun e w' => e = .returned (.int .i64 (chkW a b o p q r s)) ∧ Below w.heap.size w w' := by
  obtain ⟨va, hva⟩ : ∃ v, askO a b o = v := ⟨_, rfl⟩
  obtain ⟨vx, hvx⟩ : ∃ v, lowB p q o = v := ⟨_, rfl⟩
  obtain ⟨vy, hvy⟩ : ∃ v, lowB r s o = v := ⟨_, rfl⟩
  obtain ⟨vr, hvr⟩ : ∃ v, chkW a b o p q r s = v := ⟨_, rfl⟩
  have hr : chkW a b o p q r s = if va = false then 1 else if vx = false then 32 else if vy = false then 32
      else if sd a.toNat b.toNat q.toNat p < 0 then 32
      else if 0 < sd a.toNat b.toNat s.toNat r then 32
      else if p = r ∧ q = s then 0
      else if sd a.toNat b.toNat q.toNat p = 0 then 32
      else if sd a.toNat b.toNat s.toNat r = 0 then 32
      else if r * q - p * s ≠ 1 then 32
      else if q + s ≤ o then 32 else 0 := by unfold chkW; rw [hva, hvx, hvy]
  rw [hvr] at hr
  rw [hvr]
  clear hvr
  have HR := Lib.hid hr
  have HA := Lib.hid hva
  have HX := Lib.hid hvx
  have HY := Lib.hid hvy
  clear hr hva hvx hvy
  go_enter Tryd.func40, Tryd.ntmps40
  go_wp2_with fail
  refine (asked_any a b o _).mono ?_
  rintro e w1 ⟨rfl, hq1⟩
  rw [HA.out]
  obtain ⟨hc_hq1, hf_hq1⟩ := bcell hq1; have sz_hq1 : w.heap.size + 2 ≤ w1.heap.size := (by have := hq1.size; (try simp at this); omega); have s0_hq1 : w.heap.size < w1.heap.size := (by omega); have s1_hq1 : w.heap.size + 1 < w1.heap.size := (by omega)
  have HB1 := Lib.hid (below_call (below_alloc (below_alloc (Below.refl _ _) _) _) hq1)
  clear hq1
  cases va
  · go_wp2_with fail
    go_ret
    exact ⟨by rw [HR.out]; rfl, HB1.out⟩
  · have HR1 := Lib.hid (HR.out.trans (if_neg (by decide)))
    clear HR
    obtain ⟨⟨⟨a0, a1⟩, b0, b1⟩, o0, o1⟩ := askO_iff.1 HA.out
    go_wp2_with fail
    refine (lowest_any p q o _ (by omega)).mono ?_
    rintro e w2 ⟨rfl, hq2⟩
    rw [HX.out]
    obtain ⟨hc_hq2, hf_hq2⟩ := bcell hq2; have sz_hq2 : w.heap.size + 2 ≤ w2.heap.size := (by have := hq2.size; (try simp at this); omega); have s0_hq2 : w.heap.size < w2.heap.size := (by omega); have s1_hq2 : w.heap.size + 1 < w2.heap.size := (by omega)
    have HB2 := Lib.hid (below_call HB1.out hq2)
    clear hq2
    cases vx
    · go_wp2_with fail
      go_ret
      exact ⟨by rw [HR1.out]; rfl, HB2.out⟩
    · have HR2 := Lib.hid (HR1.out.trans (if_neg (by decide)))
      clear HR1
      go_wp2_with fail
      refine (lowest_any r s o _ (by omega)).mono ?_
      rintro e w3 ⟨rfl, hq3⟩
      rw [HY.out]
      obtain ⟨hc_hq3, hf_hq3⟩ := bcell hq3; have sz_hq3 : w.heap.size + 2 ≤ w3.heap.size := (by have := hq3.size; (try simp at this); omega); have s0_hq3 : w.heap.size < w3.heap.size := (by omega); have s1_hq3 : w.heap.size + 1 < w3.heap.size := (by omega)
      have HB3 := Lib.hid (below_call HB2.out hq3)
      clear hq3
      cases vy
      · go_wp2_with fail
        go_ret
        exact ⟨by rw [HR2.out]; rfl, HB3.out⟩
      · have hR3 := HR2.out.trans (if_neg (by decide))
        clear HR2
        obtain ⟨⟨q0, q1⟩, ⟨p0, p1⟩, hg⟩ := lowB_iff.1 HX.out
        obtain ⟨⟨s0, s1⟩, ⟨r0, r1⟩, hg'⟩ := lowB_iff.1 HY.out
        clear hg hg'
        obtain ⟨a, rfl⟩ : ∃ n : Nat, a = (n : Int) := ⟨a.toNat, by omega⟩
        obtain ⟨b, rfl⟩ : ∃ n : Nat, b = (n : Int) := ⟨b.toNat, by omega⟩
        obtain ⟨q, rfl⟩ : ∃ n : Nat, q = (n : Int) := ⟨q.toNat, by omega⟩
        obtain ⟨s, rfl⟩ : ∃ n : Nat, s = (n : Int) := ⟨s.toNat, by omega⟩
        simp only [Int.toNat_natCast] at hR3
        have mx0 : -1000000 ≤ r * q := by
          have := Int.mul_le_mul_of_nonneg_right r0 (show (0:Int) ≤ q by omega)
          omega
        have mx1 : r * q ≤ 1000000 := by
          have := Int.mul_le_mul_of_nonneg_right r1 (show (0:Int) ≤ q by omega)
          omega
        have my0 : -1000000 ≤ p * s := by
          have := Int.mul_le_mul_of_nonneg_right p0 (show (0:Int) ≤ s by omega)
          omega
        have my1 : p * s ≤ 1000000 := by
          have := Int.mul_le_mul_of_nonneg_right p1 (show (0:Int) ≤ s by omega)
          omega
        obtain ⟨sx, hsx⟩ : ∃ v, sd a b q p = v := ⟨_, rfl⟩
        obtain ⟨sy, hsy⟩ : ∃ v, sd a b s r = v := ⟨_, rfl⟩
        simp only [hsx, hsy] at hR3
        have HR3 := Lib.hid hR3
        have HSX := Lib.hid hsx
        have HSY := Lib.hid hsy
        clear hR3 hsx hsy
        go_wp2_with fail
        refine (side_any a b q p _ (by omega) (by omega) (by omega) (by omega) (by omega) (by omega) (by omega)).mono ?_
        rintro e w4 ⟨rfl, hq4⟩
        rw [HSX.out]
        obtain ⟨hc_hq4, hf_hq4⟩ := bcell hq4; have sz_hq4 : w.heap.size + 2 ≤ w4.heap.size := (by have := hq4.size; (try simp at this); omega); have s0_hq4 : w.heap.size < w4.heap.size := (by omega); have s1_hq4 : w.heap.size + 1 < w4.heap.size := (by omega)
        have HB4 := Lib.hid (below_call HB3.out hq4)
        clear hq4
        cases t1 : decide (sx < 0)
        rotate_left
        · go_wp2_with fail
          go_ret
          exact ⟨by rw [HR3.out, if_pos (of_decide_eq_true t1)]; rfl, HB4.out⟩
        · have HR4 := Lib.hid (HR3.out.trans (if_neg (of_decide_eq_false t1)))
          clear HR3
          go_wp2_with fail
          refine (side_any a b s r _ (by omega) (by omega) (by omega) (by omega) (by omega) (by omega) (by omega)).mono ?_
          rintro e w5 ⟨rfl, hq5⟩
          rw [HSY.out]
          obtain ⟨hc_hq5, hf_hq5⟩ := bcell hq5; have sz_hq5 : w.heap.size + 2 ≤ w5.heap.size := (by have := hq5.size; (try simp at this); omega); have s0_hq5 : w.heap.size < w5.heap.size := (by omega); have s1_hq5 : w.heap.size + 1 < w5.heap.size := (by omega)
          have HB5 := Lib.hid (below_call HB4.out hq5)
          clear hq5
          cases t2 : decide (0 < sy)
          rotate_left
          · go_wp2_with fail
            go_ret
            exact ⟨by rw [HR4.out, if_pos (of_decide_eq_true t2)]; rfl, HB5.out⟩
          · have hR5 := HR4.out.trans (if_neg (of_decide_eq_false t2))
            clear HR4
            have HR5 := Lib.hid hR5
            clear hR5
            go_wp2_with fail
            · go_ret
              exact ⟨by rw [HR5.out, if_pos ⟨by assumption, by assumption⟩]; rfl, HB5.out⟩
            all_goals
              (try subst ‹p = r›)
              have HR6 := Lib.hid (HR5.out.trans (if_neg (by omega)))
              clear HR5
              refine (side_any a b q _ _ (by omega) (by omega) (by omega) (by omega) (by omega) (by omega) (by omega)).mono ?_
              rintro e w6 ⟨rfl, hq6⟩
              rw [HSX.out]
              obtain ⟨hc_hq6, hf_hq6⟩ := bcell hq6; have sz_hq6 : w.heap.size + 2 ≤ w6.heap.size := (by have := hq6.size; (try simp at this); omega); have s0_hq6 : w.heap.size < w6.heap.size := (by omega); have s1_hq6 : w.heap.size + 1 < w6.heap.size := (by omega)
              have HB6 := Lib.hid (below_call HB5.out hq6)
              clear hq6
              cases t3 : (sx == 0)
              rotate_left
              · go_wp2_with fail
                go_ret
                exact ⟨by rw [HR6.out, if_pos (by simpa using t3)]; rfl, HB6.out⟩
              have HR7 := Lib.hid (HR6.out.trans (if_neg (by simpa using t3)))
              clear HR6
              go_wp2_with fail
              refine (side_any a b s _ _ (by omega) (by omega) (by omega) (by omega) (by omega) (by omega) (by omega)).mono ?_
              rintro e w7 ⟨rfl, hq7⟩
              rw [HSY.out]
              obtain ⟨hc_hq7, hf_hq7⟩ := bcell hq7; have sz_hq7 : w.heap.size + 2 ≤ w7.heap.size := (by have := hq7.size; (try simp at this); omega); have s0_hq7 : w.heap.size < w7.heap.size := (by omega); have s1_hq7 : w.heap.size + 1 < w7.heap.size := (by omega)
              have HB7 := Lib.hid (below_call HB6.out hq7)
              clear hq7
              cases t4 : (sy == 0)
              rotate_left
              · go_wp2_with fail
                go_ret
                exact ⟨by rw [HR7.out, if_pos (by simpa using t4)]; rfl, HB7.out⟩
              have hR8 := HR7.out.trans (if_neg (by simpa using t4))
              clear HR7
              have HR8 := Lib.hid hR8
              clear hR8
              go_wp2_with fail
              all_goals
                go_ret
                exact ⟨by rw [HR8.out]; (first | (rw [if_pos (by omega)]; rfl) | (rw [if_neg (by omega), if_pos (by omega)]; rfl) | (rw [if_neg (by omega), if_neg (by omega)]; rfl)), HB7.out⟩
end Go.Proofs.YtpgnheankmlnfaaDoor
