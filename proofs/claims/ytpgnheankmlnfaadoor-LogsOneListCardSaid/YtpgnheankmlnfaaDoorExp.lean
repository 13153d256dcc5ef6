/- The walk over logs.Expand. -/
import Derived.Test.YtpgnheankmlnfaaDoorVar
import Derived.BigRegion
namespace Go.Proofs.YtpgnheankmlnfaaDoor
open Go.RowKit
set_option linter.unusedVariables false

/-- From x on in steps of l, as long as the logarithm is not passed: the last x, and the steps. -/
def inT (a b o : Nat) (up lp : Int) (lq : Nat) (xp : Int) (xq : Nat) (t : Int) : Int × Nat × Int :=
  if h : xq ≤ o ∧ 0 < lq ∧ sd a b (xq + lq) (xp + lp) ≠ up then inT a b o up lp lq (xp + lp) (xq + lq) (t + 1) else (xp, xq, t)
termination_by o + 1 - xq
theorem inT_on {a b o : Nat} {up lp : Int} {lq : Nat} {xp : Int} {xq : Nat} {t : Int} (h1 : xq ≤ o) (h2 : 0 < lq) (h3 : sd a b (xq + lq) (xp + lp) ≠ up) :
    inT a b o up lp lq xp xq t = inT a b o up lp lq (xp + lp) (xq + lq) (t + 1) := by
  rw [inT, dif_pos ⟨h1, h2, h3⟩]
theorem inT_off {a b o : Nat} {up lp : Int} {lq : Nat} {xp : Int} {xq : Nat} {t : Int} (h : o < xq ∨ sd a b (xq + lq) (xp + lp) = up) :
    inT a b o up lp lq xp xq t = (xp, xq, t) := by
  rw [inT, dif_neg]
  rintro ⟨h1, _, h3⟩
  rcases h with h | h
  · omega
  · exact h3 h
/-- The further terms. -/
def exT (a b o : Nat) (ap : Int) (aq : Nat) (lp : Int) (lq : Nat) (up : Int) : List Int :=
  if h : (inT a b o up lp lq ap aq 0).2.1 ≤ o ∧ aq < (inT a b o up lp lq ap aq 0).2.1 ∧ lq ≤ o then
    (inT a b o up lp lq ap aq 0).2.2 :: exT a b o lp lq (inT a b o up lp lq ap aq 0).1 (inT a b o up lp lq ap aq 0).2.1 (-up)
  else []
termination_by 2 * o - (aq + lq)
decreasing_by omega
theorem exT_on {a b o : Nat} {ap : Int} {aq : Nat} {lp : Int} {lq : Nat} {up : Int} {xp : Int} {xq : Nat} {t : Int} (h : inT a b o up lp lq ap aq 0 = (xp, xq, t)) (h1 : xq ≤ o) (h2 : aq < xq) (h3 : lq ≤ o) :
    exT a b o ap aq lp lq up = t :: exT a b o lp lq xp xq (-up) := by
  rw [exT, h, dif_pos ⟨h1, h2, h3⟩]
theorem exT_off {a b o : Nat} {ap : Int} {aq : Nat} {lp : Int} {lq : Nat} {up : Int} {xp : Int} {xq : Nat} {t : Int} (h : inT a b o up lp lq ap aq 0 = (xp, xq, t)) (h1 : o < xq) :
    exT a b o ap aq lp lq up = [] := by
  rw [exT, h, dif_neg]
  rintro ⟨h2, _⟩
  exact absurd h2 (by show ¬ xq ≤ o; omega)
def expL (a b o : Int) : List Int :=
  if askO a b o = true then flo a.toNat b.toNat 1 :: (if isW a.toNat b.toNat 1 = true then [] else exT a.toNat b.toNat o.toNat 1 0 (flo a.toNat b.toNat 1) 1 1) else []
/-- A slice and an error are returned. -/
def RetSE (xs : List Int) (k : Int) (w : World) (e : Ending) (w' : World) : Prop := ∃ A n c, e = .returned (.tuple #[.slice A n c, .int .i64 k]) ∧ IsL w' A n c xs ∧ Below w.heap.size w w'
def lenOf : Value → Nat
  | .slice _ n _ => n
  | _ => 0

theorem OwnV.len {w : World} {base : Nat} {v : Value} {xs : List Int} (h : OwnV w base v xs) : lenOf v = xs.length := by
  obtain ⟨A, n, c, rfl, hl, _⟩ := h.isL
  exact hl.1.symm

/-- What is known between two terms. -/
structure ExI (a b o : Nat) (up : Int) (ap : Int) (aq : Nat) (lp : Int) (lq : Nat) : Prop where
  u : up = 1 ∨ up = -1
  l0 : 1 ≤ lq
  l1 : lq ≤ o
  a1 : aq ≤ o
  s0 : -4097 * ((aq : Int) + lq) ≤ ap + lp
  s1 : ap + lp ≤ 4097 * ((aq : Int) + lq)
  p0 : -4097 * (lq : Int) ≤ lp
  p1 : lp ≤ 4097 * (lq : Int)
  m : sd a b (aq + lq) (ap + lp) = -up
/-- What is known between two steps. -/
structure InI (o : Nat) (ap : Int) (aq : Nat) (lp : Int) (lq : Nat) (xp : Int) (xq : Nat) (t : Int) : Prop where
  t0 : 0 ≤ t
  t1 : t ≤ xq
  x1 : xq ≤ o + lq
  s0 : -4097 * ((xq : Int) + lq) ≤ xp + lp
  s1 : xp + lp ≤ 4097 * ((xq : Int) + lq)
  c : (t = 0 ∧ xp = ap ∧ xq = aq) ∨ (1 ≤ t ∧ aq < xq ∧ -4097 * (xq : Int) ≤ xp ∧ xp ≤ 4097 * (xq : Int))
theorem InI.first {a b o : Nat} {up : Int} {ap : Int} {aq : Nat} {lp : Int} {lq : Nat} (h : ExI a b o up ap aq lp lq) : InI o ap aq lp lq ap aq 0 :=
  ⟨Int.le_refl _, by omega, by have := h.a1; omega, h.s0, h.s1, .inl ⟨rfl, rfl, rfl⟩⟩
theorem InI.next {a b o : Nat} {up : Int} {ap : Int} {aq : Nat} {lp : Int} {lq : Nat} {xp : Int} {xq : Nat} {t : Int} (h : ExI a b o up ap aq lp lq) (k : InI o ap aq lp lq xp xq t) (hx : xq ≤ o) :
    InI o ap aq lp lq (xp + lp) (xq + lq) (t + 1) := by
  obtain ⟨t0, t1, x1, s0, s1, c⟩ := k
  have h1 := h.l0
  have h2 := h.p0
  have h3 := h.p1
  have ha : aq ≤ xq := by rcases c with ⟨_, _, rfl⟩ | ⟨_, h, _⟩ <;> omega
  exact ⟨by omega, by omega, by omega, by omega, by omega, .inr ⟨by omega, by omega, by omega, by omega⟩⟩
/-- The steps end within reach: the next term's facts. -/
theorem ExI.next {a b o : Nat} {up : Int} {ap : Int} {aq : Nat} {lp : Int} {lq : Nat} {xp : Int} {xq : Nat} {t : Int} (h : ExI a b o up ap aq lp lq) (k : InI o ap aq lp lq xp xq t) (hx : xq ≤ o)
    (he : sd a b (xq + lq) (xp + lp) = up) : 1 ≤ t ∧ aq < xq ∧ ExI a b o (-up) lp lq xp xq := by
  rcases k.c with ⟨_, rfl, rfl⟩ | ⟨c1, c2, c3, c4⟩
  · have := h.m; have := h.u; omega
  · have h0 := h.l0
    have h1 := h.l1
    have hs0 := k.s0
    have hs1 := k.s1
    have hu := h.u
    refine ⟨c1, c2, ⟨by omega, by omega, hx, h1, by omega, by omega, c3, c4, ?_⟩⟩
    rw [Nat.add_comm, Int.add_comm, he]
    omega
theorem ExI.start {a b o : Nat} (ha0 : 0 < a) (ha : a ≤ 4095) (hb0 : 0 < b) (hb : b ≤ 4095) (ho : 1 ≤ o) : ExI a b o 1 1 0 (flo a b 1) 1 := by
  obtain ⟨h0, h1⟩ := flo_range (q := 1) ha hb (by decide)
  refine ⟨.inl rfl, Nat.le_refl _, ho, Nat.zero_le _, by omega, by omega, by omega, by omega, ?_⟩
  have h2 := (flo_ok (q := 1) ha0 hb0).2
  have h3 := sd_range a b 1 (flo a b 1 + 1)
  rw [Nat.zero_add, Int.add_comm]
  omega

set_option maxRecDepth 100000 in
set_option maxHeartbeats 400000 in
theorem Expand_no (a b o : Int) (w : World) (h : askO a b o = false) :
    Calls Tryd.prog 32 #[.int .i64 a, .int .i64 b, .int .i64 o] w (RetSE [] 1 w) := by
  have HA := Lib.hid h
  clear h
  go_enter Tryd.func32, Tryd.ntmps32
  go_wp2_with fail
  refine (asked_any _ _ _ _).mono ?_
  rintro e w1 ⟨rfl, hq1⟩
  rw [HA.out]
  have HB1 := Lib.hid hq1
  clear hq1
  go_wp2_with fail
  go_ret2
  exact ⟨_, _, _, rfl, IsL.nil _ _, HB1.out⟩

set_option maxRecDepth 100000 in
set_option maxHeartbeats 400000 in
theorem Expand_whole (a b o : Nat) (w : World) (h : askO a b o = true) (hw : isW a b 1 = true) :
    Calls Tryd.prog 32 #[.int .i64 a, .int .i64 b, .int .i64 o] w (RetSE [flo a b 1] 0 w) := by
  obtain ⟨⟨⟨a0, a1⟩, b0, b1⟩, o0, o1⟩ := askO_iff.1 h
  have HA := Lib.hid h
  have HW : Hid ((sd a b 1 (flo a b 1) == 0) = true) := Lib.hid hw
  clear h hw
  go_enter Tryd.func32, Tryd.ntmps32
  go_wp2_with fail
  refine (asked_any _ _ _ _).mono ?_
  rintro e w1 ⟨rfl, hq1⟩
  rw [HA.out]
  have HB1 := Lib.hid hq1
  clear hq1
  go_wp2_with fail
  refine (whole_any a b 1 _ (by omega) (by omega) (by omega) (by omega) (by decide)).mono ?_
  rintro e w2 ⟨rfl, hq2⟩
  rw [HW.out]
  have HB2 := Lib.hid (below_call HB1.out hq2)
  clear hq2
  go_wp2_with fail
  go_ret2
  exact ⟨_, _, _, rfl, IsL.new1 _ _ _, below_alloc HB2.out _⟩

set_option maxRecDepth 100000 in
set_option maxHeartbeats 4000000 in
theorem Expand_ok (a b o : Nat) (w : World) (h : askO a b o = true) (hw : isW a b 1 = false) :
    Calls Tryd.prog 32 #[.int .i64 a, .int .i64 b, .int .i64 o] w (RetSE (flo a b 1 :: exT a b o 1 0 (flo a b 1) 1 1) 0 w) := by
  obtain ⟨⟨⟨a0, a1⟩, b0, b1⟩, o0, o1⟩ := askO_iff.1 h
  have HA := Lib.hid h
  have HW : Hid ((sd a b 1 (flo a b 1) == 0) = false) := Lib.hid hw
  have HI := Lib.hid (ExI.start (a := a) (b := b) (o := o) (by omega) (by omega) (by omega) (by omega) (by omega))
  obtain ⟨f0, f1⟩ := flo_range (a := a) (b := b) (q := 1) (by omega) (by omega) (by decide)
  obtain ⟨m, hm⟩ : ∃ m, flo a b 1 = m := ⟨_, rfl⟩
  have HM := Lib.hid hm
  rw [hm] at HI f0 f1 ⊢
  obtain ⟨r, hr⟩ : ∃ r, m :: exT a b o 1 0 m 1 1 = r := ⟨_, rfl⟩
  have HR := Lib.hid hr
  rw [hr]
  clear h hw hm hr
  go_enter Tryd.func32, Tryd.ntmps32
  go_wp2_with fail
  refine (asked_any _ _ _ _).mono ?_
  rintro e w1 ⟨rfl, hq1⟩
  rw [HA.out]
  have HB1 := Lib.hid hq1
  clear hq1
  go_wp2_with fail
  refine (whole_any a b 1 _ (by omega) (by omega) (by omega) (by omega) (by decide)).mono ?_
  rintro e w2 ⟨rfl, hq2⟩
  rw [HW.out, HM.out]
  have HB2 := Lib.hid (below_call HB1.out hq2)
  clear hq2
  go_wp2_with fail
  obtain ⟨W, hW⟩ : ∃ W, ((w2.alloc (.cells #[.int .i64 m] 3)).alloc (.cells #[.int .i64 1, .int .i64 0] 39)).alloc (.cells #[.int .i64 m, .int .i64 1] 39) = W := ⟨_, rfl⟩
  have h1 : KQ W (w2.heap.size + 1) 1 0 := by
    have := (KQ.new (w2.alloc (.cells #[.int .i64 m] 3)) 1 0).alloc (.cells #[.int .i64 m, .int .i64 1] 39)
    rw [World.size_alloc] at this
    rw [← hW]; exact this
  have h2 : KQ W (w2.heap.size + 1 + 1) m 1 := by
    have := KQ.new ((w2.alloc (.cells #[.int .i64 m] 3)).alloc (.cells #[.int .i64 1, .int .i64 0] 39)) m 1
    rw [World.size_alloc, World.size_alloc] at this
    rw [← hW]; exact this
  have h3 : OwnV W w2.heap.size (.slice (some ⟨w2.heap.size, 0, none⟩) 1 1) [m] := by
    rw [← hW]; exact ((OwnV.lit w2 _ m (Nat.le_refl _)).alloc _).alloc _
  have h4 : Below w.heap.size w W := by rw [← hW]; exact below_alloc (below_alloc (below_alloc HB2.out _) _) _
  have h5 : w2.heap.size ≤ W.heap.size := by rw [← hW]; simp; omega
  have h6 : w.heap.size ≤ w2.heap.size := HB2.out.size
  rw [hW]
  clear hW
  obtain ⟨B, hB⟩ : ∃ B, w2.heap.size = B := ⟨_, rfl⟩
  rw [hB] at h1 h2 h3 h5 h6
  rw [hB]
  obtain ⟨g1, hg1⟩ : ∃ g, B + 1 = g := ⟨_, rfl⟩
  obtain ⟨g2, hg2⟩ : ∃ g, B + 1 + 1 = g := ⟨_, rfl⟩
  rw [hg2] at h2
  rw [hg1] at h1
  rw [hg2, hg1]
  have gw1 : w.heap.size < g1 := by omega
  have gw2 : w.heap.size < g2 := by omega
  have gne : g1 ≠ g2 := by omega
  have gne' : g2 ≠ g1 := by omega
  have HK1 := Lib.hid h1
  have HK2 := Lib.hid h2
  have HO := Lib.hid h3
  have HB := Lib.hid h4
  clear h1 h2 h3 h4 hB hg1 hg2 HB1 HB2
  go_loopw [13, 10] (fun s v wr => ∃ (ap : Int) (aq : Nat) (lp : Int) (lq : Nat) (up : Int) (xs : List Int), s = .int .i64 up ∧ Hid (ExI a b o up ap aq lp lq) ∧ Hid (xs ++ exT a b o ap aq lp lq up = r) ∧ xs.length ≤ aq + lq ∧ B ≤ wr.heap.size ∧ Hid (OwnV wr B v xs) ∧ Hid (KQ wr g1 ap aq) ∧ Hid (KQ wr g2 lp lq) ∧ Hid (Below w.heap.size w wr)) (fun _ v _ => 1000 - lenOf v)
  case atStart => exact ⟨1, 0, m, 1, 1, [m], rfl, HI, HR, by simp, h5, HO, HK1, HK2, HB.out⟩
  case round =>
    clear HI HR HO HK1 HK2 HB h5 HA HW HM
    obtain ⟨ap, aq, lp, lq, up, xs, rfl, HI, HR, hlen, h5, HO, HK1, HK2, HB⟩ := hrel
    obtain ⟨u, l0, l1, a1, s0, s1, p0, p1, hmm⟩ := HI.out
    clear hmm
    obtain ⟨c10, c11, c12, c13⟩ := HK1.out.varQ
    obtain ⟨c20, c21, c22, c23⟩ := HK2.out.varQ
    have k1 := HK1.out.lt
    have k2 := HK2.out.lt
    go_wp2_with fail
    go_region
    obtain ⟨W3, hW3⟩ : ∃ W3, (wr.alloc (.cells #[.int .i64 ap, .int .i64 aq] 39)).drew = W3 := ⟨_, rfl⟩
    have h1 : KQ W3 g1 ap aq := by rw [← hW3]; exact (HK1.out.alloc _).drew
    have h2 : KQ W3 g2 lp lq := by rw [← hW3]; exact (HK2.out.alloc _).drew
    have h3 : KQ W3 wr.heap.size ap aq := by rw [← hW3]; exact (KQ.new _ _ _).drew
    have h4 : OwnV W3 B u10 xs := by rw [← hW3]; exact (HO.out.alloc _).drew
    have h7 : Below w.heap.size w W3 := by rw [← hW3]; exact (below_alloc HB.out _).drew
    have h8 : B ≤ W3.heap.size := by rw [← hW3]; simp; omega
    rw [hW3]
    clear hW3 c10 c11 c12 c13 c20 c21 c22 c23
    obtain ⟨g3, hg3⟩ : ∃ g, wr.heap.size = g := ⟨_, rfl⟩
    rw [hg3] at h3 k1 k2
    rw [hg3]
    have gw3 : w.heap.size < g3 := by omega
    have gne13 : g1 ≠ g3 := by omega
    have gne23 : g2 ≠ g3 := by omega
    have gne31 : g3 ≠ g1 := by omega
    have gne32 : g3 ≠ g2 := by omega
    have HJ1 := Lib.hid h1
    have HJ2 := Lib.hid h2
    have HJ3 := Lib.hid h3
    have HJO := Lib.hid h4
    have HJB := Lib.hid h7
    obtain ⟨R, hR⟩ : ∃ R, inT a b o up lp lq ap aq 0 = R := ⟨_, rfl⟩
    have HRR := Lib.hid hR
    have HR0 := Lib.hid hR
    clear h1 h2 h3 h4 h7 hR hg3 HK1 HK2 HO HB k1 k2 h5
    go_wp2_with fail
    go_loopw [14] (fun s wr => ∃ (t : Int) (xp : Int) (xq : Nat), s = .int .i64 t ∧ Hid (InI o ap aq lp lq xp xq t) ∧ Hid (inT a b o up lp lq xp xq t = R) ∧ B ≤ wr.heap.size ∧ Hid (OwnV wr B u10 xs) ∧ Hid (KQ wr g1 ap aq) ∧ Hid (KQ wr g2 lp lq) ∧ Hid (KQ wr g3 xp xq) ∧ Hid (Below w.heap.size w wr)) (fun s _ => 200 - (intOf s).toNat)
    case atStart => exact ⟨0, ap, aq, rfl, Lib.hid (InI.first HI.out), HRR, h8, HJO, HJ1, HJ2, HJ3, HJB.out⟩
    case round =>
      clear HRR h8 HJO HJ1 HJ2 HJ3 HJB
      obtain ⟨t, xp, xq, rfl, HT, HRR, h8, HJO, HJ1, HJ2, HJ3, HJB⟩ := hrel
      obtain ⟨t0, t1, x1, v0, v1, vc⟩ := HT.out
      have hxp : -2000000 ≤ xp ∧ xp ≤ 2000000 := by omega
      clear vc
      obtain ⟨c10, c11, c12, c13⟩ := HJ1.out.varQ
      obtain ⟨c20, c21, c22, c23⟩ := HJ2.out.varQ
      obtain ⟨c30, c31, c32, c33⟩ := HJ3.out.varQ
      have k1 := HJ1.out.lt
      have k2 := HJ2.out.lt
      have k3 := HJ3.out.lt
      go_wp2_with fail
      refine (sum_any xp xq lp lq _ (by omega) (by omega) (by omega) (by omega)).mono ?_
      rintro e w4 ⟨rfl, hq4⟩
      obtain ⟨yq, hyq⟩ : ∃ y, xq + lq = y := ⟨_, rfl⟩
      obtain ⟨yp, hyp⟩ : ∃ y, xp + lp = y := ⟨_, rfl⟩
      rw [show ((xq : Int) + lq) = (yq : Int) by omega, hyp]
      have hyp0 : -2000000 ≤ yp := by omega
      have hyp1 : yp ≤ 2000000 := by omega
      have hyq1 : yq ≤ 192 := by omega
      have HYQ := Lib.hid hyq
      have HYP := Lib.hid hyp
      have HB4 := Lib.hid (below_call HJB.out hq4)
      have HO4 := Lib.hid (HJO.out.below hq4)
      have HL1 := Lib.hid (HJ1.out.below hq4)
      have HL2 := Lib.hid (HJ2.out.below hq4)
      have HL3 := Lib.hid (HJ3.out.below hq4)
      have sz4 : B ≤ w4.heap.size := Nat.le_trans h8 hq4.size
      clear hq4 HJ1 HJ2 HJ3 HJO HJB c10 c11 c12 c13 c20 c21 c22 c23 c30 c31 c32 c33 h8 k1 k2 k3
      obtain ⟨c10, c11, c12, c13⟩ := HL1.out.varQ
      obtain ⟨c20, c21, c22, c23⟩ := HL2.out.varQ
      obtain ⟨c30, c31, c32, c33⟩ := HL3.out.varQ
      have k1 := HL1.out.lt
      have k2 := HL2.out.lt
      have k3 := HL3.out.lt
      by_cases hxo : o < xq
      · have hR := inT_off (a := a) (b := b) (o := o) (up := up) (lp := lp) (lq := lq) (xp := xp) (xq := xq) (t := t) (.inl hxo)
        rw [HRR.out] at hR
        have hE := exT_off (by rw [HR0.out, hR]) hxo
        have hr := HR.out
        rw [hE, List.append_nil] at hr
        have HRF := Lib.hid hr
        clear hR hE hr
        have hlt : (o : Int) + lq < (yq : Int) := by omega
        have hlt2 : (o : Int) < (xq : Int) := by omega
        clear hyq hyp
        obtain ⟨A, l, c, rfl, hl, _⟩ := HO4.out.isL
        have HL := Lib.hid hl
        clear hl
        go_wp2_with fail
        go_ret2
        exact ⟨_, _, _, rfl, by rw [← HRF.out]; exact HL.out.below (below_alloc (Below.refl _ _) _), below_alloc HB4.out _⟩
      · have hnlt : ¬ ((o : Int) + lq < (yq : Int)) := by omega
        have hyq2 : yq ≤ 128 := by omega
        have hnlt2 : ¬ ((o : Int) < (xq : Int)) := by omega
        clear hyq hyp
        go_wp2_with fail
        refine (side_any a b yq yp _ (by omega) (by omega) (by omega) (by omega) (by omega) (by omega) (by omega)).mono ?_
        rintro e w5 ⟨rfl, hq5⟩
        have hb5 := below_call (below_alloc (Below.refl w4.heap.size w4) (.cells #[.int .i64 yp, .int .i64 yq] 39)) hq5
        have HN := Lib.hid ((KQ.new w4 yp yq).below hq5)
        have HB5 := Lib.hid (HB4.out.trans (hb5.mono HB4.out.size))
        have HO5 := Lib.hid (HO4.out.below hb5)
        have HM1 := Lib.hid (HL1.out.below hb5)
        have HM2 := Lib.hid (HL2.out.below hb5)
        have HM3 := Lib.hid (HL3.out.below hb5)
        have sz5 : B ≤ w5.heap.size := Nat.le_trans sz4 hb5.size
        obtain ⟨g4, hg4⟩ : ∃ g, w4.heap.size = g := ⟨_, rfl⟩
        rw [hg4] at HN k1 k2 k3 sz4
        have gne34 : g3 ≠ g4 := by omega
        have gne43 : g4 ≠ g3 := by omega
        have gne14 : g1 ≠ g4 := by omega
        have gne24 : g2 ≠ g4 := by omega
        rw [hg4]
        clear hq5 hb5 HL1 HL2 HL3 HO4 HB4 c10 c11 c12 c13 c20 c21 c22 c23 c30 c31 c32 c33 k1 k2 k3 hg4
        obtain ⟨c10, c11, c12, c13⟩ := HM1.out.varQ
        obtain ⟨c20, c21, c22, c23⟩ := HM2.out.varQ
        obtain ⟨c30, c31, c32, c33⟩ := HM3.out.varQ
        obtain ⟨c40, c41, c42, c43⟩ := HN.out.varQ
        have k1 := HM1.out.lt
        have k2 := HM2.out.lt
        have k3 := HM3.out.lt
        have k4 := HN.out.lt
        obtain ⟨sv, hsv⟩ : ∃ s, sd a b yq yp = s := ⟨_, rfl⟩
        have HSV := Lib.hid hsv
        rw [hsv]
        clear hsv
        by_cases hs : sv = up
        · have tst : (sv == up) = true := beq_iff_eq.2 hs
          have HS := Lib.hid hs
          clear hs
          have hlx : xs.length ≤ 10000000000 := by omega
          go_wp2_with (at_builtin; refine wpList_append_keep _ rfl _ _ rfl B _ xs _ HO5.out rfl rfl hlx sz5 ?_)
          intro v' w6 hO6 hB6 hG6
          have HO6 := Lib.hid hO6
          have HB6 := Lib.hid (HB5.out.trans (hB6.mono h6))
          have HP1 := Lib.hid ((HM1.out.alloc _).grown hG6 (HO5.out.ne HM1.out))
          have HP2 := Lib.hid ((HM2.out.alloc _).grown hG6 (HO5.out.ne HM2.out))
          have HP3 := Lib.hid ((HM3.out.alloc _).grown hG6 (HO5.out.ne HM3.out))
          have sz6 : B ≤ w6.heap.size := by have := hB6.size; omega
          have HLN := Lib.hid HO5.out.len
          clear hO6 hB6 hG6 HM1 HM2 HM3 HO5 HB5 c10 c11 c12 c13 c20 c21 c22 c23 c30 c31 c32 c33 c40 c41 c42 c43 k1 k2 k3 k4 HN
          obtain ⟨c10, c11, c12, c13⟩ := HP1.out.varQ
          obtain ⟨c20, c21, c22, c23⟩ := HP2.out.varQ
          obtain ⟨c30, c31, c32, c33⟩ := HP3.out.varQ
          have k1 := HP1.out.lt
          have k2 := HP2.out.lt
          have k3 := HP3.out.lt
          go_wp2_with fail
          go_region
          go_wp2_with fail
          have hx : xq ≤ o := Nat.not_lt.1 hxo
          have hsd : sd a b (xq + lq) (xp + lp) = up := by rw [HYP.out, HYQ.out, HSV.out]; exact HS.out
          obtain ⟨t1', hax, hex⟩ := ExI.next HI.out HT.out hx hsd
          have hR := inT_off (a := a) (b := b) (o := o) (up := up) (lp := lp) (lq := lq) (xp := xp) (xq := xq) (t := t) (.inr hsd)
          rw [HRR.out] at hR
          have hE := exT_on (by rw [HR0.out, hR]) hx hax l1
          have hr := HR.out
          rw [hE] at hr
          have q1 := HLN.out
          have q2 := HO6.out.len
          rw [List.length_append, List.length_singleton] at q2
          refine ⟨⟨lp, lq, xp, xq, -up, xs ++ [t], rfl, Lib.hid hex, Lib.hid (by rw [← hr, List.append_assoc]; rfl), by rw [List.length_append, List.length_singleton]; omega, by simp; exact sz6, Lib.hid ((HO6.out.put HP1.out _ _).put (HP2.out.other gne' _ _) _ _).drew, Lib.hid ((HP1.out.put _ _).other gne _ _).drew, Lib.hid ((HP2.out.other gne' _ _).put _ _).drew, (below_put4 HB6.out (by omega) (by omega) _ _ _ _).drew⟩, ?_⟩
          omega
        · have tst : (sv == up) = false := beq_eq_false_iff_ne.2 hs
          have HS := Lib.hid hs
          clear hs
          go_wp2_with fail
          go_region
          go_wp2_with fail
          have hx : xq ≤ o := Nat.not_lt.1 hxo
          refine ⟨⟨t + 1, yp, yq, rfl, Lib.hid ?_, Lib.hid ?_, ?_, Lib.hid (HO5.out.put HM3.out _ _).drew, Lib.hid (HM1.out.other gne13 _ _).drew, Lib.hid (HM2.out.other gne23 _ _).drew, Lib.hid (HM3.out.put _ _).drew, (below_setCell (below_setCell HB5.out (by simp; omega) _) (by simp; omega) _).drew⟩, ?_⟩
          · have := InI.next HI.out HT.out hx
            rw [HYP.out, HYQ.out] at this
            exact this
          · have := inT_on (a := a) (b := b) (up := up) (lp := lp) (xp := xp) (t := t) hx (show 0 < lq by omega) (by rw [HYP.out, HYQ.out, HSV.out]; exact HS.out)
            rw [HRR.out, HYP.out, HYQ.out] at this
            exact this.symm
          · simp; exact sz5
          · simp [intOf]
            omega

theorem Expand_any (a b o : Int) (w : World) :
    Calls Tryd.prog 32 #[.int .i64 a, .int .i64 b, .int .i64 o] w (RetSE (expL a b o) (askE (askO a b o)) w) := by
  unfold expL
  cases h : askO a b o
  · exact Expand_no a b o w h
  · obtain ⟨⟨⟨a0, a1⟩, b0, b1⟩, o0, o1⟩ := askO_iff.1 h
    obtain ⟨a, rfl⟩ : ∃ n : Nat, a = (n : Int) := ⟨a.toNat, by omega⟩
    obtain ⟨b, rfl⟩ : ∃ n : Nat, b = (n : Int) := ⟨b.toNat, by omega⟩
    obtain ⟨o, rfl⟩ : ∃ n : Nat, o = (n : Int) := ⟨o.toNat, by omega⟩
    simp only [Int.toNat_natCast, if_true]
    cases hw : isW a b 1
    · exact Expand_ok a b o w h hw
    · exact Expand_whole a b o w h hw
end Go.Proofs.YtpgnheankmlnfaaDoor
