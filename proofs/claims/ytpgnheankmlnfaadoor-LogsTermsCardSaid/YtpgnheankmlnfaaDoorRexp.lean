/- The walk over the reference's Expand: it returns what logs.Expand returns. -/
import Derived.Test.YtpgnheankmlnfaaDoorLaw
import Derived.Test.YtpgnheankmlnfaaDoorRl
namespace Go.Proofs.YtpgnheankmlnfaaDoor
open Go.RowKit
set_option linter.unusedVariables false

theorem wrap64_id' {x : Int} (h1 : -9223372036854775808 ≤ x) (h2 : x < 9223372036854775808) : wrap64 x = x := by unfold wrap64; omega

set_option maxRecDepth 100000 in
set_option maxHeartbeats 400000 in
theorem rExpand_no (a b o : Int) (w : World) (h : askO a b o = false) :
    Calls Tryd.prog 33 #[.int .i64 a, .int .i64 b, .int .i64 o] w (RetSE [] 1 w) := by
  have h2 : (askF a b 0 && inR 1 64 o) = false := h
  obtain ⟨v1, hv1⟩ : ∃ v, askF a b 0 = v := ⟨_, rfl⟩
  obtain ⟨v2, hv2⟩ : ∃ v, inR 1 64 o = v := ⟨_, rfl⟩
  rw [hv1, hv2] at h2
  have HV1 := Lib.hid hv1
  have HV2 := Lib.hid hv2
  clear h hv1 hv2
  have HB0 := Lib.hid (Below.refl w.heap.size w)
  go_enter Tryd.func33, Tryd.ntmps33
  go_wp2_with fail
  refine (Right_any a b 0 _).mono ?_
  rintro e w1 ⟨rfl, hq⟩
  rw [HV1.out]
  have HB1 := Lib.hid (below_call HB0.out hq)
  clear hq HB0
  cases v1
  · go_wp2_with fail
    go_ret2
    exact ⟨_, _, _, rfl, IsL.nil _ _, HB1.out⟩
  · have h3 : v2 = false := by simpa using h2
    subst h3
    go_wp2_with fail
    refine (In_any o 1 64 _).mono ?_
    rintro e w2 ⟨rfl, hq⟩
    rw [HV2.out]
    have HB2 := Lib.hid (below_call HB1.out hq)
    clear hq HB1
    go_wp2_with fail
    go_ret2
    exact ⟨_, _, _, rfl, IsL.nil _ _, HB2.out⟩

set_option maxRecDepth 100000 in
set_option maxHeartbeats 4000000 in
theorem rExpand_ok (a b o : Nat) (w : World) (h : askO a b o = true) :
    Calls Tryd.prog 33 #[.int .i64 a, .int .i64 b, .int .i64 o] w (RetSE (flo a b 1 :: (if isW a b 1 = true then [] else exT a b o 1 0 (flo a b 1) 1 1)) 0 w) := by
  obtain ⟨⟨⟨a0, a1⟩, b0, b1⟩, o0, o1⟩ := askO_iff.1 h
  have h2 : (askF a b 0 && inR 1 64 o) = true := h
  rw [Bool.and_eq_true] at h2
  have HV1 := Lib.hid h2.1
  have HV2 := Lib.hid h2.2
  have ha0 : 0 < a := by omega
  have hb0 : 0 < b := by omega
  have HI := Lib.hid (ExI.start (a := a) (b := b) (o := o) (by omega) (by omega) (by omega) (by omega) (by omega))
  obtain ⟨f0, f1⟩ := flo_range (a := a) (b := b) (q := 1) (by omega) (by omega) (by decide)
  have hsm : (sd a b 1 (flo a b 1) == 0) = isW a b 1 := rfl
  obtain ⟨t, ht⟩ : ∃ t, isW a b 1 = t := ⟨_, rfl⟩
  have HNE := Lib.hid (fun (h : t = false) (p : Int) (q : Nat) (hq : 0 < q) => sd_ne (m := p) ha0 hb0 hq (ht.trans h))
  rw [ht] at hsm ⊢
  obtain ⟨m, hm⟩ : ∃ m, flo a b 1 = m := ⟨_, rfl⟩
  have HM := Lib.hid hm
  rw [hm] at HI f0 f1 hsm ⊢
  obtain ⟨r, hr⟩ : ∃ r, m :: (if t = true then [] else exT a b o 1 0 m 1 1) = r := ⟨_, rfl⟩
  have HR := Lib.hid hr
  have HSM := Lib.hid hsm
  rw [hr]
  clear h h2 hm hr hsm ht
  have HB0 := Lib.hid (Below.refl w.heap.size w)
  go_enter Tryd.func33, Tryd.ntmps33
  go_wp2_with fail
  refine (Right_any a b 0 _).mono ?_
  rintro e w1 ⟨rfl, hq⟩
  rw [HV1.out]
  have HB1 := Lib.hid (below_call HB0.out hq)
  clear hq HB0
  go_wp2_with fail
  refine (In_any o 1 64 _).mono ?_
  rintro e w2 ⟨rfl, hq⟩
  rw [HV2.out]
  have HB2 := Lib.hid (below_call HB1.out hq)
  clear hq HB1
  go_wp2_with fail
  refine (Low_any a b 1 _ ha0 (by omega) hb0 (by omega) (by decide)).mono ?_
  rintro e w3 ⟨rfl, hq⟩
  rw [HM.out]
  have HB3 := Lib.hid (below_call HB2.out hq)
  clear hq HB2
  go_wp2_with fail
  obtain ⟨W, hW⟩ : ∃ W, ((w3.alloc (.cells #[.int .i64 m] 3)).alloc (.cells #[.int .i64 1, .int .i64 0] 39)).alloc (.cells #[.int .i64 m, .int .i64 1] 39) = W := ⟨_, rfl⟩
  have h1 : KQ W (w3.heap.size + 1) 1 0 := by
    have := (KQ.new (w3.alloc (.cells #[.int .i64 m] 3)) 1 0).alloc (.cells #[.int .i64 m, .int .i64 1] 39)
    rw [World.size_alloc] at this
    rw [← hW]; exact this
  have h2 : KQ W (w3.heap.size + 1 + 1) m 1 := by
    have := KQ.new ((w3.alloc (.cells #[.int .i64 m] 3)).alloc (.cells #[.int .i64 1, .int .i64 0] 39)) m 1
    rw [World.size_alloc, World.size_alloc] at this
    rw [← hW]; exact this
  have h3 : OwnV W w3.heap.size (.slice (some ⟨w3.heap.size, 0, none⟩) 1 1) [m] := by
    rw [← hW]; exact ((OwnV.lit w3 _ m (Nat.le_refl _)).alloc _).alloc _
  have h4 : Below w.heap.size w W := by rw [← hW]; exact below_alloc (below_alloc (below_alloc HB3.out _) _) _
  have h5 : w3.heap.size ≤ W.heap.size := by rw [← hW]; simp; omega
  have h6 : w.heap.size ≤ w3.heap.size := HB3.out.size
  rw [hW]
  clear hW
  obtain ⟨B, hB⟩ : ∃ B, w3.heap.size = B := ⟨_, rfl⟩
  rw [hB] at h1 h2 h3 h5 h6
  rw [hB]
  obtain ⟨g1, hg1⟩ : ∃ g, B + 1 = g := ⟨_, rfl⟩
  obtain ⟨g2, hg2⟩ : ∃ g, B + 1 + 1 = g := ⟨_, rfl⟩
  rw [hg2] at h2
  rw [hg1] at h1
  rw [hg2, hg1]
  have gw1 : w.heap.size < g1 := by omega
  have gw2 : w.heap.size < g2 := by omega
  have gne : g1 ≠ g2 := by omega
  have gne' : g2 ≠ g1 := by omega
  have HK1 := Lib.hid h1
  have HK2 := Lib.hid h2
  have HO := Lib.hid h3
  have HB := Lib.hid h4
  clear h1 h2 h3 h4 hB hg1 hg2 HB3
  cases t
  case' true =>
    have hz : sd a b 1 m = 0 := by simpa using HSM.out
    rw [if_pos rfl] at HR
    obtain ⟨c20, c21, c22, c23⟩ := HK2.out.varQ
    have hOL := Lib.hid HO.out.isL
    go_loopw [11, 8] (fun s v wr => s = .int .i64 (-1) ∧ v = .slice (some ⟨B, 0, none⟩) 1 1 ∧ wr = W) (fun _ _ _ => 0)
  case atStart => exact ⟨rfl, rfl, rfl⟩
  case round =>
    obtain ⟨rfl, rfl, rfl⟩ := hrel
    go_wp2_with fail
    refine (Order_any a b 1 m _ ha0 (by omega) hb0 (by omega) (by decide) (by omega) (by omega)).mono ?_
    rintro e w4 ⟨rfl, hq⟩
    rw [hz]
    have HB4 := Lib.hid (below_call HB.out hq)
    have HO4 := Lib.hid (HO.out.below hq)
    clear hq
    go_wp2_with fail
    go_ret2
    obtain ⟨A, l, c, he, hl, _⟩ := HO4.out.isL
    cases he
    exact ⟨_, _, _, rfl, by rw [← HR.out]; exact hl, HB4.out⟩
  rw [if_neg (by decide)] at HR
  go_loopw [11, 8] (fun s v wr => ∃ (ap : Int) (aq : Nat) (lp : Int) (lq : Nat) (up sp : Int) (xs : List Int), s = .int .i64 sp ∧ Hid (-sp = up) ∧ Hid (ExI a b o up ap aq lp lq) ∧ Hid (xs ++ exT a b o ap aq lp lq up = r) ∧ xs.length ≤ aq + lq ∧ B ≤ wr.heap.size ∧ Hid (OwnV wr B v xs) ∧ Hid (KQ wr g1 ap aq) ∧ Hid (KQ wr g2 lp lq) ∧ Hid (Below w.heap.size w wr)) (fun _ v _ => 1000 - lenOf v)
  case atStart => exact ⟨1, 0, m, 1, 1, -1, [m], rfl, Lib.hid rfl, HI, HR, by simp, h5, HO, HK1, HK2, HB.out⟩
  case round =>
    clear HI HR HO HK1 HK2 HB h5 HM HSM HV1 HV2
    obtain ⟨ap, aq, lp, lq, up, sp, xs, rfl, HSP, HI, HR, hlen, h5, HO, HK1, HK2, HB⟩ := hrel
    obtain ⟨u, l0, l1, a1, s0, s1, p0, p1, hmm⟩ := HI.out
    clear hmm
    have sp0 : -1 ≤ sp ∧ sp ≤ 1 := by have := HSP.out; omega
    obtain ⟨sp0, sp1⟩ := sp0
    obtain ⟨c10, c11, c12, c13⟩ := HK1.out.varQ
    obtain ⟨c20, c21, c22, c23⟩ := HK2.out.varQ
    have k1 := HK1.out.lt
    have k2 := HK2.out.lt
    have hne := HNE.out rfl lp lq l0
    go_wp2_with fail
    refine (Order_any a b lq lp _ ha0 (by omega) hb0 (by omega) (by omega) (by omega) (by omega)).mono ?_
    rintro e w4 ⟨rfl, hq⟩
    obtain ⟨sv, hsv⟩ : ∃ s, sd a b lq lp = s := ⟨_, rfl⟩
    rw [hsv] at hne ⊢
    have hne2 : (sv == 0) = false := by simpa using hne
    have hne3 : (sv != 0) = true := by simpa using hne
    have HN1 := Lib.hid (HK1.out.below hq)
    have HN2 := Lib.hid (HK2.out.below hq)
    have HNO := Lib.hid (HO.out.below hq)
    have HNB := Lib.hid (below_call HB.out hq)
    have hz4 : B ≤ w4.heap.size := Nat.le_trans h5 hq.size
    clear hq hsv HK1 HK2 HO HB c10 c11 c12 c13 c20 c21 c22 c23 k1 k2 h5
    obtain ⟨c10, c11, c12, c13⟩ := HN1.out.varQ
    obtain ⟨c20, c21, c22, c23⟩ := HN2.out.varQ
    have k1 := HN1.out.lt
    have k2 := HN2.out.lt
    go_wp2_with fail
    obtain ⟨W3, hW3⟩ : ∃ W3, (w4.alloc (.cells #[.int .i64 ap, .int .i64 aq] 39)) = W3 := ⟨_, rfl⟩
    have h1 : KQ W3 g1 ap aq := by rw [← hW3]; exact (HN1.out.alloc _)
    have h2 : KQ W3 g2 lp lq := by rw [← hW3]; exact (HN2.out.alloc _)
    have h3 : KQ W3 w4.heap.size ap aq := by rw [← hW3]; exact (KQ.new _ _ _)
    have h4 : OwnV W3 B u8 xs := by rw [← hW3]; exact (HNO.out.alloc _)
    have h7 : Below w.heap.size w W3 := by rw [← hW3]; exact (below_alloc HNB.out _)
    have h8 : B ≤ W3.heap.size := by rw [← hW3]; simp; omega
    rw [hW3]
    clear hW3 c10 c11 c12 c13 c20 c21 c22 c23
    obtain ⟨g3, hg3⟩ : ∃ g, w4.heap.size = g := ⟨_, rfl⟩
    rw [hg3] at h3 k1 k2
    rw [hg3]
    have gw3 : w.heap.size < g3 := by omega
    have gne13 : g1 ≠ g3 := by omega
    have gne23 : g2 ≠ g3 := by omega
    have gne31 : g3 ≠ g1 := by omega
    have gne32 : g3 ≠ g2 := by omega
    have HJ1 := Lib.hid h1
    have HJ2 := Lib.hid h2
    have HJ3 := Lib.hid h3
    have HJO := Lib.hid h4
    have HJB := Lib.hid h7
    obtain ⟨R, hR⟩ : ∃ R, inT a b o up lp lq ap aq 0 = R := ⟨_, rfl⟩
    have HRR := Lib.hid hR
    have HR0 := Lib.hid hR
    clear h1 h2 h3 h4 h7 hR hg3 HN1 HN2 HNO HNB k1 k2 hz4
    go_loopw [12] (fun s wr => ∃ (t : Int) (xp : Int) (xq : Nat), s = .int .i64 t ∧ Hid (InI o ap aq lp lq xp xq t) ∧ Hid (inT a b o up lp lq xp xq t = R) ∧ B ≤ wr.heap.size ∧ Hid (OwnV wr B u8 xs) ∧ Hid (KQ wr g1 ap aq) ∧ Hid (KQ wr g2 lp lq) ∧ Hid (KQ wr g3 xp xq) ∧ Hid (Below w.heap.size w wr)) (fun s _ => 200 - (intOf s).toNat)
    case atStart => exact ⟨0, ap, aq, rfl, Lib.hid (InI.first HI.out), HRR, h8, HJO, HJ1, HJ2, HJ3, HJB.out⟩
    case round =>
      clear HRR h8 HJO HJ1 HJ2 HJ3 HJB
      obtain ⟨t, xp, xq, rfl, HT, HRR, h8, HJO, HJ1, HJ2, HJ3, HJB⟩ := hrel
      obtain ⟨t0, t1, x1, v0, v1, vc⟩ := HT.out
      have hxp : -2000000 ≤ xp ∧ xp ≤ 2000000 := by omega
      obtain ⟨hxp0, hxp1⟩ := hxp
      clear vc
      obtain ⟨c10, c11, c12, c13⟩ := HJ1.out.varQ
      obtain ⟨c20, c21, c22, c23⟩ := HJ2.out.varQ
      obtain ⟨c30, c31, c32, c33⟩ := HJ3.out.varQ
      have k1 := HJ1.out.lt
      have k2 := HJ2.out.lt
      have k3 := HJ3.out.lt
      obtain ⟨yq, hyq⟩ : ∃ y, xq + lq = y := ⟨_, rfl⟩
      obtain ⟨yp, hyp⟩ : ∃ y, xp + lp = y := ⟨_, rfl⟩
      have hyp0 : -2000000 ≤ yp := by omega
      have hyp1 : yp ≤ 2000000 := by omega
      have hyq1 : yq ≤ 192 := by omega
      have HYQ := Lib.hid hyq
      have HYP := Lib.hid hyp
      obtain ⟨W4, hW4⟩ : ∃ W4, wr.alloc (.cells #[.int .i64 (xp + lp), .int .i64 ((xq : Int) + lq)] 39) = W4 := ⟨_, rfl⟩
      have hb4 : Below wr.heap.size wr W4 := by rw [← hW4]; exact below_alloc (Below.refl _ _) _
      have HN := Lib.hid (show KQ W4 wr.heap.size yp yq by rw [← hW4, ← hyp, show ((yq : Nat) : Int) = (xq : Int) + lq by omega]; exact KQ.new _ _ _)
      have HB4 := Lib.hid (HJB.out.trans (hb4.mono HJB.out.size))
      have HO4 := Lib.hid (HJO.out.below hb4)
      have HL1 := Lib.hid (HJ1.out.below hb4)
      have HL2 := Lib.hid (HJ2.out.below hb4)
      have HL3 := Lib.hid (HJ3.out.below hb4)
      have sz4 : B ≤ W4.heap.size := Nat.le_trans h8 hb4.size
      have HW4 := Lib.hid hW4
      by_cases hxo : o < xq
      · have hR := inT_off (a := a) (b := b) (o := o) (up := up) (lp := lp) (lq := lq) (xp := xp) (xq := xq) (t := t) (.inl hxo)
        rw [HRR.out] at hR
        have hE := exT_off (by rw [HR0.out, hR]) hxo
        have hr := HR.out
        rw [hE, List.append_nil] at hr
        have HRF := Lib.hid hr
        clear hR hE hr hb4 hW4 hyq hyp
        have hlt2 : (o : Int) < (xq : Int) := by omega
        obtain ⟨A, l, c, rfl, hl, _⟩ := HJO.out.isL
        have HL := Lib.hid hl
        clear hl
        go_wp2_with fail
        go_ret2
        exact ⟨_, _, _, rfl, by rw [← HRF.out]; exact HL.out.below (below_alloc (Below.refl _ _) _), below_alloc HJB.out _⟩
      · have hlt2 : ¬ (o : Int) < (xq : Int) := by omega
        have hlt3 : decide ((256 : Int) < xq + lq) = false := decide_eq_false (by omega)
        have hlt4 : ¬ (256 : Int) < xq + lq := by omega
        clear hyq hyp hb4 hW4
        go_wp2_with fail
        rw [HW4.out, HYP.out, show (xq : Int) + lq = (yq : Int) by have := HYQ.out; omega]
        refine (Order_any a b yq yp _ ha0 (by omega) hb0 (by omega) (by have := HYQ.out; omega) (by omega) (by omega)).mono ?_
        rintro e w5 ⟨rfl, hq5⟩
        have HN5 := Lib.hid (HN.out.below hq5)
        have HB5 := Lib.hid (below_call HB4.out hq5)
        have HO5 := Lib.hid (HO4.out.below hq5)
        have HM1 := Lib.hid (HL1.out.below hq5)
        have HM2 := Lib.hid (HL2.out.below hq5)
        have HM3 := Lib.hid (HL3.out.below hq5)
        have sz5 : B ≤ w5.heap.size := Nat.le_trans sz4 hq5.size
        obtain ⟨g4, hg4⟩ : ∃ g, wr.heap.size = g := ⟨_, rfl⟩
        rw [hg4] at HN5 k1 k2 k3
        have gne34 : g3 ≠ g4 := by omega
        have gne43 : g4 ≠ g3 := by omega
        have gne14 : g1 ≠ g4 := by omega
        have gne24 : g2 ≠ g4 := by omega
        rw [hg4]
        clear hq5 HL1 HL2 HL3 HO4 HB4 HN HW4 c10 c11 c12 c13 c20 c21 c22 c23 c30 c31 c32 c33 k1 k2 k3 hg4 HJ1 HJ2 HJ3 HJO HJB
        obtain ⟨c10, c11, c12, c13⟩ := HM1.out.varQ
        obtain ⟨c20, c21, c22, c23⟩ := HM2.out.varQ
        obtain ⟨c30, c31, c32, c33⟩ := HM3.out.varQ
        obtain ⟨c40, c41, c42, c43⟩ := HN5.out.varQ
        have k1 := HM1.out.lt
        have k2 := HM2.out.lt
        have k3 := HM3.out.lt
        have k4 := HN5.out.lt
        obtain ⟨sw, hsw⟩ : ∃ s, sd a b yq yp = s := ⟨_, rfl⟩
        have HSW := Lib.hid hsw
        rw [hsw]
        clear hsw
        by_cases hs : sw = -sp
        · have tst : (sw == -sp) = true := beq_iff_eq.2 hs
          have HS := Lib.hid hs
          clear hs
          have hlx : xs.length ≤ 10000000000 := by omega
          go_wp2_with (at_builtin; refine wpList_append_keep _ rfl _ _ rfl B _ xs _ HO5.out rfl rfl hlx sz5 ?_)
          intro v' w6 hO6 hB6 hG6
          have HO6 := Lib.hid hO6
          have HB6 := Lib.hid (HB5.out.trans (hB6.mono h6))
          have HP1 := Lib.hid ((HM1.out.alloc _).grown hG6 (HO5.out.ne HM1.out))
          have HP2 := Lib.hid ((HM2.out.alloc _).grown hG6 (HO5.out.ne HM2.out))
          have HP3 := Lib.hid ((HM3.out.alloc _).grown hG6 (HO5.out.ne HM3.out))
          have sz6 : B ≤ w6.heap.size := by have := hB6.size; omega
          have HLN := Lib.hid HO5.out.len
          clear hO6 hB6 hG6 HM1 HM2 HM3 HO5 HB5 c10 c11 c12 c13 c20 c21 c22 c23 c30 c31 c32 c33 c40 c41 c42 c43 k1 k2 k3 k4 HN5
          obtain ⟨c10, c11, c12, c13⟩ := HP1.out.varQ
          obtain ⟨c20, c21, c22, c23⟩ := HP2.out.varQ
          obtain ⟨c30, c31, c32, c33⟩ := HP3.out.varQ
          have k1 := HP1.out.lt
          have k2 := HP2.out.lt
          have k3 := HP3.out.lt
          go_wp2_with fail
          have hx : xq ≤ o := Nat.not_lt.1 hxo
          have hsd : sd a b (xq + lq) (xp + lp) = up := by rw [HYP.out, HYQ.out, HSW.out, HS.out]; exact HSP.out
          obtain ⟨t1', hax, hex⟩ := ExI.next HI.out HT.out hx hsd
          have hR := inT_off (a := a) (b := b) (o := o) (up := up) (lp := lp) (lq := lq) (xp := xp) (xq := xq) (t := t) (.inr hsd)
          rw [HRR.out] at hR
          have hE := exT_on (by rw [HR0.out, hR]) hx hax l1
          have hr := HR.out
          rw [hE] at hr
          have q1 := HLN.out
          have q2 := HO6.out.len
          rw [List.length_append, List.length_singleton] at q2
          refine ⟨⟨lp, lq, xp, xq, -up, _, xs ++ [t], rfl, Lib.hid (by have := HSP.out; omega), Lib.hid hex, Lib.hid (by rw [← hr, List.append_assoc]; rfl), by rw [List.length_append, List.length_singleton]; omega, by simp; exact sz6, Lib.hid ((HO6.out.put HP1.out _ _).put (HP2.out.other gne' _ _) _ _), Lib.hid ((HP1.out.put _ _).other gne _ _), Lib.hid ((HP2.out.other gne' _ _).put _ _), below_put4 HB6.out (by omega) (by omega) _ _ _ _⟩, ?_⟩
          omega
        · have tst : (sw == -sp) = false := beq_eq_false_iff_ne.2 hs
          have HS := Lib.hid hs
          clear hs
          go_wp2_with fail
          have hx : xq ≤ o := Nat.not_lt.1 hxo
          refine ⟨⟨t + 1, yp, yq, rfl, Lib.hid ?_, Lib.hid ?_, ?_, Lib.hid (HO5.out.put HM3.out _ _), Lib.hid (HM1.out.other gne13 _ _), Lib.hid (HM2.out.other gne23 _ _), Lib.hid (HM3.out.put _ _), (below_setCell (below_setCell HB5.out (by simp; omega) _) (by simp; omega) _)⟩, ?_⟩
          · have := InI.next HI.out HT.out hx
            rw [HYP.out, HYQ.out] at this
            exact this
          · have := inT_on (a := a) (b := b) (up := up) (lp := lp) (xp := xp) (t := t) hx (show 0 < lq by omega) (by rw [HYP.out, HYQ.out, HSW.out]; intro he; exact HS.out (by have := HSP.out; omega))
            rw [HRR.out, HYP.out, HYQ.out] at this
            exact this.symm
          · simp; exact sz5
          · simp [intOf]
            omega

theorem rExpand_any (a b o : Int) (w : World) :
    Calls Tryd.prog 33 #[.int .i64 a, .int .i64 b, .int .i64 o] w (RetSE (expL a b o) (askE (askO a b o)) w) := by
  unfold expL
  cases h : askO a b o
  · exact rExpand_no a b o w h
  · obtain ⟨⟨⟨a0, a1⟩, b0, b1⟩, o0, o1⟩ := askO_iff.1 h
    obtain ⟨a, rfl⟩ : ∃ n : Nat, a = (n : Int) := ⟨a.toNat, by omega⟩
    obtain ⟨b, rfl⟩ : ∃ n : Nat, b = (n : Int) := ⟨b.toNat, by omega⟩
    obtain ⟨o, rfl⟩ : ∃ n : Nat, o = (n : Int) := ⟨o.toNat, by omega⟩
    simp only [Int.toNat_natCast, if_true]
    exact rExpand_ok a b o w h
end Go.Proofs.YtpgnheankmlnfaaDoor
