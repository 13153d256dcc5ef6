/- The walk over sane(). -/
import Derived.Test.YtpgnheankmlnfaaDoorSanV
namespace Go.Proofs.YtpgnheankmlnfaaDoor
open Go.RowKit
set_option linter.unusedVariables false

theorem IsS.new3 (w : World) (a b c d e f : Int) : IsS (w.alloc (.cells #[.int .i64 a, .int .i64 b, .int .i64 c, .int .i64 d, .int .i64 e, .int .i64 f] 55)) (some ⟨w.heap.size, 0, none⟩) 3 3 [(a, b), (c, d), (e, f)] := by
  refine ⟨rfl, by omega, by decide, fun _ => ⟨w.heap.size, 0, rfl, fun j hj => ?_⟩⟩
  match j, hj with
  | 0, _ => exact ⟨by simp [go_sem], by simp [go_sem]⟩
  | 1, _ => exact ⟨by simp [go_sem], by simp [go_sem]⟩
  | 2, _ => exact ⟨by simp [go_sem], by simp [go_sem]⟩
theorem keep_sane {wr w' : World} {b5 b10 b12 : Nat} {X : Prop} (h : VarQ wr b5 3 5 ∧ VarQ wr b10 19 12 ∧ VarQ wr (b10 + 1) 8 5 ∧ VarQ wr b12 19 12 ∧ X) (hb : Below wr.heap.size wr w') :
    w'.cell? ⟨b5, 0, none⟩ = some (.int .i64 3) ∧ w'.cell? ⟨b5, 1, none⟩ = some (.int .i64 5) ∧ w'.cell? ⟨b10, 0, none⟩ = some (.int .i64 19) ∧ w'.cell? ⟨b10, 1, none⟩ = some (.int .i64 12) ∧
    w'.cell? ⟨b10 + 1, 0, none⟩ = some (.int .i64 8) ∧ w'.cell? ⟨b10 + 1, 1, none⟩ = some (.int .i64 5) ∧ w'.cell? ⟨b12, 0, none⟩ = some (.int .i64 19) ∧ w'.cell? ⟨b12, 1, none⟩ = some (.int .i64 12) ∧ Below wr.heap.size wr w' := by
  obtain ⟨h1, h2, h3, h4, _⟩ := h
  obtain ⟨a1, a2, _⟩ := h1.below hb
  obtain ⟨a3, a4, _⟩ := h2.below hb
  obtain ⟨a5, a6, _⟩ := h3.below hb
  obtain ⟨a7, a8, _⟩ := h4.below hb
  exact ⟨a1, a2, a3, a4, a5, a6, a7, a8, hb⟩

set_option maxRecDepth 100000 in
set_option maxHeartbeats 8000000 in
theorem sane_any (w : World) : Calls Tryd.prog 16 #[] w fun e w' => e = .returned (.bool true) ∧ Below w.heap.size w w' := by
  go_enter Tryd.func16, Tryd.ntmps16
  go_wp2_with fail
  refine (s_Floor _).mono ?_
  rintro e w1 ⟨rfl, hq⟩
  have HB1 := Lib.hid hq
  clear hq
  go_wp2_with fail
  refine (s_Ceil _).mono ?_
  rintro e w2 ⟨rfl, hq⟩
  have HB2 := Lib.hid (below_call HB1.out hq)
  clear hq HB1
  go_wp2_with fail
  refine (s_Whole _).mono ?_
  rintro e w3 ⟨rfl, hq⟩
  have HB3 := Lib.hid (below_call HB2.out hq)
  clear hq HB2
  go_wp2_with fail
  refine (s_Table _).mono ?_
  rintro e w4 ⟨A4, n4, c4, rfl, hS, hq⟩
  have HB4 := Lib.hid (below_call HB3.out hq)
  have HS4 := Lib.hid hS
  clear hq HB3 hS
  go_wp2_with fail
  refine (s_Div _).mono ?_
  rintro e w5 ⟨rfl, hq⟩
  have HB5 := Lib.hid (below_call HB4.out hq)
  have HS5 := Lib.hid (HS4.out.below hq)
  clear hq HB4 HS4
  go_wp2_with fail
  refine (s_Dig _).mono ?_
  rintro e w6 ⟨A6, n6, c6, rfl, hL, hq⟩
  have HV6 := Lib.hid ((VarQ.new w5 3 5 55).below hq)
  have HB6 := Lib.hid (below_call (below_alloc HB5.out _) hq)
  have HS6 := Lib.hid ((HS5.out.below (below_alloc (Below.refl _ _) _)).below hq)
  have HL6 := Lib.hid hL
  obtain ⟨b5, hb5⟩ : ∃ b, w5.heap.size = b := ⟨_, rfl⟩
  rw [hb5] at HV6 ⊢
  clear hq HB5 HS5 hL hb5
  go_wp2_with fail
  refine (s_Coa _).mono ?_
  rintro e w7 ⟨rfl, hq⟩
  have HV7 := Lib.hid (HV6.out.below hq)
  have HB7 := Lib.hid (below_call HB6.out hq)
  have HS7 := Lib.hid (HS6.out.below hq)
  have HL7 := Lib.hid (HL6.out.below hq)
  clear hq HB6 HS6 HL6 HV6
  go_wp2_with fail
  refine (s_Apart _).mono ?_
  rintro e w8 ⟨rfl, hq⟩
  have HV8 := Lib.hid (HV7.out.below hq)
  have HB8 := Lib.hid (below_call HB7.out hq)
  have HS8 := Lib.hid (HS7.out.below hq)
  have HL8 := Lib.hid (HL7.out.below hq)
  clear hq HB7 HS7 HL7 HV7
  go_wp2_with fail
  refine (Print_405 _).mono ?_
  rintro e w9 ⟨rfl, hq⟩
  have HV9 := Lib.hid (HV8.out.below hq)
  have HB9 := Lib.hid (below_call HB8.out hq)
  have HS9 := Lib.hid (HS8.out.below hq)
  have HL9 := Lib.hid (HL8.out.below hq)
  clear hq HB8 HS8 HL8 HV8
  go_wp2_with fail
  refine (s_Btw _).mono ?_
  rintro e w10 ⟨rfl, hq⟩
  have HV10 := Lib.hid (HV9.out.below hq)
  have HB10 := Lib.hid (below_call HB9.out hq)
  have HS10 := Lib.hid (HS9.out.below hq)
  have HL10 := Lib.hid (HL9.out.below hq)
  clear hq HB9 HS9 HL9 HV9
  go_wp2_with fail
  have hbd := below_alloc (below_alloc (Below.refl w10.heap.size w10) (.cells #[.int .i64 19, .int .i64 12] 39)) (.cells #[.int .i64 8, .int .i64 5] 39)
  have hx := (VarQ.new w10 19 12 39).alloc (.cells #[.int .i64 8, .int .i64 5] 39)
  have hy := VarQ.new (w10.alloc (.cells #[.int .i64 19, .int .i64 12] 39)) 8 5 39
  rw [World.size_alloc] at hy
  refine (s_Exp _).mono ?_
  rintro e w11 ⟨A11, n11, c11, rfl, hE, hq⟩
  have HV11 := Lib.hid ((HV10.out.below hbd).below hq)
  have HX11 := Lib.hid (hx.below hq)
  have HY11 := Lib.hid (hy.below hq)
  have HB11 := Lib.hid (below_call (below_alloc (below_alloc HB10.out _) _) hq)
  have HS11 := Lib.hid ((HS10.out.below hbd).below hq)
  have HL11 := Lib.hid ((HL10.out.below hbd).below hq)
  have HE11 := Lib.hid hE
  have hle : w10.heap.size + 1 + 1 ≤ w11.heap.size := by have := hq.size; simp at this; omega
  obtain ⟨b10, hb10⟩ : ∃ b, w10.heap.size = b := ⟨_, rfl⟩
  rw [hb10] at HX11 HY11 hle ⊢
  have h510 : b5 < b10 := by rw [← hb10]; exact HV10.out.lt
  clear hq hbd hx hy hE HB10 HS10 HL10 HV10 hb10
  go_wp2_with fail
  refine (Fold_any _ _ _ [1, 1, 1, 2, 2] _ (IsL.new w11 3 [1, 1, 1, 2, 2] (by simp))).mono ?_
  rintro e w12 ⟨rfl, hq⟩
  have hbd := below_alloc (Below.refl w11.heap.size w11) (.cells #[.int .i64 1, .int .i64 1, .int .i64 1, .int .i64 2, .int .i64 2] 3)
  have HV12 := Lib.hid ((HV11.out.below hbd).below hq)
  have HX12 := Lib.hid ((HX11.out.below hbd).below hq)
  have HY12 := Lib.hid ((HY11.out.below hbd).below hq)
  have HB12 := Lib.hid (below_call (below_alloc HB11.out _) hq)
  have HS12 := Lib.hid ((HS11.out.below hbd).below hq)
  have HL12 := Lib.hid ((HL11.out.below hbd).below hq)
  have HE12 := Lib.hid ((HE11.out.below hbd).below hq)
  have hle2 : b10 + 1 + 1 < w12.heap.size := by have := hq.size; simp at this; omega
  clear hq hbd HB11 HS11 HL11 HV11 HX11 HY11 HE11 hle
  rw [v_fold]
  go_wp2_with fail
  have hbd := below_alloc (Below.refl w12.heap.size w12) (.cells #[.int .i64 19, .int .i64 12] 39)
  have hz := VarQ.new w12 19 12 39
  refine (s_ChkF _).mono ?_
  rintro e w13 ⟨rfl, hq⟩
  have hle3 : w12.heap.size < w13.heap.size := by have := hq.size; simp at this; omega
  have HP := Lib.hid (And.intro ((HV12.out.below hbd).below hq) (And.intro ((HX12.out.below hbd).below hq) (And.intro ((HY12.out.below hbd).below hq) (And.intro (hz.below hq) (And.intro (below_call (below_alloc HB12.out _) hq) (And.intro ((HS12.out.below hbd).below hq) (And.intro ((HL12.out.below hbd).below hq) ((HE12.out.below hbd).below hq))))))))
  obtain ⟨b12, hb12⟩ : ∃ b, w12.heap.size = b := ⟨_, rfl⟩
  rw [hb12] at HP hle3 hle2 ⊢
  clear hq hbd hz HB12 HS12 HL12 HV12 HX12 HY12 HE12 hb12
  go_wp2_with fail
  refine (quot_any 19 12 _).mono ?_
  rintro e w14 ⟨rfl, hq1⟩
  go_wp2_with fail
  refine (quot_any 8 5 _).mono ?_
  rintro e w15 ⟨rfl, hq2⟩
  go_wp2_with fail
  refine (s_Chk _).mono ?_
  rintro e w16 ⟨rfl, hq3⟩
  have hq := (hq1.trans (hq2.mono hq1.size)).trans (hq3.mono (Nat.le_trans hq1.size hq2.size))
  have hsz := hq.size
  obtain ⟨p1, p2, p3, p4, p5, p6, p7, p8⟩ := HP.out
  have HP16 := Lib.hid (And.intro (p1.below hq) (And.intro (p2.below hq) (And.intro (p3.below hq) (And.intro (p4.below hq) (And.intro (p5.trans (hq.mono p5.size)) (And.intro (p6.below hq) (And.intro (p7.below hq) (p8.below hq))))))))
  have hle4 : b12 < w16.heap.size := by omega
  clear p1 p2 p3 p4 p5 p6 p7 p8 HP hq hq1 hq2 hq3 hsz hle3
  go_wp2_with fail
  obtain ⟨w17, h17⟩ : ∃ w17, w16.alloc (.cells #[.int .i64 0, .int .i64 0, .int .i64 0, .int .i64 0, .int .i64 0, .int .i64 0, .int .i64 0, .int .i64 0, .int .i64 0, .int .i64 0, .int .i64 0, .int .i64 0, .int .i64 0, .int .i64 0] 23) = w17 := ⟨_, rfl⟩
  have hI : IsL w17 (some ⟨w16.heap.size, 0, none⟩) 14 14 [0, 0, 0, 0, 0, 0, 0, 0, 0, 0, 0, 0, 0, 0] := by rw [← h17]; exact IsL.new w16 23 [0, 0, 0, 0, 0, 0, 0, 0, 0, 0, 0, 0, 0, 0] (by simp)
  have hq : Below w16.heap.size w16 w17 := by rw [← h17]; exact below_alloc (Below.refl _ _) _
  obtain ⟨p1, p2, p3, p4, p5, p6, p7, p8⟩ := HP16.out
  have HP := Lib.hid (And.intro (p1.below hq) (And.intro (p2.below hq) (And.intro (p3.below hq) (And.intro (p4.below hq) (And.intro (p5.trans (hq.mono p5.size)) (And.intro (p6.below hq) (And.intro (p7.below hq) (p8.below hq))))))))
  obtain ⟨b16, hb16⟩ : ∃ b, w16.heap.size = b := ⟨_, rfl⟩
  have h1216 : b12 < b16 := by omega
  rw [h17, hb16]
  have hcell : ∀ i : Nat, i < 14 → w17.cell? ⟨b16, i, none⟩ = some (.int .i64 0) := by
    intro i hi
    obtain ⟨b', off', e, hc⟩ := hI.2.2.2 (by simp)
    rw [hb16] at e
    cases e
    have := hc i (by simpa using hi)
    rw [Nat.zero_add] at this
    rw [this]
    have h0 : ∀ i : Nat, i < 14 → ([0, 0, 0, 0, 0, 0, 0, 0, 0, 0, 0, 0, 0, 0] : List Int).getD i 0 = 0 := by decide
    rw [h0 i hi]
  have HC := Lib.hid hcell
  clear hcell hI hq p1 p2 p3 p4 p5 p6 p7 p8 HP16 hle4 h17 hb16
  go_loopw [102] (fun s wr => ∃ i : Nat, s = .int .i64 i ∧ i ≤ 14 ∧ wr = w17) (fun s _ => 14 - (intOf s).toNat)
  case atStart => exact ⟨0, rfl, by omega, rfl⟩
  case round =>
    obtain ⟨i, rfl, hi, rfl⟩ := hrel
    by_cases hlt : i < 14
    · have hlt' : (i : Int) < 14 := by omega
      have hc := HC.out i hlt
      go_wp2_with fail
      refine ⟨⟨i + 1, rfl, by omega, trivial⟩, ?_⟩
      simp [intOf]
      omega
    · obtain rfl : i = 14 := by omega
      go_wp2_with fail
      clear HC hi hlt
      have HK := Lib.hid (fun (w' : World) (hb : Below wr.heap.size wr w') => keep_sane HP.out hb)
      obtain ⟨k1, k2, k3, k4, k5, k6, k7, k8, k9⟩ := HK.out wr (Below.refl _ _)
      simp only [List.append_eq, List.cons_append, List.nil_append]
      have HQ := Lib.hid (fun (V : World) (p q : Int) (hb : Below wr.heap.size wr V) =>
        (quot_any p q V).mono (R' := fun e w' => e = .returned (.agg #[.int .i64 p, .int .i64 q]) ∧ Below wr.heap.size wr w') fun e w' h => ⟨h.1, below_call hb h.2⟩)
      have HC2 := Lib.hid (fun (V : World) (hb : Below wr.heap.size wr V) =>
        (s_Chk2 V).mono (R' := fun e w' => e = .returned (.int .i64 32) ∧ Below wr.heap.size wr w') fun e w' h => ⟨h.1, below_call hb h.2⟩)
      go_region_held3 (fun w' => w'.cell? ⟨b5, 0, none⟩ = some (.int .i64 3) ∧ w'.cell? ⟨b5, 1, none⟩ = some (.int .i64 5) ∧ w'.cell? ⟨b10, 0, none⟩ = some (.int .i64 19) ∧ w'.cell? ⟨b10, 1, none⟩ = some (.int .i64 12) ∧
          w'.cell? ⟨b10 + 1, 0, none⟩ = some (.int .i64 8) ∧ w'.cell? ⟨b10 + 1, 1, none⟩ = some (.int .i64 5) ∧ w'.cell? ⟨b12, 0, none⟩ = some (.int .i64 19) ∧ w'.cell? ⟨b12, 1, none⟩ = some (.int .i64 12) ∧ Below wr.heap.size wr w')
        (first | (refine HK.out _ ?_; assumption) | (refine HK.out _ (below_alloc ?_ _); go_split_ands; assumption) | (refine HK.out _ (Below.drew ?_); go_split_ands; assumption) | (refine HK.out _ (Below.drew (below_alloc ?_ _)); go_split_ands; assumption) | (refine HK.out _ (below_alloc (Below.drew ?_) _); go_split_ands; assumption))
        (first
          | (go_at_call 46; refine Calls.mono (equalS_same (xs := [(405, 406), (512, 512), (594, 595)]) ?_ ?_) ?_; (exact HP.out.2.2.2.2.2.1.below (by go_split_ands; assumption)); (first | exact IsS.new3 _ _ _ _ _ _ _ | exact (IsS.new3 _ _ _ _ _ _ _).below (Below.drew (Below.refl _ _))); rintro e w2 ⟨rfl, hq2⟩; have hbb : Below wr.heap.size wr w2 := below_call (by go_split_ands; assumption) hq2; clear hq2)
          | (go_at_call 40; refine Calls.mono (HC2.out _ ?_) ?_; (go_split_ands; assumption); rintro e w2 ⟨rfl, hbb⟩)
          | (go_at_call 38; refine Calls.mono (HQ.out _ _ _ ?_) ?_; (go_split_ands; assumption); rintro e w2 ⟨rfl, hbb⟩)
          | (go_at_call 31; refine Calls.mono (equalI_same (by first | exact HP.out.2.2.2.2.2.2.1.below (by go_split_ands; assumption) | exact HP.out.2.2.2.2.2.2.2.below (by go_split_ands; assumption)) (by first | exact IsL.new _ _ _ (by simp) | exact (IsL.new _ _ _ (by simp)).below (Below.drew (Below.refl _ _)))) ?_; rintro e w2 ⟨rfl, hq2⟩; have hbb : Below wr.heap.size wr w2 := below_call (by go_split_ands; assumption) hq2; clear hq2))
      go_wp2_with fail
      go_ret
      refine ⟨rfl, HP.out.2.2.2.2.1.trans (Below.mono ?_ HP.out.2.2.2.2.1.size)⟩
      go_split_ands
      assumption
end Go.Proofs.YtpgnheankmlnfaaDoor
