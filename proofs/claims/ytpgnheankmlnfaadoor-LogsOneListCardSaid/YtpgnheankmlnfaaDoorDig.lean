/- The walks over logs.Digits, Coarse, Apart. The walk over logs.Apart. -/
import Derived.Test.YtpgnheankmlnfaaDoorAsk
namespace Go.Proofs.YtpgnheankmlnfaaDoor
open Go.RowKit
set_option linter.unusedVariables false

/-- The lowest k binary digits, the highest one first. -/
def digs (m : Int) (k : Nat) : List Int := (List.range k).map fun i => (m / 2 ^ (k - 1 - i)) % 2

theorem digs_len (m : Int) (k : Nat) : (digs m k).length = k := by unfold digs; rw [List.length_map, List.length_range]
theorem digs_take (m : Int) (k i : Nat) (h : i < k) : (digs m k).take (k - i) = (digs m k).take (k - (i + 1)) ++ [(m / 2 ^ i) % 2] := by
  obtain ⟨j, hj⟩ : ∃ j, k - i = j + 1 := ⟨k - i - 1, by omega⟩
  rw [hj, show k - (i + 1) = j by omega, List.take_succ_eq_append_getElem (by rw [digs_len]; omega)]
  unfold digs
  rw [List.getElem_map, List.getElem_range, show k - 1 - j = i by omega]
theorem and_one (z : Int) : bits .and .i64 z 1 = z % 2 := by
  have e : (BitVec.ofInt 64 z).toNat = (z % 18446744073709551616).toNat := by
    rw [BitVec.toNat_ofInt]; rfl
  have e2 : (BitVec.ofInt 64 1).toNat = 2 ^ 1 - 1 := by decide
  have e3 : bits .and .i64 z 1 = IntKind.i64.wrap (((BitVec.ofInt 64 z).toNat &&& (BitVec.ofInt 64 1).toNat : Nat) : Int) := by
    rw [← BitVec.toNat_and]; rfl
  rw [e3, e, e2, Nat.and_two_pow_sub_one_eq_mod]
  have h : (((z % 18446744073709551616).toNat % 2 ^ 1 : Nat) : Int) = z % 2 := by omega
  rw [h, IntKind.wrap_i64]
  omega
/-- A number, a slice and an error are returned. -/
def RetISE (m : Int) (xs : List Int) (k : Int) (w : World) (e : Ending) (w' : World) : Prop := ∃ A n c, e = .returned (.tuple #[.int .i64 m, .slice A n c, .int .i64 k]) ∧ IsL w' A n c xs ∧ Below w.heap.size w w'
def digM (a b k : Int) : Int := if askF a b k = true then flo a.toNat b.toNat (2 ^ k.toNat) / 2 ^ k.toNat else 0
def digL (a b k : Int) : List Int := if askF a b k = true then digs (flo a.toNat b.toNat (2 ^ k.toNat)) k.toNat else []

set_option maxRecDepth 100000 in
set_option maxHeartbeats 400000 in
theorem Digits_no (a b k : Int) (w : World) (h : askF a b k = false) :
    Calls Tryd.prog 25 #[.int .i64 a, .int .i64 b, .int .i64 k] w (RetISE 0 [] 1 w) := by
  have HA := Lib.hid h
  clear h
  go_enter Tryd.func25, Tryd.ntmps25
  go_wp2_with fail
  refine (fine_any k _ _ _ [a, b] _ (IsL.new2 _ _ _ _)).mono ?_
  rintro e w1 ⟨rfl, hq1⟩
  rw [show ([a, b].all (inR 1 4095) && inR 0 8 k) = false from HA.out]
  have HB1 := Lib.hid (below_call (below_alloc (Below.refl _ _) _) hq1)
  clear hq1
  go_wp2_with fail
  go_ret3
  exact ⟨_, _, _, rfl, IsL.nil _ _, HB1.out⟩

set_option maxRecDepth 100000 in
set_option maxHeartbeats 1000000 in
theorem Digits_ok (a b k : Nat) (w : World) (h : askF a b k = true) :
    Calls Tryd.prog 25 #[.int .i64 a, .int .i64 b, .int .i64 k] w (RetISE (flo a b (2 ^ k) / 2 ^ k) (digs (flo a b (2 ^ k)) k) 0 w) := by
  obtain ⟨⟨a0, a1⟩, ⟨b0, b1⟩, k0, k1⟩ := askF_iff.1 h
  have HA := Lib.hid h
  have HW := Lib.hid (wrap_two k (by omega))
  have hfr := flo_range (a := a) (b := b) (q := 2 ^ k) (by omega) (by omega) (two_le k (by omega))
  obtain ⟨m, hm⟩ : ∃ m, flo a b (2 ^ k) = m := ⟨_, rfl⟩
  have HM := Lib.hid hm
  rw [hm] at hfr ⊢
  clear h hm
  go_enter Tryd.func25, Tryd.ntmps25
  go_wp2_with fail
  refine (fine_any k _ _ _ [(a : Int), (b : Int)] _ (IsL.new2 _ _ _ _)).mono ?_
  rintro e w1 ⟨rfl, hq1⟩
  rw [show ([(a : Int), (b : Int)].all (inR 1 4095) && inR 0 8 (k : Int)) = true from HA.out]
  have HB1 := Lib.hid (below_call (below_alloc (Below.refl _ _) _) hq1)
  clear hq1
  go_wp2_with fail
  rw [HW.out]
  refine (whole_any a b (2 ^ k) _ (by omega) (by omega) (by omega) (by omega) (two_le k (by omega))).mono ?_
  rintro e w2 ⟨rfl, hq2⟩
  rw [HM.out]
  have HB2 := Lib.hid (below_call HB1.out hq2)
  clear hq2
  go_wp2_with fail
  go_loopw [12, 11] (fun s v wr => ∃ (j : Nat) (xs : List Int), j ≤ k ∧ s = .int .i64 ((j : Int) - 1) ∧ Hid (xs = (digs m k).take (k - j)) ∧ Hid (OwnV wr w2.heap.size v xs) ∧ Hid (Below w2.heap.size w2 wr)) (fun s _ _ => (intOf s + 1).toNat)
  case atStart => exact ⟨k, [], Nat.le_refl _, rfl, by rw [Nat.sub_self, List.take_zero]; exact Lib.hid rfl, OwnV.nil _ _, Below.refl _ _⟩
  case round =>
    obtain ⟨j, xs, hj, rfl, HX, HO, HB⟩ := hrel
    have hsz := HB.out.size
    by_cases h0 : 0 < j
    · obtain ⟨i, rfl⟩ : ∃ i, j = i + 1 := ⟨j - 1, by omega⟩
      rw [show ((i + 1 : Nat) : Int) - 1 = (i : Int) by omega]
      have hlx : xs.length ≤ 10000000000 := by
        rw [HX.out, List.length_take, digs_len]; omega
      go_wp2_with (at_builtin; refine wpList_append_int _ rfl _ _ rfl w2.heap.size _ xs _ HO.out rfl rfl hlx hsz ?_)
      intro v' w' HO' HB'
      rw [and_one] at HO'
      have HO2 := Lib.hid HO'
      have HB2' := Lib.hid (HB.out.trans HB')
      clear HO' HB'
      go_wp2_with fail
      go_roundw
      case rel => exact ⟨i, _, by omega, rfl, by rw [digs_take m k i (by omega), ← HX.out]; exact Lib.hid rfl, HO2.out, HB2'.out⟩
      case measure => simp [intOf]
    · obtain ⟨A, l, c, rfl, hl, _⟩ := HO.out.isL
      have HL := Lib.hid hl
      clear hl
      obtain rfl : j = 0 := by omega
      have hx := HX.out
      rw [Nat.sub_zero, List.take_of_length_le (by rw [digs_len]; exact Nat.le_refl _)] at hx
      have HX2 := Lib.hid hx
      clear hx
      go_wp2_with fail
      go_ret3
      rw [← HX2.out]
      exact ⟨_, _, _, rfl, HL.out, below_call HB2.out HB.out⟩

theorem Digits_any (a b k : Int) (w : World) :
    Calls Tryd.prog 25 #[.int .i64 a, .int .i64 b, .int .i64 k] w (RetISE (digM a b k) (digL a b k) (askE (askF a b k)) w) := by
  cases hask : askF a b k
  · have e : digM a b k = 0 ∧ digL a b k = [] := ⟨by unfold digM; rw [hask]; rfl, by unfold digL; rw [hask]; rfl⟩
    rw [e.1, e.2]
    exact Digits_no a b k w hask
  · obtain ⟨⟨a0, a1⟩, ⟨b0, b1⟩, k0, k1⟩ := askF_iff.1 hask
    obtain ⟨a, rfl⟩ : ∃ n : Nat, a = (n : Int) := ⟨a.toNat, by omega⟩
    obtain ⟨b, rfl⟩ : ∃ n : Nat, b = (n : Int) := ⟨b.toNat, by omega⟩
    obtain ⟨k, rfl⟩ : ∃ n : Nat, k = (n : Int) := ⟨k.toNat, by omega⟩
    unfold digM digL
    rw [hask, if_pos rfl, if_pos rfl, Int.toNat_natCast, Int.toNat_natCast, Int.toNat_natCast]
    exact Digits_ok a b k w hask

/-- What Coarse returns. -/
def askK (m k j : Int) : Bool := inR (-4096) 4096 m && (inR 0 8 j && inR 0 8 k) && decide (j ≤ k)
def coaV (m k j : Int) : Int := if askK m k j = true then m / 2 ^ (k - j).toNat else 0
set_option maxRecDepth 100000 in
set_option maxHeartbeats 1000000 in
theorem Coarse_any (m k j : Int) (w : World) :
    Calls Tryd.prog 27 #[.int .i64 m, .int .i64 k, .int .i64 j] w fun e w' => e = .returned (.tuple #[.int .i64 (coaV m k j), .int .i64 (askE (askK m k j))]) ∧ Below w.heap.size w w' := by
  cases h1 : inR (-4096) 4096 m
  · have HA := Lib.hid h1
    have HV : Hid (coaV m k j = 0 ∧ askE (askK m k j) = 1) := by
      have : askK m k j = false := by unfold askK; rw [h1]; rfl
      exact ⟨by unfold coaV; rw [this]; rfl, by rw [this]; rfl⟩
    clear h1
    go_enter Tryd.func27, Tryd.ntmps27
    go_wp2_with fail
    refine (within1 _ _ _ _ _ (by simp)).mono ?_
    rintro e w1 ⟨rfl, hq1⟩
    rw [HA.out]
    have HB1 := Lib.hid hq1
    clear hq1
    go_wp2_with fail
    go_ret2
    rw [HV.out.1, HV.out.2]
    exact ⟨rfl, HB1.out⟩
  · cases h2 : (inR 0 8 j && inR 0 8 k)
    · have HA := Lib.hid h1
      have HA2 : Hid ([j, k].all (inR 0 8) = false) := by rw [← h2]; exact Lib.hid (by simp)
      have HV : Hid (coaV m k j = 0 ∧ askE (askK m k j) = 1) := by
        have : askK m k j = false := by unfold askK; rw [h1, h2]; rfl
        exact ⟨by unfold coaV; rw [this]; rfl, by rw [this]; rfl⟩
      clear h1 h2
      go_enter Tryd.func27, Tryd.ntmps27
      go_wp2_with fail
      refine (within1 _ _ _ _ _ (by simp)).mono ?_
      rintro e w1 ⟨rfl, hq1⟩
      rw [HA.out]
      have HB1 := Lib.hid hq1
      clear hq1
      go_wp2_with fail
      refine (within_any 0 8 _ _ _ [j, k] _ (IsL.new2 _ _ _ _)).mono ?_
      rintro e w2 ⟨rfl, hq2⟩
      rw [HA2.out]
      have HB2 := Lib.hid (below_call (below_alloc HB1.out _) hq2)
      clear hq2
      go_wp2_with fail
      go_ret2
      rw [HV.out.1, HV.out.2]
      exact ⟨rfl, HB2.out⟩
    · have HA := Lib.hid h1
      have HA2 : Hid ([j, k].all (inR 0 8) = true) := by rw [← h2]; exact Lib.hid (by simp)
      rw [Bool.and_eq_true, inR_iff, inR_iff] at h2
      obtain ⟨⟨j0, j1⟩, k0, k1⟩ := h2
      obtain ⟨m0, m1⟩ := inR_iff.1 h1
      obtain ⟨j, rfl⟩ : ∃ n : Nat, j = (n : Int) := ⟨j.toNat, by omega⟩
      obtain ⟨k, rfl⟩ : ∃ n : Nat, k = (n : Int) := ⟨k.toNat, by omega⟩
      have hC : askK m k j = decide ((j : Int) ≤ k) := by unfold askK; rw [h1, inR_iff.2 ⟨j0, j1⟩, inR_iff.2 ⟨k0, k1⟩]; rfl
      by_cases hjk : j ≤ k
      · have HV : Hid (coaV m k j = m / 2 ^ (k - j) ∧ askE (askK m k j) = 0) := by
          rw [decide_eq_true (by omega)] at hC
          refine ⟨?_, by rw [hC]; rfl⟩
          unfold coaV
          rw [hC, if_pos rfl]
          congr 2
          omega
        have HS : Hid ((k : Int) - (j : Int) = ((k - j : Nat) : Int)) := Lib.hid (by omega)
        clear h1 hC
        go_enter Tryd.func27, Tryd.ntmps27
        go_wp2_with fail
        refine (within1 _ _ _ _ _ (by simp)).mono ?_
        rintro e w1 ⟨rfl, hq1⟩
        rw [HA.out]
        have HB1 := Lib.hid hq1
        clear hq1
        go_wp2_with fail
        refine (within_any 0 8 _ _ _ [(j : Int), (k : Int)] _ (IsL.new2 _ _ _ _)).mono ?_
        rintro e w2 ⟨rfl, hq2⟩
        rw [HA2.out]
        have HB2 := Lib.hid (below_call (below_alloc HB1.out _) hq2)
        clear hq2
        go_wp2_with fail
        go_ret2
        rw [HV.out.1, HV.out.2]
        exact ⟨rfl, HB2.out⟩
      · have HV : Hid (coaV m k j = 0 ∧ askE (askK m k j) = 1) := by
          rw [decide_eq_false (by omega)] at hC
          exact ⟨by unfold coaV; rw [hC]; rfl, by rw [hC]; rfl⟩
        clear h1 hC
        go_enter Tryd.func27, Tryd.ntmps27
        go_wp2_with fail
        refine (within1 _ _ _ _ _ (by simp)).mono ?_
        rintro e w1 ⟨rfl, hq1⟩
        rw [HA.out]
        have HB1 := Lib.hid hq1
        clear hq1
        go_wp2_with fail
        refine (within_any 0 8 _ _ _ [(j : Int), (k : Int)] _ (IsL.new2 _ _ _ _)).mono ?_
        rintro e w2 ⟨rfl, hq2⟩
        rw [HA2.out]
        have HB2 := Lib.hid (below_call (below_alloc HB1.out _) hq2)
        clear hq2
        go_wp2_with fail
        go_ret2
        rw [HV.out.1, HV.out.2]
        exact ⟨rfl, HB2.out⟩
end Go.Proofs.YtpgnheankmlnfaaDoor
namespace Go.Proofs.YtpgnheankmlnfaaDoor
open Go.RowKit
set_option linter.unusedVariables false

/-- From k on, n steps: the first at which the two differ. -/
def apFrom (a b c d : Nat) : Nat → Nat → Option Nat
  | _, 0 => none
  | k, n + 1 => if flo a b (2 ^ k) = flo c d (2 ^ k) then apFrom a b c d (k + 1) n else some k
def askA (a b c d : Int) : Bool := ([a, b, c, d].all (inR 1 4095) && inR 0 8 0)
theorem askA_iff {a b c d : Int} : askA a b c d = true ↔ ((1 ≤ a ∧ a ≤ 4095) ∧ (1 ≤ b ∧ b ≤ 4095)) ∧ (1 ≤ c ∧ c ≤ 4095) ∧ (1 ≤ d ∧ d ≤ 4095) := by
  unfold askA
  rw [show inR 0 8 0 = true from rfl, Bool.and_true]
  simp only [List.all_cons, List.all_nil, Bool.and_true, Bool.and_eq_true, inR_iff]
  constructor
  · rintro ⟨h1, h2, h3, h4⟩; exact ⟨⟨h1, h2⟩, h3, h4⟩
  · rintro ⟨⟨h1, h2⟩, h3, h4⟩; exact ⟨h1, h2, h3, h4⟩
def apO (a b c d : Int) : Option Nat := if askA a b c d = true then apFrom a.toNat b.toNat c.toNat d.toNat 0 9 else none
def apV (o : Option Nat) : Int := match o with | none => 0 | some k => (k : Int)
def apB (o : Option Nat) : Bool := match o with | none => false | some _ => true

set_option maxRecDepth 100000 in
set_option maxHeartbeats 1000000 in
theorem Apart_any (a b c d : Int) (w : World) :
    Calls Tryd.prog 29 #[.int .i64 a, .int .i64 b, .int .i64 c, .int .i64 d] w fun e w' => e = .returned (.tuple #[.int .i64 (apV (apO a b c d)), .bool (apB (apO a b c d)), .int .i64 (askE (askA a b c d))]) ∧ Below w.heap.size w w' := by
  cases hask : askA a b c d
  · have HA := Lib.hid hask
    have HV : Hid (apO a b c d = none) := by unfold apO; rw [hask]; exact Lib.hid rfl
    rw [HV.out]
    clear hask
    go_enter Tryd.func29, Tryd.ntmps29
    go_wp2_with fail
    refine (fine_any 0 _ _ _ [a, b, c, d] _ (IsL.new4 _ _ _ _ _ _)).mono ?_
    rintro e w1 ⟨rfl, hq1⟩
    rw [show ([a, b, c, d].all (inR 1 4095) && inR 0 8 0) = false from HA.out]
    have HB1 := Lib.hid (below_call (below_alloc (Below.refl _ _) _) hq1)
    clear hq1
    go_wp2_with fail
    go_ret3
    exact ⟨rfl, HB1.out⟩
  · obtain ⟨⟨⟨a0, a1⟩, b0, b1⟩, ⟨c0, c1⟩, d0, d1⟩ := askA_iff.1 hask
    obtain ⟨a, rfl⟩ : ∃ n : Nat, a = (n : Int) := ⟨a.toNat, by omega⟩
    obtain ⟨b, rfl⟩ : ∃ n : Nat, b = (n : Int) := ⟨b.toNat, by omega⟩
    obtain ⟨c, rfl⟩ : ∃ n : Nat, c = (n : Int) := ⟨c.toNat, by omega⟩
    obtain ⟨d, rfl⟩ : ∃ n : Nat, d = (n : Int) := ⟨d.toNat, by omega⟩
    have HA := Lib.hid hask
    have HV : Hid (apO a b c d = apFrom a b c d 0 9) := by unfold apO; rw [hask, if_pos rfl, Int.toNat_natCast, Int.toNat_natCast, Int.toNat_natCast, Int.toNat_natCast]; exact Lib.hid rfl
    rw [HV.out]
    obtain ⟨o, ho⟩ : ∃ o, apFrom a b c d 0 9 = o := ⟨_, rfl⟩
    have HO := Lib.hid ho
    rw [ho]
    clear hask ho
    go_enter Tryd.func29, Tryd.ntmps29
    go_wp2_with fail
    refine (fine_any 0 _ _ _ [(a : Int), (b : Int), (c : Int), (d : Int)] _ (IsL.new4 _ _ _ _ _ _)).mono ?_
    rintro e w1 ⟨rfl, hq1⟩
    rw [show ([(a : Int), (b : Int), (c : Int), (d : Int)].all (inR 1 4095) && inR 0 8 0) = true from HA.out]
    have HB1 := Lib.hid (below_call (below_alloc (Below.refl _ _) _) hq1)
    clear hq1
    go_wp2_with fail
    go_loopw [23] (fun s wr => ∃ k : Nat, k ≤ 9 ∧ s = .int .i64 k ∧ Hid (apFrom a b c d k (9 - k) = o) ∧ Hid (Below w.heap.size w wr)) (fun s _ => 9 - (intOf s).toNat)
    case atStart => exact ⟨0, by decide, rfl, HO.out, HB1.out⟩
    case round =>
      clear HB1 HO
      obtain ⟨k, hk, rfl, HP, HB⟩ := hrel
      by_cases hlt : k < 9
      · have HW := Lib.hid (wrap_two k (by omega))
        have hf1 := flo_range (a := a) (b := b) (q := 2 ^ k) (by omega) (by omega) (two_le k (by omega))
        have hf2 := flo_range (a := c) (b := d) (q := 2 ^ k) (by omega) (by omega) (two_le k (by omega))
        obtain ⟨m, hm⟩ : ∃ m, flo a b (2 ^ k) = m := ⟨_, rfl⟩
        obtain ⟨n, hn⟩ : ∃ m, flo c d (2 ^ k) = m := ⟨_, rfl⟩
        have HM := Lib.hid hm
        have HN := Lib.hid hn
        rw [hm] at hf1
        rw [hn] at hf2
        have HS : Hid ((if m = n then apFrom a b c d (k + 1) (9 - (k + 1)) else some k) = o) := by
          have := HP.out
          rw [show 9 - k = (9 - (k + 1)) + 1 by omega] at this
          unfold apFrom at this
          rw [hm, hn] at this
          exact this
        clear hm hn HP
        by_cases hmn : m = n
        case' pos => have b1 : (m != n) = false := bne_eq_false_iff_eq.2 hmn
        case' neg => have b1 : (m != n) = true := bne_iff_ne.2 hmn
        all_goals
          have HMN := Lib.hid hmn
          clear hmn
          go_wp2_with fail
          rw [HW.out]
          refine (whole_any a b (2 ^ k) _ (by omega) (by omega) (by omega) (by omega) (two_le k (by omega))).mono ?_
          rintro e w2 ⟨rfl, hq2⟩
          rw [HM.out]
          have HB2 := Lib.hid (below_call HB.out hq2)
          clear hq2
          go_wp2_with fail
          rw [HW.out]
          refine (whole_any c d (2 ^ k) _ (by omega) (by omega) (by omega) (by omega) (two_le k (by omega))).mono ?_
          rintro e w3 ⟨rfl, hq3⟩
          rw [HN.out]
          have HB3 := Lib.hid (below_call HB2.out hq3)
          clear hq3
          go_wp2_with fail
        · go_ret3
          have := HS.out
          rw [if_neg HMN.out] at this
          rw [← this]
          exact ⟨rfl, HB3.out⟩
        · go_roundw
          case rel => exact ⟨k + 1, by omega, by go_num, by have := HS.out; rw [if_pos HMN.out] at this; exact this, HB3.out⟩
          case measure => simp [intOf]; omega
      · obtain rfl : k = 9 := by omega
        go_wp2_with fail
        go_ret3
        rw [← HP.out]
        exact ⟨rfl, HB.out⟩
end Go.Proofs.YtpgnheankmlnfaaDoor
