/- The walk over the reference's Digits. The walk over the reference's Order. -/
import Derived.Test.YtpgnheankmlnfaaDoorRp
import Derived.Laws.AppendOwnNone
namespace Go.Proofs.YtpgnheankmlnfaaDoor
open Go.RowKit
set_option linter.unusedVariables false

/-- 'append([]int{y}, xs...)'. -/
theorem wpList_cons_int (w : World) {ops : Array Oper} {rest : List Oper} {o : Oper} {a : Act} {Q : Exit → Act → World → Prop}
    (hg : o.guard = none) (s x : Operand) (hop : o.op = Op.call { callee := Callee.builtin Builtin.append, args := #[s, x], argTypes := #[30, 30] })
    (base : Nat) (v : Value) (xs : List Int) (y : Int) (hown : OwnV w base v xs) (hs : a.eval s = .slice (some ⟨w.heap.size, 0, none⟩) 1 1) (hx : a.eval x = v)
    (hlen : xs.length ≤ 10000000000) (hbase : base ≤ w.heap.size)
    (hK : ∀ v' w', OwnV w' base v' (y :: xs) → Below base w w' → wpList Tryd.prog ops Q rest (a.put o.dst v') w') :
    wpList Tryd.prog ops Q (o :: rest) a (w.alloc (.cells #[.int .i64 y] 3)) := by
  obtain ⟨i0, hi, hz0, hz1, hz2⟩ := info_parts infoInt
  have hlit : (w.alloc (.cells #[.int .i64 y] 3)).ownsRow base 3 1 (.slice (some ⟨w.heap.size, 0, none⟩) 1 1) 1 [.int .i64 y] := World.ownsRow_lit w #[.int .i64 y] 1 hbase (by decide) rfl
  have hb : Below base w (w.alloc (.cells #[.int .i64 y] 3)) := (Below.refl _ _).alloc hbase _
  have hown' := hown
  rcases hown.2 with ⟨hv, hn⟩ | ⟨g, cap, cur, hv, hbg, hgc, h1, h2, h3, h4⟩
  · have he : xs = [] := List.length_eq_zero_iff.1 hn
    subst he
    refine wpList_append_own_none hg s x 30 hop base 3 i0 1 Tryd.underlying30 hi _ 1 _ hs hlit (by rw [hx, hv]) ?_
    exact hK _ _ hlit hb
  · have hc := World.ownsRow.cells (World.ownsRow.alloc hown (.cells #[.int .i64 y] 3)) (g := g) (by rw [hv]; rfl)
    refine wpList_append_own _ hg s x 30 hop base 3 i0 (.int .i64 0) 1 8 Tryd.underlying30 hi hz0 hz1 hz2 rfl (by decide) _ 1 _ hs hlit ⟨g, 0, none⟩ xs.length cap (xs.map (Value.int .i64)) (by rw [hx, hv]) (by simp) hc (by intro u hu; obtain ⟨z, _, rfl⟩ := List.mem_map.1 hu; rfl) (by simp only [maxLen]; omega) (by omega) (by simp; omega) ?_
    intro v' w' k1 k2 _
    refine hK v' w' ?_ ?_
    · unfold OwnV
      rw [List.length_cons, List.map_cons, Nat.add_comm xs.length 1]
      exact k1
    · refine hb.grown k2 (by simp; omega) (fun k hk => ?_)
      simp [Value.ownBlock] at hk
      omega

theorem digs_drop (m : Int) (k i : Nat) (h : i < k) : (digs m k).drop (k - (i + 1)) = (m / 2 ^ i) % 2 :: (digs m k).drop (k - i) := by
  have hl : k - (i + 1) < (digs m k).length := by rw [digs_len]; omega
  rw [List.drop_eq_getElem_cons hl, show k - (i + 1) + 1 = k - i by omega]
  congr 1
  simp only [digs, List.getElem_map, List.getElem_range]
  rw [show k - 1 - (k - (i + 1)) = i by omega]
theorem div_half (m : Int) (i : Nat) : m / 2 ^ (i + 1) = m / 2 ^ i / 2 := by
  rw [Int.pow_succ, Int.ediv_ediv_of_nonneg]
  exact Int.le_of_lt (Int.pow_pos (by decide))

set_option maxRecDepth 100000 in
set_option maxHeartbeats 1000000 in
theorem rDigits_any (a b k : Int) (w : World) :
    Calls Tryd.prog 26 #[.int .i64 a, .int .i64 b, .int .i64 k] w (RetISE (digM a b k) (digL a b k) (askE (askF a b k)) w) := by
  have HF := Lib.hid (rFloor_any a b k)
  have e1 : digM a b k = if askF a b k = true then floV a b k / 2 ^ k.toNat else 0 := by unfold digM floV; split <;> rfl
  have e2 : digL a b k = if askF a b k = true then digs (floV a b k) k.toNat else [] := by unfold digL floV; split <;> rfl
  have e3 : askF a b k = true → -3073 ≤ floV a b k ∧ floV a b k ≤ 3072 := fun h => by
    obtain ⟨⟨a0, a1⟩, ⟨b0, b1⟩, k0, k1⟩ := askF_iff.1 h
    unfold floV
    rw [if_pos h]
    exact flo_range (by omega) (by omega) (two_le _ (by omega))
  have e4 : askF a b k = true → 0 ≤ k ∧ k ≤ 8 := fun h => (askF_iff.1 h).2.2
  obtain ⟨m, hm⟩ : ∃ m, floV a b k = m := ⟨_, rfl⟩
  rw [hm] at e1 e2 e3
  rw [e1, e2]
  rw [hm] at HF
  clear hm e1 e2
  cases hask : askF a b k
  · rw [hask] at HF
    clear e3 e4 hask
    go_enter Tryd.func26, Tryd.ntmps26
    go_wp2_with fail
    refine (HF.out _).mono ?_
    rintro e w1 ⟨rfl, hq1⟩
    rw [show askE false = 1 from rfl]
    have HB1 := Lib.hid hq1
    clear hq1
    go_wp2_with fail
    go_ret3
    exact ⟨_, _, _, rfl, IsL.nil _ _, HB1.out⟩
  · rw [hask] at HF
    obtain ⟨k0, k1⟩ := e4 hask
    obtain ⟨m0, m1⟩ := e3 hask
    clear e3 e4 hask
    obtain ⟨k, rfl⟩ : ∃ n : Nat, k = (n : Int) := ⟨k.toNat, by omega⟩
    rw [Int.toNat_natCast, if_pos rfl, if_pos rfl]
    go_enter Tryd.func26, Tryd.ntmps26
    go_wp2_with fail
    refine (HF.out _).mono ?_
    rintro e w1 ⟨rfl, hq1⟩
    rw [show askE true = 0 from rfl]
    have HB1 := Lib.hid hq1
    clear hq1
    go_wp2_with fail
    go_loopw [12, 9, 11] (fun s t v wr => ∃ (i : Nat) (n : Int) (xs : List Int), i ≤ k ∧ s = .int .i64 i ∧ t = .int .i64 n ∧ -4000 ≤ n ∧ n ≤ 4000 ∧ Hid (n = m / 2 ^ i) ∧ Hid (xs = (digs m k).drop (k - i)) ∧ Hid (OwnV wr w1.heap.size v xs) ∧ Hid (Below w1.heap.size w1 wr)) (fun s _ _ _ => k - (intOf s).toNat)
    case atStart => exact ⟨0, m, [], by omega, rfl, rfl, by omega, by omega, Lib.hid (by simp), Lib.hid (by rw [Nat.sub_zero, List.drop_eq_nil_of_le (by rw [digs_len]; exact Nat.le_refl _)]), OwnV.nil _ _, Below.refl _ _⟩
    case round =>
      obtain ⟨i, n, xs, hi, rfl, rfl, n0, n1, HN, HX, HO, HB⟩ := hrel
      have hsz := HB.out.size
      by_cases h0 : i < k
      · have hlx : xs.length ≤ 10000000000 := by
          rw [HX.out, List.length_drop, digs_len]; omega
        obtain ⟨y, hy⟩ : ∃ y, n % 2 = y := ⟨_, rfl⟩
        have hy0 : 0 ≤ y := by omega
        have hy1 : y ≤ 1 := by omega
        have hq : (n - y).tdiv 2 = n / 2 := by
          obtain ⟨z, rfl⟩ : ∃ z, n = 2 * z + y := ⟨n / 2, by omega⟩
          rw [show 2 * z + y - y = 2 * z by omega, Int.mul_tdiv_cancel_left _ (by decide)]
          omega
        have HQ := Lib.hid hq
        have HY := Lib.hid hy
        have ht : n.tmod 2 = y ∨ (n.tmod 2 = -1 ∧ y = 1) := by
          have h1 : (n.tmod 2).natAbs = n.natAbs % 2 := Int.natAbs_tmod n 2
          have h2 := Int.tdiv_mul_add_tmod n 2
          omega
        clear hq hy
        rcases ht with ht | ⟨ht, rfl⟩
        · go_wp2_with (at_builtin; refine wpList_cons_int _ rfl _ _ rfl w1.heap.size _ xs _ HO.out rfl rfl hlx hsz ?_)
          intro v' w' HO' HB'
          have HO2 := Lib.hid HO'
          have HB2' := Lib.hid (HB.out.trans HB')
          clear HO' HB'
          go_wp2_with fail
          rw [HQ.out]
          go_roundw
          case rel => exact ⟨i + 1, n / 2, _, by omega, by go_num, rfl, by omega, by omega, Lib.hid (by rw [HN.out, div_half]), Lib.hid (by rw [digs_drop m k i (by omega), ← HX.out, ← HN.out, HY.out]), HO2.out, HB2'.out⟩
          case measure => simp [intOf]; omega
        · go_wp2_with (at_builtin; refine wpList_cons_int _ rfl _ _ rfl w1.heap.size _ xs _ HO.out rfl rfl hlx hsz ?_)
          intro v' w' HO' HB'
          have HO2 := Lib.hid HO'
          have HB2' := Lib.hid (HB.out.trans HB')
          clear HO' HB'
          go_wp2_with fail
          rw [HQ.out]
          go_roundw
          case rel => exact ⟨i + 1, n / 2, _, by omega, by go_num, rfl, by omega, by omega, Lib.hid (by rw [HN.out, div_half]), Lib.hid (by rw [digs_drop m k i (by omega), ← HX.out, ← HN.out, HY.out]), HO2.out, HB2'.out⟩
          case measure => simp [intOf]; omega
      · obtain ⟨A, l, c, rfl, hl, _⟩ := HO.out.isL
        have HL := Lib.hid hl
        clear hl
        obtain rfl : i = k := by omega
        have hx := HX.out
        rw [Nat.sub_self, List.drop_zero] at hx
        have HX2 := Lib.hid hx
        clear hx
        go_wp2_with fail
        go_ret3
        rw [← HX2.out, ← HN.out]
        exact ⟨_, _, _, rfl, HL.out, below_call HB1.out HB.out⟩
end Go.Proofs.YtpgnheankmlnfaaDoor
namespace Go.Proofs.YtpgnheankmlnfaaDoor
open Go.RowKit
set_option linter.unusedVariables false

theorem sd_order {a b q : Nat} (ha : 0 < a) (hb : 0 < b) (p : Int) : sd a b q p = if flo a b q < p then -1 else if p < cei a b q then 1 else 0 := by
  have h1 := flo_lt (q := q) ha hb (m := p)
  have h2 := cei_le (q := q) ha hb (m := p)
  have h3 := sd_range a b q p
  split
  · omega
  · split <;> omega

set_option maxRecDepth 100000 in
set_option maxHeartbeats 1000000 in
theorem Order_any (a b q : Nat) (p : Int) (w : World) (ha0 : 0 < a) (ha : a ≤ 4095) (hb0 : 0 < b) (hb : b ≤ 4095) (hq : q ≤ 256) (hp0 : -1000000000 ≤ p) (hp1 : p ≤ 1000000000) :
    Calls Tryd.prog 58 #[.int .i64 a, .int .i64 b, .agg #[.int .i64 p, .int .i64 q]] w fun e w' => e = .returned (.int .i64 (sd a b q p)) ∧ Below w.heap.size w w' := by
  have hs := sd_order (q := q) ha0 hb0 p
  obtain ⟨v, hv⟩ : ∃ v, sd a b q p = v := ⟨_, rfl⟩
  rw [hv] at hs ⊢
  have HF := Lib.hid (Low_any a b q · ha0 ha hb0 hb hq)
  have HC := Lib.hid (High_any a b q · ha0 ha hb0 hb hq)
  obtain ⟨f, hf⟩ : ∃ f, flo a b q = f := ⟨_, rfl⟩
  obtain ⟨c, hc⟩ : ∃ c, cei a b q = c := ⟨_, rfl⟩
  rw [hf] at HF hs
  rw [hc] at HC hs
  have HS := Lib.hid hs
  clear hv hs hf hc
  have e0 : w.heap.size < w.heap.size + 1 := by omega
  go_enter Tryd.func58, Tryd.ntmps58
  go_wp2_with fail
  go_region_held3 (fun w' => w'.cell? ⟨w.heap.size, 0, none⟩ = some (.int .i64 p) ∧ w'.cell? ⟨w.heap.size, 1, none⟩ = some (.int .i64 q)) (go_keep)
    (first | (go_at_call 49; refine (HF.out _).mono ?_; rintro e w1 ⟨rfl, hq1⟩; have HQ1 := Lib.hid hq1; obtain ⟨hc_hq1, hf_hq1⟩ := bcell hq1; have sz_hq1 : w.heap.size + 1 ≤ w1.heap.size := (by have := hq1.size; (try simp at this); omega); have s0_hq1 : w.heap.size < w1.heap.size := (by omega); clear hq1))
  have HB1 := Lib.hid (below_call (below_alloc (Below.refl _ _) _).drew HQ1.out)
  go_wp2_with fail
  · rename_i hfp
    have hh0 : w1.cell? ⟨w.heap.size, 0, none⟩ = some (.int .i64 p) := by simp [go_sem, hc_hq1]
    have hh1 : w1.cell? ⟨w.heap.size, 1, none⟩ = some (.int .i64 q) := by simp [go_sem, hc_hq1]
    have s1 : w.heap.size < w1.drew.heap.size := by simp; exact s0_hq1
    clear hc_hq1 hf_hq1
    go_region_held3 (fun w' => w'.cell? ⟨w.heap.size, 0, none⟩ = some (.int .i64 p) ∧ w'.cell? ⟨w.heap.size, 1, none⟩ = some (.int .i64 q)) (go_keep)
      (first | (go_at_call 51; refine (HC.out _).mono ?_; rintro e w2 ⟨rfl, hq2⟩; have HQ2 := Lib.hid hq2; have kk0 : w2.cell? ⟨w.heap.size, 0, none⟩ = some (.int .i64 p) := (hq2.cell (p := ⟨w.heap.size, 0, none⟩) s1).trans hh0; have kk1 : w2.cell? ⟨w.heap.size, 1, none⟩ = some (.int .i64 q) := (hq2.cell (p := ⟨w.heap.size, 1, none⟩) s1).trans hh1; clear hq2))
    have HB2 := Lib.hid (below_call HB1.out.drew HQ2.out)
    go_wp2_with fail
    · rename_i hcp
      go_ret
      exact ⟨by rw [HS.out, if_neg (by omega), if_neg (by omega)]; rfl, HB2.out⟩
    · rename_i hcp
      go_ret
      exact ⟨by rw [HS.out, if_neg (by omega), if_pos (by omega)]; rfl, HB2.out⟩
  · rename_i hfp
    go_ret
    exact ⟨by rw [HS.out, if_pos (by omega)]; rfl, HB1.out⟩
end Go.Proofs.YtpgnheankmlnfaaDoor
