/- The walk over the law LogsDigits. -/
import Derived.Test.YtpgnheankmlnfaaDoorSane
import Derived.Test.YtpgnheankmlnfaaDoorRdig
import Derived.Test.YtpgnheankmlnfaaDoorRp
import Derived.Test.YtpgnheankmlnfaaDoorEq
namespace Go.Proofs.YtpgnheankmlnfaaDoor
open Go.RowKit
set_option linter.unusedVariables false

set_option maxRecDepth 100000 in
set_option maxHeartbeats 4000000 in
theorem LogsDigits_any (a b k c d m j : Int) (w : World) :
    Calls Tryd.prog 4 #[.int .i64 a, .int .i64 b, .int .i64 k, .int .i64 c, .int .i64 d, .int .i64 m, .int .i64 j] w fun e w' => e = .returned (.bool true) ∧ Below w.heap.size w w' := by
  have HB0 := Lib.hid (Below.refl w.heap.size w)
  go_enter Tryd.func4, Tryd.ntmps4
  go_wp2_with fail
  refine (sane_any _).mono ?_
  rintro e w1 ⟨rfl, hq⟩
  have HB1 := Lib.hid (below_call HB0.out hq)
  clear hq HB0
  go_wp2_with fail
  refine (Digits_any a b k _).mono ?_
  rintro e w2 ⟨A2, n2, c2, rfl, hL, hq⟩
  have HL2 := Lib.hid hL
  have HB2 := Lib.hid (below_call HB1.out hq)
  clear hq hL HB1
  go_wp2_with fail
  refine (rDigits_any a b k _).mono ?_
  rintro e w3 ⟨A3, n3, c3, rfl, hL, hq⟩
  have HL3 := Lib.hid (HL2.out.below hq)
  have HM3 := Lib.hid hL
  have HB3 := Lib.hid (below_call HB2.out hq)
  clear hq hL HB2 HL2
  go_wp2_with fail
  refine (Coarse_any m k j _).mono ?_
  rintro e w4 ⟨rfl, hq⟩
  have HL4 := Lib.hid (HL3.out.below hq)
  have HM4 := Lib.hid (HM3.out.below hq)
  have HB4 := Lib.hid (below_call HB3.out hq)
  clear hq HL3 HM3 HB3
  go_wp2_with fail
  refine (rCoarse_any m k j _).mono ?_
  rintro e w5 ⟨rfl, hq⟩
  have HL5 := Lib.hid (HL4.out.below hq)
  have HM5 := Lib.hid (HM4.out.below hq)
  have HB5 := Lib.hid (below_call HB4.out hq)
  clear hq HL4 HM4 HB4
  go_wp2_with fail
  refine (Apart_any a b c d _).mono ?_
  rintro e w6 ⟨rfl, hq⟩
  have HL6 := Lib.hid (HL5.out.below hq)
  have HM6 := Lib.hid (HM5.out.below hq)
  have HB6 := Lib.hid (below_call HB5.out hq)
  clear hq HL5 HM5 HB5
  go_wp2_with fail
  refine (rApart_any a b c d _).mono ?_
  rintro e w7 ⟨rfl, hq⟩
  have HL7 := Lib.hid (HL6.out.below hq)
  have HM7 := Lib.hid (HM6.out.below hq)
  have HB7 := Lib.hid (below_call HB6.out hq)
  clear hq HL6 HM6 HB6
  go_wp2_with fail
  refine Calls.mono (equalI_any _ _ _ _ _ _ _ _ _ HL7.out HM7.out) ?_
  rintro e w8 ⟨rfl, hq⟩
  rw [beq_self_eq_true]
  have HB8 := Lib.hid (below_call HB7.out hq)
  clear hq HL7 HM7 HB7
  go_wp2_with fail
  go_ret
  exact ⟨rfl, HB8.out⟩
end Go.Proofs.YtpgnheankmlnfaaDoor
