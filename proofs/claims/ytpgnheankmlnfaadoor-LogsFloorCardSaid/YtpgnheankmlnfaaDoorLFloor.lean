/- The walk over the law LogsFloor. -/
import Derived.Test.YtpgnheankmlnfaaDoorSane
namespace Go.Proofs.YtpgnheankmlnfaaDoor
open Go.RowKit
set_option linter.unusedVariables false

set_option maxRecDepth 100000 in
set_option maxHeartbeats 4000000 in
theorem LogsFloor_any (a b k m : Int) (w : World) :
    Calls Tryd.prog 3 #[.int .i64 a, .int .i64 b, .int .i64 k, .int .i64 m] w fun e w' => e = .returned (.bool true) ∧ Below w.heap.size w w' := by
  have HB0 := Lib.hid (Below.refl w.heap.size w)
  go_enter Tryd.func3, Tryd.ntmps3
  go_wp2_with fail
  refine (sane_any _).mono ?_
  rintro e w1 ⟨rfl, hq⟩
  have HB1 := Lib.hid (below_call HB0.out hq)
  clear hq HB0
  go_wp2_with fail
  refine (Floor_any a b k _).mono ?_
  rintro e w2 ⟨rfl, hq⟩
  have HB2 := Lib.hid (below_call HB1.out hq)
  clear hq HB1
  go_wp2_with fail
  refine (rFloor_any a b k _).mono ?_
  rintro e w3 ⟨rfl, hq⟩
  have HB3 := Lib.hid (below_call HB2.out hq)
  clear hq HB2
  go_wp2_with fail
  refine (Ceil_any a b k _).mono ?_
  rintro e w4 ⟨rfl, hq⟩
  have HB4 := Lib.hid (below_call HB3.out hq)
  clear hq HB3
  go_wp2_with fail
  refine (rCeil_any a b k _).mono ?_
  rintro e w5 ⟨rfl, hq⟩
  have HB5 := Lib.hid (below_call HB4.out hq)
  clear hq HB4
  go_wp2_with fail
  refine (Whole_any a b _).mono ?_
  rintro e w6 ⟨rfl, hq⟩
  have HB6 := Lib.hid (below_call HB5.out hq)
  clear hq HB5
  go_wp2_with fail
  refine (rWhole_any a b _).mono ?_
  rintro e w7 ⟨rfl, hq⟩
  have HB7 := Lib.hid (below_call HB6.out hq)
  clear hq HB6
  go_wp2_with fail
  refine (CheckFloor_any a b k m _).mono ?_
  rintro e w8 ⟨rfl, hq⟩
  have HB8 := Lib.hid (below_call HB7.out hq)
  clear hq HB7
  go_wp2_with fail
  refine (rCheckFloor_any a b k m _).mono ?_
  rintro e w9 ⟨rfl, hq⟩
  have HB9 := Lib.hid (below_call HB8.out hq)
  clear hq HB8
  go_wp2_with fail
  go_ret
  exact ⟨rfl, HB9.out⟩
end Go.Proofs.YtpgnheankmlnfaaDoor
