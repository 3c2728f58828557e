/-
  The walk of laws.FnExactRunsOf: it returns true, and turns nothing that was there.
-/
import Derived.Test.YthfkmlpnefpipaaRuns
import Derived.Test.YthfkmlpnefpipaaEqI
import Derived.Test.YthfkmlpnefpipaaToI
namespace Go.Proofs.Ythfkmlpnefpipaa
open Go.RowKit

set_option maxHeartbeats 400000 in
theorem walkFnExactRunsOf (A : Option Addr) (c : Nat) (xs : List Int) (x : Int) (w : World) (hr : RdI w w.heap.size A xs) (hn : xs.length ≤ 9223372036854775807) (_wx : (Lit.int .i64 x).wf = true) :
    Calls Try.prog 4 #[.slice A xs.length c, .int .i64 x] w fun e w' => e = .returned (.bool true) ∧ Below w.heap.size w w' := by
  by_cases hbig : xs.length ≤ 1048576
  · have H := Lib.hid hr; clear hr
    go_enter Try.func4, Try.ntmps4
    go_wp2_with fail
    refine (toIntS _ _ xs _ (by omega) H.out).mono ?_; rintro e w1 ⟨A1, c1, rfl, o1, b1⟩
    have s1 := b1.size
    go_wp2_with fail
    refine (specRunsOf _ _ xs x _ _ hn o1.rd).mono ?_; rintro e w1' ⟨rfl, rfl⟩
    go_wp2_with fail
    refine (toIntS _ _ xs _ (by omega) ((H.out.below b1).more s1)).mono ?_; rintro e w2 ⟨A2, c2, rfl, o2, b2⟩
    have s2 := b2.size
    go_wp2_with fail
    refine (implRunsOf _ _ xs x _ _ hn o2.rd).mono ?_; rintro e w2' ⟨rfl, rfl⟩
    go_wp2_with fail
    refine (toIntS _ _ xs _ (by omega) (((H.out.below b1).more s1).below b2 |>.more s2)).mono ?_; rintro e w3 ⟨A3, c3, rfl, o3, b3⟩
    have s3 := b3.size
    go_wp2_with fail
    refine (eqIntS _ _ _ _ xs xs _ w3.heap.size hn ((o2.rd.below b3).more s3) o3.rd).mono ?_; rintro e w4 ⟨d, rfl, rfl⟩
    go_wp2_with fail
    go_ret
    exact ⟨rfl, below_drewN ((b1.trans (b2.mono s1)).trans (b3.mono (by omega))) _⟩
  · go_enter Try.func4, Try.ntmps4
    go_wp2
    go_ret
    exact ⟨rfl, Below.refl _ _⟩
end Go.Proofs.Ythfkmlpnefpipaa
