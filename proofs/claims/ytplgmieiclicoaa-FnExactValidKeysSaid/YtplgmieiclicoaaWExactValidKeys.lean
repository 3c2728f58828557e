/-
  The walk of laws.FnExactValidKeys.
-/
import Derived.Test.YtplgmieiclicoaaKeys
import Derived.Test.YtplgmieiclicoaaToI
namespace Go.Proofs.Ytplgmieiclicoaa
open Go.RowKit

set_option maxHeartbeats 400000 in
theorem walkFnExactValidKeys (A : Option Addr) (c : Nat) (xs : List Int) (w : World) (hr : RdI w w.heap.size A xs) (hn : xs.length ≤ 9223372036854775807) :
    Calls Try.prog 3 #[.slice A xs.length c] w fun e w' => e = .returned (.bool true) ∧ Below w.heap.size w w' := by
  by_cases hbig : xs.length ≤ 1048576
  · have H := Lib.hid hr; clear hr
    go_enter Try.func3, Try.ntmps3
    go_wp2_with fail
    refine (toIntS xs rfl (by omega) H.out (Nat.le_refl _)).mono ?_; rintro e w1 ⟨A1, c1, rfl, o1, b1⟩
    have s1 := b1.size
    have O1 := Lib.hid o1; clear o1
    go_wp2_with fail
    refine (qb (specValidKeys xs rfl (by omega) O1.out.le O1.out.rd)).mono ?_; rintro e w2 ⟨rfl, b2⟩
    have b12 := b1.trans (b2.mono s1)
    have s2 := b12.size
    go_wp2_with fail
    refine (toIntS xs rfl (by omega) (H.out.below b12) s2).mono ?_; rintro e w3 ⟨A2, c2, rfl, o2, b3⟩
    have b13 := b12.trans (b3.mono s2)
    have s3 := b13.size
    have O2 := Lib.hid o2; clear o2
    go_wp2_with fail
    refine (implValidKeys xs rfl (by omega) O2.out.le O2.out.rd).mono ?_; rintro e w3' ⟨rfl, rfl⟩
    go_wp2_with fail
    refine (toIntS xs rfl (by omega) (H.out.below b13) s3).mono ?_; rintro e w4 ⟨A3, c3, rfl, o3, b4⟩
    have O3 := Lib.hid o3; clear o3
    have b14 := b13.trans (b4.mono s3)
    have s4 := b14.size
    go_wp2_with fail
    refine (qb (eqIntS xs xs rfl rfl (by omega) (O2.out.rd.below b4) O3.out.rd)).mono ?_; rintro e w5 ⟨rfl, b5⟩
    go_wp2_with fail
    go_ret
    exact ⟨rfl, b14.trans (b5.mono s4)⟩
  · go_enter Try.func3, Try.ntmps3
    go_wp2
    go_ret
    exact ⟨rfl, Below.refl _ _⟩
end Go.Proofs.Ytplgmieiclicoaa
