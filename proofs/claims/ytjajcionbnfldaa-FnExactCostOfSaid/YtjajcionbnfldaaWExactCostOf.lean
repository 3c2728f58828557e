/-
  The walk of laws.FnExactCostOf.
-/
import Derived.Test.YtjajcionbnfldaaPatchOf
import Derived.Test.YtjajcionbnfldaaToI
namespace Go.Proofs.Ytjajcionbnfldaa
open Go.RowKit

set_option maxRecDepth 100000 in
set_option maxHeartbeats 3200000 in
theorem walkFnExactCostOf (A0 : Option Addr) (c0 : Nat) (xs0 : List Int) (A1 : Option Addr) (c1 : Nat) (xs1 : List Int) (w : World) (hr0 : RdI w w.heap.size A0 xs0) (hn0 : xs0.length ≤ 9223372036854775807) (hr1 : RdI w w.heap.size A1 xs1) (hn1 : xs1.length ≤ 9223372036854775807) :
    Calls Try.prog 3 #[.slice A0 xs0.length c0, .slice A1 xs1.length c1] w fun e w' => e = .returned (.bool true) ∧ Below w.heap.size w w' := by
  by_cases hbig0 : xs0.length ≤ 1048576
  case neg =>
    go_enter Try.func3, Try.ntmps3
    go_wp2
    go_ret
    exact ⟨rfl, Below.refl _ _⟩
  case pos =>
  by_cases hbig1 : xs1.length ≤ 1048576
  case neg =>
    go_enter Try.func3, Try.ntmps3
    go_wp2
    go_ret
    exact ⟨rfl, Below.refl _ _⟩
  case pos =>
  have HA0 := Lib.hid hr0; clear hr0
  have HA1 := Lib.hid hr1; clear hr1
  have HB := Lib.hid (Below.refl w.heap.size w)
  go_enter Try.func3, Try.ntmps3
  go_wp2_with fail
  refine (toIntS xs0 rfl (by omega) (HA0.out.belowLe HB.out (Nat.le_refl _)) (by have := HB.out.size; omega)).mono ?_; rintro e w1 ⟨A'1, c'1, rfl, s1, b1⟩
  have z1 := b1.size
  have HB := Lib.hid (HB.out.trans (b1.mono (by have := HB.out.size; omega)))
  have Ht0 := Lib.hid s1; clear s1
  clear b1
  go_wp2_with fail
  refine (toIntS xs1 rfl (by omega) (HA1.out.belowLe HB.out (Nat.le_refl _)) (by have := HB.out.size; omega)).mono ?_; rintro e w2 ⟨A'2, c'2, rfl, s2, b2⟩
  have z2 := b2.size
  have Ht0 := Lib.hid (Ht0.out.below b2 (by omega))
  have HB := Lib.hid (HB.out.trans (b2.mono (by have := HB.out.size; omega)))
  have Ht1 := Lib.hid s2; clear s2
  clear b2
  go_wp2_with fail
  refine (specCostOf xs0 xs1 rfl rfl (by omega) (by omega) Ht0.out.le Ht1.out.le Ht0.out.rd Ht1.out.rd (by omega) (by omega)).mono ?_; rintro e w3 ⟨rfl, b3⟩
  have z3 := b3.size
  have Ht0 := Lib.hid (Ht0.out.below b3 (by omega))
  have Ht1 := Lib.hid (Ht1.out.below b3 (by omega))
  have HB := Lib.hid (HB.out.trans (b3.mono (by have := HB.out.size; omega)))
  clear b3
  go_wp2_with fail
  refine (toIntS xs0 rfl (by omega) (HA0.out.belowLe HB.out (Nat.le_refl _)) (by have := HB.out.size; omega)).mono ?_; rintro e w4 ⟨A'4, c'4, rfl, s4, b4⟩
  have z4 := b4.size
  have HB := Lib.hid (HB.out.trans (b4.mono (by have := HB.out.size; omega)))
  have Hx0 := Lib.hid s4; clear s4
  clear b4
  go_wp2_with fail
  refine (toIntS xs1 rfl (by omega) (HA1.out.belowLe HB.out (Nat.le_refl _)) (by have := HB.out.size; omega)).mono ?_; rintro e w5 ⟨A'5, c'5, rfl, s5, b5⟩
  have z5 := b5.size
  have Hx0 := Lib.hid (Hx0.out.below b5 (by omega))
  have HB := Lib.hid (HB.out.trans (b5.mono (by have := HB.out.size; omega)))
  have Hx1 := Lib.hid s5; clear s5
  clear b5
  go_wp2_with fail
  refine (implCostOf xs0 xs1 rfl rfl (by omega) (by omega) Hx0.out.le Hx1.out.le Hx0.out.rd Hx1.out.rd (by omega) (by omega)).mono ?_; rintro e w6 ⟨rfl, b6⟩
  have z6 := b6.size
  have Hx0 := Lib.hid (Hx0.out.below b6 (by omega))
  have Hx1 := Lib.hid (Hx1.out.below b6 (by omega))
  have HB := Lib.hid (HB.out.trans (b6.mono (by have := HB.out.size; omega)))
  clear b6
  go_wp2_with fail
  refine (toIntS xs0 rfl (by omega) (HA0.out.belowLe HB.out (Nat.le_refl _)) (by have := HB.out.size; omega)).mono ?_; rintro e w7 ⟨A'7, c'7, rfl, s7, b7⟩
  have z7 := b7.size
  have Hx0 := Lib.hid (Hx0.out.below b7 (by omega))
  have Hx1 := Lib.hid (Hx1.out.below b7 (by omega))
  have HB := Lib.hid (HB.out.trans (b7.mono (by have := HB.out.size; omega)))
  have Hy := Lib.hid s7; clear s7
  clear b7
  go_wp2_with fail
  refine (qb (eqIntS _ _ rfl rfl (by omega) Hx0.out.rd Hy.out.rd)).mono ?_; rintro e w8 ⟨rfl, b8⟩
  have z8 := b8.size
  have Hx0 := Lib.hid (Hx0.out.below b8 (by omega))
  have Hx1 := Lib.hid (Hx1.out.below b8 (by omega))
  have Hy := Lib.hid (Hy.out.below b8 (by omega))
  have HB := Lib.hid (HB.out.trans (b8.mono (by have := HB.out.size; omega)))
  clear b8
  go_wp2_with fail
  refine (toIntS xs1 rfl (by omega) (HA1.out.belowLe HB.out (Nat.le_refl _)) (by have := HB.out.size; omega)).mono ?_; rintro e w9 ⟨A'9, c'9, rfl, s9, b9⟩
  have z9 := b9.size
  have Hx0 := Lib.hid (Hx0.out.below b9 (by omega))
  have Hx1 := Lib.hid (Hx1.out.below b9 (by omega))
  have HB := Lib.hid (HB.out.trans (b9.mono (by have := HB.out.size; omega)))
  have Hy := Lib.hid s9; clear s9
  clear b9
  go_wp2_with fail
  refine (qb (eqIntS _ _ rfl rfl (by omega) Hx1.out.rd Hy.out.rd)).mono ?_; rintro e w10 ⟨rfl, b10⟩
  have z10 := b10.size
  have Hx0 := Lib.hid (Hx0.out.below b10 (by omega))
  have Hx1 := Lib.hid (Hx1.out.below b10 (by omega))
  have Hy := Lib.hid (Hy.out.below b10 (by omega))
  have HB := Lib.hid (HB.out.trans (b10.mono (by have := HB.out.size; omega)))
  clear b10
  go_wp2_with fail
  go_ret
  exact ⟨rfl, HB.out⟩
end Go.Proofs.Ytjajcionbnfldaa
