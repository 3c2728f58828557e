/-
  The walk of laws.FnExactLookUp.
-/
import Derived.Test.YtbdkodlaagcknaaOwnL
namespace Go.Proofs.Ytbdkodlaagcknaa
open Go.RowKit

set_option maxRecDepth 100000 in
set_option maxHeartbeats 3200000 in
theorem walkFnExactLookUp (A0 : Option Addr) (c0 : Nat) (xs0 : List Own) (x1 : Int) (x2 : Int) (w : World) (hr0 : RdO w w.heap.size A0 xs0) (hn0 : xs0.length ≤ 9223372036854775807 ∧ ∀ o ∈ xs0, o.cl.length ≤ 9223372036854775807 ∧ o.cx.length ≤ 9223372036854775807) (_wx1 : (Lit.int .i64 x1).wf = true) (_wx2 : (Lit.int .i64 x2).wf = true) :
    Calls Try.prog 6 #[.slice A0 xs0.length c0, .int .i64 x1, .int .i64 x2] w fun e w' => e = .returned (.bool true) ∧ Below w.heap.size w w' := by
  obtain ⟨hl0, hx0⟩ := hn0
  have HX0 := Lib.hid hx0; clear hx0
  have HA0 := Lib.hid hr0; clear hr0
  have HB := Lib.hid (Below.refl w.heap.size w)
  go_enter Try.func6, Try.ntmps6
  go_wp2_with fail
  refine (szOwnerS xs0 rfl (by omega) HX0.out (HA0.out.belowLe HB.out (Nat.le_refl _)) (by have := HB.out.size; omega) (by omega) (by omega)).mono ?_; rintro e w1 ⟨v0, rfl, hv0, b1⟩
  have z1 := b1.size
  have HB := Lib.hid (HB.out.trans (b1.mono (by have := HB.out.size; omega)))
  clear b1
  rcases hv0 with ⟨hv00, hv0⟩ | ⟨rfl, hv0⟩
  case inr =>
    go_wp2_with fail
    go_ret
    exact ⟨rfl, HB.out⟩
  case inl =>
  have ht0 : xs0.length + tot xs0 ≤ 1048576 := by omega
  clear hv0
  have hk0 : 0 ≤ endO 1 xs0 ∧ endO 1 xs0 ≤ 4194304 := by unfold endO; omega
  obtain ⟨hk0a, hk0b⟩ := hk0
  have HM0 := Lib.hid (show ∀ o ∈ xs0, o.cl.length ≤ 1099511627776 ∧ o.cx.length ≤ 1099511627776 from fun o ho => by have := mem_tot ho; omega)
  have HN0 := Lib.hid (show ∀ o ∈ xs0, o.cl.length ≤ 4294967296 ∧ o.cx.length ≤ 4294967296 from fun o ho => by have := mem_tot ho; omega)
  go_wp2_with fail
  refine (toOwnerS xs0 rfl (by omega) HN0.out (HA0.out.belowLe HB.out (Nat.le_refl _)) (by have := HB.out.size; omega)).mono ?_; rintro e w2 ⟨A'2, c'2, rfl, s2, b2⟩
  have z2 := b2.size
  have HB := Lib.hid (HB.out.trans (b2.mono (by have := HB.out.size; omega)))
  have Ht0 := Lib.hid s2; clear s2
  clear b2
  go_wp2_with fail
  refine (specLookUp (x1) (x2) xs0 rfl (by omega) HM0.out Ht0.out.rd (by omega)).mono ?_; rintro e w3 ⟨rfl, b3⟩
  have z3 := b3.size
  have Ht0 := Lib.hid (Ht0.out.below b3 (by omega))
  have HB := Lib.hid (HB.out.trans (b3.mono (by have := HB.out.size; omega)))
  clear b3
  go_wp2_with fail
  refine (toOwnerS xs0 rfl (by omega) HN0.out (HA0.out.belowLe HB.out (Nat.le_refl _)) (by have := HB.out.size; omega)).mono ?_; rintro e w4 ⟨A'4, c'4, rfl, s4, b4⟩
  have z4 := b4.size
  have HB := Lib.hid (HB.out.trans (b4.mono (by have := HB.out.size; omega)))
  have Hx0 := Lib.hid s4; clear s4
  clear b4
  go_wp2_with fail
  refine (implLookUp (x1) (x2) xs0 rfl (by omega) HM0.out Hx0.out.rd (by omega)).mono ?_; rintro e w5 ⟨rfl, b5⟩
  have z5 := b5.size
  have Hx0 := Lib.hid (Hx0.out.below b5 (by omega))
  have HB := Lib.hid (HB.out.trans (b5.mono (by have := HB.out.size; omega)))
  clear b5
  go_wp2_with fail
  refine (toOwnerS xs0 rfl (by omega) HN0.out (HA0.out.belowLe HB.out (Nat.le_refl _)) (by have := HB.out.size; omega)).mono ?_; rintro e w6 ⟨A'6, c'6, rfl, s6, b6⟩
  have z6 := b6.size
  have Hx0 := Lib.hid (Hx0.out.below b6 (by omega))
  have HB := Lib.hid (HB.out.trans (b6.mono (by have := HB.out.size; omega)))
  have Hy := Lib.hid s6; clear s6
  clear b6
  go_wp2_with fail
  refine (eqOwnerS _ _ rfl rfl (by omega) HX0.out Hx0.out.rd Hy.out.rd (by omega) (by omega)).mono ?_; rintro e w7 ⟨rfl, b7⟩
  have z7 := b7.size
  have Hx0 := Lib.hid (Hx0.out.below b7 (by omega))
  have Hy := Lib.hid (Hy.out.below b7 (by omega))
  have HB := Lib.hid (HB.out.trans (b7.mono (by have := HB.out.size; omega)))
  clear b7
  go_wp2_with fail
  go_ret
  exact ⟨rfl, HB.out⟩
end Go.Proofs.Ytbdkodlaagcknaa
