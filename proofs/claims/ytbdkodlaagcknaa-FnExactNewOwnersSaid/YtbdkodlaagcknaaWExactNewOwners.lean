/-
  The walk of laws.FnExactNewOwners.
-/
import Derived.Test.YtbdkodlaagcknaaOwnL
namespace Go.Proofs.Ytbdkodlaagcknaa
open Go.RowKit

set_option maxRecDepth 100000 in
set_option maxHeartbeats 3200000 in
theorem walkFnExactNewOwners (A0 : Option Addr) (c0 : Nat) (xs0 : List Int) (w : World) (hr0 : RdI w w.heap.size A0 xs0) (hn0 : xs0.length ≤ 9223372036854775807) :
    Calls Try.prog 3 #[.slice A0 xs0.length c0] w fun e w' => e = .returned (.bool true) ∧ Below w.heap.size w w' := by
  by_cases hbig0 : xs0.length ≤ 1048576
  case neg =>
    go_enter Try.func3, Try.ntmps3
    go_wp2
    go_ret
    exact ⟨rfl, Below.refl _ _⟩
  case pos =>
  have HA0 := Lib.hid hr0; clear hr0
  have HB := Lib.hid (Below.refl w.heap.size w)
  go_enter Try.func3, Try.ntmps3
  have hl50 : (newOF xs0).length ≤ 1048577 ∧ tot (newOF xs0) ≤ 1048700 := newOF_bd xs0
  have HL0 := Lib.hid (show (newOF xs0).length ≤ 1048577 ∧ (∀ o ∈ (newOF xs0), o.cl.length ≤ 9223372036854775807 ∧ o.cx.length ≤ 9223372036854775807) from ⟨hl50.1, fun o ho => by have := mem_tot ho; omega⟩)
  have hm0 : 0 ≤ endO 1 (newOF xs0) ∧ endO 1 (newOF xs0) ≤ 4294967296 := by unfold endO; omega
  obtain ⟨hm0a, hm0b⟩ := hm0
  clear hl50
  go_wp2_with fail
  refine (toIntS xs0 rfl (by omega) (HA0.out.belowLe HB.out (Nat.le_refl _)) (by have := HB.out.size; omega)).mono ?_; rintro e w1 ⟨A'1, c'1, rfl, s1, b1⟩
  have z1 := b1.size
  have HB := Lib.hid (HB.out.trans (b1.mono (by have := HB.out.size; omega)))
  have Ht0 := Lib.hid s1; clear s1
  clear b1
  go_wp2_with fail
  refine (specNewOwners xs0 rfl (by omega) Ht0.out.rd (by omega)).mono ?_; rintro e w2 ⟨A'2, c'2, rfl, s2, b2⟩
  have z2 := b2.size
  have Ht0 := Lib.hid (Ht0.out.below b2 (by omega))
  have HB := Lib.hid (HB.out.trans (b2.mono (by have := HB.out.size; omega)))
  have HW0 := Lib.hid s2; clear s2
  clear b2
  go_wp2_with fail
  refine (toIntS xs0 rfl (by omega) (HA0.out.belowLe HB.out (Nat.le_refl _)) (by have := HB.out.size; omega)).mono ?_; rintro e w3 ⟨A'3, c'3, rfl, s3, b3⟩
  have z3 := b3.size
  have HW0 := Lib.hid (HW0.out.below b3 (by omega))
  have HB := Lib.hid (HB.out.trans (b3.mono (by have := HB.out.size; omega)))
  have Hx0 := Lib.hid s3; clear s3
  clear b3
  go_wp2_with fail
  refine (implNewOwners xs0 rfl (by omega) Hx0.out.rd (by omega)).mono ?_; rintro e w4 ⟨A'4, c'4, rfl, s4, b4⟩
  have z4 := b4.size
  have HW0 := Lib.hid (HW0.out.below b4 (by omega))
  have Hx0 := Lib.hid (Hx0.out.below b4 (by omega))
  have HB := Lib.hid (HB.out.trans (b4.mono (by have := HB.out.size; omega)))
  have HG0 := Lib.hid s4; clear s4
  clear b4
  go_wp2_with fail
  refine (eqOwnerS _ _ rfl rfl (by have := HL0.out.1; omega) HL0.out.2 HG0.out.rd HW0.out.rd (by omega) (by omega)).mono ?_; rintro e w5 ⟨rfl, b5⟩
  have z5 := b5.size
  have HW0 := Lib.hid (HW0.out.below b5 (by omega))
  have Hx0 := Lib.hid (Hx0.out.below b5 (by omega))
  have HG0 := Lib.hid (HG0.out.below b5 (by omega))
  have HB := Lib.hid (HB.out.trans (b5.mono (by have := HB.out.size; omega)))
  clear b5
  go_wp2_with fail
  refine (toIntS xs0 rfl (by omega) (HA0.out.belowLe HB.out (Nat.le_refl _)) (by have := HB.out.size; omega)).mono ?_; rintro e w6 ⟨A'6, c'6, rfl, s6, b6⟩
  have z6 := b6.size
  have HW0 := Lib.hid (HW0.out.below b6 (by omega))
  have Hx0 := Lib.hid (Hx0.out.below b6 (by omega))
  have HG0 := Lib.hid (HG0.out.below b6 (by omega))
  have HB := Lib.hid (HB.out.trans (b6.mono (by have := HB.out.size; omega)))
  have Hy := Lib.hid s6; clear s6
  clear b6
  go_wp2_with fail
  refine (qb (eqIntS _ _ rfl rfl (by omega) Hx0.out.rd Hy.out.rd)).mono ?_; rintro e w7 ⟨rfl, b7⟩
  have z7 := b7.size
  have HW0 := Lib.hid (HW0.out.below b7 (by omega))
  have Hx0 := Lib.hid (Hx0.out.below b7 (by omega))
  have HG0 := Lib.hid (HG0.out.below b7 (by omega))
  have Hy := Lib.hid (Hy.out.below b7 (by omega))
  have HB := Lib.hid (HB.out.trans (b7.mono (by have := HB.out.size; omega)))
  clear b7
  go_wp2_with fail
  refine (markIntS _ rfl (by omega) (by omega) (by omega) Hx0.out).mono ?_; rintro e w8 ⟨rfl, s8, t8, z8⟩
  have z8' : w7.heap.size ≤ w8.heap.size := t8.size
  have HW0 := Lib.hid (HW0.out.turn t8 (by omega))
  have HG0 := Lib.hid (HG0.out.turn t8 (by omega))
  have HB := Lib.hid (Below.new HB.out t8 (by omega) (Nat.le_refl _))
  have Hx0 := Lib.hid s8; clear s8 t8 z8
  go_wp2_with fail
  refine (eqOwnerS _ _ rfl rfl (by have := HL0.out.1; omega) HL0.out.2 HG0.out.rd HW0.out.rd (by omega) (by omega)).mono ?_; rintro e w9 ⟨rfl, b9⟩
  have z9 := b9.size
  have HW0 := Lib.hid (HW0.out.below b9 (by omega))
  have HG0 := Lib.hid (HG0.out.below b9 (by omega))
  have HB := Lib.hid (HB.out.trans (b9.mono (by have := HB.out.size; omega)))
  clear b9
  go_wp2_with fail
  refine (markOwnerS _ rfl (by have := HL0.out.1; omega) (by omega) (by omega) HG0.out).mono ?_; rintro e w10 ⟨rfl, s10, t10, z10⟩
  have z10' : w9.heap.size ≤ w10.heap.size := t10.size
  have HW0 := Lib.hid (HW0.out.turn t10 (by omega))
  have HB := Lib.hid (Below.new HB.out t10 (by omega) (Nat.le_refl _))
  have HG0 := Lib.hid s10; clear s10 t10 z10
  go_wp2_with fail
  refine (heldOwnerS _ rfl (by have := HL0.out.1; omega) (by omega) (by omega) HG0.out.rd).mono ?_; rintro e w' ⟨rfl, rfl⟩
  go_wp2_with fail
  refine (toIntS xs0 rfl (by omega) (HA0.out.belowLe HB.out (Nat.le_refl _)) (by have := HB.out.size; omega)).mono ?_; rintro e w11 ⟨A'11, c'11, rfl, s11, b11⟩
  have z11 := b11.size
  have HW0 := Lib.hid (HW0.out.below b11 (by omega))
  have HG0 := Lib.hid (HG0.out.below b11 (by omega))
  have HB := Lib.hid (HB.out.trans (b11.mono (by have := HB.out.size; omega)))
  have Ht0 := Lib.hid s11; clear s11
  clear b11
  go_wp2_with fail
  refine (implNewOwners xs0 rfl (by omega) Ht0.out.rd (by omega)).mono ?_; rintro e w12 ⟨A'12, c'12, rfl, s12, b12⟩
  have z12 := b12.size
  have HW0 := Lib.hid (HW0.out.below b12 (by omega))
  have HG0 := Lib.hid (HG0.out.below b12 (by omega))
  have Ht0 := Lib.hid (Ht0.out.below b12 (by omega))
  have HB := Lib.hid (HB.out.trans (b12.mono (by have := HB.out.size; omega)))
  have HH0 := Lib.hid s12; clear s12
  clear b12
  go_wp2_with fail
  refine (eqOwnerS _ _ rfl rfl (by have := HL0.out.1; omega) HL0.out.2 HH0.out.rd HW0.out.rd (by omega) (by omega)).mono ?_; rintro e w13 ⟨rfl, b13⟩
  have z13 := b13.size
  have HW0 := Lib.hid (HW0.out.below b13 (by omega))
  have HG0 := Lib.hid (HG0.out.below b13 (by omega))
  have HH0 := Lib.hid (HH0.out.below b13 (by omega))
  have HB := Lib.hid (HB.out.trans (b13.mono (by have := HB.out.size; omega)))
  clear b13
  go_wp2_with fail
  refine (heldOwnerS _ rfl (by have := HL0.out.1; omega) (by omega) (by omega) HG0.out.rd).mono ?_; rintro e w' ⟨rfl, rfl⟩
  go_wp2_with fail
  go_ret
  exact ⟨rfl, HB.out⟩
end Go.Proofs.Ytbdkodlaagcknaa
