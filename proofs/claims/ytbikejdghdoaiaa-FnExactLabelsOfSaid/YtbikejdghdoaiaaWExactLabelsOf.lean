/-
  The walk of laws.FnExactLabelsOf.
-/
import Derived.Test.YtbikejdghdoaiaaOwnJ
namespace Go.Proofs.Ytbikejdghdoaiaa
open Go.RowKit

set_option maxRecDepth 100000 in
set_option maxHeartbeats 3200000 in
theorem walkFnExactLabelsOf (A0 : Option Addr) (c0 : Nat) (xs0 : List Own) (x1 : Int) (w : World) (hr0 : RdO w w.heap.size A0 xs0) (hn0 : xs0.length ≤ 9223372036854775807 ∧ ∀ o ∈ xs0, o.cl.length ≤ 9223372036854775807 ∧ o.cx.length ≤ 9223372036854775807) (_wx1 : (Lit.int .i64 x1).wf = true) :
    Calls Try.prog 8 #[.slice A0 xs0.length c0, .int .i64 x1] w fun e w' => e = .returned (.bool true) ∧ Below w.heap.size w w' := by
  obtain ⟨hl0, hx0⟩ := hn0
  have HX0 := Lib.hid hx0; clear hx0
  have HA0 := Lib.hid hr0; clear hr0
  have HB := Lib.hid (Below.refl w.heap.size w)
  go_enter Try.func8, Try.ntmps8
  go_wp2_with fail
  refine (szOwnerS xs0 rfl (by omega) HX0.out (HA0.out.belowLe HB.out (Nat.le_refl _)) (by have := HB.out.size; omega) (by omega) (by omega)).mono ?_; rintro e w1 ⟨v0, rfl, hv0, b1⟩
  have z1 := b1.size
  have HB := Lib.hid (HB.out.trans (b1.mono (by have := HB.out.size; omega)))
  clear b1
  rcases hv0 with ⟨hv00, hv0⟩ | ⟨rfl, hv0⟩
  case inr =>
    go_wp2_with fail
    go_ret
    exact ⟨rfl, HB.out⟩
  case inl =>
  have ht0 : xs0.length + tot xs0 ≤ 1048576 := by omega
  clear hv0
  have hk0 : 0 ≤ endO 1 xs0 ∧ endO 1 xs0 ≤ 4194304 := by unfold endO; omega
  obtain ⟨hk0a, hk0b⟩ := hk0
  have HM0 := Lib.hid (show ∀ o ∈ xs0, o.cl.length ≤ 1099511627776 ∧ o.cx.length ≤ 1099511627776 from fun o ho => by have := mem_tot ho; omega)
  have HN0 := Lib.hid (show ∀ o ∈ xs0, o.cl.length ≤ 4294967296 ∧ o.cx.length ≤ 4294967296 from fun o ho => by have := mem_tot ho; omega)
  have HL0 := Lib.hid (show (labF xs0 x1).length ≤ 1048577 from labF_bd xs0 x1 ht0)
  go_wp2_with fail
  refine (toOwnerS xs0 rfl (by omega) HN0.out (HA0.out.belowLe HB.out (Nat.le_refl _)) (by have := HB.out.size; omega)).mono ?_; rintro e w2 ⟨A'2, c'2, rfl, s2, b2⟩
  have z2 := b2.size
  have HB := Lib.hid (HB.out.trans (b2.mono (by have := HB.out.size; omega)))
  have Ht0 := Lib.hid s2; clear s2
  clear b2
  go_wp2_with fail
  refine (specLabelsOf (x1) xs0 rfl (by omega) (by omega) HM0.out Ht0.out.rd (by omega)).mono ?_; rintro e w3 ⟨A'3, c'3, rfl, s3, b3⟩
  have z3 := b3.size
  have Ht0 := Lib.hid (Ht0.out.below b3 (by omega))
  have HB := Lib.hid (HB.out.trans (b3.mono (by have := HB.out.size; omega)))
  have HW0 := Lib.hid s3; clear s3
  clear b3
  go_wp2_with fail
  refine (toOwnerS xs0 rfl (by omega) HN0.out (HA0.out.belowLe HB.out (Nat.le_refl _)) (by have := HB.out.size; omega)).mono ?_; rintro e w4 ⟨A'4, c'4, rfl, s4, b4⟩
  have z4 := b4.size
  have HW0 := Lib.hid (HW0.out.below b4 (by omega))
  have HB := Lib.hid (HB.out.trans (b4.mono (by have := HB.out.size; omega)))
  have Hx0 := Lib.hid s4; clear s4
  clear b4
  go_wp2_with fail
  refine (implLabelsOf (x1) xs0 rfl (by omega) (by omega) HM0.out Hx0.out.rd (by omega)).mono ?_; rintro e w5 ⟨A'5, c'5, rfl, s5, b5⟩
  have z5 := b5.size
  have HW0 := Lib.hid (HW0.out.below b5 (by omega))
  have Hx0 := Lib.hid (Hx0.out.below b5 (by omega))
  have HB := Lib.hid (HB.out.trans (b5.mono (by have := HB.out.size; omega)))
  have HG0 := Lib.hid s5; clear s5
  clear b5
  go_wp2_with fail
  refine (qb (eqIntS _ _ rfl rfl (by have := HL0.out; omega) HG0.out.rd HW0.out.rd)).mono ?_; rintro e w6 ⟨rfl, b6⟩
  have z6 := b6.size
  have HW0 := Lib.hid (HW0.out.below b6 (by omega))
  have Hx0 := Lib.hid (Hx0.out.below b6 (by omega))
  have HG0 := Lib.hid (HG0.out.below b6 (by omega))
  have HB := Lib.hid (HB.out.trans (b6.mono (by have := HB.out.size; omega)))
  clear b6
  go_wp2_with fail
  refine (toOwnerS xs0 rfl (by omega) HN0.out (HA0.out.belowLe HB.out (Nat.le_refl _)) (by have := HB.out.size; omega)).mono ?_; rintro e w7 ⟨A'7, c'7, rfl, s7, b7⟩
  have z7 := b7.size
  have HW0 := Lib.hid (HW0.out.below b7 (by omega))
  have Hx0 := Lib.hid (Hx0.out.below b7 (by omega))
  have HG0 := Lib.hid (HG0.out.below b7 (by omega))
  have HB := Lib.hid (HB.out.trans (b7.mono (by have := HB.out.size; omega)))
  have Hy := Lib.hid s7; clear s7
  clear b7
  go_wp2_with fail
  refine (eqOwnerS _ _ rfl rfl (by omega) HX0.out Hx0.out.rd Hy.out.rd (by omega) (by omega)).mono ?_; rintro e w8 ⟨rfl, b8⟩
  have z8 := b8.size
  have HW0 := Lib.hid (HW0.out.below b8 (by omega))
  have Hx0 := Lib.hid (Hx0.out.below b8 (by omega))
  have HG0 := Lib.hid (HG0.out.below b8 (by omega))
  have Hy := Lib.hid (Hy.out.below b8 (by omega))
  have HB := Lib.hid (HB.out.trans (b8.mono (by have := HB.out.size; omega)))
  clear b8
  go_wp2_with fail
  refine (markOwnerS _ rfl (by omega) (by omega) (by omega) Hx0.out).mono ?_; rintro e w9 ⟨rfl, s9, t9, z9⟩
  have z9' : w8.heap.size ≤ w9.heap.size := t9.size
  have HW0 := Lib.hid (HW0.out.turn t9 (by omega))
  have HG0 := Lib.hid (HG0.out.turn t9 (by omega))
  have HB := Lib.hid (Below.new HB.out t9 (by omega) (Nat.le_refl _))
  have Hx0 := Lib.hid s9; clear s9 t9 z9
  go_wp2_with fail
  refine (qb (eqIntS _ _ rfl rfl (by have := HL0.out; omega) HG0.out.rd HW0.out.rd)).mono ?_; rintro e w10 ⟨rfl, b10⟩
  have z10 := b10.size
  have HW0 := Lib.hid (HW0.out.below b10 (by omega))
  have HG0 := Lib.hid (HG0.out.below b10 (by omega))
  have HB := Lib.hid (HB.out.trans (b10.mono (by have := HB.out.size; omega)))
  clear b10
  go_wp2_with fail
  refine (markIntS _ rfl (by have := HL0.out; omega) (by omega) (by omega) HG0.out).mono ?_; rintro e w11 ⟨rfl, s11, t11, z11⟩
  have z11' : w10.heap.size ≤ w11.heap.size := t11.size
  have HW0 := Lib.hid (HW0.out.turn t11 (by omega))
  have HB := Lib.hid (Below.new HB.out t11 (by omega) (Nat.le_refl _))
  have HG0 := Lib.hid s11; clear s11 t11 z11
  go_wp2_with fail
  refine (heldIntS (by have := HL0.out; omega) (by omega) (by omega) HG0.out.rd).mono ?_; rintro e w' ⟨rfl, rfl⟩
  go_wp2_with fail
  refine (toOwnerS xs0 rfl (by omega) HN0.out (HA0.out.belowLe HB.out (Nat.le_refl _)) (by have := HB.out.size; omega)).mono ?_; rintro e w12 ⟨A'12, c'12, rfl, s12, b12⟩
  have z12 := b12.size
  have HW0 := Lib.hid (HW0.out.below b12 (by omega))
  have HG0 := Lib.hid (HG0.out.below b12 (by omega))
  have HB := Lib.hid (HB.out.trans (b12.mono (by have := HB.out.size; omega)))
  have Ht0 := Lib.hid s12; clear s12
  clear b12
  go_wp2_with fail
  refine (implLabelsOf (x1) xs0 rfl (by omega) (by omega) HM0.out Ht0.out.rd (by omega)).mono ?_; rintro e w13 ⟨A'13, c'13, rfl, s13, b13⟩
  have z13 := b13.size
  have HW0 := Lib.hid (HW0.out.below b13 (by omega))
  have HG0 := Lib.hid (HG0.out.below b13 (by omega))
  have Ht0 := Lib.hid (Ht0.out.below b13 (by omega))
  have HB := Lib.hid (HB.out.trans (b13.mono (by have := HB.out.size; omega)))
  have HH0 := Lib.hid s13; clear s13
  clear b13
  go_wp2_with fail
  refine (qb (eqIntS _ _ rfl rfl (by have := HL0.out; omega) HH0.out.rd HW0.out.rd)).mono ?_; rintro e w14 ⟨rfl, b14⟩
  have z14 := b14.size
  have HW0 := Lib.hid (HW0.out.below b14 (by omega))
  have HG0 := Lib.hid (HG0.out.below b14 (by omega))
  have HH0 := Lib.hid (HH0.out.below b14 (by omega))
  have HB := Lib.hid (HB.out.trans (b14.mono (by have := HB.out.size; omega)))
  clear b14
  go_wp2_with fail
  refine (heldIntS (by have := HL0.out; omega) (by omega) (by omega) HG0.out.rd).mono ?_; rintro e w' ⟨rfl, rfl⟩
  go_wp2_with fail
  go_ret
  exact ⟨rfl, HB.out⟩
end Go.Proofs.Ytbikejdghdoaiaa
