/-
  The walk of laws.FnExactDisposeOwner.
-/
import Derived.Test.YtbikejdghdoaiaaOwnJ
namespace Go.Proofs.Ytbikejdghdoaiaa
open Go.RowKit

set_option maxRecDepth 100000 in
set_option maxHeartbeats 3200000 in
theorem walkFnExactDisposeOwner (A0 : Option Addr) (c0 : Nat) (xs0 : List Own) (x1 : Int) (w : World) (hr0 : RdO w w.heap.size A0 xs0) (hn0 : xs0.length ≤ 9223372036854775807 ∧ ∀ o ∈ xs0, o.cl.length ≤ 9223372036854775807 ∧ o.cx.length ≤ 9223372036854775807) (_wx1 : (Lit.int .i64 x1).wf = true) :
    Calls Try.prog 10 #[.slice A0 xs0.length c0, .int .i64 x1] w fun e w' => e = .returned (.bool true) ∧ Below w.heap.size w w' := by
  obtain ⟨hl0, hx0⟩ := hn0
  have HX0 := Lib.hid hx0; clear hx0
  have HA0 := Lib.hid hr0; clear hr0
  have HB := Lib.hid (Below.refl w.heap.size w)
  go_enter Try.func10, Try.ntmps10
  go_wp2_with fail
  refine (szOwnerS xs0 rfl (by omega) HX0.out (HA0.out.belowLe HB.out (Nat.le_refl _)) (by have := HB.out.size; omega) (by omega) (by omega)).mono ?_; rintro e w1 ⟨v0, rfl, hv0, b1⟩
  have z1 := b1.size
  have HB := Lib.hid (HB.out.trans (b1.mono (by have := HB.out.size; omega)))
  clear b1
  rcases hv0 with ⟨hv00, hv0⟩ | ⟨rfl, hv0⟩
  case inr =>
    go_wp2_with fail
    go_ret
    exact ⟨rfl, HB.out⟩
  case inl =>
  have ht0 : xs0.length + tot xs0 ≤ 1048576 := by omega
  clear hv0
  have hk0 : 0 ≤ endO 1 xs0 ∧ endO 1 xs0 ≤ 4194304 := by unfold endO; omega
  obtain ⟨hk0a, hk0b⟩ := hk0
  have HM0 := Lib.hid (show ∀ o ∈ xs0, o.cl.length ≤ 1099511627776 ∧ o.cx.length ≤ 1099511627776 from fun o ho => by have := mem_tot ho; omega)
  have HN0 := Lib.hid (show ∀ o ∈ xs0, o.cl.length ≤ 4294967296 ∧ o.cx.length ≤ 4294967296 from fun o ho => by have := mem_tot ho; omega)
  have hl50 : ((dispF xs0 x1).1).length ≤ 1048577 ∧ tot ((dispF xs0 x1).1) ≤ 1048700 := (dispF_bd xs0 x1 ht0).1
  have HL0 := Lib.hid (show ((dispF xs0 x1).1).length ≤ 1048577 ∧ (∀ o ∈ ((dispF xs0 x1).1), o.cl.length ≤ 9223372036854775807 ∧ o.cx.length ≤ 9223372036854775807) from ⟨hl50.1, fun o ho => by have := mem_tot ho; omega⟩)
  have hm0 : 0 ≤ endO 1 ((dispF xs0 x1).1) ∧ endO 1 ((dispF xs0 x1).1) ≤ 4294967296 := by unfold endO; omega
  obtain ⟨hm0a, hm0b⟩ := hm0
  clear hl50
  have HL1 := Lib.hid (show ((dispF xs0 x1).2).length ≤ 1048577 from (dispF_bd xs0 x1 ht0).2)
  go_wp2_with fail
  refine (toOwnerS xs0 rfl (by omega) HN0.out (HA0.out.belowLe HB.out (Nat.le_refl _)) (by have := HB.out.size; omega)).mono ?_; rintro e w2 ⟨A'2, c'2, rfl, s2, b2⟩
  have z2 := b2.size
  have HB := Lib.hid (HB.out.trans (b2.mono (by have := HB.out.size; omega)))
  have Ht0 := Lib.hid s2; clear s2
  clear b2
  go_wp2_with fail
  refine (specDisposeOwner (x1) xs0 rfl (by omega) (by omega) HM0.out Ht0.out.rd (by omega)).mono ?_; rintro e w3 ⟨A'3, c'3, A''3, c''3, m3, ⟨m3a, m3b⟩, rfl, s3, t3, b3⟩
  have z3 := b3.size
  have Ht0 := Lib.hid (Ht0.out.below b3 (by omega))
  have HB := Lib.hid (HB.out.trans (b3.mono (by have := HB.out.size; omega)))
  have HW0 := Lib.hid s3; clear s3
  have HW1 := Lib.hid t3; clear t3
  clear b3
  go_wp2_with fail
  refine (toOwnerS xs0 rfl (by omega) HN0.out (HA0.out.belowLe HB.out (Nat.le_refl _)) (by have := HB.out.size; omega)).mono ?_; rintro e w4 ⟨A'4, c'4, rfl, s4, b4⟩
  have z4 := b4.size
  have HW0 := Lib.hid (HW0.out.below b4 (by omega))
  have HW1 := Lib.hid (HW1.out.below b4 (by omega))
  have HB := Lib.hid (HB.out.trans (b4.mono (by have := HB.out.size; omega)))
  have Hx0 := Lib.hid s4; clear s4
  clear b4
  go_wp2_with fail
  refine (implDisposeOwner (x1) xs0 rfl (by omega) (by omega) HM0.out Hx0.out.rd (by omega)).mono ?_; rintro e w5 ⟨A'5, c'5, A''5, c''5, m5, ⟨m5a, m5b⟩, rfl, s5, t5, b5⟩
  have z5 := b5.size
  have HW0 := Lib.hid (HW0.out.below b5 (by omega))
  have HW1 := Lib.hid (HW1.out.below b5 (by omega))
  have Hx0 := Lib.hid (Hx0.out.below b5 (by omega))
  have HB := Lib.hid (HB.out.trans (b5.mono (by have := HB.out.size; omega)))
  have HG0 := Lib.hid s5; clear s5
  have HG1 := Lib.hid t5; clear t5
  clear b5
  go_wp2_with fail
  refine (eqOwnerS _ _ rfl rfl (by have := HL0.out.1; omega) HL0.out.2 HG0.out.rd HW0.out.rd (by omega) (by omega)).mono ?_; rintro e w6 ⟨rfl, b6⟩
  have z6 := b6.size
  have HW0 := Lib.hid (HW0.out.below b6 (by omega))
  have HW1 := Lib.hid (HW1.out.below b6 (by omega))
  have Hx0 := Lib.hid (Hx0.out.below b6 (by omega))
  have HG0 := Lib.hid (HG0.out.below b6 (by omega))
  have HG1 := Lib.hid (HG1.out.below b6 (by omega))
  have HB := Lib.hid (HB.out.trans (b6.mono (by have := HB.out.size; omega)))
  clear b6
  go_wp2_with fail
  refine (qb (eqIntS _ _ rfl rfl (by have := HL1.out; omega) HG1.out.rd HW1.out.rd)).mono ?_; rintro e w7 ⟨rfl, b7⟩
  have z7 := b7.size
  have HW0 := Lib.hid (HW0.out.below b7 (by omega))
  have HW1 := Lib.hid (HW1.out.below b7 (by omega))
  have Hx0 := Lib.hid (Hx0.out.below b7 (by omega))
  have HG0 := Lib.hid (HG0.out.below b7 (by omega))
  have HG1 := Lib.hid (HG1.out.below b7 (by omega))
  have HB := Lib.hid (HB.out.trans (b7.mono (by have := HB.out.size; omega)))
  clear b7
  go_wp2_with fail
  refine (toOwnerS xs0 rfl (by omega) HN0.out (HA0.out.belowLe HB.out (Nat.le_refl _)) (by have := HB.out.size; omega)).mono ?_; rintro e w8 ⟨A'8, c'8, rfl, s8, b8⟩
  have z8 := b8.size
  have HW0 := Lib.hid (HW0.out.below b8 (by omega))
  have HW1 := Lib.hid (HW1.out.below b8 (by omega))
  have Hx0 := Lib.hid (Hx0.out.below b8 (by omega))
  have HG0 := Lib.hid (HG0.out.below b8 (by omega))
  have HG1 := Lib.hid (HG1.out.below b8 (by omega))
  have HB := Lib.hid (HB.out.trans (b8.mono (by have := HB.out.size; omega)))
  have Hy := Lib.hid s8; clear s8
  clear b8
  go_wp2_with fail
  refine (eqOwnerS _ _ rfl rfl (by omega) HX0.out Hx0.out.rd Hy.out.rd (by omega) (by omega)).mono ?_; rintro e w9 ⟨rfl, b9⟩
  have z9 := b9.size
  have HW0 := Lib.hid (HW0.out.below b9 (by omega))
  have HW1 := Lib.hid (HW1.out.below b9 (by omega))
  have Hx0 := Lib.hid (Hx0.out.below b9 (by omega))
  have HG0 := Lib.hid (HG0.out.below b9 (by omega))
  have HG1 := Lib.hid (HG1.out.below b9 (by omega))
  have Hy := Lib.hid (Hy.out.below b9 (by omega))
  have HB := Lib.hid (HB.out.trans (b9.mono (by have := HB.out.size; omega)))
  clear b9
  go_wp2_with fail
  refine (markOwnerS _ rfl (by omega) (by omega) (by omega) Hx0.out).mono ?_; rintro e w10 ⟨rfl, s10, t10, z10⟩
  have z10' : w9.heap.size ≤ w10.heap.size := t10.size
  have HW0 := Lib.hid (HW0.out.turn t10 (by omega))
  have HW1 := Lib.hid (HW1.out.turn t10 (by omega))
  have HG0 := Lib.hid (HG0.out.turn t10 (by omega))
  have HG1 := Lib.hid (HG1.out.turn t10 (by omega))
  have HB := Lib.hid (Below.new HB.out t10 (by omega) (Nat.le_refl _))
  have Hx0 := Lib.hid s10; clear s10 t10 z10
  go_wp2_with fail
  refine (eqOwnerS _ _ rfl rfl (by have := HL0.out.1; omega) HL0.out.2 HG0.out.rd HW0.out.rd (by omega) (by omega)).mono ?_; rintro e w11 ⟨rfl, b11⟩
  have z11 := b11.size
  have HW0 := Lib.hid (HW0.out.below b11 (by omega))
  have HW1 := Lib.hid (HW1.out.below b11 (by omega))
  have HG0 := Lib.hid (HG0.out.below b11 (by omega))
  have HG1 := Lib.hid (HG1.out.below b11 (by omega))
  have HB := Lib.hid (HB.out.trans (b11.mono (by have := HB.out.size; omega)))
  clear b11
  go_wp2_with fail
  refine (qb (eqIntS _ _ rfl rfl (by have := HL1.out; omega) HG1.out.rd HW1.out.rd)).mono ?_; rintro e w12 ⟨rfl, b12⟩
  have z12 := b12.size
  have HW0 := Lib.hid (HW0.out.below b12 (by omega))
  have HW1 := Lib.hid (HW1.out.below b12 (by omega))
  have HG0 := Lib.hid (HG0.out.below b12 (by omega))
  have HG1 := Lib.hid (HG1.out.below b12 (by omega))
  have HB := Lib.hid (HB.out.trans (b12.mono (by have := HB.out.size; omega)))
  clear b12
  go_wp2_with fail
  refine (markOwnerS _ rfl (by have := HL0.out.1; omega) (by omega) (by omega) HG0.out).mono ?_; rintro e w13 ⟨rfl, s13, t13, z13⟩
  have z13' : w12.heap.size ≤ w13.heap.size := t13.size
  have HW0 := Lib.hid (HW0.out.turn t13 (by omega))
  have HW1 := Lib.hid (HW1.out.turn t13 (by omega))
  have HG1 := Lib.hid (HG1.out.turn t13 (by omega))
  have HB := Lib.hid (Below.new HB.out t13 (by omega) (Nat.le_refl _))
  have HG0 := Lib.hid s13; clear s13 t13 z13
  go_wp2_with fail
  refine (markIntS _ rfl (by have := HL1.out; omega) (by omega) (by omega) HG1.out).mono ?_; rintro e w14 ⟨rfl, s14, t14, z14⟩
  have z14' : w13.heap.size ≤ w14.heap.size := t14.size
  have HW0 := Lib.hid (HW0.out.turn t14 (by omega))
  have HW1 := Lib.hid (HW1.out.turn t14 (by omega))
  have HG0 := Lib.hid (HG0.out.turn t14 (by omega))
  have HB := Lib.hid (Below.new HB.out t14 (by omega) (Nat.le_refl _))
  have HG1 := Lib.hid s14; clear s14 t14 z14
  go_wp2_with fail
  refine (heldOwnerS _ rfl (by have := HL0.out.1; omega) (by omega) (by omega) HG0.out.rd).mono ?_; rintro e w' ⟨rfl, rfl⟩
  go_wp2_with fail
  refine (heldIntS (by have := HL1.out; omega) (by omega) (by omega) HG1.out.rd).mono ?_; rintro e w' ⟨rfl, rfl⟩
  go_wp2_with fail
  refine (toOwnerS xs0 rfl (by omega) HN0.out (HA0.out.belowLe HB.out (Nat.le_refl _)) (by have := HB.out.size; omega)).mono ?_; rintro e w15 ⟨A'15, c'15, rfl, s15, b15⟩
  have z15 := b15.size
  have HW0 := Lib.hid (HW0.out.below b15 (by omega))
  have HW1 := Lib.hid (HW1.out.below b15 (by omega))
  have HG0 := Lib.hid (HG0.out.below b15 (by omega))
  have HG1 := Lib.hid (HG1.out.below b15 (by omega))
  have HB := Lib.hid (HB.out.trans (b15.mono (by have := HB.out.size; omega)))
  have Ht0 := Lib.hid s15; clear s15
  clear b15
  go_wp2_with fail
  refine (implDisposeOwner (x1) xs0 rfl (by omega) (by omega) HM0.out Ht0.out.rd (by omega)).mono ?_; rintro e w16 ⟨A'16, c'16, A''16, c''16, m16, ⟨m16a, m16b⟩, rfl, s16, t16, b16⟩
  have z16 := b16.size
  have HW0 := Lib.hid (HW0.out.below b16 (by omega))
  have HW1 := Lib.hid (HW1.out.below b16 (by omega))
  have HG0 := Lib.hid (HG0.out.below b16 (by omega))
  have HG1 := Lib.hid (HG1.out.below b16 (by omega))
  have Ht0 := Lib.hid (Ht0.out.below b16 (by omega))
  have HB := Lib.hid (HB.out.trans (b16.mono (by have := HB.out.size; omega)))
  have HH0 := Lib.hid s16; clear s16
  have HH1 := Lib.hid t16; clear t16
  clear b16
  go_wp2_with fail
  refine (eqOwnerS _ _ rfl rfl (by have := HL0.out.1; omega) HL0.out.2 HH0.out.rd HW0.out.rd (by omega) (by omega)).mono ?_; rintro e w17 ⟨rfl, b17⟩
  have z17 := b17.size
  have HW0 := Lib.hid (HW0.out.below b17 (by omega))
  have HW1 := Lib.hid (HW1.out.below b17 (by omega))
  have HG0 := Lib.hid (HG0.out.below b17 (by omega))
  have HG1 := Lib.hid (HG1.out.below b17 (by omega))
  have HH0 := Lib.hid (HH0.out.below b17 (by omega))
  have HH1 := Lib.hid (HH1.out.below b17 (by omega))
  have HB := Lib.hid (HB.out.trans (b17.mono (by have := HB.out.size; omega)))
  clear b17
  go_wp2_with fail
  refine (qb (eqIntS _ _ rfl rfl (by have := HL1.out; omega) HH1.out.rd HW1.out.rd)).mono ?_; rintro e w18 ⟨rfl, b18⟩
  have z18 := b18.size
  have HW0 := Lib.hid (HW0.out.below b18 (by omega))
  have HW1 := Lib.hid (HW1.out.below b18 (by omega))
  have HG0 := Lib.hid (HG0.out.below b18 (by omega))
  have HG1 := Lib.hid (HG1.out.below b18 (by omega))
  have HH0 := Lib.hid (HH0.out.below b18 (by omega))
  have HH1 := Lib.hid (HH1.out.below b18 (by omega))
  have HB := Lib.hid (HB.out.trans (b18.mono (by have := HB.out.size; omega)))
  clear b18
  go_wp2_with fail
  refine (heldOwnerS _ rfl (by have := HL0.out.1; omega) (by omega) (by omega) HG0.out.rd).mono ?_; rintro e w' ⟨rfl, rfl⟩
  go_wp2_with fail
  refine (heldIntS (by have := HL1.out; omega) (by omega) (by omega) HG1.out.rd).mono ?_; rintro e w' ⟨rfl, rfl⟩
  go_wp2_with fail
  go_ret
  exact ⟨rfl, HB.out⟩
end Go.Proofs.Ytbikejdghdoaiaa
