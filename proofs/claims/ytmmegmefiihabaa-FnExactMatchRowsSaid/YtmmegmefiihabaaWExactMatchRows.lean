/-
  The walk of laws.FnExactMatchRows.
-/
import Derived.Test.YtmmegmefiihabaaMatchImpl
import Derived.Test.YtmmegmefiihabaaToI
namespace Go.Proofs.Ytmmegmefiihabaa
open Go.RowKit

set_option maxRecDepth 100000 in
set_option maxHeartbeats 3200000 in
theorem walkFnExactMatchRows (A0 : Option Addr) (c0 : Nat) (xs0 : List Rwx) (x1 : Int) (A2 : Option Addr) (c2 : Nat) (xs2 : List Int) (w : World) (hr0 : RdQ w w.heap.size A0 xs0) (hn0 : xs0.length ≤ 9223372036854775807) (wx1 : (Lit.int .i64 x1).wf = true) (hr2 : RdI w w.heap.size A2 xs2) (hn2 : xs2.length ≤ 9223372036854775807) :
    Calls Try.prog 9 #[.slice A0 xs0.length c0, .int .i64 x1, .slice A2 xs2.length c2] w fun e w' => e = .returned (.bool true) ∧ Below w.heap.size w w' := by
  by_cases hbig2 : xs2.length ≤ 1048576
  case neg =>
    go_enter Try.func9, Try.ntmps9
    go_wp2
    go_ret
    exact ⟨rfl, Below.refl _ _⟩
  case pos =>
  have HA0 := Lib.hid hr0; clear hr0
  have HA2 := Lib.hid hr2; clear hr2
  have HW1 := Lib.hid wx1; clear wx1
  have HB := Lib.hid (Below.refl w.heap.size w)
  go_enter Try.func9, Try.ntmps9
  go_wp2_with fail
  refine (szQS (by omega) (by omega) (by omega)).mono ?_; rintro e w' ⟨⟨v0, rfl, hv0⟩, rfl⟩
  rcases hv0 with ⟨hv00, hv0⟩ | ⟨rfl, hv0⟩
  case inr =>
    go_wp2_with fail
    go_ret
    exact ⟨rfl, HB.out⟩
  case inl =>
  have hbig0 : xs0.length ≤ 1048576 := by omega
  clear hv0
  have HL0 := Lib.hid (show ((matchF xs0 x1 xs2).1).length ≤ 1048577 from by have := matchF_len xs0 x1 xs2; omega)
  have hl0 := HL0.out
  go_wp2_with fail
  refine (toQS xs0 rfl (by omega) (HA0.out.belowLe HB.out (Nat.le_refl _)) (by have := HB.out.size; omega)).mono ?_; rintro e w1 ⟨A'1, c'1, rfl, s1, b1⟩
  have z1 := b1.size
  have HB := Lib.hid (HB.out.trans (b1.mono (by have := HB.out.size; omega)))
  have Ht0 := Lib.hid s1; clear s1
  clear b1
  go_wp2_with fail
  refine (toIntS xs2 rfl (by omega) (HA2.out.belowLe HB.out (Nat.le_refl _)) (by have := HB.out.size; omega)).mono ?_; rintro e w2 ⟨A'2, c'2, rfl, s2, b2⟩
  have z2 := b2.size
  have Ht0 := Lib.hid (Ht0.out.below b2 (by omega))
  have HB := Lib.hid (HB.out.trans (b2.mono (by have := HB.out.size; omega)))
  have Ht2 := Lib.hid s2; clear s2
  clear b2
  go_wp2_with fail
  refine (specMatchRows xs0 x1 xs2 rfl rfl (by omega) (by omega) Ht2.out.le Ht0.out.rd Ht2.out.rd (by omega) (by omega)).mono ?_; rintro e w3 ⟨A'3, c'3, rfl, s3, b3⟩
  have z3 := b3.size
  have Ht0 := Lib.hid (Ht0.out.below b3 (by omega))
  have Ht2 := Lib.hid (Ht2.out.below b3 (by omega))
  have HB := Lib.hid (HB.out.trans (b3.mono (by have := HB.out.size; omega)))
  have HW0 := Lib.hid s3; clear s3
  clear b3
  go_wp2_with fail
  refine (toQS xs0 rfl (by omega) (HA0.out.belowLe HB.out (Nat.le_refl _)) (by have := HB.out.size; omega)).mono ?_; rintro e w4 ⟨A'4, c'4, rfl, s4, b4⟩
  have z4 := b4.size
  have HW0 := Lib.hid (HW0.out.below b4 (by omega))
  have HB := Lib.hid (HB.out.trans (b4.mono (by have := HB.out.size; omega)))
  have Hx0 := Lib.hid s4; clear s4
  clear b4
  go_wp2_with fail
  refine (toIntS xs2 rfl (by omega) (HA2.out.belowLe HB.out (Nat.le_refl _)) (by have := HB.out.size; omega)).mono ?_; rintro e w5 ⟨A'5, c'5, rfl, s5, b5⟩
  have z5 := b5.size
  have HW0 := Lib.hid (HW0.out.below b5 (by omega))
  have Hx0 := Lib.hid (Hx0.out.below b5 (by omega))
  have HB := Lib.hid (HB.out.trans (b5.mono (by have := HB.out.size; omega)))
  have Hx2 := Lib.hid s5; clear s5
  clear b5
  go_wp2_with fail
  refine (implMatchRows xs0 x1 xs2 rfl rfl (by omega) (by omega) Hx2.out.le Hx0.out.rd Hx2.out.rd (by omega) (by omega)).mono ?_; rintro e w6 ⟨A'6, c'6, rfl, s6, b6⟩
  have z6 := b6.size
  have HW0 := Lib.hid (HW0.out.below b6 (by omega))
  have Hx0 := Lib.hid (Hx0.out.below b6 (by omega))
  have Hx2 := Lib.hid (Hx2.out.below b6 (by omega))
  have HB := Lib.hid (HB.out.trans (b6.mono (by have := HB.out.size; omega)))
  have HG0 := Lib.hid s6; clear s6
  clear b6
  go_wp2_with fail
  refine (eqQS _ _ rfl rfl (by have := HL0.out; omega) HG0.out.rd HW0.out.rd (by omega) (by omega)).mono ?_; rintro e w7 ⟨rfl, b7⟩
  have z7 := b7.size
  have HW0 := Lib.hid (HW0.out.below b7 (by omega))
  have Hx0 := Lib.hid (Hx0.out.below b7 (by omega))
  have Hx2 := Lib.hid (Hx2.out.below b7 (by omega))
  have HG0 := Lib.hid (HG0.out.below b7 (by omega))
  have HB := Lib.hid (HB.out.trans (b7.mono (by have := HB.out.size; omega)))
  clear b7
  go_wp2_with fail
  refine (toQS xs0 rfl (by omega) (HA0.out.belowLe HB.out (Nat.le_refl _)) (by have := HB.out.size; omega)).mono ?_; rintro e w8 ⟨A'8, c'8, rfl, s8, b8⟩
  have z8 := b8.size
  have HW0 := Lib.hid (HW0.out.below b8 (by omega))
  have Hx0 := Lib.hid (Hx0.out.below b8 (by omega))
  have Hx2 := Lib.hid (Hx2.out.below b8 (by omega))
  have HG0 := Lib.hid (HG0.out.below b8 (by omega))
  have HB := Lib.hid (HB.out.trans (b8.mono (by have := HB.out.size; omega)))
  have Hy := Lib.hid s8; clear s8
  clear b8
  go_wp2_with fail
  refine (eqQS _ _ rfl rfl (by omega) Hx0.out.rd Hy.out.rd (by omega) (by omega)).mono ?_; rintro e w9 ⟨rfl, b9⟩
  have z9 := b9.size
  have HW0 := Lib.hid (HW0.out.below b9 (by omega))
  have Hx0 := Lib.hid (Hx0.out.below b9 (by omega))
  have Hx2 := Lib.hid (Hx2.out.below b9 (by omega))
  have HG0 := Lib.hid (HG0.out.below b9 (by omega))
  have Hy := Lib.hid (Hy.out.below b9 (by omega))
  have HB := Lib.hid (HB.out.trans (b9.mono (by have := HB.out.size; omega)))
  clear b9
  go_wp2_with fail
  refine (toIntS xs2 rfl (by omega) (HA2.out.belowLe HB.out (Nat.le_refl _)) (by have := HB.out.size; omega)).mono ?_; rintro e w10 ⟨A'10, c'10, rfl, s10, b10⟩
  have z10 := b10.size
  have HW0 := Lib.hid (HW0.out.below b10 (by omega))
  have Hx0 := Lib.hid (Hx0.out.below b10 (by omega))
  have Hx2 := Lib.hid (Hx2.out.below b10 (by omega))
  have HG0 := Lib.hid (HG0.out.below b10 (by omega))
  have HB := Lib.hid (HB.out.trans (b10.mono (by have := HB.out.size; omega)))
  have Hy := Lib.hid s10; clear s10
  clear b10
  go_wp2_with fail
  refine (qb (eqIntS _ _ rfl rfl (by omega) Hx2.out.rd Hy.out.rd)).mono ?_; rintro e w11 ⟨rfl, b11⟩
  have z11 := b11.size
  have HW0 := Lib.hid (HW0.out.below b11 (by omega))
  have Hx0 := Lib.hid (Hx0.out.below b11 (by omega))
  have Hx2 := Lib.hid (Hx2.out.below b11 (by omega))
  have HG0 := Lib.hid (HG0.out.below b11 (by omega))
  have Hy := Lib.hid (Hy.out.below b11 (by omega))
  have HB := Lib.hid (HB.out.trans (b11.mono (by have := HB.out.size; omega)))
  clear b11
  go_wp2_with fail
  refine (markQS _ rfl (by omega) (by omega) (by omega) Hx0.out).mono ?_; rintro e w12 ⟨rfl, s12, t12, z12⟩
  have z12' : w11.heap.size ≤ w12.heap.size := t12.size
  have HW0 := Lib.hid (HW0.out.turn t12 (by omega))
  have Hx2 := Lib.hid (Hx2.out.turn t12 (by omega))
  have HG0 := Lib.hid (HG0.out.turn t12 (by omega))
  have HB := Lib.hid (Below.new HB.out t12 (by omega) (Nat.le_refl _))
  have Hx0 := Lib.hid s12; clear s12 t12 z12
  go_wp2_with fail
  refine (markIntS _ rfl (by omega) (by omega) (by omega) Hx2.out).mono ?_; rintro e w13 ⟨rfl, s13, t13, z13⟩
  have z13' : w12.heap.size ≤ w13.heap.size := t13.size
  have HW0 := Lib.hid (HW0.out.turn t13 (by omega))
  have HG0 := Lib.hid (HG0.out.turn t13 (by omega))
  have HB := Lib.hid (Below.new HB.out t13 (by omega) (Nat.le_refl _))
  have Hx2 := Lib.hid s13; clear s13 t13 z13
  go_wp2_with fail
  refine (eqQS _ _ rfl rfl (by have := HL0.out; omega) HG0.out.rd HW0.out.rd (by omega) (by omega)).mono ?_; rintro e w14 ⟨rfl, b14⟩
  have z14 := b14.size
  have HW0 := Lib.hid (HW0.out.below b14 (by omega))
  have HG0 := Lib.hid (HG0.out.below b14 (by omega))
  have HB := Lib.hid (HB.out.trans (b14.mono (by have := HB.out.size; omega)))
  clear b14
  go_wp2_with fail
  refine (markQS _ rfl (by have := HL0.out; omega) (by omega) (by omega) HG0.out).mono ?_; rintro e w15 ⟨rfl, s15, t15, z15⟩
  have z15' : w14.heap.size ≤ w15.heap.size := t15.size
  have HW0 := Lib.hid (HW0.out.turn t15 (by omega))
  have HB := Lib.hid (Below.new HB.out t15 (by omega) (Nat.le_refl _))
  have HG0 := Lib.hid s15; clear s15 t15 z15
  go_wp2_with fail
  refine (heldQS (by have := HL0.out; omega) (by omega) (by omega) HG0.out.rd).mono ?_; rintro e w' ⟨rfl, rfl⟩
  go_wp2_with fail
  refine (toQS xs0 rfl (by omega) (HA0.out.belowLe HB.out (Nat.le_refl _)) (by have := HB.out.size; omega)).mono ?_; rintro e w16 ⟨A'16, c'16, rfl, s16, b16⟩
  have z16 := b16.size
  have HW0 := Lib.hid (HW0.out.below b16 (by omega))
  have HG0 := Lib.hid (HG0.out.below b16 (by omega))
  have HB := Lib.hid (HB.out.trans (b16.mono (by have := HB.out.size; omega)))
  have Ht0 := Lib.hid s16; clear s16
  clear b16
  go_wp2_with fail
  refine (toIntS xs2 rfl (by omega) (HA2.out.belowLe HB.out (Nat.le_refl _)) (by have := HB.out.size; omega)).mono ?_; rintro e w17 ⟨A'17, c'17, rfl, s17, b17⟩
  have z17 := b17.size
  have HW0 := Lib.hid (HW0.out.below b17 (by omega))
  have HG0 := Lib.hid (HG0.out.below b17 (by omega))
  have Ht0 := Lib.hid (Ht0.out.below b17 (by omega))
  have HB := Lib.hid (HB.out.trans (b17.mono (by have := HB.out.size; omega)))
  have Ht2 := Lib.hid s17; clear s17
  clear b17
  go_wp2_with fail
  refine (implMatchRows xs0 x1 xs2 rfl rfl (by omega) (by omega) Ht2.out.le Ht0.out.rd Ht2.out.rd (by omega) (by omega)).mono ?_; rintro e w18 ⟨A'18, c'18, rfl, s18, b18⟩
  have z18 := b18.size
  have HW0 := Lib.hid (HW0.out.below b18 (by omega))
  have HG0 := Lib.hid (HG0.out.below b18 (by omega))
  have Ht0 := Lib.hid (Ht0.out.below b18 (by omega))
  have Ht2 := Lib.hid (Ht2.out.below b18 (by omega))
  have HB := Lib.hid (HB.out.trans (b18.mono (by have := HB.out.size; omega)))
  have HH0 := Lib.hid s18; clear s18
  clear b18
  go_wp2_with fail
  refine (eqQS _ _ rfl rfl (by have := HL0.out; omega) HH0.out.rd HW0.out.rd (by omega) (by omega)).mono ?_; rintro e w19 ⟨rfl, b19⟩
  have z19 := b19.size
  have HW0 := Lib.hid (HW0.out.below b19 (by omega))
  have HG0 := Lib.hid (HG0.out.below b19 (by omega))
  have HH0 := Lib.hid (HH0.out.below b19 (by omega))
  have HB := Lib.hid (HB.out.trans (b19.mono (by have := HB.out.size; omega)))
  clear b19
  go_wp2_with fail
  refine (heldQS (by have := HL0.out; omega) (by omega) (by omega) HG0.out.rd).mono ?_; rintro e w' ⟨rfl, rfl⟩
  go_wp2_with fail
  go_ret
  exact ⟨rfl, HB.out⟩
end Go.Proofs.Ytmmegmefiihabaa
