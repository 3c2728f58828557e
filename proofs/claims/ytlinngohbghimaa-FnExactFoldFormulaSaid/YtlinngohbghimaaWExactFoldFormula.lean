/-
  The walk of laws.FnExactFoldFormula.
-/
import Derived.Test.YtlinngohbghimaaFoldL
import Derived.Test.YtlinngohbghimaaIFoldL
import Derived.Test.YtlinngohbghimaaFormRec
import Derived.Test.YtlinngohbghimaaToI
import Derived.Deep.RegionHeld3
import Derived.Deep.DeepFit
namespace Go.Proofs.Ytlinngohbghimaa
open Go.RowKit

set_option maxRecDepth 100000 in
set_option maxHeartbeats 3200000 in
theorem walkFnExactFoldFormula (A0 : Option Addr) (c0 : Nat) (xs0 : List Prt) (w : World) (hr0 : RdP w w.heap.size A0 xs0) (hn0 : xs0.length ≤ 9223372036854775807) :
    Calls Try.prog 9 #[.agg #[.slice A0 xs0.length c0]] w fun e w' => e = .returned (.bool true) ∧ Below w.heap.size w w' := by
  have HA0 := Lib.hid hr0; clear hr0
  have HB := Lib.hid (bel1P w (.cells #[.slice A0 xs0.length c0] 24))
  have HBa := Lib.hid (Blk.new w 24 #[.slice A0 xs0.length c0])
  go_enter Try.func9, Try.ntmps9
  have kBa := HBa.out.cell 0
  go_wp2_with fail
  refine (szF (by omega) (by omega) (by omega)).mono ?_; rintro e w1 ⟨⟨v0, rfl, hv0⟩, b1⟩
  clear kBa
  have z1 := b1.size
  rw [World.size_alloc] at z1
  have HBa := Lib.hid (HBa.out.below b1 HBa.out.lt)
  have HB := Lib.hid (HB.out.trans (b1.mono HB.out.size))
  clear b1
  rcases hv0 with ⟨hv00, hv0⟩ | ⟨rfl, hv0⟩
  case inr =>
    go_wp2_with fail
    go_ret
    exact ⟨rfl, HB.out⟩
  case inl =>
  have hbig0 : xs0.length ≤ 1048576 := by omega
  clear hv0
  have HL := Lib.hid (show (foldF xs0).length ≤ 16777216 from by exact foldF_len xs0)
  have hl := HL.out
  have kBa := HBa.out.cell 0
  go_wp2_with fail
  refine (toF xs0 rfl (by omega) (HA0.out.belowLe HB.out (Nat.le_refl _)) (by have := HB.out.size; omega)).mono ?_; rintro e w2 ⟨A'2, c'2, rfl, s2, b2⟩
  clear kBa
  have z2 := b2.size
  have HBa := Lib.hid (HBa.out.below b2 HBa.out.lt)
  have HB := Lib.hid (HB.out.trans (b2.mono HB.out.size))
  have Ht0 := Lib.hid s2; clear s2
  clear b2
  go_wp2_with fail
  refine (specFoldFormula xs0 rfl (by omega) Ht0.out.rd (by first | omega | (simp; done) | (simp; omega))).mono ?_; rintro e w3 ⟨A'3, c'3, rfl, s3, b3⟩
  have z3 := b3.size
  have HBa := Lib.hid (HBa.out.below b3 HBa.out.lt)
  have Ht0 := Lib.hid (Ht0.out.below b3 (by first | omega | (simp; done) | (simp; omega)))
  have HB := Lib.hid (HB.out.trans (b3.mono HB.out.size))
  have HW := Lib.hid s3; clear s3
  clear b3
  have HBa := Lib.hid (HBa.out.alloc (.cells #[.slice A'3 (foldF xs0).length c'3] 29))
  have HW := Lib.hid (HW.out.alloc (.cells #[.slice A'3 (foldF xs0).length c'3] 29))
  have HB := Lib.hid (HB.out.alloc HB.out.size (.cells #[.slice A'3 (foldF xs0).length c'3] 29))
  have HBw := Lib.hid (Blk.new w3 29 #[.slice A'3 (foldF xs0).length c'3])
  have kBa := HBa.out.cell 0
  go_wp2_with fail
  refine (toF xs0 rfl (by omega) (HA0.out.belowLe HB.out (Nat.le_refl _)) (by have := HB.out.size; omega)).mono ?_; rintro e w4 ⟨A'4, c'4, rfl, s4, b4⟩
  clear kBa
  have z4 := b4.size
  rw [World.size_alloc] at z4
  have HBa := Lib.hid (HBa.out.below b4 HBa.out.lt)
  have HW := Lib.hid (HW.out.below b4 (by first | omega | (simp; done) | (simp; omega)))
  have HBw := Lib.hid (HBw.out.below b4 HBw.out.lt)
  have HB := Lib.hid (HB.out.trans (b4.mono HB.out.size))
  have Hx0 := Lib.hid s4; clear s4
  clear b4
  have HBa := Lib.hid (HBa.out.alloc (.cells #[.slice A'4 xs0.length c'4] 29))
  have HW := Lib.hid (HW.out.alloc (.cells #[.slice A'4 xs0.length c'4] 29))
  have HBw := Lib.hid (HBw.out.alloc (.cells #[.slice A'4 xs0.length c'4] 29))
  have Hx0 := Lib.hid (Hx0.out.alloc (.cells #[.slice A'4 xs0.length c'4] 29))
  have HB := Lib.hid (HB.out.alloc HB.out.size (.cells #[.slice A'4 xs0.length c'4] 29))
  have HBx := Lib.hid (Blk.new w4 29 #[.slice A'4 xs0.length c'4])
  have kBx := HBx.out.cell 0
  go_wp2_with fail
  refine (implFoldFormula xs0 rfl (by omega) Hx0.out.rd (by first | omega | (simp; done) | (simp; omega))).mono ?_; rintro e w5 ⟨A'5, c'5, rfl, s5, b5⟩
  clear kBx
  have z5 := b5.size
  rw [World.size_alloc] at z5
  have HBa := Lib.hid (HBa.out.below b5 HBa.out.lt)
  have HW := Lib.hid (HW.out.below b5 (by first | omega | (simp; done) | (simp; omega)))
  have HBw := Lib.hid (HBw.out.below b5 HBw.out.lt)
  have Hx0 := Lib.hid (Hx0.out.below b5 (by first | omega | (simp; done) | (simp; omega)))
  have HBx := Lib.hid (HBx.out.below b5 HBx.out.lt)
  have HB := Lib.hid (HB.out.trans (b5.mono HB.out.size))
  have HG := Lib.hid s5; clear s5
  clear b5
  have HBa := Lib.hid (HBa.out.alloc (.cells #[.slice A'5 (foldF xs0).length c'5] 29))
  have HW := Lib.hid (HW.out.alloc (.cells #[.slice A'5 (foldF xs0).length c'5] 29))
  have HBw := Lib.hid (HBw.out.alloc (.cells #[.slice A'5 (foldF xs0).length c'5] 29))
  have Hx0 := Lib.hid (Hx0.out.alloc (.cells #[.slice A'5 (foldF xs0).length c'5] 29))
  have HBx := Lib.hid (HBx.out.alloc (.cells #[.slice A'5 (foldF xs0).length c'5] 29))
  have HG := Lib.hid (HG.out.alloc (.cells #[.slice A'5 (foldF xs0).length c'5] 29))
  have HB := Lib.hid (HB.out.alloc HB.out.size (.cells #[.slice A'5 (foldF xs0).length c'5] 29))
  have HBg := Lib.hid (Blk.new w5 29 #[.slice A'5 (foldF xs0).length c'5])
  have kBg := HBg.out.cell 0
  have kBw := HBw.out.cell 0
  go_wp2_with fail
  refine (eqF (foldF xs0) (foldF xs0) rfl rfl (by omega) HG.out.rd HW.out.rd (by first | omega | (simp; done) | (simp; omega)) (by first | omega | (simp; done) | (simp; omega))).mono ?_; rintro e w6 ⟨he6, b6⟩
  clear kBg kBw
  have z6 := b6.size
  rw [World.size_alloc] at z6
  have HBa := Lib.hid (HBa.out.below b6 HBa.out.lt)
  have HW := Lib.hid (HW.out.below b6 (by first | omega | (simp; done) | (simp; omega)))
  have HBw := Lib.hid (HBw.out.below b6 HBw.out.lt)
  have Hx0 := Lib.hid (Hx0.out.below b6 (by first | omega | (simp; done) | (simp; omega)))
  have HBx := Lib.hid (HBx.out.below b6 HBx.out.lt)
  have HG := Lib.hid (HG.out.below b6 (by first | omega | (simp; done) | (simp; omega)))
  have HBg := Lib.hid (HBg.out.below b6 HBg.out.lt)
  have HB := Lib.hid (HB.out.trans (b6.mono HB.out.size))
  clear b6
  rw [decide_eq_true (Eq.refl _)] at he6; subst he6
  have KX := Lib.hid (fun (W : World) (hb : Below w6.heap.size w6 W) => (show W.cell? ⟨w4.heap.size, 0, none⟩ = some (.slice A'4 xs0.length c'4) ∧ W.cell? ⟨w.heap.size, 0, none⟩ = some (.slice A0 xs0.length c0) from ⟨(HBx.out.below hb HBx.out.lt).cell 0, (HBa.out.below hb HBa.out.lt).cell 0⟩))
  have TO := Lib.hid (fun (W : World) (hb : Below w6.heap.size w6 W) => toF (w := W) (c := c0) xs0 rfl (by omega) (HA0.out.belowLe (HB.out.trans (hb.mono HB.out.size)) (Nat.le_refl _)) (by have := (HB.out.trans (hb.mono HB.out.size)).size; exact this))
  have EQ := Lib.hid (fun (W : World) (hb : Below w6.heap.size w6 W) (lo : Nat) (A9 : Option Addr) (c9 : Nat) (s9 : SlP W lo W.heap.size A9 c9 xs0) => (show Calls Try.prog 14 #[.agg #[.slice A'4 xs0.length c'4], .agg #[.slice A9 xs0.length c9]] W (fun e w' => e = .returned (.bool true) ∧ Below W.heap.size W w') from by
    have h := eqF (w := W) (c := c'4) (c' := c9) xs0 xs0 rfl rfl (by omega) (Hx0.out.below hb (by first | omega | (simp; done) | (simp; omega))).rd s9.rd (by have := hb.size; first | omega | (simp at this; omega)) (Nat.le_refl _)
    rwa [decide_eq_true (Eq.refl xs0)] at h))
  have hRF := (Below.refl w6.heap.size w6).drew
  obtain ⟨kr0, kr1⟩ := KX.out _ hRF
  go_wp2_with fail
  go_region_held3 (fun w' => w'.cell? ⟨w4.heap.size, 0, none⟩ = some (.slice A'4 xs0.length c'4) ∧ w'.cell? ⟨w.heap.size, 0, none⟩ = some (.slice A0 xs0.length c0))
    (first | go_keep | exact KX.out _ hb9 | exact KX.out _ hb7 | exact KX.out _ hRF)
    ((first
      | (go_at_call 12; refine (TO.out _ hRF).mono ?_; rintro e w70 ⟨A8, c8, rfl, s8, b8⟩; have hb7 := hRF.trans (b8.mono hRF.size))
      | (go_at_call 14; refine (EQ.out _ hb7 _ _ _ s8).mono ?_; rintro e w71 ⟨rfl, b9⟩; have hb9 := hb7.trans (b9.mono hb7.size))))
  clear s8 b8 b9 hb7 hRF kr0 kr1 KX TO EQ
  have z70 := hb9.size
  have HBa := Lib.hid (HBa.out.below hb9 HBa.out.lt)
  have HW := Lib.hid (HW.out.below hb9 (by first | omega | (simp; done) | (simp; omega)))
  have HBw := Lib.hid (HBw.out.below hb9 HBw.out.lt)
  have Hx0 := Lib.hid (Hx0.out.below hb9 (by first | omega | (simp; done) | (simp; omega)))
  have HBx := Lib.hid (HBx.out.below hb9 HBx.out.lt)
  have HG := Lib.hid (HG.out.below hb9 (by first | omega | (simp; done) | (simp; omega)))
  have HBg := Lib.hid (HBg.out.below hb9 HBg.out.lt)
  have HB := Lib.hid (HB.out.trans (hb9.mono HB.out.size))
  clear hb9
  have kBx := HBx.out.cell 0
  go_wp2_with fail
  refine (markF (xs0) rfl (by omega) (by omega) (by omega) Hx0.out).mono ?_; rintro e w7 ⟨rfl, s7, t7⟩
  clear kBx
  have z7 : w71.heap.size ≤ w7.heap.size := t7.size
  have HBa := Lib.hid (t7.blk HBa.out (by first | omega | (simp; done) | (simp; omega)))
  have HW := Lib.hid (HW.out.turn t7 (by first | omega | (simp; done) | (simp; omega)))
  have HBw := Lib.hid (t7.blk HBw.out (by first | omega | (simp; done) | (simp; omega)))
  have HBx := Lib.hid (t7.blk HBx.out (by first | omega | (simp; done) | (simp; omega)))
  have HG := Lib.hid (HG.out.turn t7 (by first | omega | (simp; done) | (simp; omega)))
  have HBg := Lib.hid (t7.blk HBg.out (by first | omega | (simp; done) | (simp; omega)))
  have HB := Lib.hid (Below.new HB.out t7 (by first | omega | (simp; done) | (simp; omega)) (Nat.le_refl _))
  have Hx0 := Lib.hid s7; clear s7 t7
  have kBg := HBg.out.cell 0
  have kBw := HBw.out.cell 0
  go_wp2_with fail
  refine (eqF (foldF xs0) (foldF xs0) rfl rfl (by omega) HG.out.rd HW.out.rd (by first | omega | (simp; done) | (simp; omega)) (by first | omega | (simp; done) | (simp; omega))).mono ?_; rintro e w8 ⟨he8, b8⟩
  clear kBg kBw
  have z8 := b8.size
  have HBa := Lib.hid (HBa.out.below b8 HBa.out.lt)
  have HW := Lib.hid (HW.out.below b8 (by first | omega | (simp; done) | (simp; omega)))
  have HBw := Lib.hid (HBw.out.below b8 HBw.out.lt)
  have HG := Lib.hid (HG.out.below b8 (by first | omega | (simp; done) | (simp; omega)))
  have HBg := Lib.hid (HBg.out.below b8 HBg.out.lt)
  have HB := Lib.hid (HB.out.trans (b8.mono HB.out.size))
  clear b8
  rw [decide_eq_true (Eq.refl _)] at he8; subst he8
  have kBg := HBg.out.cell 0
  go_wp2_with fail
  refine (markF (foldF xs0) rfl (by omega) (by omega) (by omega) HG.out).mono ?_; rintro e w9 ⟨rfl, s9, t9⟩
  clear kBg
  have z9 : w8.heap.size ≤ w9.heap.size := t9.size
  have HBa := Lib.hid (t9.blk HBa.out (by first | omega | (simp; done) | (simp; omega)))
  have HW := Lib.hid (HW.out.turn t9 (by first | omega | (simp; done) | (simp; omega)))
  have HBw := Lib.hid (t9.blk HBw.out (by first | omega | (simp; done) | (simp; omega)))
  have HBg := Lib.hid (t9.blk HBg.out (by first | omega | (simp; done) | (simp; omega)))
  have HB := Lib.hid (Below.new HB.out t9 (by first | omega | (simp; done) | (simp; omega)) (Nat.le_refl _))
  have HG := Lib.hid s9; clear s9 t9
  have kBg := HBg.out.cell 0
  go_wp2_with fail
  refine (heldF (by omega) (by omega) (by omega) HG.out.rd (by first | omega | (simp; done) | (simp; omega))).mono ?_; rintro e w10 ⟨rfl, b10⟩
  clear kBg
  have z10 := b10.size
  have HBa := Lib.hid (HBa.out.below b10 HBa.out.lt)
  have HW := Lib.hid (HW.out.below b10 (by first | omega | (simp; done) | (simp; omega)))
  have HBw := Lib.hid (HBw.out.below b10 HBw.out.lt)
  have HG := Lib.hid (HG.out.below b10 (by first | omega | (simp; done) | (simp; omega)))
  have HBg := Lib.hid (HBg.out.below b10 HBg.out.lt)
  have HB := Lib.hid (HB.out.trans (b10.mono HB.out.size))
  clear b10
  have kBa := HBa.out.cell 0
  go_wp2_with fail
  refine (toF xs0 rfl (by omega) (HA0.out.belowLe HB.out (Nat.le_refl _)) (by have := HB.out.size; omega)).mono ?_; rintro e w11 ⟨A'11, c'11, rfl, s11, b11⟩
  clear kBa
  have z11 := b11.size
  have HBa := Lib.hid (HBa.out.below b11 HBa.out.lt)
  have HW := Lib.hid (HW.out.below b11 (by first | omega | (simp; done) | (simp; omega)))
  have HBw := Lib.hid (HBw.out.below b11 HBw.out.lt)
  have HG := Lib.hid (HG.out.below b11 (by first | omega | (simp; done) | (simp; omega)))
  have HBg := Lib.hid (HBg.out.below b11 HBg.out.lt)
  have HB := Lib.hid (HB.out.trans (b11.mono HB.out.size))
  have Ht0 := Lib.hid s11; clear s11
  clear b11
  go_wp2_with fail
  refine (implFoldFormula xs0 rfl (by omega) Ht0.out.rd (by first | omega | (simp; done) | (simp; omega))).mono ?_; rintro e w12 ⟨A'12, c'12, rfl, s12, b12⟩
  have z12 := b12.size
  have HBa := Lib.hid (HBa.out.below b12 HBa.out.lt)
  have HW := Lib.hid (HW.out.below b12 (by first | omega | (simp; done) | (simp; omega)))
  have HBw := Lib.hid (HBw.out.below b12 HBw.out.lt)
  have HG := Lib.hid (HG.out.below b12 (by first | omega | (simp; done) | (simp; omega)))
  have HBg := Lib.hid (HBg.out.below b12 HBg.out.lt)
  have Ht0 := Lib.hid (Ht0.out.below b12 (by first | omega | (simp; done) | (simp; omega)))
  have HB := Lib.hid (HB.out.trans (b12.mono HB.out.size))
  have HH := Lib.hid s12; clear s12
  clear b12
  have HBa := Lib.hid (HBa.out.alloc (.cells #[.slice A'12 (foldF xs0).length c'12] 29))
  have HW := Lib.hid (HW.out.alloc (.cells #[.slice A'12 (foldF xs0).length c'12] 29))
  have HBw := Lib.hid (HBw.out.alloc (.cells #[.slice A'12 (foldF xs0).length c'12] 29))
  have HG := Lib.hid (HG.out.alloc (.cells #[.slice A'12 (foldF xs0).length c'12] 29))
  have HBg := Lib.hid (HBg.out.alloc (.cells #[.slice A'12 (foldF xs0).length c'12] 29))
  have HH := Lib.hid (HH.out.alloc (.cells #[.slice A'12 (foldF xs0).length c'12] 29))
  have HB := Lib.hid (HB.out.alloc HB.out.size (.cells #[.slice A'12 (foldF xs0).length c'12] 29))
  have HBh := Lib.hid (Blk.new w12 29 #[.slice A'12 (foldF xs0).length c'12])
  have kBh := HBh.out.cell 0
  have kBw := HBw.out.cell 0
  go_wp2_with fail
  refine (eqF (foldF xs0) (foldF xs0) rfl rfl (by omega) HH.out.rd HW.out.rd (by first | omega | (simp; done) | (simp; omega)) (by first | omega | (simp; done) | (simp; omega))).mono ?_; rintro e w13 ⟨he13, b13⟩
  clear kBh kBw
  have z13 := b13.size
  rw [World.size_alloc] at z13
  have HBa := Lib.hid (HBa.out.below b13 HBa.out.lt)
  have HW := Lib.hid (HW.out.below b13 (by first | omega | (simp; done) | (simp; omega)))
  have HBw := Lib.hid (HBw.out.below b13 HBw.out.lt)
  have HG := Lib.hid (HG.out.below b13 (by first | omega | (simp; done) | (simp; omega)))
  have HBg := Lib.hid (HBg.out.below b13 HBg.out.lt)
  have HH := Lib.hid (HH.out.below b13 (by first | omega | (simp; done) | (simp; omega)))
  have HBh := Lib.hid (HBh.out.below b13 HBh.out.lt)
  have HB := Lib.hid (HB.out.trans (b13.mono HB.out.size))
  clear b13
  rw [decide_eq_true (Eq.refl _)] at he13; subst he13
  have kBg := HBg.out.cell 0
  go_wp2_with fail
  refine (heldF (by omega) (by omega) (by omega) HG.out.rd (by first | omega | (simp; done) | (simp; omega))).mono ?_; rintro e w14 ⟨rfl, b14⟩
  clear kBg
  have z14 := b14.size
  have HBa := Lib.hid (HBa.out.below b14 HBa.out.lt)
  have HW := Lib.hid (HW.out.below b14 (by first | omega | (simp; done) | (simp; omega)))
  have HBw := Lib.hid (HBw.out.below b14 HBw.out.lt)
  have HG := Lib.hid (HG.out.below b14 (by first | omega | (simp; done) | (simp; omega)))
  have HBg := Lib.hid (HBg.out.below b14 HBg.out.lt)
  have HH := Lib.hid (HH.out.below b14 (by first | omega | (simp; done) | (simp; omega)))
  have HBh := Lib.hid (HBh.out.below b14 HBh.out.lt)
  have HB := Lib.hid (HB.out.trans (b14.mono HB.out.size))
  clear b14
  go_wp2_with fail
  go_ret
  exact ⟨rfl, HB.out⟩
end Go.Proofs.Ytlinngohbghimaa
