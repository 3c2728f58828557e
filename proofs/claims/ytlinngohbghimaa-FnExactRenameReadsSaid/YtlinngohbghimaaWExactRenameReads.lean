/-
  The walk of laws.FnExactRenameReads.
-/
import Derived.Test.YtlinngohbghimaaRename
import Derived.Test.YtlinngohbghimaaFormRec
import Derived.Test.YtlinngohbghimaaToI
import Derived.Deep.RegionHeld3
import Derived.Deep.DeepFit
namespace Go.Proofs.Ytlinngohbghimaa
open Go.RowKit

set_option maxRecDepth 100000 in
set_option maxHeartbeats 3200000 in
theorem walkFnExactRenameReads (A0 : Option Addr) (c0 : Nat) (xs0 : List Prt) (A1 : Option Addr) (c1 : Nat) (xs1 : List Int) (w : World) (hr0 : RdP w w.heap.size A0 xs0) (hn0 : xs0.length ≤ 9223372036854775807) (hr1 : RdI w w.heap.size A1 xs1) (hn1 : xs1.length ≤ 9223372036854775807) :
    Calls Try.prog 8 #[.agg #[.slice A0 xs0.length c0], .slice A1 xs1.length c1] w fun e w' => e = .returned (.bool true) ∧ Below w.heap.size w w' := by
  have HA0 := Lib.hid hr0; clear hr0
  have HA1 := Lib.hid hr1; clear hr1
  by_cases hbig1 : xs1.length ≤ 1048576
  case neg =>
    have HB := Lib.hid (bel1P w (.cells #[.slice A0 xs0.length c0] 24))
    go_enter Try.func8, Try.ntmps8
    go_wp2
    go_ret
    exact ⟨rfl, HB.out⟩
  case pos =>
  have HB := Lib.hid (bel1P w (.cells #[.slice A0 xs0.length c0] 24))
  have HBa := Lib.hid (Blk.new w 24 #[.slice A0 xs0.length c0])
  go_enter Try.func8, Try.ntmps8
  have kBa := HBa.out.cell 0
  go_wp2_with fail
  refine (szF (by omega) (by omega) (by omega)).mono ?_; rintro e w1 ⟨⟨v0, rfl, hv0⟩, b1⟩
  clear kBa
  have z1 := b1.size
  rw [World.size_alloc] at z1
  have HBa := Lib.hid (HBa.out.below b1 HBa.out.lt)
  have HB := Lib.hid (HB.out.trans (b1.mono HB.out.size))
  clear b1
  rcases hv0 with ⟨hv00, hv0⟩ | ⟨rfl, hv0⟩
  case inr =>
    go_wp2_with fail
    go_ret
    exact ⟨rfl, HB.out⟩
  case inl =>
  have hbig0 : xs0.length ≤ 1048576 := by omega
  clear hv0
  have HL := Lib.hid (show (renameF xs0 xs1).length ≤ 16777216 from by have := renameF_len xs0 xs1; omega)
  have hl := HL.out
  have kBa := HBa.out.cell 0
  go_wp2_with fail
  refine (toF xs0 rfl (by omega) (HA0.out.belowLe HB.out (Nat.le_refl _)) (by have := HB.out.size; omega)).mono ?_; rintro e w2 ⟨A'2, c'2, rfl, s2, b2⟩
  clear kBa
  have z2 := b2.size
  have HBa := Lib.hid (HBa.out.below b2 HBa.out.lt)
  have HB := Lib.hid (HB.out.trans (b2.mono HB.out.size))
  have Ht0 := Lib.hid s2; clear s2
  clear b2
  go_wp2_with fail
  refine (toIntS xs1 rfl (by omega) (HA1.out.belowLe HB.out (Nat.le_refl _)) (by have := HB.out.size; omega)).mono ?_; rintro e w3 ⟨A'3, c'3, rfl, s3, b3⟩
  have z3 := b3.size
  have HBa := Lib.hid (HBa.out.below b3 HBa.out.lt)
  have Ht0 := Lib.hid (Ht0.out.below b3 (by first | omega | (simp; done) | (simp; omega)))
  have HB := Lib.hid (HB.out.trans (b3.mono HB.out.size))
  have Ht1 := Lib.hid s3; clear s3
  clear b3
  go_wp2_with fail
  refine (specRenameReads xs0 xs1 rfl rfl (by omega) (by omega) Ht0.out.rd Ht1.out.rd (by first | omega | (simp; done) | (simp; omega)) (by first | omega | (simp; done) | (simp; omega))).mono ?_; rintro e w4 ⟨A'4, c'4, rfl, s4, b4⟩
  have z4 := b4.size
  have HBa := Lib.hid (HBa.out.below b4 HBa.out.lt)
  have Ht0 := Lib.hid (Ht0.out.below b4 (by first | omega | (simp; done) | (simp; omega)))
  have Ht1 := Lib.hid (Ht1.out.below b4 (by first | omega | (simp; done) | (simp; omega)))
  have HB := Lib.hid (HB.out.trans (b4.mono HB.out.size))
  have HW := Lib.hid s4; clear s4
  clear b4
  have HBa := Lib.hid (HBa.out.alloc (.cells #[.slice A'4 (renameF xs0 xs1).length c'4] 29))
  have HW := Lib.hid (HW.out.alloc (.cells #[.slice A'4 (renameF xs0 xs1).length c'4] 29))
  have HB := Lib.hid (HB.out.alloc HB.out.size (.cells #[.slice A'4 (renameF xs0 xs1).length c'4] 29))
  have HBw := Lib.hid (Blk.new w4 29 #[.slice A'4 (renameF xs0 xs1).length c'4])
  have kBa := HBa.out.cell 0
  go_wp2_with fail
  refine (toF xs0 rfl (by omega) (HA0.out.belowLe HB.out (Nat.le_refl _)) (by have := HB.out.size; omega)).mono ?_; rintro e w5 ⟨A'5, c'5, rfl, s5, b5⟩
  clear kBa
  have z5 := b5.size
  rw [World.size_alloc] at z5
  have HBa := Lib.hid (HBa.out.below b5 HBa.out.lt)
  have HW := Lib.hid (HW.out.below b5 (by first | omega | (simp; done) | (simp; omega)))
  have HBw := Lib.hid (HBw.out.below b5 HBw.out.lt)
  have HB := Lib.hid (HB.out.trans (b5.mono HB.out.size))
  have Hx0 := Lib.hid s5; clear s5
  clear b5
  have HBa := Lib.hid (HBa.out.alloc (.cells #[.slice A'5 xs0.length c'5] 29))
  have HW := Lib.hid (HW.out.alloc (.cells #[.slice A'5 xs0.length c'5] 29))
  have HBw := Lib.hid (HBw.out.alloc (.cells #[.slice A'5 xs0.length c'5] 29))
  have Hx0 := Lib.hid (Hx0.out.alloc (.cells #[.slice A'5 xs0.length c'5] 29))
  have HB := Lib.hid (HB.out.alloc HB.out.size (.cells #[.slice A'5 xs0.length c'5] 29))
  have HBx := Lib.hid (Blk.new w5 29 #[.slice A'5 xs0.length c'5])
  go_wp2_with fail
  refine (toIntS xs1 rfl (by omega) (HA1.out.belowLe HB.out (Nat.le_refl _)) (by have := HB.out.size; omega)).mono ?_; rintro e w6 ⟨A'6, c'6, rfl, s6, b6⟩
  have z6 := b6.size
  rw [World.size_alloc] at z6
  have HBa := Lib.hid (HBa.out.below b6 HBa.out.lt)
  have HW := Lib.hid (HW.out.below b6 (by first | omega | (simp; done) | (simp; omega)))
  have HBw := Lib.hid (HBw.out.below b6 HBw.out.lt)
  have Hx0 := Lib.hid (Hx0.out.below b6 (by first | omega | (simp; done) | (simp; omega)))
  have HBx := Lib.hid (HBx.out.below b6 HBx.out.lt)
  have HB := Lib.hid (HB.out.trans (b6.mono HB.out.size))
  have Hx1 := Lib.hid s6; clear s6
  clear b6
  have kBx := HBx.out.cell 0
  go_wp2_with fail
  refine (implRenameReads xs0 xs1 rfl rfl (by omega) (by omega) Hx0.out.rd Hx1.out.rd (by first | omega | (simp; done) | (simp; omega)) (by first | omega | (simp; done) | (simp; omega))).mono ?_; rintro e w7 ⟨A'7, c'7, rfl, s7, b7⟩
  clear kBx
  have z7 := b7.size
  have HBa := Lib.hid (HBa.out.below b7 HBa.out.lt)
  have HW := Lib.hid (HW.out.below b7 (by first | omega | (simp; done) | (simp; omega)))
  have HBw := Lib.hid (HBw.out.below b7 HBw.out.lt)
  have Hx0 := Lib.hid (Hx0.out.below b7 (by first | omega | (simp; done) | (simp; omega)))
  have HBx := Lib.hid (HBx.out.below b7 HBx.out.lt)
  have Hx1 := Lib.hid (Hx1.out.below b7 (by first | omega | (simp; done) | (simp; omega)))
  have HB := Lib.hid (HB.out.trans (b7.mono HB.out.size))
  have HG := Lib.hid s7; clear s7
  clear b7
  have HBa := Lib.hid (HBa.out.alloc (.cells #[.slice A'7 (renameF xs0 xs1).length c'7] 29))
  have HW := Lib.hid (HW.out.alloc (.cells #[.slice A'7 (renameF xs0 xs1).length c'7] 29))
  have HBw := Lib.hid (HBw.out.alloc (.cells #[.slice A'7 (renameF xs0 xs1).length c'7] 29))
  have Hx0 := Lib.hid (Hx0.out.alloc (.cells #[.slice A'7 (renameF xs0 xs1).length c'7] 29))
  have HBx := Lib.hid (HBx.out.alloc (.cells #[.slice A'7 (renameF xs0 xs1).length c'7] 29))
  have Hx1 := Lib.hid (Hx1.out.alloc (.cells #[.slice A'7 (renameF xs0 xs1).length c'7] 29))
  have HG := Lib.hid (HG.out.alloc (.cells #[.slice A'7 (renameF xs0 xs1).length c'7] 29))
  have HB := Lib.hid (HB.out.alloc HB.out.size (.cells #[.slice A'7 (renameF xs0 xs1).length c'7] 29))
  have HBg := Lib.hid (Blk.new w7 29 #[.slice A'7 (renameF xs0 xs1).length c'7])
  have kBg := HBg.out.cell 0
  have kBw := HBw.out.cell 0
  go_wp2_with fail
  refine (eqF (renameF xs0 xs1) (renameF xs0 xs1) rfl rfl (by omega) HG.out.rd HW.out.rd (by first | omega | (simp; done) | (simp; omega)) (by first | omega | (simp; done) | (simp; omega))).mono ?_; rintro e w8 ⟨he8, b8⟩
  clear kBg kBw
  have z8 := b8.size
  rw [World.size_alloc] at z8
  have HBa := Lib.hid (HBa.out.below b8 HBa.out.lt)
  have HW := Lib.hid (HW.out.below b8 (by first | omega | (simp; done) | (simp; omega)))
  have HBw := Lib.hid (HBw.out.below b8 HBw.out.lt)
  have Hx0 := Lib.hid (Hx0.out.below b8 (by first | omega | (simp; done) | (simp; omega)))
  have HBx := Lib.hid (HBx.out.below b8 HBx.out.lt)
  have Hx1 := Lib.hid (Hx1.out.below b8 (by first | omega | (simp; done) | (simp; omega)))
  have HG := Lib.hid (HG.out.below b8 (by first | omega | (simp; done) | (simp; omega)))
  have HBg := Lib.hid (HBg.out.below b8 HBg.out.lt)
  have HB := Lib.hid (HB.out.trans (b8.mono HB.out.size))
  clear b8
  rw [decide_eq_true (Eq.refl _)] at he8; subst he8
  have KX := Lib.hid (fun (W : World) (hb : Below w8.heap.size w8 W) => (show W.cell? ⟨w5.heap.size, 0, none⟩ = some (.slice A'5 xs0.length c'5) ∧ W.cell? ⟨w.heap.size, 0, none⟩ = some (.slice A0 xs0.length c0) from ⟨(HBx.out.below hb HBx.out.lt).cell 0, (HBa.out.below hb HBa.out.lt).cell 0⟩))
  have TO := Lib.hid (fun (W : World) (hb : Below w8.heap.size w8 W) => toF (w := W) (c := c0) xs0 rfl (by omega) (HA0.out.belowLe (HB.out.trans (hb.mono HB.out.size)) (Nat.le_refl _)) (by have := (HB.out.trans (hb.mono HB.out.size)).size; exact this))
  have EQ := Lib.hid (fun (W : World) (hb : Below w8.heap.size w8 W) (lo : Nat) (A9 : Option Addr) (c9 : Nat) (s9 : SlP W lo W.heap.size A9 c9 xs0) => (show Calls Try.prog 14 #[.agg #[.slice A'5 xs0.length c'5], .agg #[.slice A9 xs0.length c9]] W (fun e w' => e = .returned (.bool true) ∧ Below W.heap.size W w') from by
    have h := eqF (w := W) (c := c'5) (c' := c9) xs0 xs0 rfl rfl (by omega) (Hx0.out.below hb (by first | omega | (simp; done) | (simp; omega))).rd s9.rd (by have := hb.size; first | omega | (simp at this; omega)) (Nat.le_refl _)
    rwa [decide_eq_true (Eq.refl xs0)] at h))
  have hRF := (Below.refl w8.heap.size w8).drew
  obtain ⟨kr0, kr1⟩ := KX.out _ hRF
  go_wp2_with fail
  go_region_held3 (fun w' => w'.cell? ⟨w5.heap.size, 0, none⟩ = some (.slice A'5 xs0.length c'5) ∧ w'.cell? ⟨w.heap.size, 0, none⟩ = some (.slice A0 xs0.length c0))
    (first | go_keep | exact KX.out _ hb9 | exact KX.out _ hb7 | exact KX.out _ hRF)
    ((first
      | (go_at_call 12; refine (TO.out _ hRF).mono ?_; rintro e w70 ⟨A8, c8, rfl, s8, b8⟩; have hb7 := hRF.trans (b8.mono hRF.size))
      | (go_at_call 14; refine (EQ.out _ hb7 _ _ _ s8).mono ?_; rintro e w71 ⟨rfl, b9⟩; have hb9 := hb7.trans (b9.mono hb7.size))))
  clear s8 b8 b9 hb7 hRF kr0 kr1 KX TO EQ
  have z70 := hb9.size
  have HBa := Lib.hid (HBa.out.below hb9 HBa.out.lt)
  have HW := Lib.hid (HW.out.below hb9 (by first | omega | (simp; done) | (simp; omega)))
  have HBw := Lib.hid (HBw.out.below hb9 HBw.out.lt)
  have Hx0 := Lib.hid (Hx0.out.below hb9 (by first | omega | (simp; done) | (simp; omega)))
  have HBx := Lib.hid (HBx.out.below hb9 HBx.out.lt)
  have Hx1 := Lib.hid (Hx1.out.below hb9 (by first | omega | (simp; done) | (simp; omega)))
  have HG := Lib.hid (HG.out.below hb9 (by first | omega | (simp; done) | (simp; omega)))
  have HBg := Lib.hid (HBg.out.below hb9 HBg.out.lt)
  have HB := Lib.hid (HB.out.trans (hb9.mono HB.out.size))
  clear hb9
  go_wp2_with fail
  refine (toIntS xs1 rfl (by omega) (HA1.out.belowLe HB.out (Nat.le_refl _)) (by have := HB.out.size; omega)).mono ?_; rintro e w9 ⟨A'9, c'9, rfl, s9, b9⟩
  have z9 := b9.size
  have HBa := Lib.hid (HBa.out.below b9 HBa.out.lt)
  have HW := Lib.hid (HW.out.below b9 (by first | omega | (simp; done) | (simp; omega)))
  have HBw := Lib.hid (HBw.out.below b9 HBw.out.lt)
  have Hx0 := Lib.hid (Hx0.out.below b9 (by first | omega | (simp; done) | (simp; omega)))
  have HBx := Lib.hid (HBx.out.below b9 HBx.out.lt)
  have Hx1 := Lib.hid (Hx1.out.below b9 (by first | omega | (simp; done) | (simp; omega)))
  have HG := Lib.hid (HG.out.below b9 (by first | omega | (simp; done) | (simp; omega)))
  have HBg := Lib.hid (HBg.out.below b9 HBg.out.lt)
  have HB := Lib.hid (HB.out.trans (b9.mono HB.out.size))
  have Hy := Lib.hid s9; clear s9
  clear b9
  go_wp2_with fail
  refine (qb (eqIntS xs1 xs1 rfl rfl (by omega) Hx1.out.rd Hy.out.rd)).mono ?_; rintro e w10 ⟨he10, b10⟩
  have z10 := b10.size
  have HBa := Lib.hid (HBa.out.below b10 HBa.out.lt)
  have HW := Lib.hid (HW.out.below b10 (by first | omega | (simp; done) | (simp; omega)))
  have HBw := Lib.hid (HBw.out.below b10 HBw.out.lt)
  have Hx0 := Lib.hid (Hx0.out.below b10 (by first | omega | (simp; done) | (simp; omega)))
  have HBx := Lib.hid (HBx.out.below b10 HBx.out.lt)
  have Hx1 := Lib.hid (Hx1.out.below b10 (by first | omega | (simp; done) | (simp; omega)))
  have HG := Lib.hid (HG.out.below b10 (by first | omega | (simp; done) | (simp; omega)))
  have HBg := Lib.hid (HBg.out.below b10 HBg.out.lt)
  have Hy := Lib.hid (Hy.out.below b10 (by first | omega | (simp; done) | (simp; omega)))
  have HB := Lib.hid (HB.out.trans (b10.mono HB.out.size))
  clear b10
  rw [decide_eq_true (Eq.refl _)] at he10; subst he10
  have kBx := HBx.out.cell 0
  go_wp2_with fail
  refine (markF (xs0) rfl (by omega) (by omega) (by omega) Hx0.out).mono ?_; rintro e w11 ⟨rfl, s11, t11⟩
  clear kBx
  have z11 : w10.heap.size ≤ w11.heap.size := t11.size
  have HBa := Lib.hid (t11.blk HBa.out (by first | omega | (simp; done) | (simp; omega)))
  have HW := Lib.hid (HW.out.turn t11 (by first | omega | (simp; done) | (simp; omega)))
  have HBw := Lib.hid (t11.blk HBw.out (by first | omega | (simp; done) | (simp; omega)))
  have HBx := Lib.hid (t11.blk HBx.out (by first | omega | (simp; done) | (simp; omega)))
  have Hx1 := Lib.hid (Hx1.out.turn t11 (by first | omega | (simp; done) | (simp; omega)))
  have HG := Lib.hid (HG.out.turn t11 (by first | omega | (simp; done) | (simp; omega)))
  have HBg := Lib.hid (t11.blk HBg.out (by first | omega | (simp; done) | (simp; omega)))
  have HB := Lib.hid (Below.new HB.out t11 (by first | omega | (simp; done) | (simp; omega)) (Nat.le_refl _))
  have Hx0 := Lib.hid s11; clear s11 t11
  go_wp2_with fail
  refine (markIntS (xs1) rfl (by omega) (by omega) (by omega) Hx1.out).mono ?_; rintro e w12 ⟨rfl, s12, t12, _⟩
  have z12 : w11.heap.size ≤ w12.heap.size := t12.size
  have HBa := Lib.hid (t12.blk HBa.out (by first | omega | (simp; done) | (simp; omega)))
  have HW := Lib.hid (HW.out.turn t12 (by first | omega | (simp; done) | (simp; omega)))
  have HBw := Lib.hid (t12.blk HBw.out (by first | omega | (simp; done) | (simp; omega)))
  have HG := Lib.hid (HG.out.turn t12 (by first | omega | (simp; done) | (simp; omega)))
  have HBg := Lib.hid (t12.blk HBg.out (by first | omega | (simp; done) | (simp; omega)))
  have HB := Lib.hid (Below.new HB.out t12 (by first | omega | (simp; done) | (simp; omega)) (Nat.le_refl _))
  have Hx1 := Lib.hid s12; clear s12 t12
  have kBg := HBg.out.cell 0
  have kBw := HBw.out.cell 0
  go_wp2_with fail
  refine (eqF (renameF xs0 xs1) (renameF xs0 xs1) rfl rfl (by omega) HG.out.rd HW.out.rd (by first | omega | (simp; done) | (simp; omega)) (by first | omega | (simp; done) | (simp; omega))).mono ?_; rintro e w13 ⟨he13, b13⟩
  clear kBg kBw
  have z13 := b13.size
  have HBa := Lib.hid (HBa.out.below b13 HBa.out.lt)
  have HW := Lib.hid (HW.out.below b13 (by first | omega | (simp; done) | (simp; omega)))
  have HBw := Lib.hid (HBw.out.below b13 HBw.out.lt)
  have HG := Lib.hid (HG.out.below b13 (by first | omega | (simp; done) | (simp; omega)))
  have HBg := Lib.hid (HBg.out.below b13 HBg.out.lt)
  have HB := Lib.hid (HB.out.trans (b13.mono HB.out.size))
  clear b13
  rw [decide_eq_true (Eq.refl _)] at he13; subst he13
  have kBg := HBg.out.cell 0
  go_wp2_with fail
  refine (markF (renameF xs0 xs1) rfl (by omega) (by omega) (by omega) HG.out).mono ?_; rintro e w14 ⟨rfl, s14, t14⟩
  clear kBg
  have z14 : w13.heap.size ≤ w14.heap.size := t14.size
  have HBa := Lib.hid (t14.blk HBa.out (by first | omega | (simp; done) | (simp; omega)))
  have HW := Lib.hid (HW.out.turn t14 (by first | omega | (simp; done) | (simp; omega)))
  have HBw := Lib.hid (t14.blk HBw.out (by first | omega | (simp; done) | (simp; omega)))
  have HBg := Lib.hid (t14.blk HBg.out (by first | omega | (simp; done) | (simp; omega)))
  have HB := Lib.hid (Below.new HB.out t14 (by first | omega | (simp; done) | (simp; omega)) (Nat.le_refl _))
  have HG := Lib.hid s14; clear s14 t14
  have kBg := HBg.out.cell 0
  go_wp2_with fail
  refine (heldF (by omega) (by omega) (by omega) HG.out.rd (by first | omega | (simp; done) | (simp; omega))).mono ?_; rintro e w15 ⟨rfl, b15⟩
  clear kBg
  have z15 := b15.size
  have HBa := Lib.hid (HBa.out.below b15 HBa.out.lt)
  have HW := Lib.hid (HW.out.below b15 (by first | omega | (simp; done) | (simp; omega)))
  have HBw := Lib.hid (HBw.out.below b15 HBw.out.lt)
  have HG := Lib.hid (HG.out.below b15 (by first | omega | (simp; done) | (simp; omega)))
  have HBg := Lib.hid (HBg.out.below b15 HBg.out.lt)
  have HB := Lib.hid (HB.out.trans (b15.mono HB.out.size))
  clear b15
  have kBa := HBa.out.cell 0
  go_wp2_with fail
  refine (toF xs0 rfl (by omega) (HA0.out.belowLe HB.out (Nat.le_refl _)) (by have := HB.out.size; omega)).mono ?_; rintro e w16 ⟨A'16, c'16, rfl, s16, b16⟩
  clear kBa
  have z16 := b16.size
  have HBa := Lib.hid (HBa.out.below b16 HBa.out.lt)
  have HW := Lib.hid (HW.out.below b16 (by first | omega | (simp; done) | (simp; omega)))
  have HBw := Lib.hid (HBw.out.below b16 HBw.out.lt)
  have HG := Lib.hid (HG.out.below b16 (by first | omega | (simp; done) | (simp; omega)))
  have HBg := Lib.hid (HBg.out.below b16 HBg.out.lt)
  have HB := Lib.hid (HB.out.trans (b16.mono HB.out.size))
  have Ht0 := Lib.hid s16; clear s16
  clear b16
  go_wp2_with fail
  refine (toIntS xs1 rfl (by omega) (HA1.out.belowLe HB.out (Nat.le_refl _)) (by have := HB.out.size; omega)).mono ?_; rintro e w17 ⟨A'17, c'17, rfl, s17, b17⟩
  have z17 := b17.size
  have HBa := Lib.hid (HBa.out.below b17 HBa.out.lt)
  have HW := Lib.hid (HW.out.below b17 (by first | omega | (simp; done) | (simp; omega)))
  have HBw := Lib.hid (HBw.out.below b17 HBw.out.lt)
  have HG := Lib.hid (HG.out.below b17 (by first | omega | (simp; done) | (simp; omega)))
  have HBg := Lib.hid (HBg.out.below b17 HBg.out.lt)
  have Ht0 := Lib.hid (Ht0.out.below b17 (by first | omega | (simp; done) | (simp; omega)))
  have HB := Lib.hid (HB.out.trans (b17.mono HB.out.size))
  have Ht1 := Lib.hid s17; clear s17
  clear b17
  go_wp2_with fail
  refine (implRenameReads xs0 xs1 rfl rfl (by omega) (by omega) Ht0.out.rd Ht1.out.rd (by first | omega | (simp; done) | (simp; omega)) (by first | omega | (simp; done) | (simp; omega))).mono ?_; rintro e w18 ⟨A'18, c'18, rfl, s18, b18⟩
  have z18 := b18.size
  have HBa := Lib.hid (HBa.out.below b18 HBa.out.lt)
  have HW := Lib.hid (HW.out.below b18 (by first | omega | (simp; done) | (simp; omega)))
  have HBw := Lib.hid (HBw.out.below b18 HBw.out.lt)
  have HG := Lib.hid (HG.out.below b18 (by first | omega | (simp; done) | (simp; omega)))
  have HBg := Lib.hid (HBg.out.below b18 HBg.out.lt)
  have Ht0 := Lib.hid (Ht0.out.below b18 (by first | omega | (simp; done) | (simp; omega)))
  have Ht1 := Lib.hid (Ht1.out.below b18 (by first | omega | (simp; done) | (simp; omega)))
  have HB := Lib.hid (HB.out.trans (b18.mono HB.out.size))
  have HH := Lib.hid s18; clear s18
  clear b18
  have HBa := Lib.hid (HBa.out.alloc (.cells #[.slice A'18 (renameF xs0 xs1).length c'18] 29))
  have HW := Lib.hid (HW.out.alloc (.cells #[.slice A'18 (renameF xs0 xs1).length c'18] 29))
  have HBw := Lib.hid (HBw.out.alloc (.cells #[.slice A'18 (renameF xs0 xs1).length c'18] 29))
  have HG := Lib.hid (HG.out.alloc (.cells #[.slice A'18 (renameF xs0 xs1).length c'18] 29))
  have HBg := Lib.hid (HBg.out.alloc (.cells #[.slice A'18 (renameF xs0 xs1).length c'18] 29))
  have HH := Lib.hid (HH.out.alloc (.cells #[.slice A'18 (renameF xs0 xs1).length c'18] 29))
  have HB := Lib.hid (HB.out.alloc HB.out.size (.cells #[.slice A'18 (renameF xs0 xs1).length c'18] 29))
  have HBh := Lib.hid (Blk.new w18 29 #[.slice A'18 (renameF xs0 xs1).length c'18])
  have kBh := HBh.out.cell 0
  have kBw := HBw.out.cell 0
  go_wp2_with fail
  refine (eqF (renameF xs0 xs1) (renameF xs0 xs1) rfl rfl (by omega) HH.out.rd HW.out.rd (by first | omega | (simp; done) | (simp; omega)) (by first | omega | (simp; done) | (simp; omega))).mono ?_; rintro e w19 ⟨he19, b19⟩
  clear kBh kBw
  have z19 := b19.size
  rw [World.size_alloc] at z19
  have HBa := Lib.hid (HBa.out.below b19 HBa.out.lt)
  have HW := Lib.hid (HW.out.below b19 (by first | omega | (simp; done) | (simp; omega)))
  have HBw := Lib.hid (HBw.out.below b19 HBw.out.lt)
  have HG := Lib.hid (HG.out.below b19 (by first | omega | (simp; done) | (simp; omega)))
  have HBg := Lib.hid (HBg.out.below b19 HBg.out.lt)
  have HH := Lib.hid (HH.out.below b19 (by first | omega | (simp; done) | (simp; omega)))
  have HBh := Lib.hid (HBh.out.below b19 HBh.out.lt)
  have HB := Lib.hid (HB.out.trans (b19.mono HB.out.size))
  clear b19
  rw [decide_eq_true (Eq.refl _)] at he19; subst he19
  have kBg := HBg.out.cell 0
  go_wp2_with fail
  refine (heldF (by omega) (by omega) (by omega) HG.out.rd (by first | omega | (simp; done) | (simp; omega))).mono ?_; rintro e w20 ⟨rfl, b20⟩
  clear kBg
  have z20 := b20.size
  have HBa := Lib.hid (HBa.out.below b20 HBa.out.lt)
  have HW := Lib.hid (HW.out.below b20 (by first | omega | (simp; done) | (simp; omega)))
  have HBw := Lib.hid (HBw.out.below b20 HBw.out.lt)
  have HG := Lib.hid (HG.out.below b20 (by first | omega | (simp; done) | (simp; omega)))
  have HBg := Lib.hid (HBg.out.below b20 HBg.out.lt)
  have HH := Lib.hid (HH.out.below b20 (by first | omega | (simp; done) | (simp; omega)))
  have HBh := Lib.hid (HBh.out.below b20 HBh.out.lt)
  have HB := Lib.hid (HB.out.trans (b20.mono HB.out.size))
  clear b20
  go_wp2_with fail
  go_ret
  exact ⟨rfl, HB.out⟩
end Go.Proofs.Ytlinngohbghimaa
