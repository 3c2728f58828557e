/-
  The walk of laws.FnExactFormatFormula.
-/
import Derived.Test.YtdhjejpcppmejaaDoorTextI
import Derived.Test.YtdhjejpcppmejaaDoorFormRec
import Derived.Test.YtdhjejpcppmejaaDoorToI
import Derived.Deep.RegionHeld3
import Derived.Deep.DeepFit
namespace Go.Proofs.YtdhjejpcppmejaaDoor
open Go.RowKit

set_option maxRecDepth 100000 in
set_option maxHeartbeats 3200000 in
theorem walkFnExactFormatFormula (A0 : Option Addr) (c0 : Nat) (xs0 : List Prt) (w : World) (hr0 : RdP w w.heap.size A0 xs0) (hn0 : xs0.length ≤ 9223372036854775807) (hwa : WordsAt w w.heap.size) :
    Calls Tryd.prog 3 #[.agg #[.slice A0 xs0.length c0]] w fun e w' => e = .returned (.bool true) ∧ Below w.heap.size w w' := by
  have HA0 := Lib.hid hr0; clear hr0
  have HWA := Lib.hid hwa; clear hwa
  have HB := Lib.hid (bel1P w (.cells #[.slice A0 xs0.length c0] 24))
  have HBa := Lib.hid (Blk.new w 24 #[.slice A0 xs0.length c0])
  go_enter Tryd.func3, Tryd.ntmps3
  have kBa := HBa.out.cell 0
  go_wp2_with fail
  refine (szF (by omega) (by omega) (by omega)).mono ?_; rintro e w1 ⟨⟨v0, rfl, hv0⟩, b1⟩
  clear kBa
  have z1 := b1.size
  rw [World.size_alloc] at z1
  have HBa := Lib.hid (HBa.out.below b1 HBa.out.lt)
  have HB := Lib.hid (HB.out.trans (b1.mono HB.out.size))
  clear b1
  rcases hv0 with ⟨hv00, hv0⟩ | ⟨rfl, hv0⟩
  case inr =>
    go_wp2_with fail
    go_ret
    exact ⟨rfl, HB.out⟩
  case inl =>
  have hbig0 : xs0.length ≤ 1048576 := by omega
  clear hv0
  have kBa := HBa.out.cell 0
  go_wp2_with fail
  refine (toF xs0 rfl (by omega) (HA0.out.belowLe HB.out (Nat.le_refl _)) (by have := HB.out.size; omega)).mono ?_; rintro e w2 ⟨A'2, c'2, rfl, s2, b2⟩
  clear kBa
  have z2 := b2.size
  have HBa := Lib.hid (HBa.out.below b2 HBa.out.lt)
  have HB := Lib.hid (HB.out.trans (b2.mono HB.out.size))
  have Ht0 := Lib.hid s2; clear s2
  clear b2
  go_wp2_with fail
  refine (specFormat xs0 rfl (by omega) Ht0.out.rd (by first | omega | (simp; done) | (simp; omega))).mono ?_; rintro e w3 ⟨rfl, b3⟩
  have z3 := b3.size
  have HBa := Lib.hid (HBa.out.below b3 HBa.out.lt)
  have Ht0 := Lib.hid (Ht0.out.below b3 (by first | omega | (simp; done) | (simp; omega)))
  have HB := Lib.hid (HB.out.trans (b3.mono HB.out.size))
  clear b3
  have kBa := HBa.out.cell 0
  go_wp2_with fail
  refine (toF xs0 rfl (by omega) (HA0.out.belowLe HB.out (Nat.le_refl _)) (by have := HB.out.size; omega)).mono ?_; rintro e w4 ⟨A'4, c'4, rfl, s4, b4⟩
  clear kBa
  have z4 := b4.size
  have HBa := Lib.hid (HBa.out.below b4 HBa.out.lt)
  have HB := Lib.hid (HB.out.trans (b4.mono HB.out.size))
  have Hx0 := Lib.hid s4; clear s4
  clear b4
  have HBa := Lib.hid (HBa.out.alloc (.cells #[.slice A'4 xs0.length c'4] 29))
  have Hx0 := Lib.hid (Hx0.out.alloc (.cells #[.slice A'4 xs0.length c'4] 29))
  have HB := Lib.hid (HB.out.alloc HB.out.size (.cells #[.slice A'4 xs0.length c'4] 29))
  have HBx := Lib.hid (Blk.new w4 29 #[.slice A'4 xs0.length c'4])
  have kBx := HBx.out.cell 0
  go_wp2_with fail
  refine (implFormat xs0 rfl (by omega) Hx0.out.rd (by first | omega | (simp; done) | (simp; omega)) ((HWA.out.below HB.out (Nat.le_refl _)).more (by first | omega | (simp; done) | (simp; omega)))).mono ?_; rintro e w5 ⟨rfl, b5⟩
  clear kBx
  have z5 := b5.size
  rw [World.size_alloc] at z5
  have HBa := Lib.hid (HBa.out.below b5 HBa.out.lt)
  have Hx0 := Lib.hid (Hx0.out.below b5 (by first | omega | (simp; done) | (simp; omega)))
  have HBx := Lib.hid (HBx.out.below b5 HBx.out.lt)
  have HB := Lib.hid (HB.out.trans (b5.mono HB.out.size))
  clear b5
  have KX := Lib.hid (fun (W : World) (hb : Below w5.heap.size w5 W) => (show W.cell? ⟨w4.heap.size, 0, none⟩ = some (.slice A'4 xs0.length c'4) ∧ W.cell? ⟨w.heap.size, 0, none⟩ = some (.slice A0 xs0.length c0) from ⟨(HBx.out.below hb HBx.out.lt).cell 0, (HBa.out.below hb HBa.out.lt).cell 0⟩))
  have TO := Lib.hid (fun (W : World) (hb : Below w5.heap.size w5 W) => toF (w := W) (c := c0) xs0 rfl (by omega) (HA0.out.belowLe (HB.out.trans (hb.mono HB.out.size)) (Nat.le_refl _)) (by have := (HB.out.trans (hb.mono HB.out.size)).size; exact this))
  have EQ := Lib.hid (fun (W : World) (hb : Below w5.heap.size w5 W) (lo : Nat) (A9 : Option Addr) (c9 : Nat) (s9 : SlP W lo W.heap.size A9 c9 xs0) => (show Calls Tryd.prog 8 #[.agg #[.slice A'4 xs0.length c'4], .agg #[.slice A9 xs0.length c9]] W (fun e w' => e = .returned (.bool true) ∧ Below W.heap.size W w') from by
    have h := eqF (w := W) (c := c'4) (c' := c9) xs0 xs0 rfl rfl (by omega) (Hx0.out.below hb (by first | omega | (simp; done) | (simp; omega))).rd s9.rd (by have := hb.size; first | omega | (simp at this; omega)) (Nat.le_refl _)
    rwa [decide_eq_true (Eq.refl xs0)] at h))
  have hRF := (Below.refl w5.heap.size w5).drew
  obtain ⟨kr0, kr1⟩ := KX.out _ hRF
  go_wp2_with fail
  go_region_held3 (fun w' => w'.cell? ⟨w4.heap.size, 0, none⟩ = some (.slice A'4 xs0.length c'4) ∧ w'.cell? ⟨w.heap.size, 0, none⟩ = some (.slice A0 xs0.length c0))
    (first | go_keep | exact KX.out _ hb9 | exact KX.out _ hb7 | exact KX.out _ hRF)
    ((first
      | (go_at_call 6; refine (TO.out _ hRF).mono ?_; rintro e w70 ⟨A8, c8, rfl, s8, b8⟩; have hb7 := hRF.trans (b8.mono hRF.size))
      | (go_at_call 8; refine (EQ.out _ hb7 _ _ _ s8).mono ?_; rintro e w71 ⟨rfl, b9⟩; have hb9 := hb7.trans (b9.mono hb7.size))))
  clear s8 b8 b9 hb7 hRF kr0 kr1 KX TO EQ
  have z70 := hb9.size
  have HBa := Lib.hid (HBa.out.below hb9 HBa.out.lt)
  have Hx0 := Lib.hid (Hx0.out.below hb9 (by first | omega | (simp; done) | (simp; omega)))
  have HBx := Lib.hid (HBx.out.below hb9 HBx.out.lt)
  have HB := Lib.hid (HB.out.trans (hb9.mono HB.out.size))
  clear hb9
  go_wp2_with fail
  go_ret
  exact ⟨rfl, HB.out⟩
end Go.Proofs.YtdhjejpcppmejaaDoor
