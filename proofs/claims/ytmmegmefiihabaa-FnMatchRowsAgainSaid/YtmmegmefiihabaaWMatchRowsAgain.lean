/-
  The walk of laws.FnMatchRowsAgain.
-/
import Derived.Test.YtmmegmefiihabaaDrawMr
import Derived.Test.YtmmegmefiihabaaMatchLaw
import Derived.Test.YtmmegmefiihabaaSameQ
namespace Go.Proofs.Ytmmegmefiihabaa
open Go.RowKit

set_option maxRecDepth 100000 in
set_option maxHeartbeats 1600000 in
theorem walkFnMatchRowsAgain (A : Option Addr) (c : Nat) (bs : List Int) (w : World) (hr : Rd w w.heap.size A (bytes8 bs)) (hn : bs.length ≤ 9223372036854775807) (lc : bs.length ≤ c) (cm : c ≤ 9223372036854775807) (hx : ∀ x ∈ bs, (Lit.int .u8 x).wf = true) :
    Calls Try.prog 11 #[.slice A bs.length c] w fun e w' => e = .returned (.bool true) ∧ Below w.heap.size w w' := by
  by_cases hbig : bs.length ≤ 1048576
  · have HR := Lib.hid hr; clear hr
    have HX := Lib.hid hx; clear hx
    go_enter Try.func11, Try.ntmps11
    go_wp2_with fail
    refine (drawMatchRows bs rfl lc cm HX.out HR.out).mono ?_; rintro e w1 ⟨A1, c1, rs, nx, A2, c2, ks, rfl, hl1, hl2, hc1, hc2, r1, r2, b1⟩
    have z1 := b1.size
    have X := Lib.hid r1
    have Y := Lib.hid r2
    have B := Lib.hid b1
    clear r1 r2 b1 HR HX
    obtain ⟨os, f, hp⟩ : ∃ os f, matchF rs nx ks = (os, f) := ⟨_, _, rfl⟩
    have hol : os.length ≤ 10 := by have := matchF_len rs nx ks; rw [hp] at this; exact this
    have HP := Lib.hid hp; clear hp
    go_wp2_with fail
    refine (implMatchRows rs nx ks rfl rfl (by omega) (by omega) hc2 X.out Y.out (Nat.le_refl _) (Nat.le_refl _)).mono ?_; rw [HP.out]; rintro e w3 ⟨A3, c3, rfl, s3, b3⟩
    have z3 := b3.size
    have X := Lib.hid (X.out.below b3)
    have Y := Lib.hid (Y.out.below b3)
    have B := Lib.hid (B.out.trans (b3.mono z1))
    have O := Lib.hid s3
    clear s3 b3
    go_wp2_with fail
    refine (specMatchRows rs nx ks rfl rfl (by omega) (by omega) hc2 X.out Y.out z3 z3).mono ?_; rw [HP.out]; rintro e w4 ⟨A4, c4, rfl, s4, b4⟩
    have z4 := b4.size
    have X := Lib.hid (X.out.belowLe b4 z3)
    have Y := Lib.hid (Y.out.belowLe b4 z3)
    have B := Lib.hid (B.out.trans (b4.mono (by omega)))
    have O := Lib.hid (O.out.below b4 (Nat.le_refl _))
    have W4 := Lib.hid s4
    clear s4 b4
    go_wp2_with fail
    refine (qb (sameQ os rfl rfl (by omega) O.out.rd W4.out.rd)).mono ?_; rintro e w5 ⟨rfl, b5⟩
    have z5 := b5.size
    have Y := Lib.hid (Y.out.belowLe b5 (by omega))
    have B := Lib.hid (B.out.trans (b5.mono (by omega)))
    have O := Lib.hid ((O.out.below b5 (by omega)).mono (Nat.le_refl _) (by omega : w3.heap.size ≤ w5.heap.size))
    have W4 := Lib.hid (W4.out.below b5 (Nat.le_refl _))
    clear b5 X
    have hff : (f != f) = false := by simp
    have hff2 : (f == f) = true := by simp
    by_cases hneg : f < 0
    · go_wp2_with fail
      refine (qb (sameQ os rfl rfl (by omega) O.out.rd W4.out.rd)).mono ?_; rintro e w6 ⟨rfl, b6⟩
      have B := Lib.hid (B.out.trans (b6.mono (by omega)))
      clear b6
      go_wp2_with fail
      go_ret
      exact ⟨rfl, B.out⟩
    · have HQ := Lib.hid (match_again HP.out hneg)
      clear W4
      go_wp2_with fail
      refine (implMatchRows os f ks rfl rfl (by omega) (by omega) hc2 O.out.rd Y.out (by omega) (by omega)).mono ?_; rw [HQ.out]; rintro e w6 ⟨A6, c6, rfl, s6, b6⟩
      have z6 := b6.size
      have O := Lib.hid (O.out.below b6 (by omega))
      have B := Lib.hid (B.out.trans (b6.mono (by omega)))
      have E := Lib.hid s6
      clear s6 b6
      go_wp2_with fail
      refine (qb (sameQ os rfl rfl (by omega) E.out.rd O.out.rd)).mono ?_; rintro e w7 ⟨rfl, b7⟩
      have B := Lib.hid (B.out.trans (b7.mono (by omega)))
      clear b7
      go_wp2_with fail
      go_ret
      exact ⟨rfl, B.out⟩
  · go_enter Try.func11, Try.ntmps11
    go_wp2
    go_ret
    exact ⟨rfl, Below.refl _ _⟩
end Go.Proofs.Ytmmegmefiihabaa
