/-
  DrawNewKeys, DrawStaysOf, DrawMovesOf, DrawCostOf.
-/
import Derived.Test.YtmmegmefiihabaaKeysOf
namespace Go.Proofs.Ytmmegmefiihabaa
open Go.RowKit





theorem drawPatchOf {A : Option Addr} {c n : Nat} {w : World} (bs : List Int) (ln : bs.length = n) (hn : n ≤ c) (hc : c ≤ 9223372036854775807) (hx : ∀ x ∈ bs, (Lit.int .u8 x).wf = true) (hr : Rd w w.heap.size A (bytes8 bs)) :
    Calls Try.prog 32 #[.slice A n c] w (DrawnII 11 w) := by
  subst ln
  have HR := Lib.hid hr; clear hr
  have HX := Lib.hid hx; clear hx
  go_enter Try.func32, Try.ntmps32
  go_wp2_with fail
  refine (newReader bs rfl hn hc HX.out HR.out).mono ?_; rintro e w1 ⟨rfl, r1, b1, z1⟩
  have R1 := Lib.hid r1; clear r1
  have Z1 := Lib.hid z1; clear z1
  go_wp2_with fail
  refine (keysOf (by omega) R1.out).mono ?_; rintro e w2 ⟨A1, c1, xs, A2, c2, ys, rfl, hl, hl2, s2, s3, r2, t2⟩
  have HF := Lib.hid (show DrawnII 11 w (.returned (.tuple #[.slice A1 xs.length c1, .slice A2 ys.length c2])) w2 from ⟨A1, c1, xs, A2, c2, ys, rfl, hl, hl2, s2.le, s3.le, s2.rd, s3.rd, b1.trans (t2.below (by have := Z1.out; omega))⟩)
  clear s2 s3 r2 t2
  go_wp2_with fail
  go_ret2
  exact HF.out


end Go.Proofs.Ytmmegmefiihabaa
