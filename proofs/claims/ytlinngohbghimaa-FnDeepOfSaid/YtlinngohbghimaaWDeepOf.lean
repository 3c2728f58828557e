/-
  The walk of laws.FnDeepOf.
-/
import Derived.Test.YtlinngohbghimaaSomeF
import Derived.Test.YtlinngohbghimaaDeepLaw
import Derived.Test.YtlinngohbghimaaOrder
namespace Go.Proofs.Ytlinngohbghimaa
open Go.RowKit

set_option maxRecDepth 100000 in
set_option maxHeartbeats 1600000 in
theorem walkFnDeepOf (A : Option Addr) (c : Nat) (bs : List Int) (w : World) (hr : Rd w w.heap.size A (bytes8 bs)) (hn : bs.length ≤ 9223372036854775807) (lc : bs.length ≤ c) (cm : c ≤ 9223372036854775807) (hx : ∀ x ∈ bs, (Lit.int .u8 x).wf = true) :
    Calls Try.prog 5 #[.slice A bs.length c] w fun e w' => e = .returned (.bool true) ∧ Below w.heap.size w w' := by
  by_cases hbig : bs.length ≤ 1048576
  · have HR := Lib.hid hr; clear hr
    have HX := Lib.hid hx; clear hx
    go_enter Try.func5, Try.ntmps5
    go_wp2_with fail
    refine (drawDeepOf bs rfl lc cm HX.out HR.out).mono ?_; rintro e w1 ⟨A1, c1, ps, rfl, hp1, hp2, r1, b1⟩
    have z1 := b1.size
    obtain ⟨n, hn'⟩ : ∃ n, ps.length = n := ⟨_, rfl⟩
    rw [hn'] at hp1 hp2 ⊢
    have HN := Lib.hid hn'
    have X := Lib.hid ((r1.below ((Below.refl _ _).alloc (Nat.le_refl _) (.cells #[.slice A1 n c1] 29))))
    have BK := Lib.hid (Blk.new w1 29 #[.slice A1 n c1])
    have B := Lib.hid (b1.alloc z1 (.cells #[.slice A1 n c1] 29))
    have hcell := BK.out.cell 0
    have DL := Lib.hid (deep_law ps)
    clear r1 b1 HR HX hn'
    go_wp2_with fail
    refine (implDeepOf ps HN.out (by omega) X.out (by simp)).mono ?_; rintro e w3 ⟨rfl, b3⟩
    have z3 := b3.size
    simp only [World.size_alloc] at z3
    have X := Lib.hid (X.out.belowLe b3 (by simp))
    have BK := Lib.hid (BK.out.below b3 BK.out.lt)
    have B := Lib.hid (B.out.trans (b3.mono (by simp; omega)))
    have hcell := BK.out.cell 0
    clear b3
    obtain ⟨d, hd⟩ : ∃ d, deepF ps = d := ⟨_, rfl⟩
    rw [hd] at DL ⊢
    have HD := Lib.hid hd; clear hd
    go_wp2_with fail
    refine (specDeepOf ps HN.out (by omega) X.out (by omega)).mono ?_; rw [HD.out]; rintro e w4 ⟨rfl, b4⟩
    have z4 := b4.size
    have X := Lib.hid (X.out.belowLe b4 (by omega))
    have BK := Lib.hid (BK.out.below b4 BK.out.lt)
    have B := Lib.hid (B.out.trans (b4.mono (by omega)))
    have hcell := BK.out.cell 0
    clear b4
    have hff : (d != d) = false := by simp
    rcases DL.out with ⟨h1, h2⟩ | ⟨h1, h2, h3, h4, h5, h6, h7⟩
    · have hneg : d < 0 := by omega
      clear h1 h2 DL
      go_wp2_with fail
      refine (specDeepOf ps HN.out (by omega) X.out (by omega)).mono ?_; rw [HD.out]; rintro e w5 ⟨rfl, b5⟩
      have B := Lib.hid (B.out.trans (b5.mono (by omega)))
      have hdd : (d == d) = true := by simp
      clear b5
      go_wp2_with fail
      go_ret
      exact ⟨ret_bool (by simp), B.out⟩
    · have hneg : ¬ d < 0 := by omega
      have hge : (1 : Int) ≤ d := h2
      have hle : d ≤ (n : Int) := by have := HN.out; omega
      have H7 := Lib.hid h7
      have H6 := Lib.hid h6
      have H5 := Lib.hid h5
      clear h1 h2 h3 h4 h5 h6 h7 DL
      go_wp2_with fail
      refine (implOrderParts ps HN.out (by omega) X.out (by omega)).mono ?_; rintro e w5 ⟨A5, c5, rfl, s5, b5⟩
      have z5 := b5.size
      have BK := Lib.hid (BK.out.below b5 BK.out.lt)
      have B := Lib.hid (B.out.trans (b5.mono (by omega)))
      have S := Lib.hid s5
      have hcell := BK.out.cell 0
      clear b5 s5
      go_wp2_with fail
      refine (implDeepOf (orderF ps) rfl (by rw [H5.out, HN.out]; omega) S.out.rd (Nat.le_refl _)).mono ?_; rw [H6.out]; rintro e w6 ⟨rfl, b6⟩
      have BK := Lib.hid (BK.out.below b6 BK.out.lt)
      have BF := Lib.hid (B.out.trans (b6.mono (by omega)))
      have hcell := BK.out.cell 0
      have hdd : (d == d) = true := by simp
      clear b6
      by_cases hd1 : d = 1
      · have hn1 : n = 1 := by have := H7.out.1 hd1; rw [HN.out] at this; exact this
        subst hd1; subst hn1
        clear H7 hneg hge hle hff
        go_wp2_with fail
        go_ret
        exact ⟨ret_bool (by simp), BF.out⟩
      · have hn1 : ¬ n = 1 := fun h => hd1 (H7.out.2 (by rw [HN.out]; exact h))
        have e1 : (d == 1) = false := by rw [beq_eq_false_iff_ne]; exact hd1
        have e2 : ((n : Int) == 1) = false := by rw [beq_eq_false_iff_ne]; omega
        clear H7 hd1 hn1
        go_wp2_with fail
        go_ret
        exact ⟨ret_bool (by simp), BF.out⟩
  · clear hr hx
    go_enter Try.func5, Try.ntmps5
    go_wp2_with fail
    go_ret
    exact ⟨rfl, Below.refl _ _⟩
end Go.Proofs.Ytlinngohbghimaa
