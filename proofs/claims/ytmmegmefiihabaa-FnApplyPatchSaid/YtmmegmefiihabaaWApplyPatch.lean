/-
  The walk of laws.FnApplyPatch.
-/
import Derived.Test.YtmmegmefiihabaaDrawAp
import Derived.Test.YtmmegmefiihabaaApplyImpl
import Derived.Test.YtmmegmefiihabaaApplyLaw
namespace Go.Proofs.Ytmmegmefiihabaa
open Go.RowKit

set_option maxRecDepth 100000 in
set_option maxHeartbeats 1600000 in
theorem walkFnApplyPatch (A : Option Addr) (c : Nat) (bs : List Int) (w : World) (hr : Rd w w.heap.size A (bytes8 bs)) (hn : bs.length ≤ 9223372036854775807) (lc : bs.length ≤ c) (cm : c ≤ 9223372036854775807) (hx : ∀ x ∈ bs, (Lit.int .u8 x).wf = true) :
    Calls Try.prog 5 #[.slice A bs.length c] w fun e w' => e = .returned (.bool true) ∧ Below w.heap.size w w' := by
  by_cases hbig : bs.length ≤ 1048576
  · have HR := Lib.hid hr; clear hr
    have HX := Lib.hid hx; clear hx
    go_enter Try.func5, Try.ntmps5
    go_wp2_with fail
    refine (drawApplyPatch bs rfl lc cm HX.out HR.out).mono ?_; rintro e w1 ⟨A1, c1, xs, A2, c2, cs, rfl, hl1, hl2, hc1, hc2, r1, r2, b1⟩
    have z1 := b1.size
    have X := Lib.hid r1
    have Y := Lib.hid r2
    have B := Lib.hid b1
    clear r1 r2 b1 HR HX
    obtain ⟨os, ok, hp⟩ : ∃ os ok, applyF xs cs = (os, ok) := ⟨_, _, rfl⟩
    have hol : os.length ≤ 10 := by have := applyF_len xs cs; rw [hp] at this; exact this
    have HP := Lib.hid hp; clear hp
    go_wp2_with fail
    refine (implApplyPatch xs cs rfl rfl (by omega) (by omega) hc1 X.out Y.out (Nat.le_refl _) (Nat.le_refl _)).mono ?_; rw [HP.out]; rintro e w3 ⟨A3, c3, rfl, s3, b3⟩
    have z3 := b3.size
    have X := Lib.hid (X.out.below b3)
    have Y := Lib.hid (Y.out.below b3)
    have B := Lib.hid (B.out.trans (b3.mono z1))
    have O := Lib.hid s3
    clear s3 b3
    go_wp2_with fail
    refine (specApplyPatch xs cs rfl rfl (by omega) (by omega) hc1 X.out Y.out z3 z3).mono ?_; rw [HP.out]; rintro e w4 ⟨A4, c4, rfl, s4, b4⟩
    have z4 := b4.size
    have X := Lib.hid (X.out.belowLe b4 z3)
    have Y := Lib.hid (Y.out.belowLe b4 z3)
    have B := Lib.hid (B.out.trans (b4.mono (by omega)))
    have O := Lib.hid (O.out.below b4 (Nat.le_refl _))
    have W4 := Lib.hid s4
    clear s4 b4
    go_wp2_with fail
    refine (qb (equalInts os os rfl rfl (by omega) O.out.rd W4.out.rd)).mono ?_; rw [decide_eq_true (Eq.refl os)]; rintro e w5 ⟨rfl, b5⟩
    have z5 := b5.size
    have X := Lib.hid (X.out.belowLe b5 (by omega))
    have Y := Lib.hid (Y.out.belowLe b5 (by omega))
    have B := Lib.hid (B.out.trans (b5.mono (by omega)))
    have O := Lib.hid ((O.out.below b5 (by omega)).mono (Nat.le_refl _) (by omega : w3.heap.size ≤ w5.heap.size))
    have W4 := Lib.hid (W4.out.below b5 (Nat.le_refl _))
    clear b5
    cases ok
    case false =>
      go_wp2_with fail
      refine (qb (equalInts os os rfl rfl (by omega) O.out.rd W4.out.rd)).mono ?_; rw [decide_eq_true (Eq.refl os)]; rintro e w6 ⟨rfl, b6⟩
      have B := Lib.hid (B.out.trans (b6.mono (by omega)))
      clear b6
      go_wp2_with fail
      go_ret
      exact ⟨rfl, B.out⟩
    case true =>
      clear W4
      by_cases hcz : cs.length = 0
      · have hcs : cs = [] := List.eq_nil_of_length_eq_zero hcz
        have hos : os = xs := by
          obtain ⟨_, _, hg, _⟩ := applyF_ok HP.out
          rw [hcs] at hg
          exact (Option.some.inj hg).symm
        have HO := Lib.hid hos
        clear hcs hos
        go_wp2_with fail
        refine (qb (equalInts os xs rfl rfl (by omega) O.out.rd X.out)).mono ?_; rw [decide_eq_true HO.out]; rintro e w6 ⟨rfl, b6⟩
        have B := Lib.hid (B.out.trans (b6.mono (by omega)))
        clear b6
        go_wp2_with fail
        go_ret
        exact ⟨rfl, B.out⟩
      · obtain ⟨e1, e2⟩ := apply_early HP.out (fun h => hcz (by rw [h]; rfl))
        obtain ⟨n1, hn1⟩ : ∃ n1, cs.length = n1 + 1 := ⟨cs.length - 1, by omega⟩
        have hn1' : cs.length - 1 = n1 := by omega
        rw [hn1'] at e1 e2
        have hne0 : ((cs.length : Int) == 0) = false := by rw [beq_eq_false_iff_ne]; omega
        have ew1 : IntKind.i64.wrap ((cs.length : Int) - 1) = (n1 : Int) := by rw [show (cs.length : Int) - 1 = (n1 : Int) by omega]; exact IntWalk.i64_in _ (by omega)
        have et1 : ((n1 : Int)).toNat = n1 := by omega
        have el1 : (n1 : Int) ≤ (c2 : Int) := by omega
        have el0 : (0 : Int) ≤ (n1 : Int) := by omega
        have el2 : (n1 : Int) ≤ (cs.length : Int) := by omega
        have hcc : ¬ c2 = n1 := by omega
        have htl : (cs.take n1).length = n1 := by rw [List.length_take]; omega
        have hdl : (cs.drop n1).length = 1 := by rw [List.length_drop]; omega
        obtain ⟨es, p, hep⟩ : ∃ es p, applyF xs (cs.take n1) = (es, p) := ⟨_, _, rfl⟩
        rw [hep] at e1 e2
        obtain ⟨ls, q, hlq⟩ : ∃ ls q, applyF es (cs.drop n1) = (ls, q) := ⟨_, _, rfl⟩
        have hes : es.length ≤ 10 := by have := applyF_len xs (cs.take n1); rw [hep] at this; exact this
        have hls : ls.length ≤ 10 := by have := applyF_len es (cs.drop n1); rw [hlq] at this; exact this
        rw [hlq] at e1 e2
        have hqp : q = p := e1
        subst hqp
        have hle : q = true → ls = os := e2
        obtain ⟨g2, o2, hA2, -, -⟩ := RdC_at Y.out (k := 0) (by omega)
        subst hA2
        have HD := fun (W : World) (s : RdC W w1.heap.size (some ⟨g2, o2, none⟩) cs) => (show RdC W w1.heap.size (some ⟨g2, o2 + n1 * 3, none⟩) (cs.drop n1) from by
          have h2 := RdC.dropAt (k := n1) (c := c2) s (fun _ => hcc)
          rw [if_neg hcc] at h2
          have e : (⟨g2, o2, none⟩ : Addr).add (n1 * 3) = ⟨g2, o2 + n1 * 3, none⟩ := by by_cases h0 : n1 * 3 = 0 <;> simp [Addr.add, h0]
          rw [Option.map_some, e] at h2
          exact h2)
        have CA := Lib.hid (fun (W : World) (c : Nat) (r : RdI W w1.heap.size A1 xs) (s : RdC W w1.heap.size (some ⟨g2, o2, none⟩) cs) (hz : w1.heap.size ≤ W.heap.size) => (show Calls Try.prog 13 #[.slice A1 xs.length c1, .slice (some ⟨g2, o2, none⟩) n1 c] W (RetP (es, q) W) from by
          have := implApplyPatch (c := c1) (c' := c) xs (cs.take n1) rfl htl (by omega) (by omega) hc1 r (RdR.take kC s n1) hz hz
          rw [hep] at this; exact this))
        have CB := Lib.hid (fun (W : World) (A : Option Addr) (c c' : Nat) (hc : es.length ≤ c) (B : Nat) (r : RdI W B A es) (s : RdC W w1.heap.size (some ⟨g2, o2, none⟩) cs) (hB : B ≤ W.heap.size) (hz : w1.heap.size ≤ W.heap.size) => (show Calls Try.prog 13 #[.slice A es.length c, .slice (some ⟨g2, o2 + n1 * 3, none⟩) 1 c'] W (RetP (ls, q) W) from by
          have := implApplyPatch (A' := some ⟨g2, o2 + n1 * 3, none⟩) (c := c) (c' := c') es (cs.drop n1) rfl hdl (by omega) (by omega) hc r (HD W s) hB hz
          rw [hlq] at this; exact this))
        have HQ := Lib.hid hle
        have HY := Lib.hid (applyF_ok HP.out).2.2.2
        clear hep hlq e1 e2 hle hn1' hcz hdl htl HD
        go_wp2_with fail
        refine (CA.out _ _ X.out Y.out (by omega)).mono ?_; rintro e w6 ⟨A6, c6, rfl, s6, b6⟩
        have z6 := b6.size
        have X := Lib.hid (X.out.belowLe b6 (by omega))
        have Y := Lib.hid (Y.out.belowLe b6 (by omega))
        have O := Lib.hid (O.out.below b6 (by omega))
        have B := Lib.hid (B.out.trans (b6.mono (by omega)))
        have E := Lib.hid s6
        clear s6 b6 CA
        go_wp2_with fail
        refine (CB.out _ _ _ _ E.out.le _ E.out.rd Y.out (Nat.le_refl _) (by omega)).mono ?_; rintro e w7 ⟨A7, c7, rfl, s7, b7⟩
        have z7 := b7.size
        have O := Lib.hid (O.out.below b7 (by omega))
        have B := Lib.hid (B.out.trans (b7.mono (by omega)))
        have L := Lib.hid s7
        clear s7 b7 CB
        cases q
        · go_wp2_with fail
          refine (implValidKeys os rfl (by omega) O.out.le O.out.rd).mono ?_; rw [HY.out]; rintro e w8 ⟨rfl, rfl⟩
          go_wp2_with fail
          go_ret
          exact ⟨rfl, B.out⟩
        · go_wp2_with fail
          refine (qb (equalInts ls os rfl rfl (by omega) L.out.rd O.out.rd)).mono ?_; rw [decide_eq_true (HQ.out trivial)]; rintro e w8 ⟨rfl, b8⟩
          have O := Lib.hid (O.out.below b8 (by omega))
          have B := Lib.hid (B.out.trans (b8.mono (by omega)))
          clear b8
          go_wp2_with fail
          refine (implValidKeys os rfl (by omega) O.out.le O.out.rd).mono ?_; rw [HY.out]; rintro e w9 ⟨rfl, rfl⟩
          go_wp2_with fail
          go_ret
          exact ⟨rfl, B.out⟩
  · go_enter Try.func5, Try.ntmps5
    go_wp2
    go_ret
    exact ⟨rfl, Below.refl _ _⟩
end Go.Proofs.Ytmmegmefiihabaa
