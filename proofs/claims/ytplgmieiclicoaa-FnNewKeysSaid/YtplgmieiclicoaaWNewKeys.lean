/-
  The walk of laws.FnNewKeys.
-/
import Derived.Test.YtplgmieiclicoaaKeysDraws
import Derived.Test.YtplgmieiclicoaaNewKeys
namespace Go.Proofs.Ytplgmieiclicoaa
open Go.RowKit

theorem newF_le (a b : List Int) : (newF a b).length ≤ b.length := by
  unfold newF
  split
  · exact List.length_filter_le _ _
  · simp
set_option maxRecDepth 100000 in
set_option maxHeartbeats 1600000 in
theorem walkFnNewKeys (A : Option Addr) (c : Nat) (bs : List Int) (w : World) (hr : Rd w w.heap.size A (bytes8 bs)) (hn : bs.length ≤ 9223372036854775807) (lc : bs.length ≤ c) (cm : c ≤ 9223372036854775807) (hx : ∀ x ∈ bs, (Lit.int .u8 x).wf = true) :
    Calls Try.prog 6 #[.slice A bs.length c] w fun e w' => e = .returned (.bool true) ∧ Below w.heap.size w w' := by
  by_cases hbig : bs.length ≤ 1048576
  · have HR := Lib.hid hr; clear hr
    have HX := Lib.hid hx; clear hx
    go_enter Try.func6, Try.ntmps6
    go_wp2_with fail
    refine (drawNewKeys bs rfl lc cm HX.out HR.out).mono ?_; rintro e w1 ⟨A1, c1, xs, A2, c2, ys, rfl, hl1, hl2, hc1, hc2, r1, r2, b1⟩
    have z1 := b1.size
    have X1 := Lib.hid r1
    have Y1 := Lib.hid r2
    have B1 := Lib.hid b1
    clear r1 r2 b1 HR HX
    go_wp2_with fail
    refine (implNewKeys xs ys rfl rfl (by omega) (by omega) hc1 hc2 X1.out Y1.out (Nat.le_refl _) (Nat.le_refl _)).mono ?_; rintro e w2 ⟨A3, c3, rfl, s3, b2⟩
    obtain ⟨os, hos⟩ : ∃ os, os = newF xs ys := ⟨_, rfl⟩
    rw [← hos] at s3 ⊢
    have hol : os.length ≤ 11 := by rw [hos]; exact Nat.le_trans (newF_le xs ys) hl2
    have OS := Lib.hid hos; clear hos
    have z2 := b2.size
    have OUT := Lib.hid s3
    have X := Lib.hid (X1.out.below b2)
    have Y := Lib.hid (Y1.out.below b2)
    have B := Lib.hid (B1.out.trans (b2.mono z1))
    clear s3 b2 X1 Y1 B1
    go_wp2_with fail
    refine (specNewKeys xs ys rfl rfl (by omega) (by omega) hc1 hc2 X.out Y.out z2 z2).mono ?_; rw [← OS.out]; rintro e w3 ⟨A4, c4, rfl, s4, b3⟩
    have z3 := b3.size
    have OUT := Lib.hid (OUT.out.below b3 (Nat.le_refl _))
    have X := Lib.hid (X.out.belowLe b3 z2)
    have Y := Lib.hid (Y.out.belowLe b3 z2)
    have B := Lib.hid (B.out.trans (b3.mono (Nat.le_trans z1 z2)))
    have W4 := Lib.hid s4
    clear s4 b3
    go_wp2_with fail
    refine (qb (equalInts os os rfl rfl (by omega) OUT.out.rd W4.out.rd)).mono ?_; rw [decide_eq_true (Eq.refl os)]; rintro e w4 ⟨rfl, b4⟩
    have z4 := b4.size
    have OUT := Lib.hid (OUT.out.below b4 (by omega))
    have X := Lib.hid (X.out.belowLe b4 (by omega))
    have Y := Lib.hid (Y.out.belowLe b4 (by omega))
    have B := Lib.hid (B.out.trans (b4.mono (by omega)))
    clear b4 W4
    go_wp2_with fail
    refine (implValidKeys xs rfl (by omega) hc1 X.out).mono ?_; rintro e w5 ⟨rfl, rfl⟩
    cases hv1 : vkB xs
    · go_wp2_with fail
      refine (specNewKeys xs ys rfl rfl (by omega) (by omega) hc1 hc2 X.out Y.out (by omega) (by omega)).mono ?_; rw [← OS.out]; rintro e w6 ⟨A7, c7, rfl, s7, b6⟩
      have z6 := b6.size
      have OUT := Lib.hid (OUT.out.below b6 (by omega))
      have B := Lib.hid (B.out.trans (b6.mono (by omega)))
      have W7 := Lib.hid s7
      clear s7 b6
      go_wp2_with fail
      refine (qb (equalInts os os rfl rfl (by omega) OUT.out.rd W7.out.rd)).mono ?_; rw [decide_eq_true (Eq.refl os)]; rintro e w8 ⟨rfl, b8⟩
      have B := Lib.hid (B.out.trans (b8.mono (by omega)))
      clear b8
      go_wp2_with fail
      go_ret
      exact ⟨rfl, B.out⟩
    · have HV1 := Lib.hid hv1; clear hv1
      go_wp2_with fail
      refine (implValidKeys ys rfl (by omega) hc2 Y.out).mono ?_; rintro e w5 ⟨rfl, rfl⟩
      cases hv2 : vkB ys
      · go_wp2_with fail
        refine (specNewKeys xs ys rfl rfl (by omega) (by omega) hc1 hc2 X.out Y.out (by omega) (by omega)).mono ?_; rw [← OS.out]; rintro e w6 ⟨A7, c7, rfl, s7, b6⟩
        have z6 := b6.size
        have OUT := Lib.hid (OUT.out.below b6 (by omega))
        have B := Lib.hid (B.out.trans (b6.mono (by omega)))
        have W7 := Lib.hid s7
        clear s7 b6
        go_wp2_with fail
        refine (qb (equalInts os os rfl rfl (by omega) OUT.out.rd W7.out.rd)).mono ?_; rw [decide_eq_true (Eq.refl os)]; rintro e w8 ⟨rfl, b8⟩
        have B := Lib.hid (B.out.trans (b8.mono (by omega)))
        clear b8
        go_wp2_with fail
        go_ret
        exact ⟨rfl, B.out⟩
      · have HV2 := Lib.hid hv2; clear hv2
        have hnew : os = missF ys xs := by rw [OS.out]; unfold newF; rw [HV1.out, HV2.out]; rfl
        have HN := Lib.hid hnew; clear hnew
        go_wp2_with fail
        go_loopw [6] (fun i wr => ∃ k : Nat, k ≤ ys.length ∧ i = .int .i64 k ∧ SlI wr w1.heap.size w2.heap.size A3 c3 os ∧ RdI wr w1.heap.size A1 xs ∧ RdI wr w1.heap.size A2 ys ∧ Below w.heap.size w wr ∧ w2.heap.size ≤ wr.heap.size) (fun i _ => ys.length - (intOf i).toNat)
        case atStart => exact ⟨0, Nat.zero_le _, rfl, OUT.out, X.out, Y.out, B.out, by omega⟩
        case round =>
          obtain ⟨k, hk, rfl, ho, hx', hy', hb', hz'⟩ := hrel
          clear OUT X Y B
          have OUT := Lib.hid ho; clear ho
          have X := Lib.hid hx'; clear hx'
          have Y := Lib.hid hy'; clear hy'
          have B := Lib.hid hb'; clear hb'
          by_cases hlt : k < ys.length
          · obtain ⟨ad, rfl, _, hc⟩ := Y.out.at_ hlt
            have hcell := hc k hlt
            have hmem : memB ys[k] os = !memB ys[k] xs := by
              rw [HN.out]
              unfold missF
              have hy := List.getElem_mem hlt
              cases hm : memB ys[k] xs
              · simp only [memB, List.mem_filter, Bool.not_false, decide_eq_true_eq]
                exact ⟨hy, by simpa [memB] using hm⟩
              · simp only [memB, List.mem_filter, Bool.not_true, decide_eq_false_iff_not, not_and]
                intro _ h; simp only [memB] at hm; simp [hm] at h
            obtain ⟨x, hxk⟩ : ∃ x, ys[k] = x := ⟨_, rfl⟩
            rw [hxk] at hcell hmem
            clear hc hxk
            obtain ⟨mv, hmv⟩ : ∃ mv, memB x xs = mv := ⟨_, rfl⟩
            have q1 := fun m => quiet_left (n := m) (w := wr) (isIn (x := x) (c := c3) os rfl (by omega) (OUT.out.rd.drewN m))
            have q2 := fun m => quiet_left (n := m) (w := wr) (isIn (x := x) (c := c1) xs rfl (by omega) (X.out.drewN m))
            rw [hmem, hmv] at q1
            rw [hmv] at q2
            have Q1 := Lib.hid q1
            have Q2 := Lib.hid q2
            clear q1 q2 hmem hmv
            cases mv <;>
            ( go_wp2_with fail
              go_quiet ((first | (go_at_call 26; with_reducible exact Q1.out _) | (go_at_call 26; with_reducible exact Q2.out _)))
              go_wp2_with fail
              go_roundw
              case rel => exact ⟨k + 1, by omega, by go_num, OUT.out.drewN _, X.out.drewN _, Y.out.drewN _, below_drewN B.out _, hz'⟩
              case measure => simp [intOf]; omega )
          · go_wp2_with fail
            refine (within os ys rfl rfl (by omega) (by omega) OUT.out.rd Y.out).mono ?_
            have hw : withinB os ys = true := withinB_iff.2 fun x hx => by rw [HN.out] at hx; exact (List.mem_filter.1 hx).1
            rw [hw]
            rintro e w9 ⟨rfl, rfl⟩
            clear hw
            go_wp2_with fail
            have hnn : newF xs xs = [] := by
              unfold newF
              rw [HV1.out]
              show missF xs xs = []
              unfold missF
              rw [List.filter_eq_nil_iff]
              intro x hx; simp [memB, hx]
            refine (implNewKeys xs xs rfl rfl (by omega) (by omega) hc1 hc1 X.out X.out (by omega) (by omega)).mono ?_; rw [hnn]; rintro e w10 ⟨A10, c10, rfl, s10, b10⟩
            have B := Lib.hid (B.out.trans (b10.mono (by omega)))
            clear s10 b10 hnn
            go_wp2_with fail
            go_ret
            exact ⟨rfl, B.out⟩
  · go_enter Try.func6, Try.ntmps6
    go_wp2
    go_ret
    exact ⟨rfl, Below.refl _ _⟩
end Go.Proofs.Ytplgmieiclicoaa
