/-
  laws.equalOwners, where they are the same.
-/
import Derived.Test.YtnlbmiangbahgaaOwnMark
namespace Go.Proofs.Ytnlbmiangbahgaa
open Go.RowKit

set_option maxRecDepth 100000 in
set_option maxHeartbeats 1600000 in
theorem sameOwners {A A' : Option Addr} {c c' n B B' : Nat} {w : World} (os : List Own) (ln : os.length = n) (hn : n ≤ 1099511627776) (hm : ∀ o ∈ os, o.cl.length ≤ 9223372036854775807 ∧ o.cx.length ≤ 9223372036854775807) (h : RdO w B A os) (h' : RdO w B' A' os) :
    Calls Try.prog 12 #[.slice A n c, .slice A' n c'] w (QuietBool w true) := by
  subst ln
  have HM := Lib.hid hm; clear hm
  have hl' : ((os.length : Int) != (os.length : Int)) = false := by simp
  go_enter Try.func12, Try.ntmps12
  go_wp2
  clear hl'
  go_loopw [5] (fun i wr => ∃ k d : Nat, k ≤ os.length ∧ i = .int .i64 k ∧ wr = w.drewN d) (fun i _ => os.length - (intOf i).toNat)
  case atStart => exact ⟨0, 0, Nat.zero_le _, rfl, rfl⟩
  case round =>
    obtain ⟨k, d, hk, rfl, rfl⟩ := hrel
    by_cases hlt : k < os.length
    · obtain ⟨g, o, hd, rfl, _, ⟨c0, c1, c2, c3⟩, q1, q2, q3, q5⟩ := h.at_ hlt
      obtain ⟨g', o', hd', rfl, _, ⟨c0', c1', c2', c3'⟩, q1', q2', q3', q5'⟩ := h'.at_ hlt
      obtain ⟨hm1, hm2⟩ := HM.out _ (List.getElem_mem hlt)
      obtain ⟨x, hx⟩ : ∃ x, os[k] = x := ⟨_, rfl⟩
      rw [hx] at c0 c1 c2 c3 q1 q2 q3 q5 hm1 hm2
      rw [hx] at c0' c1' c2' c3' q1' q2' q3' q5'
      obtain ⟨p, op, cl, cx⟩ := x
      obtain ⟨clA, clC, cxA, cxC⟩ := hd
      obtain ⟨clA', clC', cxA', cxC'⟩ := hd'
      simp only at c0 c1 c2 c3 q1 q2 hm1 hm2 c0' c1' c2' c3' q1' q2'
      have e1 := fun m => quiet_bool (n := m) (w := w.drewN d) (equalInts (c := clC) (c' := clC') cl cl rfl rfl hm1 (q1.drewN d |>.drewN m) (q1'.drewN d |>.drewN m))
      have e2 := fun m => quiet_bool (n := m) (w := w.drewN d) (equalInts (c := cxC) (c' := cxC') cx cx rfl rfl hm2 (q2.drewN d |>.drewN m) (q2'.drewN d |>.drewN m))
      simp only [decide_true, World.drewN_drewN] at e1 e2
      have E1 := Lib.hid e1
      have E2 := Lib.hid e2
      have hp : (p != p) = false := by simp
      have ho : (op == op) = true := by simp
      clear e1 e2 h h' q1 q2 q3 q5 q1' q2' q3' q5' hx hm1 hm2
      go_wp2_with fail
      go_quiet ((first | (go_at_call 15; with_reducible exact E1.out _) | (go_at_call 15; with_reducible exact E2.out _)))
      go_wp2_with fail
      go_roundw
      case rel => exact ⟨k + 1, _, by omega, by go_num, rfl⟩
      case measure => simp [intOf]; omega
    · go_wp2_with fail
      go_ret
      exact ⟨d, rfl, rfl⟩
end Go.Proofs.Ytnlbmiangbahgaa

