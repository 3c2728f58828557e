/-
  laws.equalRows, where both are the same.
-/
import Derived.Test.YtmmegmefiihabaaRecQ
namespace Go.Proofs.Ytmmegmefiihabaa
open Go.RowKit

set_option maxRecDepth 100000 in
set_option maxHeartbeats 800000 in
theorem sameQ {A A' : Option Addr} {c c' n n' B B' : Nat} {w : World} (xs : List Rwx) (ln : xs.length = n) (ln' : xs.length = n') (hn : n ≤ 1099511627776) (h : RdQ w B A xs) (h' : RdQ w B' A' xs) :
    Calls Try.prog 44 #[.slice A n c, .slice A' n' c'] w (QuietBool w true) := by
  subst ln ln'
  have hl' : ((xs.length : Int) != (xs.length : Int)) = false := by simp
  go_enter Try.func44, Try.ntmps44
  go_wp2
  clear hl'
  go_loopw [5] (fun i wr => ∃ k d : Nat, k ≤ xs.length ∧ i = .int .i64 k ∧ wr = w.drewN d) (fun i _ => xs.length - (intOf i).toNat)
  case atStart => exact ⟨0, 0, Nat.zero_le _, rfl, rfl⟩
  case round =>
    obtain ⟨k, d, hk, rfl, rfl⟩ := hrel
    by_cases hlt : k < xs.length
    · obtain ⟨g, o, rfl, _, c0, c1⟩ := RdQ_at h hlt
      obtain ⟨g', o', rfl, _, e0, e1⟩ := RdQ_at h' hlt
      obtain ⟨x, hx⟩ : ∃ x, xs[k] = x := ⟨_, rfl⟩
      rw [hx] at c0 c1 e0 e1
      obtain ⟨ky, no⟩ := x
      simp only at c0 c1 e0 e1
      have q0 : (ky == ky) = true := by simp
      have q1 : (no == no) = true := by simp
      have hk0 : (0 : Int) ≤ (k : Int) := Int.natCast_nonneg _
      clear h h' hx
      go_wp2_with fail
      go_quiet (fail)
      go_wp2_with fail
      go_roundw
      case rel => exact ⟨k + 1, _, by omega, by go_num, rfl⟩
      case measure => simp [intOf]; omega
    · go_wp2_with fail
      go_ret
      exact ⟨d, rfl, rfl⟩
end Go.Proofs.Ytmmegmefiihabaa
