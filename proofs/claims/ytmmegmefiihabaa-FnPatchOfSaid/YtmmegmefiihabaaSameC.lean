/-
  laws.equalChanges, where both are the same.
-/
import Derived.Test.YtmmegmefiihabaaRecC
namespace Go.Proofs.Ytmmegmefiihabaa
open Go.RowKit

set_option maxRecDepth 100000 in
set_option maxHeartbeats 800000 in
theorem sameC {A A' : Option Addr} {c c' n n' B B' : Nat} {w : World} (xs : List Chg) (ln : xs.length = n) (ln' : xs.length = n') (hn : n ≤ 1099511627776) (h : RdC w B A xs) (h' : RdC w B' A' xs) :
    Calls Try.prog 33 #[.slice A n c, .slice A' n' c'] w (QuietBool w true) := by
  subst ln ln'
  have hl' : ((xs.length : Int) != (xs.length : Int)) = false := by simp
  go_enter Try.func33, Try.ntmps33
  go_wp2
  clear hl'
  go_loopw [5] (fun i wr => ∃ k d : Nat, k ≤ xs.length ∧ i = .int .i64 k ∧ wr = w.drewN d) (fun i _ => xs.length - (intOf i).toNat)
  case atStart => exact ⟨0, 0, Nat.zero_le _, rfl, rfl⟩
  case round =>
    obtain ⟨k, d, hk, rfl, rfl⟩ := hrel
    by_cases hlt : k < xs.length
    · obtain ⟨g, o, rfl, _, c0, c1, c2⟩ := RdC_at h hlt
      obtain ⟨g', o', rfl, _, e0, e1, e2⟩ := RdC_at h' hlt
      obtain ⟨x, hx⟩ : ∃ x, xs[k] = x := ⟨_, rfl⟩
      rw [hx] at c0 c1 c2 e0 e1 e2
      obtain ⟨kd, ky, aa⟩ := x
      simp only at c0 c1 c2 e0 e1 e2
      have q0 : (kd == kd) = true := by simp
      have q1 : (ky == ky) = true := by simp
      have q2 : (aa == aa) = true := by simp
      have hk0 : (0 : Int) ≤ (k : Int) := Int.natCast_nonneg _
      clear h h' hx
      go_wp2_with fail
      go_quiet (fail)
      go_wp2_with fail
      go_roundw
      case rel => exact ⟨k + 1, _, by omega, by go_num, rfl⟩
      case measure => simp [intOf]; omega
    · go_wp2_with fail
      go_ret
      exact ⟨d, rfl, rfl⟩
end Go.Proofs.Ytmmegmefiihabaa
