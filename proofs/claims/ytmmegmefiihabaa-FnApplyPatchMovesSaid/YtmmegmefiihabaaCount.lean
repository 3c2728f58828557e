/-
  laws.countChanges.
-/
import Derived.Test.YtmmegmefiihabaaApplyLaw
namespace Go.Proofs.Ytmmegmefiihabaa
open Go.RowKit

set_option maxHeartbeats 400000 in
theorem countChanges {A : Option Addr} {c n B : Nat} {w : World} {kd : Int} (xs : List Chg) (ln : xs.length = n) (hn : n ≤ 1099511627776) (h : RdC w B A xs) :
    Calls Try.prog 16 #[.slice A n c, .int .i64 kd] w fun e w' => e = .returned (.int .i64 ((cntF kd xs : Nat) : Int)) ∧ w = w' := by
  subst ln
  have H := Lib.hid h; clear h
  go_enter Try.func16, Try.ntmps16
  go_wp2_with fail
  go_loopw [5, 6] (fun nv i wr => wr = w ∧ ∃ k : Nat, k ≤ xs.length ∧ i = .int .i64 k ∧ nv = .int .i64 (cntF kd (xs.take k) : Nat)) (fun _ i _ => xs.length - (intOf i).toNat)
  case atStart => exact ⟨rfl, 0, Nat.zero_le _, rfl, rfl⟩
  case round =>
    obtain ⟨rfl, k, hk, rfl, rfl⟩ := hrel
    by_cases hlt : k < xs.length
    · obtain ⟨g, o, rfl, _, c0, c1, c2⟩ := RdC_at H.out hlt
      have hcm : cntF kd (xs.take k) ≤ (xs.take k).length := List.length_filter_le _ _
      have hst : cntF kd (xs.take (k + 1)) = cntF kd (xs.take k) + if xs[k].kd == kd then 1 else 0 := by
        unfold cntF
        rw [List.take_succ_eq_append_getElem hlt, List.filter_append, List.length_append]
        congr 1
        cases hq : xs[k].kd == kd <;> simp [hq]
      rw [List.length_take] at hcm
      obtain ⟨x, hx⟩ : ∃ x, xs[k] = x := ⟨_, rfl⟩
      rw [hx] at c0 c1 c2 hst
      obtain ⟨kx, ky, aa⟩ := x
      simp only at c0 c1 c2 hst
      have HS := Lib.hid hst
      obtain ⟨cn, hcn⟩ : ∃ cn, cntF kd (xs.take k) = cn := ⟨_, rfl⟩
      rw [hcn] at HS hcm ⊢
      have hk0 : (0 : Int) ≤ (k : Int) := Int.natCast_nonneg _
      clear hx hcn hst
      cases hq : kx == kd
      · rw [hq] at HS
        go_wp2_with fail
        go_roundw
        case rel => exact ⟨trivial, k + 1, by omega, by go_num, by rw [HS.out]; go_num⟩
        case measure => simp [intOf]; omega
      · rw [hq] at HS
        go_wp2_with fail
        go_roundw
        case rel => exact ⟨trivial, k + 1, by omega, by go_num, by rw [HS.out]; go_num⟩
        case measure => simp [intOf]; omega
    · have hkl : k = xs.length := by omega
      have e4 : cntF kd (xs.take k) = cntF kd xs := by rw [hkl, List.take_length]
      rw [e4]
      clear e4 hkl
      go_wp2_with fail
      go_ret
      exact ⟨rfl, rfl⟩
end Go.Proofs.Ytmmegmefiihabaa
