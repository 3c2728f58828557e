/-
  impl.RunsOf, spec.RunsOf, laws.eqIntS.
-/
import Derived.Test.YthfkmlpnefpipaaMem
import Derived.Test.YthfkmlpnefpipaaRows
namespace Go.Proofs.Ythfkmlpnefpipaa
open Go.RowKit

def countI (n : Int) (xs : List Int) : Nat := xs.count n
theorem countI_le (n : Int) (xs : List Int) (k : Nat) : countI n (xs.take k) ≤ k := by
  unfold countI; exact Nat.le_trans (List.count_le_length) (by simp; omega)
theorem countI_snoc (n : Int) (xs : List Int) (k : Nat) (hk : k < xs.length) : countI n (xs.take (k + 1)) = countI n (xs.take k) + if xs[k] = n then 1 else 0 := by
  unfold countI
  rw [List.take_succ_eq_append_getElem hk, List.count_append]
  simp [List.count_cons]

set_option maxHeartbeats 400000 in
theorem implRunsOf {A : Option Addr} {c n B : Nat} {w : World} {x : Int} (xs : List Int) (ln : xs.length = n) (hn : n ≤ 9223372036854775807) (h : RdI w B A xs) :
    Calls Try.prog 8 #[.slice A n c, .int .i64 x] w fun e w' => e = .returned (.int .i64 (countI x xs)) ∧ w = w' := by
  subst ln
  go_enter Try.func8, Try.ntmps8
  go_wp2
  go_loop [5, 10] (fun s i => ∃ k : Nat, k ≤ xs.length ∧ i = .int .i64 k ∧ s = .int .i64 (countI x (xs.take k))) (fun _ i => xs.length - (intOf i).toNat)
  case atStart => exact ⟨0, Nat.zero_le _, rfl, rfl⟩
  case round =>
    obtain ⟨k, hk, rfl, rfl⟩ := hrel
    have hcl := countI_le x xs k
    by_cases hlt : k < xs.length
    · obtain ⟨ad, rfl, _, hc⟩ := h.at_ hlt
      have hcell := hc k hlt
      have HS := Lib.hid (countI_snoc x xs k hlt)
      clear hc h
      go_wp2
      all_goals
        go_round
        case rel => exact ⟨k + 1, by omega, by go_num, by rw [HS.out]; simp_all⟩
        case measure => simp [intOf]; omega
    · go_wp2
      go_ret
      exact ⟨ret_int (by rw [List.take_of_length_le (by omega)]), rfl⟩

set_option maxHeartbeats 400000 in
theorem specRunsOf {A : Option Addr} {c n B : Nat} {w : World} {x : Int} (xs : List Int) (ln : xs.length = n) (hn : n ≤ 9223372036854775807) (h : RdI w B A xs) :
    Calls Try.prog 6 #[.slice A n c, .int .i64 x] w fun e w' => e = .returned (.int .i64 (countI x xs)) ∧ w = w' := by
  subst ln
  go_enter Try.func6, Try.ntmps6
  go_wp2
  go_loop [5, 6] (fun s i => ∃ k : Nat, k ≤ xs.length ∧ i = .int .i64 k ∧ s = .int .i64 (countI x (xs.take k))) (fun _ i => xs.length - (intOf i).toNat)
  case atStart => exact ⟨0, Nat.zero_le _, rfl, rfl⟩
  case round =>
    obtain ⟨k, hk, rfl, rfl⟩ := hrel
    have hcl := countI_le x xs k
    by_cases hlt : k < xs.length
    · obtain ⟨ad, rfl, _, hc⟩ := h.at_ hlt
      have hcell := hc k hlt
      have HS := Lib.hid (countI_snoc x xs k hlt)
      clear hc h
      go_wp2
      all_goals
        go_round
        case rel => exact ⟨k + 1, by omega, by go_num, by rw [HS.out]; simp_all⟩
        case measure => simp [intOf]; omega
    · go_wp2
      go_ret
      exact ⟨ret_int (by rw [List.take_of_length_le (by omega)]), rfl⟩
end Go.Proofs.Ythfkmlpnefpipaa
