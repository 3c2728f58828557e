/-
  laws.ascends, where the list ascends.
-/
import Derived.Test.YtbdkodlaagcknaaLists
import Derived.Test.YtbdkodlaagcknaaOwnK
namespace Go.Proofs.Ytbdkodlaagcknaa
open Go.RowKit

set_option maxHeartbeats 800000 in
theorem ascends_yes {A : Option Addr} {c n B : Nat} {w : World} (xs : List Int) (ln : xs.length = n) (hn : n ≤ 1099511627776) (hs : xs.Pairwise (· < ·)) (h : RdI w B A xs) :
    Calls Try.prog 40 #[.slice A n c] w (QuietBool w true) := by
  subst ln
  have HS := Lib.hid hs; clear hs
  by_cases hne : xs.length = 0
  · have h0 : ¬ (1 : Int) < (xs.length : Int) := by omega
    obtain rfl : xs = [] := List.eq_nil_of_length_eq_zero hne
    clear h hne
    go_enter Try.func40, Try.ntmps40
    go_wp2
    go_loopw [3] (fun i wr => i = .int .i64 1 ∧ wr = w) (fun _ _ => 0)
    case atStart => exact ⟨rfl, rfl⟩
    case round =>
      obtain ⟨rfl, rfl⟩ := hrel
      go_wp2_with fail
      go_ret
      exact ⟨0, rfl, rfl⟩
  obtain ⟨L, hL⟩ : ∃ L, xs.length = L + 1 := ⟨xs.length - 1, by omega⟩
  obtain ⟨ad, rfl, _, hcc⟩ := h.at_ (k := 0) (by omega)
  rw [hL]
  have HL := Lib.hid hL
  have hLb : L ≤ 1099511627776 := by omega
  clear h hne hL
  go_enter Try.func40, Try.ntmps40
  go_wp2
  go_loopw [3] (fun i wr => ∃ (q d : Nat), q ≤ L ∧ i = .int .i64 ((q : Int) + 1) ∧ wr = w.drewN d) (fun i _ => L + 1 - (intOf i).toNat)
  case atStart => exact ⟨0, 0, by omega, rfl, rfl⟩
  case round =>
    obtain ⟨q, d, hq, rfl, rfl⟩ := hrel
    by_cases hlt : q < L
    · have hltI : (q : Int) + 1 < (L : Int) + 1 := by omega
      have hq1 : q < xs.length := by have := HL.out; omega
      have hq2 : q + 1 < xs.length := by have := HL.out; omega
      have c1' := hcc q hq1
      have c2' := hcc (q + 1) hq2
      have hxy : xs[q] < xs[q + 1] := List.pairwise_iff_getElem.1 HS.out q (q + 1) hq1 hq2 (Nat.lt_succ_self _)
      obtain ⟨x, hx⟩ : ∃ x, xs[q] = x := ⟨_, rfl⟩
      obtain ⟨y, hy⟩ : ∃ y, xs[q + 1] = y := ⟨_, rfl⟩
      rw [hx] at c1' hxy
      rw [hy] at c2' hxy
      have hno : ¬ y ≤ x := by omega
      have hqz : (0 : Int) ≤ (q : Int) := Int.natCast_nonneg _
      have htn : ((q : Int) + 1).toNat = q + 1 := by omega
      have hlq : (q : Int) < (L : Int) := by omega
      have hq0 : (0 : Int) ≤ (q : Int) + 1 := by omega
      have hwr : IntKind.i64.wrap (q : Int) = (q : Int) := IntWalk.i64_in _ (by omega)
      have hqq : (q : Int) < (L : Int) + 1 := by omega
      have c2s := c2'
      simp [Addr.add] at c2s
      clear hx hy hq1 hq2 hcc
      go_wp2_with fail
      go_quiet (fail)
      go_wp2_with fail
      go_roundw
      case rel => exact ⟨q + 1, _, by omega, by go_num, rfl⟩
      case measure => simp [intOf]; omega
    · obtain rfl : q = L := by omega
      clear hcc
      go_wp2_with fail
      go_ret
      exact ⟨d, rfl, rfl⟩
theorem selF_asc (f : Nat → Bool) (n : Nat) : (selF f n).Pairwise (· < ·) := by
  induction n with
  | zero => simp [selF]
  | succ n ih =>
    unfold selF
    rw [List.pairwise_append]
    refine ⟨ih, by split <;> simp, fun a ha b hb => ?_⟩
    obtain ⟨i, h1, _, h3⟩ := mem_selF.1 ha
    split at hb
    · have : b = n := by simpa using hb
      omega
    · cases hb
end Go.Proofs.Ytbdkodlaagcknaa
