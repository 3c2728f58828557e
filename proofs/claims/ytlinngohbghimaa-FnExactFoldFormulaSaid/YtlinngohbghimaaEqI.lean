/-
  laws.eqIntS, laws.equalInts: two slices of ints are compared.
-/
import Derived.Test.YtlinngohbghimaaMem
import Derived.Test.YtlinngohbghimaaRows
namespace Go.Proofs.Ytlinngohbghimaa
open Go.RowKit

theorem take_eq_succ {α : Type} {xs ys : List α} {k : Nat} (h : xs.take k = ys.take k) (hx : k < xs.length) (hy : k < ys.length) (e : xs[k] = ys[k]) : xs.take (k + 1) = ys.take (k + 1) := by
  rw [List.take_succ_eq_append_getElem hx, List.take_succ_eq_append_getElem hy, h, e]
theorem ne_of_at {α : Type} {xs ys : List α} {k : Nat} (hx : k < xs.length) (hy : k < ys.length) (e : xs[k] ≠ ys[k]) : xs ≠ ys := by
  rintro rfl; exact e rfl

def QuietBool (w : World) (b : Bool) (e : Ending) (w' : World) : Prop := ∃ d, e = .returned (.bool b) ∧ w' = w.drewN d
theorem qb {P : Program} {f : FuncId} {args : Array Value} {w : World} {b : Bool} (h : Calls P f args w (QuietBool w b)) : Calls P f args w fun e w' => e = .returned (.bool b) ∧ Below w.heap.size w w' :=
  h.mono fun _ _ ⟨d, he, hw⟩ => ⟨he, hw ▸ below_drewN (Below.refl _ _) d⟩

set_option maxHeartbeats 400000 in
theorem eqIntS {A A' : Option Addr} {c c' n n' B B' : Nat} {w : World} (xs ys : List Int) (ln : xs.length = n) (ln' : ys.length = n') (hn : n ≤ 9223372036854775807) (h : RdI w B A xs) (h' : RdI w B' A' ys) :
    Calls Try.prog 21 #[.slice A n c, .slice A' n' c'] w (QuietBool w (decide (xs = ys))) := by
  subst ln ln'
  by_cases hl : xs.length = ys.length
  · have hl' : ((xs.length : Int) != (ys.length : Int)) = false := by rw [hl]; simp
    have HL := Lib.hid hl; clear hl
    go_enter Try.func21, Try.ntmps21
    go_wp2
    clear hl'
    go_loopw [5] (fun i wr => ∃ k d : Nat, k ≤ xs.length ∧ i = .int .i64 k ∧ xs.take k = ys.take k ∧ wr = w.drewN d) (fun i _ => xs.length - (intOf i).toNat)
    case atStart => exact ⟨0, 0, Nat.zero_le _, rfl, rfl, rfl⟩
    case round =>
      obtain ⟨k, d, hk, rfl, he, rfl⟩ := hrel
      have HE := Lib.hid he; clear he
      by_cases hlt : k < xs.length
      · have hlt' : k < ys.length := by have := HL.out; omega
        obtain ⟨ad, rfl, _, hc⟩ := h.at_ hlt
        obtain ⟨ad', rfl, _, hc'⟩ := h'.at_ hlt'
        have hcell := hc k hlt
        have hcell' := hc' k hlt'
        clear hc hc' h h'
        by_cases heq : xs[k] = ys[k]
        · have ht : (xs[k] != ys[k]) = false := by simp [heq]
          have hs := Lib.hid (take_eq_succ HE.out hlt hlt' heq)
          clear heq
          go_wp2
          go_quiet (fail)
          go_wp2
          go_roundw
          case rel => exact ⟨k + 1, _, by omega, by go_num, hs.out, rfl⟩
          case measure => simp [intOf]; omega
        · have ht : (xs[k] != ys[k]) = true := by simp [heq]
          have hs := Lib.hid (ne_of_at hlt hlt' heq)
          clear heq
          go_wp2
          go_quiet (fail)
          go_wp2
          go_ret
          exact ⟨_, ret_bool (decide_eq_false hs.out).symm, World.drewN_drewN _ _ _⟩
      · go_wp2
        go_ret
        have : xs = ys := by have h1 := HE.out; rwa [List.take_of_length_le (by omega), List.take_of_length_le (by have := HL.out; omega)] at h1
        exact ⟨_, ret_bool (decide_eq_true this).symm, rfl⟩
  · have hl' : ((xs.length : Int) != (ys.length : Int)) = true := by simp; omega
    have hne : xs ≠ ys := by rintro rfl; exact hl rfl
    have HN := Lib.hid hne; clear hl hne
    go_enter Try.func21, Try.ntmps21
    go_wp2
    go_ret
    exact ⟨0, ret_bool (decide_eq_false HN.out).symm, rfl⟩




end Go.Proofs.Ytlinngohbghimaa
