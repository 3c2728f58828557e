/-
  laws.toIntS: a copy of a slice of ints, in a block of its own.
-/
import Derived.Test.YtlinngohbghimaaInts
import Derived.Test.YtlinngohbghimaaRows
namespace Go.Proofs.Ytlinngohbghimaa
open Go.RowKit

def zeroI (n : Nat) : List Value := List.replicate n (.int .i64 0)
theorem zeroI_len (xs : List Int) : (zeroI xs.length).length = (ints xs).length := by simp [zeroI]
theorem made_zeroI (n : Nat) : madeCells #[.int .i64 0] n = (zeroI n).toArray := by
  apply Array.ext'; rw [toList_madeCells_one]; rfl

set_option maxHeartbeats 400000 in
theorem toIntS {A : Option Addr} {c n B : Nat} {w : World} (xs : List Int) (ln : xs.length = n) (hn : n ≤ 4294967296) (h : RdI w B A xs) (hB : B ≤ w.heap.size) :
    Calls Try.prog 28 #[.slice A n c] w (MadeI w xs) := by
  subst ln
  obtain ⟨i0, hi, hz0, hz1, hz2⟩ := info_parts Try.infoInt
  have hmk : (Instr.makeSlice 38 (.int .i64 (xs.length : Int)) (.int .i64 (xs.length : Int))).run Try.prog w = .ok (.slice (some ⟨w.heap.size, 0, none⟩) xs.length xs.length) (w.alloc (.cells (mix (ints xs) (zeroI xs.length) 0) 3)) := by
    have hr := run_make (P := Try.prog) w 38 3 i0 (.int .i64 0) Try.underlying38 hi hz0 .i64 .i64 xs.length xs.length (by omega) (by omega) (by rw [hz2]; omega) (by omega)
    rw [hr, hz1]
    simp only [Int.toNat_natCast, Nat.mul_one, Value.cells]
    rw [made_zeroI, mix_zero]
  clear hi hz0 hz1 hz2
  go_enter Try.func28, Try.ntmps28
  go_wp2
  clear hmk
  go_loopw [4] (fun i wr => ∃ k : Nat, k ≤ xs.length ∧ i = .int .i64 k ∧ Blk wr w.heap.size 3 (mix (ints xs) (zeroI xs.length) k) ∧ Below w.heap.size w wr) (fun i _ => xs.length - (intOf i).toNat)
  case atStart => exact ⟨0, Nat.zero_le _, rfl, Blk.new _ _ _, (Below.refl _ _).alloc (Nat.le_refl _) _⟩
  case round =>
    obtain ⟨k, hk, rfl, hblk, hb⟩ := hrel
    by_cases hlt : k < xs.length
    · obtain ⟨ad, rfl, had, hc⟩ := h.at_ hlt
      have hcell : wr.cell? (ad.add k) = some (.int .i64 xs[k]) := (hb.cell (by rw [block_of_add]; omega)).trans (hc k hlt)
      have hcell' : wr.cell? ⟨w.heap.size, k, none⟩ = some (.int .i64 0) := (hblk.cell k).trans ((mix_ge (zeroI_len xs) k (Nat.le_refl _)).trans (by simp [zeroI, hlt]))
      have hfr := hblk.frozen k
      have H1 := Lib.hid (hblk.set_ k (.int .i64 xs[k]))
      have H2 := Lib.hid (hb.setCell (p := ⟨w.heap.size, k, none⟩) (Nat.le_refl _) (.int .i64 xs[k]))
      have H3 := Lib.hid (mix_step (k := k) (zeroI_len xs) (by simpa using hlt))
      clear hc h hblk hb had
      go_wp2
      go_roundw
      case rel => exact ⟨k + 1, by omega, by go_num, by rw [← H3.out]; simpa using H1.out, H2.out⟩
      case measure => simp [intOf]; omega
    · have hkn : k = xs.length := by omega
      have H1 := Lib.hid hblk
      have HK := Lib.hid hkn
      have H2 := Lib.hid hb
      clear hblk hkn hb h
      go_wp2
      go_ret
      have e := mix_done (zeroI_len xs)
      rw [List.length_map] at e
      exact ⟨_, _, rfl, SlI.of_blk (by have h1 := H1.out; rw [HK.out, e] at h1; exact h1) (Nat.le_refl _) H1.out.lt, H2.out⟩
end Go.Proofs.Ytlinngohbghimaa
