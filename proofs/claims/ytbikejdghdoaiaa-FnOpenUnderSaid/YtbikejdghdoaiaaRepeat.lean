/-
  slices.Repeat([]int{-1}, 3).
-/
import Derived.Test.YtbikejdghdoaiaaOwnTo
import Derived.Laws.CopyOwn
import Derived.RegionTactic
import Derived.Deep.RegionLaw
namespace Go.Proofs.Ytbikejdghdoaiaa
open Go.RowKit

theorem mul13 {w : World} : Calls Try.prog 68 #[.int .u64 1, .int .u64 3] w fun e w' => e = .returned (.tuple #[.int .u64 0, .int .u64 3]) ∧ w = w' := by
  go_enter Try.func68, Try.ntmps68
  go_wp2
  go_ret2
  exact ⟨by kernel_rfl, rfl⟩

theorem run_copyI {w : World} {g o n m c d : Nat} {ad : Addr} (cur : List Int) (x : Int) (hb : Blk w g 3 (ints cur).toArray) (hn : min m n = 1) (hs : w.cell? ad = some (.int .i64 x)) (ho : o < cur.length) :
    ∃ w' : World, (Builtin.copy_ #[38, 38] 3 #[.slice (some ⟨g, o, none⟩) n c, .slice (some ad) m d]).run Try.prog w = .ok (.int .i64 1) w' ∧ Blk w' g 3 (ints (cur.set o x)).toArray ∧ ∀ B w0, Below B w0 w → B ≤ g → Below B w0 w' := by
  have hsz : (Try.prog.info? 3).map (·.size) = some 1 := by kernel_rfl
  refine ⟨_, run_copy_row Try.prog w 38 38 3 3 g o n c ad m d (ints cur).toArray 3 [.int .i64 x] Try.underlying38 hsz hb hn.symm ?_ (by simp; omega) (by intro v hv; simp at hv; subst hv; rfl), ?_, fun B w0 h1 h2 => below_setRow h1 h2 _⟩
  · intro j v hv
    cases j with
    | zero =>
      simp at hv
      subst hv
      simpa [Addr.add] using hs
    | succ j => simp at hv
  · have := setRow_heap w g _ (((ints cur).toArray.toList.take o ++ [Value.int .i64 x] ++ (ints cur).toArray.toList.drop (o + 1)).toArray) 3 (0, 0) hb
    unfold Blk
    rw [show (ints (cur.set o x)).toArray = ((ints cur).toArray.toList.take o ++ [Value.int .i64 x] ++ (ints cur).toArray.toList.drop (o + 1)).toArray from ?_]
    · exact this
    · congr 1
      simp only [ints, List.map_set]
      rw [List.set_eq_take_append_cons_drop, if_pos (by simpa using ho)]
      simp

set_option maxHeartbeats 1600000 in
theorem repeat3 {A : Option Addr} {c B : Nat} {w : World} (h : RdI w B A [-1]) (hB : B ≤ w.heap.size) :
    Calls Try.prog 51 #[.slice A 1 c, .int .i64 3] w (MadeI w [-1, -1, -1]) := by
  have hmk : (Instr.makeSlice 38 (.int .i64 3) (.int .i64 3)).run Try.prog w = .ok (.slice (some ⟨w.heap.size, 0, none⟩) 3 3) (w.alloc (.cells (ints [0, 0, 0]).toArray 3)) := run_makeI 3 (by omega) w
  obtain ⟨ad, rfl, had, hc⟩ := h.at_ (k := 0) (by simp)
  have hcell := hc 0 (by simp)
  have hcell' : (w.alloc (.cells (ints [0, 0, 0]).toArray 3)).cell? ad = some (.int .i64 (-1)) := by
    rw [(below1 w _).1.cell (by omega)]; simpa [Addr.add] using hcell
  obtain ⟨w1, hcp1, h1, hb1⟩ := run_copyI (n := 3) (m := 1) (c := 3) (d := c) [0, 0, 0] (-1) (Blk.new w 3 _) rfl hcell' (o := 0) (by simp)
  have B1 := Lib.hid (hb1 w.heap.size w (below1 w _).1 (Nat.le_refl _))
  have H1 := Lib.hid h1
  have hmk' : (Instr.makeSlice 38 (.int .i64 3) (.int .i64 3)).run Try.prog w = .ok (.slice (some ⟨w.heap.size, 0, none⟩) 3 3) (w.alloc (.cells #[.int .i64 0, .int .i64 0, .int .i64 0] 3)) := hmk
  have hcp1' : (Builtin.copy_ #[38, 38] 3 #[.slice (some ⟨w.heap.size, 0, none⟩) 3 3, .slice (some ad) 1 c]).run Try.prog (w.alloc (.cells #[.int .i64 0, .int .i64 0, .int .i64 0] 3)) = .ok (.int .i64 1) w1 := hcp1
  clear hc hcell hcell' h hb1 h1 hmk hcp1
  go_enter Try.func51, Try.ntmps51
  go_wp2_with fail
  refine mul13.mono ?_; rintro e w' ⟨rfl, rfl⟩
  go_wp2_with fail
  clear hmk' hcp1'
  go_loopw [8] (fun i wr => ∃ k : Nat, 1 ≤ k ∧ k ≤ 3 ∧ i = .int .i64 k ∧ Blk wr w.heap.size 3 (ints (List.replicate k (-1) ++ List.replicate (3 - k) 0)).toArray ∧ Below w.heap.size w wr) (fun i _ => 3 - (intOf i).toNat)
  case atStart => exact ⟨1, by omega, by omega, rfl, H1.out, B1.out⟩
  case round =>
    obtain ⟨k, hk1, hk3, rfl, hblk, hb⟩ := hrel
    clear H1 B1
    have hk : k = 1 ∨ k = 2 ∨ k = 3 := by omega
    rcases hk with rfl | rfl | rfl
    · have hc0 : wr.drew.cell? ⟨w.heap.size, 0, none⟩ = some (.int .i64 (-1)) := (hblk.drew.cell 0)
      obtain ⟨w2, hcp, h2, hb2⟩ := run_copyI (w := wr.drew) (n := 2) (m := 1) (c := 2) (d := 3) [-1, 0, 0] (-1) hblk.drew rfl hc0 (o := 1) (by simp)
      have H2 := Lib.hid h2
      have B2 := Lib.hid (hb2 w.heap.size w hb.drew (Nat.le_refl _))
      clear h2 hb2 hblk hb hc0
      go_wp2_with fail
      go_region
      go_wp2_with fail
      go_roundw
      case rel => exact ⟨2, by omega, by omega, by simp, H2.out, B2.out⟩
      case measure => simp [intOf]
    · have hc0 : wr.drew.cell? ⟨w.heap.size, 0, none⟩ = some (.int .i64 (-1)) := (hblk.drew.cell 0)
      obtain ⟨w2, hcp, h2, hb2⟩ := run_copyI (w := wr.drew) (n := 1) (m := 2) (c := 1) (d := 3) [-1, -1, 0] (-1) hblk.drew rfl hc0 (o := 2) (by simp)
      have H2 := Lib.hid h2
      have B2 := Lib.hid (hb2 w.heap.size w hb.drew (Nat.le_refl _))
      clear h2 hb2 hblk hb hc0
      go_wp2_with fail
      go_region
      go_wp2_with fail
      go_roundw
      case rel => exact ⟨3, by omega, by omega, by simp, H2.out, B2.out⟩
      case measure => simp [intOf]
    · have FIN := Lib.hid (show MadeI w [-1, -1, -1] (.returned (.slice (some ⟨w.heap.size, 0, none⟩) 3 3)) wr from ⟨_, 3, rfl, SlI.of_blk hblk (Nat.le_refl _) hblk.lt, hb⟩)
      clear hblk hb
      go_wp2_with fail
      go_ret
      exact FIN.out
end Go.Proofs.Ytbikejdghdoaiaa
