/-
  slices.IndexFunc at rows, with impl.MatchRows's closure.
-/
import Derived.Test.YtmmegmefiihabaaMatchSpec
namespace Go.Proofs.Ytmmegmefiihabaa
open Go.RowKit

theorem matchClosure {w : World} {b : Nat} {k : Int} (r : Rwx) (hb : b < w.heap.size) (hc : w.cell? ⟨b, 0, none⟩ = some (.int .i64 k)) :
    Calls Try.prog 75 #[vQ r, .pointer (some ⟨b, 0, none⟩)] w fun e w' => e = .returned (.bool (r.ky == k)) ∧ Below w.heap.size w w' := by
  obtain ⟨ky, no⟩ := r
  dsimp only [vQ]
  go_enter Try.func75, Try.ntmps75
  go_wp2
  go_ret
  exact ⟨rfl, (Below.refl _ _).alloc (Nat.le_refl _) _⟩

set_option maxHeartbeats 800000 in
theorem matchIndexFunc {A : Option Addr} {c n B b : Nat} {w : World} {k : Int} (rs : List Rwx) (ln : rs.length = n) (hn : n ≤ 1099511627776) (h : RdQ w B A rs) (hB : B ≤ w.heap.size) (hb : b < w.heap.size) (hc : w.cell? ⟨b, 0, none⟩ = some (.int .i64 k)) :
    Calls Try.prog 74 #[.slice A n c, .func (.func 75) #[] #[.pointer (some ⟨b, 0, none⟩)]] w fun e w' => e = .returned (.int .i64 (plc k (rs.map (·.ky)))) ∧ Below w.heap.size w w' := by
  subst ln
  have H := Lib.hid h; clear h
  have HC := Lib.hid (fun (W : World) (b' : Below w.heap.size w W) (r : Rwx) => matchClosure (w := W) (b := b) (k := k) r (by have := b'.size; omega) ((b'.cell (p := ⟨b, 0, none⟩) hb).trans hc))
  clear hc
  go_enter Try.func74, Try.ntmps74
  go_wp2_with fail
  go_loopw [8] (fun i wr => ∃ j : Nat, j ≤ rs.length ∧ i = .int .i64 j ∧ (∀ q (hq : q < j) (hl : q < rs.length), rs[q].ky ≠ k) ∧ Below w.heap.size w wr) (fun i _ => rs.length - (intOf i).toNat)
  case atStart => exact ⟨0, Nat.zero_le _, rfl, fun q hq => absurd hq (by omega), Below.refl _ _⟩
  case round =>
    obtain ⟨j, hj, rfl, hno, hbw⟩ := hrel
    have hz := hbw.size
    have HN := Lib.hid hno; clear hno
    have HB := Lib.hid hbw
    by_cases hlt : j < rs.length
    · obtain ⟨g, o, hA, hg, k0, k1⟩ := RdQ_at (H.out.belowLe hbw hB) hlt
      subst hA
      obtain ⟨x, hx⟩ : ∃ x, rs[j] = x := ⟨_, rfl⟩
      rw [hx] at k0 k1
      have HX := Lib.hid hx
      obtain ⟨ky, no⟩ := x
      simp only at k0 k1
      have hj0 : (0 : Int) ≤ (j : Int) := Int.natCast_nonneg _
      have CL := Lib.hid (HC.out wr hbw ⟨ky, no⟩)
      clear hx hbw
      cases hp : ky == k
      · have HP := Lib.hid hp
        rw [hp] at CL
        clear hp
        go_wp2_with (go_at_call 75; refine CL.out.mono ?_; rintro e w3 ⟨rfl, b3⟩)
        have HB3 := Lib.hid (HB.out.trans (b3.mono hz)); clear b3
        go_roundw
        case rel => exact ⟨j + 1, by omega, by go_num, fun q hq hl => by
          rcases Nat.lt_or_ge q j with h1 | h1
          · exact HN.out q h1 hl
          · have : q = j := by omega
            subst this; rw [HX.out]; exact beq_eq_false_iff_ne.1 HP.out, HB3.out⟩
        case measure => simp [intOf]; omega
      · have HP := Lib.hid (beq_iff_eq.1 hp)
        rw [hp] at CL
        clear hp
        go_wp2_with (go_at_call 75; refine CL.out.mono ?_; rintro e w3 ⟨rfl, b3⟩)
        have HB3 := Lib.hid (HB.out.trans (b3.mono hz)); clear b3
        go_ret
        refine ⟨ret_int ?_, HB3.out⟩
        have hl2 : j < (rs.map (·.ky)).length := by rw [List.length_map]; exact hlt
        have e := idx_at k (rs.map (·.ky)) j hl2 (fun q hq => by rw [List.getElem_map]; exact HN.out q hq (by omega)) (by rw [List.getElem_map, HX.out]; exact HP.out)
        have hmem : k ∈ rs.map (·.ky) := (idx_lt k _).1 (by rw [e]; exact hl2)
        unfold plc; rw [if_pos hmem, e]
    · go_wp2_with fail
      go_ret
      refine ⟨ret_int ?_, HB.out⟩
      have hmem : ¬ k ∈ rs.map (·.ky) := idx_none k _ (fun q hq => by rw [List.getElem_map]; exact HN.out q (by rw [List.length_map] at hq; omega) (by rw [List.length_map] at hq; exact hq))
      unfold plc; rw [if_neg hmem]
end Go.Proofs.Ytmmegmefiihabaa
