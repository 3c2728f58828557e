/-
  Contracts of the small functions on parts: alone, below; the reference's arity, below, goodPart.
-/
import Derived.Test.YtlinngohbghimaaForm
import Derived.Test.YtlinngohbghimaaSmall
namespace Go.Proofs.Ytlinngohbghimaa
open Go.RowKit

def arF (kd : Int) : Int := if kd = 8 then 3 else if 2 ≤ kd ∧ kd ≤ 7 then 2 else if kd = 0 ∨ kd = 1 then 0 else -1
set_option maxHeartbeats 800000 in
theorem partBelow {w : World} (x : Prt) : Calls Try.prog 37 #[vP x] w (MadeI w (belowL x)) := by
  obtain ⟨kd, pa, pb, pc, nn⟩ := x
  dsimp only [vP]
  have B1 := Lib.hid (bel1P w (.cells #[.int .i64 kd, .int .i64 pa, .int .i64 pb, .int .i64 pc, .int .i64 nn] 50))
  by_cases h3 : kd = 8
  case pos =>
    have HL := Lib.hid (show belowL ⟨kd, pa, pb, pc, nn⟩ = [pa, pb, pc] from by unfold belowL; simp only; rw [if_pos h3])
    have S1 := Lib.hid (SlI.newAt (w := w.alloc (.cells #[.int .i64 kd, .int .i64 pa, .int .i64 pb, .int .i64 pc, .int .i64 nn] 50)) (lo := w.heap.size) (w.heap.size + 1) (by simp) [pa, pb, pc] (by omega))
    have B2 := Lib.hid (B1.out.alloc (by simp) (.cells (ints [pa, pb, pc]).toArray 3))
    have g : (kd == 8) = true := by simp [h3]
    clear h3
    go_enter Try.func37, Try.ntmps37
    go_wp2_with fail
    go_ret
    exact ⟨_, _, by rw [HL.out]; rfl, by rw [HL.out]; exact S1.out.mono (Nat.le_refl _) (by simp), B2.out⟩
  case neg =>
  by_cases h2 : 2 ≤ kd ∧ kd ≤ 7
  case pos =>
    have HL := Lib.hid (show belowL ⟨kd, pa, pb, pc, nn⟩ = [pa, pb] from by unfold belowL; simp only; rw [if_neg h3, if_pos h2])
    have S1 := Lib.hid (SlI.newAt (w := w.alloc (.cells #[.int .i64 kd, .int .i64 pa, .int .i64 pb, .int .i64 pc, .int .i64 nn] 50)) (lo := w.heap.size) (w.heap.size + 1) (by simp) [pa, pb] (by omega))
    have B2 := Lib.hid (B1.out.alloc (by simp) (.cells (ints [pa, pb]).toArray 3))
    have g : (kd == 8) = false := by simp [h3]
    have g2 : inB kd 2 7 = true := inB_iff.2 h2
    clear h2 h3
    go_enter Try.func37, Try.ntmps37
    go_wp2_with fail
    refine in_.mono ?_; rw [g2]; rintro e w2 ⟨rfl, rfl⟩
    go_wp2_with fail
    go_ret
    exact ⟨_, _, by rw [HL.out]; rfl, by rw [HL.out]; exact S1.out.mono (Nat.le_refl _) (by simp), B2.out⟩
  case neg =>
  have HL := Lib.hid (show belowL ⟨kd, pa, pb, pc, nn⟩ = [] from by unfold belowL; simp only; rw [if_neg h3, if_neg h2])
  have g : (kd == 8) = false := by simp [h3]
  have g2 : inB kd 2 7 = false := inB_no.2 h2
  clear h2 h3
  go_enter Try.func37, Try.ntmps37
  go_wp2_with fail
  refine in_.mono ?_; rw [g2]; rintro e w2 ⟨rfl, rfl⟩
  go_wp2_with fail
  go_ret
  exact ⟨_, _, by rw [HL.out]; rfl, by rw [HL.out]; exact SlI.nil, B1.out⟩
set_option maxHeartbeats 1600000 in
theorem partAlone {w : World} (x : Prt) : Calls Try.prog 36 #[vP x] w fun e w' => e = .returned (.bool (aloneB x)) ∧ Below w.heap.size w w' := by
  obtain ⟨kd, pa, pb, pc, nn⟩ := x
  dsimp only [vP]
  have B1 := Lib.hid (bel1P w (.cells #[.int .i64 kd, .int .i64 pa, .int .i64 pb, .int .i64 pc, .int .i64 nn] 50))
  by_cases hk0 : kd = 0
  case pos =>
    subst hk0
    by_cases h1 : 0 ≤ nn ∧ nn ≤ 99
    case neg =>
      have HD := Lib.hid (show aloneB ⟨0, pa, pb, pc, nn⟩ = false from by simp [aloneB, inB]; omega)
      have g1 : inB nn 0 99 = false := inB_no.2 h1
      clear h1
      go_enter Try.func36, Try.ntmps36
      go_wp2_with fail
      refine in_.mono ?_; rw [g1]; rintro e w2 ⟨rfl, rfl⟩
      go_wp2_with fail
      go_ret
      exact ⟨ret_bool HD.out.symm, B1.out⟩
    case pos =>
    by_cases h2 : pa = -1
    case neg =>
      have HD := Lib.hid (show aloneB ⟨0, pa, pb, pc, nn⟩ = false from by simp [aloneB, inB]; omega)
      have g1 : inB nn 0 99 = true := inB_iff.2 h1
      have g2 : (pa == -1) = false := by simp; omega
      clear h1
      clear h2
      go_enter Try.func36, Try.ntmps36
      go_wp2_with fail
      refine in_.mono ?_; rw [g1]; rintro e w2 ⟨rfl, rfl⟩
      go_wp2_with fail
      go_ret
      exact ⟨ret_bool HD.out.symm, B1.out⟩
    case pos =>
    by_cases h3 : pb = -1
    case neg =>
      have HD := Lib.hid (show aloneB ⟨0, pa, pb, pc, nn⟩ = false from by simp [aloneB, inB]; omega)
      have g1 : inB nn 0 99 = true := inB_iff.2 h1
      have g2 : (pa == -1) = true := by simp; omega
      have g3 : (pb == -1) = false := by simp; omega
      clear h1
      clear h2
      clear h3
      go_enter Try.func36, Try.ntmps36
      go_wp2_with fail
      refine in_.mono ?_; rw [g1]; rintro e w2 ⟨rfl, rfl⟩
      go_wp2_with fail
      go_ret
      exact ⟨ret_bool HD.out.symm, B1.out⟩
    case pos =>
    by_cases h4 : pc = -1
    case neg =>
      have HD := Lib.hid (show aloneB ⟨0, pa, pb, pc, nn⟩ = false from by simp [aloneB, inB]; omega)
      have g1 : inB nn 0 99 = true := inB_iff.2 h1
      have g2 : (pa == -1) = true := by simp; omega
      have g3 : (pb == -1) = true := by simp; omega
      have g4 : (pc == -1) = false := by simp; omega
      clear h1
      clear h2
      clear h3
      clear h4
      go_enter Try.func36, Try.ntmps36
      go_wp2_with fail
      refine in_.mono ?_; rw [g1]; rintro e w2 ⟨rfl, rfl⟩
      go_wp2_with fail
      go_ret
      exact ⟨ret_bool HD.out.symm, B1.out⟩
    case pos =>
    have HD := Lib.hid (show aloneB ⟨0, pa, pb, pc, nn⟩ = true from by simp [aloneB, inB]; omega)
    have g1 : inB nn 0 99 = true := inB_iff.2 h1
    have g2 : (pa == -1) = true := by simp; omega
    have g3 : (pb == -1) = true := by simp; omega
    have g4 : (pc == -1) = true := by simp; omega
    clear h1
    clear h2
    clear h3
    clear h4
    go_enter Try.func36, Try.ntmps36
    go_wp2_with fail
    refine in_.mono ?_; rw [g1]; rintro e w2 ⟨rfl, rfl⟩
    go_wp2_with fail
    go_ret
    exact ⟨ret_bool HD.out.symm, B1.out⟩
  case neg =>
  have q0 : (kd == 0) = false := by simp [hk0]
  by_cases hk1 : kd = 1
  case pos =>
    subst hk1
    by_cases h1 : 0 ≤ nn ∧ nn ≤ 9
    case neg =>
      have HD := Lib.hid (show aloneB ⟨1, pa, pb, pc, nn⟩ = false from by simp [aloneB, inB]; omega)
      have g1 : inB nn 0 9 = false := inB_no.2 h1
      clear h1
      go_enter Try.func36, Try.ntmps36
      go_wp2_with fail
      refine in_.mono ?_; rw [g1]; rintro e w2 ⟨rfl, rfl⟩
      go_wp2_with fail
      go_ret
      exact ⟨ret_bool HD.out.symm, B1.out⟩
    case pos =>
    by_cases h2 : pa = -1
    case neg =>
      have HD := Lib.hid (show aloneB ⟨1, pa, pb, pc, nn⟩ = false from by simp [aloneB, inB]; omega)
      have g1 : inB nn 0 9 = true := inB_iff.2 h1
      have g2 : (pa == -1) = false := by simp; omega
      clear h1
      clear h2
      go_enter Try.func36, Try.ntmps36
      go_wp2_with fail
      refine in_.mono ?_; rw [g1]; rintro e w2 ⟨rfl, rfl⟩
      go_wp2_with fail
      go_ret
      exact ⟨ret_bool HD.out.symm, B1.out⟩
    case pos =>
    by_cases h3 : pb = -1
    case neg =>
      have HD := Lib.hid (show aloneB ⟨1, pa, pb, pc, nn⟩ = false from by simp [aloneB, inB]; omega)
      have g1 : inB nn 0 9 = true := inB_iff.2 h1
      have g2 : (pa == -1) = true := by simp; omega
      have g3 : (pb == -1) = false := by simp; omega
      clear h1
      clear h2
      clear h3
      go_enter Try.func36, Try.ntmps36
      go_wp2_with fail
      refine in_.mono ?_; rw [g1]; rintro e w2 ⟨rfl, rfl⟩
      go_wp2_with fail
      go_ret
      exact ⟨ret_bool HD.out.symm, B1.out⟩
    case pos =>
    by_cases h4 : pc = -1
    case neg =>
      have HD := Lib.hid (show aloneB ⟨1, pa, pb, pc, nn⟩ = false from by simp [aloneB, inB]; omega)
      have g1 : inB nn 0 9 = true := inB_iff.2 h1
      have g2 : (pa == -1) = true := by simp; omega
      have g3 : (pb == -1) = true := by simp; omega
      have g4 : (pc == -1) = false := by simp; omega
      clear h1
      clear h2
      clear h3
      clear h4
      go_enter Try.func36, Try.ntmps36
      go_wp2_with fail
      refine in_.mono ?_; rw [g1]; rintro e w2 ⟨rfl, rfl⟩
      go_wp2_with fail
      go_ret
      exact ⟨ret_bool HD.out.symm, B1.out⟩
    case pos =>
    have HD := Lib.hid (show aloneB ⟨1, pa, pb, pc, nn⟩ = true from by simp [aloneB, inB]; omega)
    have g1 : inB nn 0 9 = true := inB_iff.2 h1
    have g2 : (pa == -1) = true := by simp; omega
    have g3 : (pb == -1) = true := by simp; omega
    have g4 : (pc == -1) = true := by simp; omega
    clear h1
    clear h2
    clear h3
    clear h4
    go_enter Try.func36, Try.ntmps36
    go_wp2_with fail
    refine in_.mono ?_; rw [g1]; rintro e w2 ⟨rfl, rfl⟩
    go_wp2_with fail
    go_ret
    exact ⟨ret_bool HD.out.symm, B1.out⟩
  case neg =>
  have q1 : (kd == 1) = false := by simp [hk1]
  by_cases hk8 : kd = 8
  case pos =>
    subst hk8
    by_cases h1 : nn = 0
    case neg =>
      have HD := Lib.hid (show aloneB ⟨8, pa, pb, pc, nn⟩ = false from by simp [aloneB]; omega)
      have g1 : (nn == 0) = false := by simp; omega
      clear h1
      go_enter Try.func36, Try.ntmps36
      go_wp2_with fail
      go_ret
      exact ⟨ret_bool HD.out.symm, B1.out⟩
    case pos =>
    have HD := Lib.hid (show aloneB ⟨8, pa, pb, pc, nn⟩ = true from by simp [aloneB]; omega)
    have g1 : (nn == 0) = true := by simp; omega
    clear h1
    go_enter Try.func36, Try.ntmps36
    go_wp2_with fail
    go_ret
    exact ⟨ret_bool HD.out.symm, B1.out⟩
  case neg =>
  have q8 : (kd == 8) = false := by simp [hk8]
  by_cases hr : 2 ≤ kd ∧ kd ≤ 7
  case pos =>
    have q2 : inB kd 2 7 = true := inB_iff.2 hr
    have EA := Lib.hid (show aloneB ⟨kd, pa, pb, pc, nn⟩ = (decide (nn = 0) && decide (pc = -1)) from by unfold aloneB; simp only; rw [if_neg hk0, if_neg hk1, if_neg hk8, if_pos hr])
    clear hk0 hk1 hk8 hr
    by_cases h1 : nn = 0
    case neg =>
      have HD := Lib.hid (show aloneB ⟨kd, pa, pb, pc, nn⟩ = false from by rw [EA.out]; simp; omega)
      have g1 : (nn == 0) = false := by simp; omega
      clear h1
      go_enter Try.func36, Try.ntmps36
      go_wp2_with fail
      refine in_.mono ?_; rw [q2]; rintro e w2 ⟨rfl, rfl⟩
      go_wp2_with fail
      go_ret
      exact ⟨ret_bool HD.out.symm, B1.out⟩
    case pos =>
    by_cases h2 : pc = -1
    case neg =>
      have HD := Lib.hid (show aloneB ⟨kd, pa, pb, pc, nn⟩ = false from by rw [EA.out]; simp; omega)
      have g1 : (nn == 0) = true := by simp; omega
      have g2 : (pc == -1) = false := by simp; omega
      clear h1
      clear h2
      go_enter Try.func36, Try.ntmps36
      go_wp2_with fail
      refine in_.mono ?_; rw [q2]; rintro e w2 ⟨rfl, rfl⟩
      go_wp2_with fail
      go_ret
      exact ⟨ret_bool HD.out.symm, B1.out⟩
    case pos =>
    have HD := Lib.hid (show aloneB ⟨kd, pa, pb, pc, nn⟩ = true from by rw [EA.out]; simp; omega)
    have g1 : (nn == 0) = true := by simp; omega
    have g2 : (pc == -1) = true := by simp; omega
    clear h1
    clear h2
    go_enter Try.func36, Try.ntmps36
    go_wp2_with fail
    refine in_.mono ?_; rw [q2]; rintro e w2 ⟨rfl, rfl⟩
    go_wp2_with fail
    go_ret
    exact ⟨ret_bool HD.out.symm, B1.out⟩
  case neg =>
  have q2 : inB kd 2 7 = false := inB_no.2 hr
  have HD := Lib.hid (show aloneB ⟨kd, pa, pb, pc, nn⟩ = false from by unfold aloneB; simp only; rw [if_neg hk0, if_neg hk1, if_neg hk8, if_neg hr])
  clear hk0 hk1 hk8 hr
  go_enter Try.func36, Try.ntmps36
  go_wp2_with fail
  refine in_.mono ?_; rw [q2]; rintro e w2 ⟨rfl, rfl⟩
  go_wp2_with fail
  go_ret
  exact ⟨ret_bool HD.out.symm, B1.out⟩
set_option maxHeartbeats 1600000 in
theorem specArity {w : World} (kd : Int) : Calls Try.prog 76 #[.int .i64 kd] w fun e w' => e = .returned (.int .i64 (arF kd)) ∧ w = w' := by
  by_cases hk0 : kd = 0
  case pos =>
    subst hk0
    go_enter Try.func76, Try.ntmps76
    go_wp2_with fail
    go_ret
    exact ⟨ret_int (by decide), rfl⟩
  case neg =>
  have q0 : (kd == 0) = false := by simp [hk0]
  by_cases hk1 : kd = 1
  case pos =>
    subst hk1
    go_enter Try.func76, Try.ntmps76
    go_wp2_with fail
    go_ret
    exact ⟨ret_int (by decide), rfl⟩
  case neg =>
  have q1 : (kd == 1) = false := by simp [hk1]
  by_cases hk2 : kd = 2
  case pos =>
    subst hk2
    go_enter Try.func76, Try.ntmps76
    go_wp2_with fail
    go_ret
    exact ⟨ret_int (by decide), rfl⟩
  case neg =>
  have q2 : (kd == 2) = false := by simp [hk2]
  by_cases hk3 : kd = 3
  case pos =>
    subst hk3
    go_enter Try.func76, Try.ntmps76
    go_wp2_with fail
    go_ret
    exact ⟨ret_int (by decide), rfl⟩
  case neg =>
  have q3 : (kd == 3) = false := by simp [hk3]
  by_cases hk4 : kd = 4
  case pos =>
    subst hk4
    go_enter Try.func76, Try.ntmps76
    go_wp2_with fail
    go_ret
    exact ⟨ret_int (by decide), rfl⟩
  case neg =>
  have q4 : (kd == 4) = false := by simp [hk4]
  by_cases hk5 : kd = 5
  case pos =>
    subst hk5
    go_enter Try.func76, Try.ntmps76
    go_wp2_with fail
    go_ret
    exact ⟨ret_int (by decide), rfl⟩
  case neg =>
  have q5 : (kd == 5) = false := by simp [hk5]
  by_cases hk6 : kd = 6
  case pos =>
    subst hk6
    go_enter Try.func76, Try.ntmps76
    go_wp2_with fail
    go_ret
    exact ⟨ret_int (by decide), rfl⟩
  case neg =>
  have q6 : (kd == 6) = false := by simp [hk6]
  by_cases hk7 : kd = 7
  case pos =>
    subst hk7
    go_enter Try.func76, Try.ntmps76
    go_wp2_with fail
    go_ret
    exact ⟨ret_int (by decide), rfl⟩
  case neg =>
  have q7 : (kd == 7) = false := by simp [hk7]
  by_cases hk8 : kd = 8
  case pos =>
    subst hk8
    go_enter Try.func76, Try.ntmps76
    go_wp2_with fail
    go_ret
    exact ⟨ret_int (by decide), rfl⟩
  case neg =>
  have q8 : (kd == 8) = false := by simp [hk8]
  have HD := Lib.hid (show (-1 : Int) = arF kd from by unfold arF; rw [if_neg hk8, if_neg (by omega), if_neg (by omega)])
  clear hk0 hk1 hk2 hk3 hk4 hk5 hk6 hk7 hk8
  go_enter Try.func76, Try.ntmps76
  go_wp2_with fail
  go_ret
  exact ⟨ret_int HD.out, rfl⟩
set_option maxHeartbeats 800000 in
theorem specBelow {w : World} (x : Prt) : Calls Try.prog 58 #[vP x] w (MadeI w (belowL x)) := by
  obtain ⟨kd, pa, pb, pc, nn⟩ := x
  dsimp only [vP]
  have B1 := Lib.hid (bel1P w (.cells #[.int .i64 kd, .int .i64 pa, .int .i64 pb, .int .i64 pc, .int .i64 nn] 50))
  by_cases h3 : kd = 8
  case pos =>
    have HL := Lib.hid (show belowL ⟨kd, pa, pb, pc, nn⟩ = [pa, pb, pc] from by unfold belowL; simp only; rw [if_pos h3])
    have S1 := Lib.hid (SlI.newAt (w := w.alloc (.cells #[.int .i64 kd, .int .i64 pa, .int .i64 pb, .int .i64 pc, .int .i64 nn] 50)) (lo := w.heap.size) (w.heap.size + 1) (by simp) [pa, pb, pc] (by omega))
    have B2 := Lib.hid (B1.out.alloc (by simp) (.cells (ints [pa, pb, pc]).toArray 3))
    have ha : arF kd = 3 := by unfold arF; rw [if_pos h3]
    clear h3
    go_enter Try.func58, Try.ntmps58
    go_wp2_with fail
    refine (specArity kd).mono ?_; rw [ha]; rintro e w2 ⟨rfl, rfl⟩
    go_wp2_with fail
    go_ret
    exact ⟨_, _, by rw [HL.out]; rfl, by rw [HL.out]; exact S1.out.mono (Nat.le_refl _) (by simp), B2.out⟩
  case neg =>
  by_cases h2 : 2 ≤ kd ∧ kd ≤ 7
  case pos =>
    have HL := Lib.hid (show belowL ⟨kd, pa, pb, pc, nn⟩ = [pa, pb] from by unfold belowL; simp only; rw [if_neg h3, if_pos h2])
    have S1 := Lib.hid (SlI.newAt (w := w.alloc (.cells #[.int .i64 kd, .int .i64 pa, .int .i64 pb, .int .i64 pc, .int .i64 nn] 50)) (lo := w.heap.size) (w.heap.size + 1) (by simp) [pa, pb] (by omega))
    have B2 := Lib.hid (B1.out.alloc (by simp) (.cells (ints [pa, pb]).toArray 3))
    have ha : arF kd = 2 := by unfold arF; rw [if_neg h3, if_pos h2]
    clear h2
    go_enter Try.func58, Try.ntmps58
    go_wp2_with fail
    refine (specArity kd).mono ?_; rw [ha]; rintro e w2 ⟨rfl, rfl⟩
    go_wp2_with fail
    go_ret
    exact ⟨_, _, by rw [HL.out]; rfl, by rw [HL.out]; exact S1.out.mono (Nat.le_refl _) (by simp), B2.out⟩
  case neg =>
  have HL := Lib.hid (show belowL ⟨kd, pa, pb, pc, nn⟩ = [] from by unfold belowL; simp only; rw [if_neg h3, if_neg h2])
  have S1 := Lib.hid (SlI.newAt (w := w.alloc (.cells #[.int .i64 kd, .int .i64 pa, .int .i64 pb, .int .i64 pc, .int .i64 nn] 50)) (lo := w.heap.size) (w.heap.size + 1) (by simp) [] (by omega))
  have B2 := Lib.hid (B1.out.alloc (by simp) (.cells (ints []).toArray 3))
  have ha2 : (arF kd == 2) = false := by unfold arF; rw [if_neg h3, if_neg h2]; split <;> rfl
  have ha3 : (arF kd == 3) = false := by unfold arF; rw [if_neg h3, if_neg h2]; split <;> rfl
  generalize har : arF kd = ar at ha2 ha3
  have HA := Lib.hid har
  clear har h2 h3
  go_enter Try.func58, Try.ntmps58
  go_wp2_with fail
  refine (specArity kd).mono ?_; rw [HA.out]; rintro e w2 ⟨rfl, rfl⟩
  go_wp2_with fail
  go_ret
  exact ⟨_, _, by rw [HL.out]; rfl, by rw [HL.out]; exact S1.out.mono (Nat.le_refl _) (by simp), B2.out⟩
set_option maxRecDepth 100000 in
set_option maxHeartbeats 3200000 in
theorem goodPart {w : World} (x : Prt) (i : Int) (hi0 : 0 ≤ i) (hi1 : i ≤ 1099511627776) : Calls Try.prog 57 #[vP x, .int .i64 i] w fun e w' => e = .returned (.bool (goodB x i)) ∧ Below w.heap.size w w' := by
  obtain ⟨kd, pa, pb, pc, nn⟩ := x
  dsimp only [vP]
  have hw : IntKind.i64.wrap (i - 1) = i - 1 := IntWalk.i64_in _ (by omega)
  have B1 := Lib.hid (bel1P w (.cells #[.int .i64 kd, .int .i64 pa, .int .i64 pb, .int .i64 pc, .int .i64 nn] 50))
  by_cases hk0 : kd = 0
  case pos =>
    subst hk0
    have ha : arF 0 = 0 := by decide
    have EA := Lib.hid (show goodB ⟨0, pa, pb, pc, nn⟩ i = (inB nn 0 99 && decide (pa = -1) && decide (pb = -1) && decide (pc = -1)) from by simp [goodB, aloneB, belowL])
    by_cases h1 : pa = -1
    case neg =>
      have HD := Lib.hid (show goodB ⟨0, pa, pb, pc, nn⟩ i = false from by rw [EA.out]; simp [inB]; omega)
      have g1 : (pa == -1) = false := by simp; omega
      clear h1
      go_enter Try.func57, Try.ntmps57
      go_wp2_with fail
      refine (specArity _).mono ?_; rw [ha]; rintro e w2 ⟨rfl, rfl⟩
      go_wp2_with fail
      go_ret
      exact ⟨ret_bool HD.out.symm, B1.out⟩
    case pos =>
    by_cases h2 : pb = -1
    case neg =>
      have HD := Lib.hid (show goodB ⟨0, pa, pb, pc, nn⟩ i = false from by rw [EA.out]; simp [inB]; omega)
      have g1 : (pa == -1) = true := by simp; omega
      have g2 : (pb == -1) = false := by simp; omega
      clear h1
      clear h2
      go_enter Try.func57, Try.ntmps57
      go_wp2_with fail
      refine (specArity _).mono ?_; rw [ha]; rintro e w2 ⟨rfl, rfl⟩
      go_wp2_with fail
      go_ret
      exact ⟨ret_bool HD.out.symm, B1.out⟩
    case pos =>
    by_cases h3 : pc = -1
    case neg =>
      have HD := Lib.hid (show goodB ⟨0, pa, pb, pc, nn⟩ i = false from by rw [EA.out]; simp [inB]; omega)
      have g1 : (pa == -1) = true := by simp; omega
      have g2 : (pb == -1) = true := by simp; omega
      have g3 : (pc == -1) = false := by simp; omega
      clear h1
      clear h2
      clear h3
      go_enter Try.func57, Try.ntmps57
      go_wp2_with fail
      refine (specArity _).mono ?_; rw [ha]; rintro e w2 ⟨rfl, rfl⟩
      go_wp2_with fail
      go_ret
      exact ⟨ret_bool HD.out.symm, B1.out⟩
    case pos =>
    by_cases h4 : 0 ≤ nn ∧ nn ≤ 99
    case neg =>
      have HD := Lib.hid (show goodB ⟨0, pa, pb, pc, nn⟩ i = false from by rw [EA.out]; simp [inB]; omega)
      have g1 : (pa == -1) = true := by simp; omega
      have g2 : (pb == -1) = true := by simp; omega
      have g3 : (pc == -1) = true := by simp; omega
      have g4 : inB nn 0 99 = false := inB_no.2 h4
      clear h1
      clear h2
      clear h3
      clear h4
      go_enter Try.func57, Try.ntmps57
      go_wp2_with fail
      refine (specArity _).mono ?_; rw [ha]; rintro e w2 ⟨rfl, rfl⟩
      go_wp2_with fail
      refine inRange.mono ?_; rw [g4]; rintro e w2 ⟨rfl, rfl⟩
      go_wp2_with fail
      go_ret
      exact ⟨ret_bool HD.out.symm, B1.out⟩
    case pos =>
    have HD := Lib.hid (show goodB ⟨0, pa, pb, pc, nn⟩ i = true from by rw [EA.out]; simp [inB]; omega)
    have g1 : (pa == -1) = true := by simp; omega
    have g2 : (pb == -1) = true := by simp; omega
    have g3 : (pc == -1) = true := by simp; omega
    have g4 : inB nn 0 99 = true := inB_iff.2 h4
    clear h1
    clear h2
    clear h3
    clear h4
    go_enter Try.func57, Try.ntmps57
    go_wp2_with fail
    refine (specArity _).mono ?_; rw [ha]; rintro e w2 ⟨rfl, rfl⟩
    go_wp2_with fail
    refine inRange.mono ?_; rw [g4]; rintro e w2 ⟨rfl, rfl⟩
    go_wp2_with fail
    go_ret
    exact ⟨ret_bool HD.out.symm, B1.out⟩
  case neg =>
  have q0 : (kd == 0) = false := by simp [hk0]
  by_cases hk1 : kd = 1
  case pos =>
    subst hk1
    have ha : arF 1 = 0 := by decide
    have EA := Lib.hid (show goodB ⟨1, pa, pb, pc, nn⟩ i = (inB nn 0 9 && decide (pa = -1) && decide (pb = -1) && decide (pc = -1)) from by simp [goodB, aloneB, belowL])
    by_cases h1 : pa = -1
    case neg =>
      have HD := Lib.hid (show goodB ⟨1, pa, pb, pc, nn⟩ i = false from by rw [EA.out]; simp [inB]; omega)
      have g1 : (pa == -1) = false := by simp; omega
      clear h1
      go_enter Try.func57, Try.ntmps57
      go_wp2_with fail
      refine (specArity _).mono ?_; rw [ha]; rintro e w2 ⟨rfl, rfl⟩
      go_wp2_with fail
      go_ret
      exact ⟨ret_bool HD.out.symm, B1.out⟩
    case pos =>
    by_cases h2 : pb = -1
    case neg =>
      have HD := Lib.hid (show goodB ⟨1, pa, pb, pc, nn⟩ i = false from by rw [EA.out]; simp [inB]; omega)
      have g1 : (pa == -1) = true := by simp; omega
      have g2 : (pb == -1) = false := by simp; omega
      clear h1
      clear h2
      go_enter Try.func57, Try.ntmps57
      go_wp2_with fail
      refine (specArity _).mono ?_; rw [ha]; rintro e w2 ⟨rfl, rfl⟩
      go_wp2_with fail
      go_ret
      exact ⟨ret_bool HD.out.symm, B1.out⟩
    case pos =>
    by_cases h3 : pc = -1
    case neg =>
      have HD := Lib.hid (show goodB ⟨1, pa, pb, pc, nn⟩ i = false from by rw [EA.out]; simp [inB]; omega)
      have g1 : (pa == -1) = true := by simp; omega
      have g2 : (pb == -1) = true := by simp; omega
      have g3 : (pc == -1) = false := by simp; omega
      clear h1
      clear h2
      clear h3
      go_enter Try.func57, Try.ntmps57
      go_wp2_with fail
      refine (specArity _).mono ?_; rw [ha]; rintro e w2 ⟨rfl, rfl⟩
      go_wp2_with fail
      go_ret
      exact ⟨ret_bool HD.out.symm, B1.out⟩
    case pos =>
    by_cases h4 : 0 ≤ nn ∧ nn ≤ 9
    case neg =>
      have HD := Lib.hid (show goodB ⟨1, pa, pb, pc, nn⟩ i = false from by rw [EA.out]; simp [inB]; omega)
      have g1 : (pa == -1) = true := by simp; omega
      have g2 : (pb == -1) = true := by simp; omega
      have g3 : (pc == -1) = true := by simp; omega
      have g4 : inB nn 0 9 = false := inB_no.2 h4
      clear h1
      clear h2
      clear h3
      clear h4
      go_enter Try.func57, Try.ntmps57
      go_wp2_with fail
      refine (specArity _).mono ?_; rw [ha]; rintro e w2 ⟨rfl, rfl⟩
      go_wp2_with fail
      refine inRange.mono ?_; rw [g4]; rintro e w2 ⟨rfl, rfl⟩
      go_wp2_with fail
      go_ret
      exact ⟨ret_bool HD.out.symm, B1.out⟩
    case pos =>
    have HD := Lib.hid (show goodB ⟨1, pa, pb, pc, nn⟩ i = true from by rw [EA.out]; simp [inB]; omega)
    have g1 : (pa == -1) = true := by simp; omega
    have g2 : (pb == -1) = true := by simp; omega
    have g3 : (pc == -1) = true := by simp; omega
    have g4 : inB nn 0 9 = true := inB_iff.2 h4
    clear h1
    clear h2
    clear h3
    clear h4
    go_enter Try.func57, Try.ntmps57
    go_wp2_with fail
    refine (specArity _).mono ?_; rw [ha]; rintro e w2 ⟨rfl, rfl⟩
    go_wp2_with fail
    refine inRange.mono ?_; rw [g4]; rintro e w2 ⟨rfl, rfl⟩
    go_wp2_with fail
    go_ret
    exact ⟨ret_bool HD.out.symm, B1.out⟩
  case neg =>
  have q1 : (kd == 1) = false := by simp [hk1]
  by_cases hk8 : kd = 8
  case pos =>
    subst hk8
    have ha : arF 8 = 3 := by decide
    have EA := Lib.hid (show goodB ⟨8, pa, pb, pc, nn⟩ i = (decide (nn = 0) && (inB pa 0 (i - 1) && (inB pb 0 (i - 1) && inB pc 0 (i - 1)))) from by simp [goodB, aloneB, belowL])
    by_cases h1 : 0 ≤ pa ∧ pa ≤ i - 1
    case neg =>
      have HD := Lib.hid (show goodB ⟨8, pa, pb, pc, nn⟩ i = false from by rw [EA.out]; simp [inB]; omega)
      have g1 : inB pa 0 (i - 1) = false := inB_no.2 h1
      clear h1
      go_enter Try.func57, Try.ntmps57
      go_wp2_with fail
      refine (specArity _).mono ?_; rw [ha]; rintro e w2 ⟨rfl, rfl⟩
      go_wp2_with fail
      refine inRange.mono ?_; rw [g1]; rintro e w2 ⟨rfl, rfl⟩
      go_wp2_with fail
      go_ret
      exact ⟨ret_bool HD.out.symm, B1.out⟩
    case pos =>
    by_cases h2 : 0 ≤ pb ∧ pb ≤ i - 1
    case neg =>
      have HD := Lib.hid (show goodB ⟨8, pa, pb, pc, nn⟩ i = false from by rw [EA.out]; simp [inB]; omega)
      have g1 : inB pa 0 (i - 1) = true := inB_iff.2 h1
      have g2 : inB pb 0 (i - 1) = false := inB_no.2 h2
      clear h1
      clear h2
      go_enter Try.func57, Try.ntmps57
      go_wp2_with fail
      refine (specArity _).mono ?_; rw [ha]; rintro e w2 ⟨rfl, rfl⟩
      go_wp2_with fail
      refine inRange.mono ?_; rw [g1]; rintro e w2 ⟨rfl, rfl⟩
      go_wp2_with fail
      refine inRange.mono ?_; rw [g2]; rintro e w2 ⟨rfl, rfl⟩
      go_wp2_with fail
      go_ret
      exact ⟨ret_bool HD.out.symm, B1.out⟩
    case pos =>
    by_cases h3 : 0 ≤ pc ∧ pc ≤ i - 1
    case neg =>
      have HD := Lib.hid (show goodB ⟨8, pa, pb, pc, nn⟩ i = false from by rw [EA.out]; simp [inB]; omega)
      have g1 : inB pa 0 (i - 1) = true := inB_iff.2 h1
      have g2 : inB pb 0 (i - 1) = true := inB_iff.2 h2
      have g3 : inB pc 0 (i - 1) = false := inB_no.2 h3
      clear h1
      clear h2
      clear h3
      go_enter Try.func57, Try.ntmps57
      go_wp2_with fail
      refine (specArity _).mono ?_; rw [ha]; rintro e w2 ⟨rfl, rfl⟩
      go_wp2_with fail
      refine inRange.mono ?_; rw [g1]; rintro e w2 ⟨rfl, rfl⟩
      go_wp2_with fail
      refine inRange.mono ?_; rw [g2]; rintro e w2 ⟨rfl, rfl⟩
      go_wp2_with fail
      refine inRange.mono ?_; rw [g3]; rintro e w2 ⟨rfl, rfl⟩
      go_wp2_with fail
      go_ret
      exact ⟨ret_bool HD.out.symm, B1.out⟩
    case pos =>
    by_cases h4 : nn = 0
    case neg =>
      have HD := Lib.hid (show goodB ⟨8, pa, pb, pc, nn⟩ i = false from by rw [EA.out]; simp [inB]; omega)
      have g1 : inB pa 0 (i - 1) = true := inB_iff.2 h1
      have g2 : inB pb 0 (i - 1) = true := inB_iff.2 h2
      have g3 : inB pc 0 (i - 1) = true := inB_iff.2 h3
      have g4 : (nn == 0) = false := by simp; omega
      clear h1
      clear h2
      clear h3
      clear h4
      go_enter Try.func57, Try.ntmps57
      go_wp2_with fail
      refine (specArity _).mono ?_; rw [ha]; rintro e w2 ⟨rfl, rfl⟩
      go_wp2_with fail
      refine inRange.mono ?_; rw [g1]; rintro e w2 ⟨rfl, rfl⟩
      go_wp2_with fail
      refine inRange.mono ?_; rw [g2]; rintro e w2 ⟨rfl, rfl⟩
      go_wp2_with fail
      refine inRange.mono ?_; rw [g3]; rintro e w2 ⟨rfl, rfl⟩
      go_wp2_with fail
      go_ret
      exact ⟨ret_bool HD.out.symm, B1.out⟩
    case pos =>
    have HD := Lib.hid (show goodB ⟨8, pa, pb, pc, nn⟩ i = true from by rw [EA.out]; simp [inB]; omega)
    have g1 : inB pa 0 (i - 1) = true := inB_iff.2 h1
    have g2 : inB pb 0 (i - 1) = true := inB_iff.2 h2
    have g3 : inB pc 0 (i - 1) = true := inB_iff.2 h3
    have g4 : (nn == 0) = true := by simp; omega
    clear h1
    clear h2
    clear h3
    clear h4
    go_enter Try.func57, Try.ntmps57
    go_wp2_with fail
    refine (specArity _).mono ?_; rw [ha]; rintro e w2 ⟨rfl, rfl⟩
    go_wp2_with fail
    refine inRange.mono ?_; rw [g1]; rintro e w2 ⟨rfl, rfl⟩
    go_wp2_with fail
    refine inRange.mono ?_; rw [g2]; rintro e w2 ⟨rfl, rfl⟩
    go_wp2_with fail
    refine inRange.mono ?_; rw [g3]; rintro e w2 ⟨rfl, rfl⟩
    go_wp2_with fail
    go_ret
    exact ⟨ret_bool HD.out.symm, B1.out⟩
  case neg =>
  have q8 : (kd == 8) = false := by simp [hk8]
  by_cases hr : 2 ≤ kd ∧ kd ≤ 7
  case pos =>
    have ha : arF kd = 2 := by unfold arF; rw [if_neg hk8, if_pos hr]
    have EA := Lib.hid (show goodB ⟨kd, pa, pb, pc, nn⟩ i = (decide (nn = 0) && decide (pc = -1) && (inB pa 0 (i - 1) && inB pb 0 (i - 1))) from by unfold goodB aloneB belowL; simp only; rw [if_neg hk0, if_neg hk1, if_neg hk8, if_pos hr, if_neg hk8, if_pos hr]; simp)
    clear hk0 hk1 hk8 hr q0 q1 q8
    by_cases h1 : 0 ≤ pa ∧ pa ≤ i - 1
    case neg =>
      have HD := Lib.hid (show goodB ⟨kd, pa, pb, pc, nn⟩ i = false from by rw [EA.out]; simp [inB]; omega)
      have g1 : inB pa 0 (i - 1) = false := inB_no.2 h1
      clear h1
      go_enter Try.func57, Try.ntmps57
      go_wp2_with fail
      refine (specArity _).mono ?_; rw [ha]; rintro e w2 ⟨rfl, rfl⟩
      go_wp2_with fail
      refine inRange.mono ?_; rw [g1]; rintro e w2 ⟨rfl, rfl⟩
      go_wp2_with fail
      go_ret
      exact ⟨ret_bool HD.out.symm, B1.out⟩
    case pos =>
    by_cases h2 : 0 ≤ pb ∧ pb ≤ i - 1
    case neg =>
      have HD := Lib.hid (show goodB ⟨kd, pa, pb, pc, nn⟩ i = false from by rw [EA.out]; simp [inB]; omega)
      have g1 : inB pa 0 (i - 1) = true := inB_iff.2 h1
      have g2 : inB pb 0 (i - 1) = false := inB_no.2 h2
      clear h1
      clear h2
      go_enter Try.func57, Try.ntmps57
      go_wp2_with fail
      refine (specArity _).mono ?_; rw [ha]; rintro e w2 ⟨rfl, rfl⟩
      go_wp2_with fail
      refine inRange.mono ?_; rw [g1]; rintro e w2 ⟨rfl, rfl⟩
      go_wp2_with fail
      refine inRange.mono ?_; rw [g2]; rintro e w2 ⟨rfl, rfl⟩
      go_wp2_with fail
      go_ret
      exact ⟨ret_bool HD.out.symm, B1.out⟩
    case pos =>
    by_cases h3 : pc = -1
    case neg =>
      have HD := Lib.hid (show goodB ⟨kd, pa, pb, pc, nn⟩ i = false from by rw [EA.out]; simp [inB]; omega)
      have g1 : inB pa 0 (i - 1) = true := inB_iff.2 h1
      have g2 : inB pb 0 (i - 1) = true := inB_iff.2 h2
      have g3 : (pc == -1) = false := by simp; omega
      clear h1
      clear h2
      clear h3
      go_enter Try.func57, Try.ntmps57
      go_wp2_with fail
      refine (specArity _).mono ?_; rw [ha]; rintro e w2 ⟨rfl, rfl⟩
      go_wp2_with fail
      refine inRange.mono ?_; rw [g1]; rintro e w2 ⟨rfl, rfl⟩
      go_wp2_with fail
      refine inRange.mono ?_; rw [g2]; rintro e w2 ⟨rfl, rfl⟩
      go_wp2_with fail
      go_ret
      exact ⟨ret_bool HD.out.symm, B1.out⟩
    case pos =>
    by_cases h4 : nn = 0
    case neg =>
      have HD := Lib.hid (show goodB ⟨kd, pa, pb, pc, nn⟩ i = false from by rw [EA.out]; simp [inB]; omega)
      have g1 : inB pa 0 (i - 1) = true := inB_iff.2 h1
      have g2 : inB pb 0 (i - 1) = true := inB_iff.2 h2
      have g3 : (pc == -1) = true := by simp; omega
      have g4 : (nn == 0) = false := by simp; omega
      clear h1
      clear h2
      clear h3
      clear h4
      go_enter Try.func57, Try.ntmps57
      go_wp2_with fail
      refine (specArity _).mono ?_; rw [ha]; rintro e w2 ⟨rfl, rfl⟩
      go_wp2_with fail
      refine inRange.mono ?_; rw [g1]; rintro e w2 ⟨rfl, rfl⟩
      go_wp2_with fail
      refine inRange.mono ?_; rw [g2]; rintro e w2 ⟨rfl, rfl⟩
      go_wp2_with fail
      go_ret
      exact ⟨ret_bool HD.out.symm, B1.out⟩
    case pos =>
    have HD := Lib.hid (show goodB ⟨kd, pa, pb, pc, nn⟩ i = true from by rw [EA.out]; simp [inB]; omega)
    have g1 : inB pa 0 (i - 1) = true := inB_iff.2 h1
    have g2 : inB pb 0 (i - 1) = true := inB_iff.2 h2
    have g3 : (pc == -1) = true := by simp; omega
    have g4 : (nn == 0) = true := by simp; omega
    clear h1
    clear h2
    clear h3
    clear h4
    go_enter Try.func57, Try.ntmps57
    go_wp2_with fail
    refine (specArity _).mono ?_; rw [ha]; rintro e w2 ⟨rfl, rfl⟩
    go_wp2_with fail
    refine inRange.mono ?_; rw [g1]; rintro e w2 ⟨rfl, rfl⟩
    go_wp2_with fail
    refine inRange.mono ?_; rw [g2]; rintro e w2 ⟨rfl, rfl⟩
    go_wp2_with fail
    go_ret
    exact ⟨ret_bool HD.out.symm, B1.out⟩
  case neg =>
  have ha : arF kd = -1 := by unfold arF; rw [if_neg hk8, if_neg hr, if_neg (by omega)]
  have HD := Lib.hid (show goodB ⟨kd, pa, pb, pc, nn⟩ i = false from by unfold goodB aloneB; simp only; rw [if_neg hk0, if_neg hk1, if_neg hk8, if_neg hr]; rfl)
  clear hk0 hk1 hk8 hr q0 q1 q8
  go_enter Try.func57, Try.ntmps57
  go_wp2_with fail
  refine (specArity _).mono ?_; rw [ha]; rintro e w2 ⟨rfl, rfl⟩
  go_wp2_with fail
  go_ret
  exact ⟨ret_bool HD.out.symm, B1.out⟩
end Go.Proofs.Ytlinngohbghimaa
