/-
  KidsOf, AboveOf, LookUp, NewOwners of both sides.
-/
import Derived.Test.YtnlbmiangbahgaaOwnK
namespace Go.Proofs.Ytnlbmiangbahgaa
open Go.RowKit

theorem parAt_of {os : List Own} (ha : Ahead os) (P : Nat) (hP : P < os.length) : -1 ≤ parAt os (P : Int) ∧ parAt os (P : Int) < P := by
  rw [parAt_eq hP]
  exact ha P _ (List.getElem?_eq_getElem hP)
theorem aboveG_step (os : List Own) (m : Nat) (c : Int) (h : 0 ≤ c) : aboveG os (m + 1) c = c :: aboveG os m (parAt os c) := by rw [aboveG, if_neg (by omega)]
theorem aboveG_end (os : List Own) (m : Nat) (c : Int) (h : c < 0) : aboveG os m c = [] := by cases m with | zero => rfl | succ m => rw [aboveG, if_pos h]
theorem lookG_end (os : List Own) (key : Int) (m : Nat) (c : Int) (h : c < 0) : lookG os key m c = (0, false) := by cases m with | zero => rfl | succ m => rw [lookG, if_pos h]
theorem lookG_yes (os : List Own) (key : Int) (m : Nat) (c : Int) (h : 0 ≤ c) (h2 : 0 ≤ ctxAt os c key) : lookG os key (m + 1) c = (ctxAt os c key, true) := by rw [lookG, if_neg (by omega), if_pos h2]
theorem lookG_no (os : List Own) (key : Int) (m : Nat) (c : Int) (h : 0 ≤ c) (h2 : ¬ 0 ≤ ctxAt os c key) : lookG os key (m + 1) c = lookG os key m (parAt os c) := by rw [lookG, if_neg (by omega), if_neg h2]
theorem ctxAt_eq {os : List Own} {k K : Nat} (h : k < os.length) (h3 : K < os[k].cx.length) : ctxAt os (k : Int) (K : Int) = os[k].cx[K] := by simp [ctxAt, h, h3]
theorem cx_of_voB {os : List Own} (h : voB os = true) {k : Nat} (hk : k < os.length) : os[k].cx.length = 3 := (okO_iff.1 ((voB_iff.1 h).1 k hk)).1.2.2.2.1

set_option maxHeartbeats 800000 in
theorem implKidsOf {A : Option Addr} {c n B : Nat} {w : World} (o : Int) (os : List Own) (ln : os.length = n) (hn : n ≤ 1048576) (hm : ∀ o ∈ os, o.cl.length ≤ 1099511627776 ∧ o.cx.length ≤ 1099511627776) (h : RdO w B A os) (hB : B ≤ w.heap.size) :
    Calls Try.prog 19 #[.slice A n c, .int .i64 o] w (MadeI w (kidsOfF os o)) := by
  subst ln
  have CALL := Lib.hid (ownerOf (c := c) (k := o) os rfl (by omega) hm h hB)
  clear hm
  go_enter Try.func19, Try.ntmps19
  go_wp2_with fail
  refine CALL.out.mono ?_; rintro e w1 ⟨rfl, b1⟩
  have B1 := Lib.hid b1; clear b1 CALL
  cases hof : ofB os o
  case false =>
    have HF := Lib.hid (show MadeI w (kidsOfF os o) (.returned (.slice none 0 0)) w1 from by unfold kidsOfF; rw [hof]; exact (MadeI.nil0 w1).below B1.out)
    clear h hof
    go_wp2_with fail
    go_ret
    exact HF.out
  case true =>
  have HV := Lib.hid (ofB_iff.1 hof).1
  have HO := Lib.hid (ofB_iff.1 hof).2
  have HF := Lib.hid (show kidsOfF os o = kidsF os o from by unfold kidsOfF; rw [hof]; rfl)
  have CALL2 := Lib.hid (implKids (c := c) (o := o) os rfl hn (h.belowLe B1.out hB) (Nat.le_trans hB B1.out.size))
  clear h hof
  go_wp2_with fail
  refine CALL2.out.mono ?_; rintro e w2 ⟨A2, c2, rfl, s2, b2⟩
  have FIN := Lib.hid (show MadeI w (kidsOfF os o) (.returned (.slice A2 (kidsF os o).length c2)) w2 from by rw [HF.out]; exact MadeI.below ⟨A2, c2, rfl, s2, b2⟩ B1.out)
  clear s2 b2
  go_wp2_with fail
  go_ret
  exact FIN.out


set_option maxHeartbeats 1600000 in
theorem implAboveOf {A : Option Addr} {c n B : Nat} {w : World} (o : Int) (os : List Own) (ln : os.length = n) (hn : n ≤ 1048576) (hm : ∀ o ∈ os, o.cl.length ≤ 1099511627776 ∧ o.cx.length ≤ 1099511627776) (h : RdO w B A os) (hB : B ≤ w.heap.size) :
    Calls Try.prog 27 #[.slice A n c, .int .i64 o] w (MadeI w (aboveOfF os o)) := by
  subst ln
  have CALL := Lib.hid (ownerOf (c := c) (k := o) os rfl (by omega) hm h hB)
  clear hm
  go_enter Try.func27, Try.ntmps27
  go_wp2_with fail
  refine CALL.out.mono ?_; rintro e w1 ⟨rfl, b1⟩
  have B1 := Lib.hid b1; clear b1 CALL
  cases hof : ofB os o
  case false =>
    have HF := Lib.hid (show MadeI w (aboveOfF os o) (.returned (.slice none 0 0)) w1 from by unfold aboveOfF; rw [hof]; exact (MadeI.nil0 w1).below B1.out)
    clear h hof
    go_wp2_with fail
    go_ret
    exact HF.out
  case true =>
  have HV := Lib.hid (ofB_iff.1 hof).1
  have HO := Lib.hid (ofB_iff.1 hof).2
  have HF := Lib.hid (show aboveOfF os o = aboveG os (os.length + 1) o from by unfold aboveOfF; rw [hof]; rfl)
  have HA := Lib.hid (ahead_of_voB HV.out)
  clear hof
  go_wp2_with fail
  go_loopw [1, 5] (fun q v wr => ∃ (cur : Int) (A2 : Option Addr) (c2 : Nat) (ys : List Int) (m : Nat), q = .int .i64 cur ∧ v = .slice A2 ys.length c2 ∧ -1 ≤ cur ∧ cur < os.length ∧ ys ++ aboveG os m cur = aboveG os (os.length + 1) o ∧ ys.length + m = os.length + 1 ∧ cur < m ∧ SlI wr w.heap.size wr.heap.size A2 c2 ys ∧ Below w.heap.size w wr) (fun q _ _ => (intOf q + 1).toNat)
  case atStart => exact ⟨o, none, 0, [], os.length + 1, rfl, rfl, by have := HO.out; omega, by have := HO.out; omega, rfl, by simp, by have := HO.out; simp; omega, SlI.nil, B1.out⟩
  case round =>
    obtain ⟨cur, A2, c2, ys, m, rfl, rfl, hc1, hc2, hys, hym, hcm, hs, hb⟩ := hrel
    have HY := Lib.hid hys; clear hys
    have HYM := Lib.hid hym; clear hym
    have hyl : ys.length ≤ 1048577 := by have := HYM.out; omega
    have HS := Lib.hid hs; clear hs
    have HB := Lib.hid hb; clear hb
    by_cases h0 : 0 ≤ cur
    · obtain ⟨P, rfl⟩ := Int.eq_ofNat_of_zero_le h0
      have hP : P < os.length := by omega
      obtain ⟨g, o2, hd, rfl, hg, ⟨c0, c1, c2', c3⟩, q1, q2, q3, q5⟩ := (h.belowLe HB.out hB).at_ hP
      have hpa := parAt_of HA.out P hP
      have hpe := parAt_eq hP
      rw [← hpe] at c0
      obtain ⟨m', rfl⟩ : ∃ m', m = m' + 1 := ⟨m - 1, by omega⟩
      have HS2 := Lib.hid (aboveG_step os m' (P : Int) (by omega))
      obtain ⟨nx, hnx⟩ : ∃ nx, parAt os (P : Int) = nx := ⟨_, rfl⟩
      rw [hnx] at c0 hpa HS2
      obtain ⟨hpa1, hpa2⟩ := hpa
      have hgw : g < wr.heap.size := by have := HB.out.size; omega
      have HCC := Lib.hid (fun (w4 : World) (t4 : Turn w.heap.size wr.heap.size (wr.alloc (.cells #[.int .i64 (P : Int)] 3)) w4) => (show w4.cell? ⟨g, o2 + P * 4, none⟩ = some (.int .i64 nx) from by
        rw [← c0, ← (below1 wr (.cells #[.int .i64 (P : Int)] 3)).1.cell (p := ⟨g, o2 + P * 4, none⟩) hgw]
        exact (t4.below (by have := HB.out.size; simp; omega)).cell (p := ⟨g, o2 + P * 4, none⟩) (show g < w.heap.size by omega)))
      clear h q1 q2 q3 q5 c1 c2' c3 hnx hpe c0
      go_wp2_with (at_builtin; refine wpList_appI (.tmp 17) (.tmp 19) rfl rfl ys [(P : Int)] rfl rfl (HS.out.alloc _) rfl rfl (SlI.newAt (w := wr) wr.heap.size rfl [(P : Int)] (lo := 0) (Nat.zero_le _)).rd (by simp; omega) (by have := HB.out.size; simp; omega) ?_; intro A4 c4 w4 h4 t4 _; have c04 := HCC.out w4 t4)
      obtain ⟨s4, b4⟩ := app1 _ HB.out (Nat.le_refl _) h4 t4
      have S4 := Lib.hid s4
      have B4 := Lib.hid b4
      clear h4 t4 s4 b4
      go_wp2_with fail
      go_roundw
      case rel => exact ⟨nx, A4, c4, ys ++ [(P : Int)], m', rfl, by simp, hpa1, by omega, by rw [List.append_assoc]; show ys ++ (↑P :: aboveG os m' nx) = _; rw [← HS2.out]; exact HY.out, by have := HYM.out; simp; omega, by omega, S4.out, B4.out⟩
      case measure => simp [intOf]; omega
    · have HE := Lib.hid (show ys = aboveOfF os o by rw [HF.out, ← HY.out, aboveG_end os m cur (by omega), List.append_nil])
      clear h HY
      go_wp2_with fail
      refine (slicesClip ys rfl HS.out).mono ?_; rintro e w' ⟨rfl, s5, rfl⟩
      have S5 := Lib.hid s5; clear s5
      go_wp2_with fail
      go_ret
      exact ⟨A2, ys.length, by rw [HE.out]; rfl, by rw [← HE.out]; exact S5.out, HB.out⟩


def RetIB (p : Int × Bool) (w : World) (e : Ending) (w' : World) : Prop := e = .returned (.tuple #[.int .i64 p.1, .bool p.2]) ∧ Below w.heap.size w w'



def newOF (cx : List Int) : List Own := if ctxB cx then [⟨-1, true, [], cx⟩] else []
theorem SlP.one {w : World} {g lo hi : Nat} (x : Own × Hd) (h : Blk w g 32 (orow [x]).toArray) (h1 : lo ≤ g) (h2 : g < hi) (hcl : SlI w lo hi x.2.clA x.2.clC x.1.cl) (hcx : SlI w lo hi x.2.cxA x.2.cxC x.1.cx)
    (hd : ∀ b ∈ live x.2.clA x.2.clC, b ∉ live x.2.cxA x.2.cxC) (hg : ∀ b ∈ foot x, b ≠ g) : SlP w lo hi (some ⟨g, 0, none⟩) 1 [x] := by
  have hz : ∀ (i : Nat) (y : Own × Hd), [x][i]? = some y → i = 0 ∧ y = x := fun i y hy => by
    cases i with
    | zero => simp at hy; exact ⟨rfl, hy.symm⟩
    | succ i => simp at hy
  refine ⟨Sl.of_blk h (by rw [orow_len]) h1 h2, fun i y hy => ?_, fun i y hy => ?_, fun i y hy b hb hb2 => ?_, fun i y hy => ?_, fun i j y z hy hz' hne => ?_⟩
  · rw [(hz i y hy).2]; exact hcl
  · rw [(hz i y hy).2]; exact hcx
  · rw [(hz i y hy).2] at hb
    exact hg b hb (of_live hb2)
  · rw [(hz i y hy).2]; exact hd
  · exact absurd ((hz i y hy).1.trans (hz j z hz').1.symm) hne
theorem MadeO.nil0 (w : World) : MadeO w [] (.returned (.slice none 0 0)) w := ⟨none, 0, rfl, SlO.nil, Below.refl _ _⟩
theorem MadeO.below {w w' w'' : World} {os : List Own} {e : Ending} (h : MadeO w' os e w'') (hb : Below w.heap.size w w') : MadeO w os e w'' := by
  obtain ⟨A, c, h1, h2, h3⟩ := h
  exact ⟨A, c, h1, h2.mono hb.size (Nat.le_refl _), hb.trans (h3.mono hb.size)⟩
theorem madeOne {w w1 : World} {A1 : Option Addr} {c1 : Nat} {cx : List Int} (s1 : SlI w1 w.heap.size w1.heap.size A1 c1 cx) (b1 : Below w.heap.size w w1) :
    MadeO w [⟨-1, true, [], cx⟩] (.returned (.slice (some ⟨w1.heap.size, 0, none⟩) 1 1)) (w1.alloc (.cells #[.int .i64 (-1), .bool true, .slice none 0 0, .slice A1 cx.length c1] 32)) := by
  have hb : Blk (w1.alloc (.cells #[.int .i64 (-1), .bool true, .slice none 0 0, .slice A1 cx.length c1] 32)) w1.heap.size 32 (orow [((⟨-1, true, [], cx⟩, ⟨none, 0, A1, c1⟩) : Own × Hd)]).toArray := by
    show Blk _ _ _ #[.int .i64 (-1), .bool true, .slice none 0 0, .slice A1 cx.length c1]
    exact Blk.new w1 _ _
  refine ⟨_, 1, rfl, ⟨[((⟨-1, true, [], cx⟩, ⟨none, 0, A1, c1⟩) : Own × Hd)], rfl, SlP.one _ hb b1.size (by simp) SlI.nil ((s1.mono (Nat.le_refl _) (by simp)).alloc _) (fun b hb => by simp [live_nil] at hb) (fun b hb => ?_)⟩, b1.alloc (Nat.le_trans (Nat.le_refl _) b1.size) _⟩
  unfold foot at hb
  rw [List.mem_append] at hb
  rcases hb with hb | hb
  · simp [live_nil] at hb
  · have := (Sl.live_in s1 b hb).2.2; omega

theorem cloneI {A : Option Addr} {c n B : Nat} {w : World} (xs : List Int) (ln : xs.length = n) (hn : n ≤ 17592186044416) (h : RdI w B A xs) (hB : B ≤ w.heap.size) :
    Calls Try.prog 50 #[.slice A n c] w (MadeI w xs) := by
  subst ln
  have CALL := Lib.hid (slicesClone (c := c) xs rfl hn h hB)
  clear h
  go_enter Try.func50, Try.ntmps50
  go_wp2_with fail
  refine CALL.out.mono ?_; rintro e w1 ⟨A1, c1, rfl, s1, b1⟩
  have S1 := Lib.hid s1
  have B1 := Lib.hid b1
  clear s1 b1 CALL
  go_wp2_with fail
  refine (slicesClip xs rfl S1.out).mono ?_; rintro e w' ⟨rfl, s5, rfl⟩
  have FIN := Lib.hid (show MadeI w xs (.returned (.slice A1 xs.length xs.length)) w1 from ⟨A1, _, rfl, s5, B1.out⟩)
  clear s5
  go_wp2_with fail
  go_ret
  exact FIN.out


theorem specNewOwners {A : Option Addr} {c n B : Nat} {w : World} (xs : List Int) (ln : xs.length = n) (hn : n ≤ 1099511627776) (h : RdI w B A xs) (hB : B ≤ w.heap.size) :
    Calls Try.prog 61 #[.slice A n c] w (MadeO w (newOF xs)) := by
  subst ln
  have CALL := Lib.hid (allIn (c := c) (lo := -1) (hi := 50) xs rfl (by omega) h)
  have CALL2 := Lib.hid (copyInts (c := c) xs rfl (by omega) h hB)
  clear h
  by_cases h3 : xs.length = 3
  · have h3' : ((xs.length : Int) != 3) = false := by rw [h3]; rfl
    have H3 := Lib.hid h3; clear h3
    cases ha : allB (-1) 50 xs
    · have HF := Lib.hid (show MadeO w (newOF xs) (.returned (.slice none 0 0)) w from by unfold newOF ctxB; rw [ha, Bool.and_false]; exact MadeO.nil0 w)
      go_enter Try.func61, Try.ntmps61
      go_wp2_with fail
      refine CALL.out.mono ?_; rintro e w' ⟨rfl, rfl⟩
      go_wp2_with fail
      go_ret
      exact HF.out
    · have HF := Lib.hid (show newOF xs = [⟨-1, true, [], xs⟩] from by unfold newOF ctxB; rw [ha, decide_eq_true H3.out]; rfl)
      go_enter Try.func61, Try.ntmps61
      go_wp2_with fail
      refine CALL.out.mono ?_; rintro e w' ⟨rfl, rfl⟩
      go_wp2_with fail
      refine CALL2.out.mono ?_; rintro e w1 ⟨A1, c1, rfl, s1, b1⟩
      have FIN := Lib.hid (madeOne s1 b1)
      clear s1 b1 ha
      go_wp2_with fail
      go_ret
      rw [HF.out]; exact FIN.out
  · have h3' : ((xs.length : Int) != 3) = true := by rw [bne_iff_ne]; omega
    have HF := Lib.hid (show MadeO w (newOF xs) (.returned (.slice none 0 0)) w from by unfold newOF ctxB; rw [decide_eq_false h3]; exact MadeO.nil0 w)
    clear h3
    go_enter Try.func61, Try.ntmps61
    go_wp2_with fail
    go_ret
    exact HF.out

theorem newOF_bd (xs : List Int) : (newOF xs).length ≤ 1048577 ∧ tot (newOF xs) ≤ 1048700 := by
  unfold newOF
  split
  · next h =>
    unfold ctxB at h
    simp only [Bool.and_eq_true, decide_eq_true_eq] at h
    simp [tot, h.1]
  · simp [tot]
theorem kidsOfF_bd (os : List Own) (o : Int) (h : os.length ≤ 1048576) : (kidsOfF os o).length ≤ 1048577 := by
  unfold kidsOfF; split
  · exact Nat.le_trans (selF_le _ _) (by omega)
  · simp
theorem aboveOfF_bd (os : List Own) (o : Int) (h : os.length ≤ 1048576) : (aboveOfF os o).length ≤ 1048577 := by
  unfold aboveOfF; split
  · exact Nat.le_trans (aboveG_len _ _ _) (by omega)
  · simp
theorem liveOfF_bd (os : List Own) (h : os.length ≤ 1048576) : (liveOfF os).length ≤ 1048577 := by
  unfold liveOfF; split
  · exact Nat.le_trans (selF_le _ _) (by omega)
  · simp

end Go.Proofs.Ytnlbmiangbahgaa
