/-
  spec.RerunOwner, LabelsOf, DisposeOwner.
-/
import Derived.Test.YtnlbmiangbahgaaOwnH
namespace Go.Proofs.Ytnlbmiangbahgaa
open Go.RowKit

theorem MadeI.bad {xs : List Int} {w w' : World} (h : xs = []) (b : Below w.heap.size w w') : MadeI w xs (.returned (.slice none 0 0)) w' := by subst h; exact (MadeI.nil0 w').below b
def labF (os : List Own) (o : Int) : List Int := (rerunF os o).2
theorem clearF_len (os : List Own) (o : Int) : (clearF os o).1.length = os.length ∧ tot (clearF os o).1 ≤ tot os ∧ (clearF os o).2.length ≤ tot os := by
  have h1 := keep_clearG os.length os o
  have h2 := clTot_clearG os.length os o
  have h3 := tot_keep h1
  have h4 := clTot_le os
  refine ⟨h1.1, ?_, ?_⟩ <;> (unfold clearF; omega)
theorem tot_shut (os : List Own) (k : Int) : (shut os k).length = os.length ∧ tot (shut os k) = tot os := by
  have h1 := keep_shut os k
  have h2 := clTot_shut os k
  have h3 := tot_keep h1
  exact ⟨h1.1, by omega⟩
theorem rerunF_bd (os : List Own) (o : Int) (h : os.length + tot os ≤ 1048576) : ((rerunF os o).1.length ≤ 1048577 ∧ tot (rerunF os o).1 ≤ 1048700) ∧ (rerunF os o).2.length ≤ 1048577 := by
  have := clearF_len os o
  unfold rerunF; split
  · omega
  · simp [tot]
theorem dispF_bd (os : List Own) (o : Int) (h : os.length + tot os ≤ 1048576) : ((dispF os o).1.length ≤ 1048577 ∧ tot (dispF os o).1 ≤ 1048700) ∧ (dispF os o).2.length ≤ 1048577 := by
  have := clearF_len os o
  have h2 := tot_shut (clearF os o).1 o
  unfold dispF; split
  · simp only; omega
  · simp [tot]
theorem labF_bd (os : List Own) (o : Int) (h : os.length + tot os ≤ 1048576) : (labF os o).length ≤ 1048577 := (rerunF_bd os o h).2

set_option maxHeartbeats 1600000 in
theorem specRerunOwner {A : Option Addr} {c n B : Nat} {w : World} (o : Int) (os : List Own) (ln : os.length = n) (hn : n ≤ 1048576) (ht : tot os ≤ 1048700) (hm : ∀ o ∈ os, o.cl.length ≤ 1099511627776 ∧ o.cx.length ≤ 1099511627776) (h : RdO w B A os) (hB : B ≤ w.heap.size) :
    Calls Try.prog 22 #[.slice A n c, .int .i64 o] w (RetOI (rerunF os o) w) := by
  subst ln
  have HTT := Lib.hid ht; clear ht
  have CALL := Lib.hid (validOwners (c := c) os rfl (by omega) hm h hB)
  have HM := Lib.hid hm; clear hm
  go_enter Try.func22, Try.ntmps22
  go_wp2_with fail
  refine CALL.out.mono ?_; rintro e w1 ⟨rfl, b1⟩
  have B1 := Lib.hid b1; clear b1 CALL
  cases hv : voB os
  case false =>
    have hop : opB os o = false := by rw [opB_eq, hv]; rfl
    have HF := Lib.hid (show rerunF os o = ([], []) from by unfold rerunF; rw [hop]; rfl)
    clear h
    go_wp2_with fail
    go_ret2
    exact RetOI.bad HF.out B1.out
  case true =>
  go_wp2_with fail
  refine (isOpen (c := c) o os rfl (by omega) (h.belowLe B1.out hB)).mono ?_; rintro e w' ⟨rfl, rfl⟩
  cases hio : isOpB os o
  case false =>
    have hop : opB os o = false := by rw [opB_eq, hio, Bool.and_false]
    have HF := Lib.hid (show rerunF os o = ([], []) from by unfold rerunF; rw [hop]; rfl)
    clear h
    go_wp2_with fail
    go_ret2
    exact RetOI.bad HF.out B1.out
  case true =>
  have hop : opB os o = true := by rw [opB_eq, hv, hio]; rfl
  clear hv hio
  have hh := opB_iff.1 hop
  obtain ⟨P, rfl⟩ := Int.eq_ofNat_of_zero_le hh.2.1
  have hP : P < os.length := by omega
  have HF := Lib.hid (show rerunF os (P : Int) = clearG os.length os (P : Int) from by unfold rerunF; rw [hop]; rfl)
  have hz1 := B1.out.size
  have CP := Lib.hid (specCopyOwners (c := c) os rfl (by omega) HM.out (h.belowLe B1.out hB) (Nat.le_trans hB hz1))
  have HAH := Lib.hid (ahead_of_voB hh.1)
  clear h hh hop
  go_wp2_with fail
  refine CP.out.mono ?_; rintro e w2 ⟨A2, c2, rfl, ⟨ps, hps, s2⟩, b2⟩
  have hz2 := b2.size
  have CLR := Lib.hid (specClear os.length ps os A2 c2 os.length w1.heap.size w2.heap.size P w2 hps rfl hn HAH.out (by have := clTot_le os; have := HTT.out; omega) hP (by omega) s2 (Nat.le_refl _) hz2)
  have B2 := Lib.hid (B1.out.trans (b2.mono hz1))
  clear s2 b2 hps
  go_wp2_with fail
  refine CLR.out.mono ?_; rintro e w3 ⟨A3, c3, qs, rfl, hqs, s3, l3, t3⟩
  have hz3 := t3.size
  have B3 := Lib.hid (B2.out.trans ((t3.below hz2).mono hz1))
  have HLN := Lib.hid (show (clearG os.length os (P : Int)).1.length = os.length from (keep_clearG _ _ _).1)
  have FIN := Lib.hid (show RetOI (rerunF os (P : Int)) w (.returned (.tuple #[.slice A2 os.length c2, .slice A3 (clearG os.length os (P : Int)).2.length c3])) w3 from by
    rw [HF.out]
    exact ⟨A2, c2, A3, c3, w2.heap.size, ⟨Nat.le_trans hz1 hz2, hz3⟩, by rw [HLN.out], ⟨qs, hqs, s3.mono hz1 (Nat.le_refl _)⟩, l3, B3.out⟩)
  clear s3 l3 t3 hqs
  go_wp2_with fail
  go_ret2
  exact FIN.out

set_option maxHeartbeats 1600000 in
theorem specLabelsOf {A : Option Addr} {c n B : Nat} {w : World} (o : Int) (os : List Own) (ln : os.length = n) (hn : n ≤ 1048576) (ht : tot os ≤ 1048700) (hm : ∀ o ∈ os, o.cl.length ≤ 1099511627776 ∧ o.cx.length ≤ 1099511627776) (h : RdO w B A os) (hB : B ≤ w.heap.size) :
    Calls Try.prog 18 #[.slice A n c, .int .i64 o] w (MadeI w (labF os o)) := by
  subst ln
  have HTT := Lib.hid ht; clear ht
  have CALL := Lib.hid (validOwners (c := c) os rfl (by omega) hm h hB)
  have HM := Lib.hid hm; clear hm
  go_enter Try.func18, Try.ntmps18
  go_wp2_with fail
  refine CALL.out.mono ?_; rintro e w1 ⟨rfl, b1⟩
  have B1 := Lib.hid b1; clear b1 CALL
  cases hv : voB os
  case false =>
    have hop : opB os o = false := by rw [opB_eq, hv]; rfl
    have HF := Lib.hid (show labF os o = [] from by unfold labF rerunF; rw [hop]; rfl)
    clear h
    go_wp2_with fail
    go_ret
    exact MadeI.bad HF.out B1.out
  case true =>
  go_wp2_with fail
  refine (isOpen (c := c) o os rfl (by omega) (h.belowLe B1.out hB)).mono ?_; rintro e w' ⟨rfl, rfl⟩
  cases hio : isOpB os o
  case false =>
    have hop : opB os o = false := by rw [opB_eq, hio, Bool.and_false]
    have HF := Lib.hid (show labF os o = [] from by unfold labF rerunF; rw [hop]; rfl)
    clear h
    go_wp2_with fail
    go_ret
    exact MadeI.bad HF.out B1.out
  case true =>
  have hop : opB os o = true := by rw [opB_eq, hv, hio]; rfl
  clear hv hio
  have hh := opB_iff.1 hop
  obtain ⟨P, rfl⟩ := Int.eq_ofNat_of_zero_le hh.2.1
  have hP : P < os.length := by omega
  have HF := Lib.hid (show labF os (P : Int) = (clearG os.length os (P : Int)).2 from by unfold labF rerunF; rw [hop]; rfl)
  have hz1 := B1.out.size
  have CP := Lib.hid (specCopyOwners (c := c) os rfl (by omega) HM.out (h.belowLe B1.out hB) (Nat.le_trans hB hz1))
  have HAH := Lib.hid (ahead_of_voB hh.1)
  clear h hh hop
  go_wp2_with fail
  refine CP.out.mono ?_; rintro e w2 ⟨A2, c2, rfl, ⟨ps, hps, s2⟩, b2⟩
  have hz2 := b2.size
  have CLR := Lib.hid (specClear os.length ps os A2 c2 os.length w1.heap.size w2.heap.size P w2 hps rfl hn HAH.out (by have := clTot_le os; have := HTT.out; omega) hP (by omega) s2 (Nat.le_refl _) hz2)
  have B2 := Lib.hid (B1.out.trans (b2.mono hz1))
  clear s2 b2 hps
  go_wp2_with fail
  refine CLR.out.mono ?_; rintro e w3 ⟨A3, c3, qs, rfl, hqs, s3, l3, t3⟩
  have hz3 := t3.size
  have B3 := Lib.hid (B2.out.trans ((t3.below hz2).mono hz1))
  have FIN := Lib.hid (show MadeI w (labF os (P : Int)) (.returned (.slice A3 (clearG os.length os (P : Int)).2.length c3)) w3 from by
    rw [HF.out]
    exact ⟨A3, c3, rfl, l3.mono (Nat.le_trans hz1 hz2) (Nat.le_refl _), B3.out⟩)
  clear s3 l3 t3 hqs
  go_wp2_with fail
  go_ret
  exact FIN.out

set_option maxHeartbeats 1600000 in
theorem specDisposeOwner {A : Option Addr} {c n B : Nat} {w : World} (o : Int) (os : List Own) (ln : os.length = n) (hn : n ≤ 1048576) (ht : tot os ≤ 1048700) (hm : ∀ o ∈ os, o.cl.length ≤ 1099511627776 ∧ o.cx.length ≤ 1099511627776) (h : RdO w B A os) (hB : B ≤ w.heap.size) :
    Calls Try.prog 25 #[.slice A n c, .int .i64 o] w (RetOI (dispF os o) w) := by
  subst ln
  have HTT := Lib.hid ht; clear ht
  have CALL := Lib.hid (validOwners (c := c) os rfl (by omega) hm h hB)
  have HM := Lib.hid hm; clear hm
  go_enter Try.func25, Try.ntmps25
  go_wp2_with fail
  refine CALL.out.mono ?_; rintro e w1 ⟨rfl, b1⟩
  have B1 := Lib.hid b1; clear b1 CALL
  cases hv : voB os
  case false =>
    have hop : opB os o = false := by rw [opB_eq, hv]; rfl
    have HF := Lib.hid (show dispF os o = ([], []) from by unfold dispF; rw [hop]; rfl)
    clear h
    go_wp2_with fail
    go_ret2
    exact RetOI.bad HF.out B1.out
  case true =>
  by_cases hz : o = 0
  case pos =>
    have hzz : (o == 0) = true := by rw [beq_iff_eq]; exact hz
    have hop : (opB os o && !(o == 0)) = false := by rw [hzz]; simp
    clear hz
    have HF := Lib.hid (show dispF os o = ([], []) from by unfold dispF; rw [hop]; rfl)
    clear h
    go_wp2_with fail
    go_ret2
    exact RetOI.bad HF.out B1.out
  case neg =>
  have hzz : (o == 0) = false := by rw [beq_eq_false_iff_ne]; exact hz
  have HZZ := Lib.hid hzz
  clear hz
  go_wp2_with fail
  refine (isOpen (c := c) o os rfl (by omega) (h.belowLe B1.out hB)).mono ?_; rintro e w' ⟨rfl, rfl⟩
  cases hio : isOpB os o
  case false =>
    have hop : opB os o = false := by rw [opB_eq, hio, Bool.and_false]
    have HF := Lib.hid (show dispF os o = ([], []) from by unfold dispF; rw [hop]; rfl)
    clear h
    go_wp2_with fail
    go_ret2
    exact RetOI.bad HF.out B1.out
  case true =>
  have hop : opB os o = true := by rw [opB_eq, hv, hio]; rfl
  clear hv hio
  have hh := opB_iff.1 hop
  obtain ⟨P, rfl⟩ := Int.eq_ofNat_of_zero_le hh.2.1
  have hP : P < os.length := by omega
  have HF := Lib.hid (show dispF os (P : Int) = (shut (clearG os.length os (P : Int)).1 P, (clearG os.length os (P : Int)).2) from by unfold dispF; rw [hop, HZZ.out]; rfl)
  have hz1 := B1.out.size
  have CP := Lib.hid (specCopyOwners (c := c) os rfl (by omega) HM.out (h.belowLe B1.out hB) (Nat.le_trans hB hz1))
  have HAH := Lib.hid (ahead_of_voB hh.1)
  clear h hh hop
  go_wp2_with fail
  refine CP.out.mono ?_; rintro e w2 ⟨A2, c2, rfl, ⟨ps, hps, s2⟩, b2⟩
  have hz2 := b2.size
  have CLR := Lib.hid (specClear os.length ps os A2 c2 os.length w1.heap.size w2.heap.size P w2 hps rfl hn HAH.out (by have := clTot_le os; have := HTT.out; omega) hP (by omega) s2 (Nat.le_refl _) hz2)
  have B2 := Lib.hid (B1.out.trans (b2.mono hz1))
  clear s2 b2 hps
  go_wp2_with fail
  refine CLR.out.mono ?_; rintro e w3 ⟨A3, c3, qs, rfl, hqs, s3, l3, t3⟩
  have hz3 := t3.size
  have B3 := Lib.hid (B2.out.trans ((t3.below hz2).mono hz1))
  have hln := (keep_clearG os.length os (P : Int)).1
  have HLN := Lib.hid hln
  have hPq : P < (clearG os.length os (P : Int)).1.length := by rw [hln]; exact hP
  obtain ⟨hd, hk⟩ := at_fst hqs hPq
  have HSH := Lib.hid (shut_eq hPq)
  obtain ⟨x, hx⟩ : ∃ x, (clearG os.length os (P : Int)).1[P] = x := ⟨_, rfl⟩
  rw [hx] at hk HSH
  obtain ⟨g, o2, rfl⟩ : ∃ g o, A2 = some ⟨g, o, none⟩ := by obtain ⟨g, o, h, _⟩ := s3.cells hk; exact ⟨g, o, h⟩
  have lk := s3.look hk rfl
  obtain ⟨⟨lk1, _⟩, lf1, _, lg1, lg2⟩ := lk
  obtain ⟨p4, t4⟩ := s3.put (hi' := w2.heap.size) (y := (⟨x.p, false, x.cl, x.cx⟩, hd)) hk 1 (.bool false) (by omega) rfl (Nat.le_refl _) (s3.cl P (x, hd) hk) (s3.cx P (x, hd) hk) (s3.d2 P (x, hd) hk) (fun b hb => s3.own_free hk hb) rfl
  have P4 := Lib.hid p4
  have L4 := Lib.hid (l3.turn t4 (.inr (by omega)))
  have B4 := Lib.hid (B3.out.trans (((t4.mono (lo' := w1.heap.size) lg1 (Nat.le_refl _)).below (by omega)).mono hz1))
  have HQ := Lib.hid hqs
  clear s3 l3 t3 p4 t4 hk hx hln hPq hqs
  go_wp2_with fail
  go_ret2
  rw [HF.out]
  refine ⟨some ⟨g, o2, none⟩, c2, A3, c3, w2.heap.size, ⟨Nat.le_trans hz1 hz2, by simpa [World.setCell] using hz3⟩, ?_, ⟨qs.set P (⟨x.p, false, x.cl, x.cx⟩, hd), ?_, ?_⟩, ?_, ?_⟩
  · show Ending.returned (.tuple #[.slice _ _ _, .slice _ _ _]) = .returned (.tuple #[.slice _ (shut (clearG os.length os (P : Int)).1 P).length _, .slice _ _ _])
    rw [(keep_shut _ _).1, HLN.out]
  · show List.map Prod.fst (qs.set P (⟨x.p, false, x.cl, x.cx⟩, hd)) = shut (clearG os.length os (P : Int)).1 P
    rw [HSH.out]; exact map_set_fst HQ.out
  · have := P4.out.mono hz1 (Nat.le_refl _); simpa only [Nat.add_assoc] using this
  · have := L4.out
    simpa [World.setCell, Nat.add_assoc] using this
  · have := B4.out; simpa only [Nat.add_assoc] using this

end Go.Proofs.Ytnlbmiangbahgaa
