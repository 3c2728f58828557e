/-
  impl.RerunOwner, LabelsOf, DisposeOwner.
-/
import Derived.Test.YtnlbmiangbahgaaOwnF
namespace Go.Proofs.Ytnlbmiangbahgaa
open Go.RowKit

set_option maxHeartbeats 1600000 in
theorem implRerunOwner {A : Option Addr} {c n B : Nat} {w : World} (o : Int) (os : List Own) (ln : os.length = n) (hn : n ≤ 1048576) (ht : tot os ≤ 1048700) (hm : ∀ o ∈ os, o.cl.length ≤ 1099511627776 ∧ o.cx.length ≤ 1099511627776) (h : RdO w B A os) (hB : B ≤ w.heap.size) :
    Calls Try.prog 21 #[.slice A n c, .int .i64 o] w (RetOI (rerunF os o) w) := by
  subst ln
  have HTT := Lib.hid ht; clear ht
  have CALL := Lib.hid (openOf (c := c) o os rfl hn hm h hB)
  have HM := Lib.hid hm; clear hm
  go_enter Try.func21, Try.ntmps21
  go_wp2_with fail
  refine CALL.out.mono ?_; rintro e w1 ⟨rfl, b1⟩
  have B1 := Lib.hid b1; clear b1 CALL
  cases hop : opB os o
  case false =>
    have HF := Lib.hid (show rerunF os o = ([], []) from by unfold rerunF; rw [hop]; rfl)
    clear h
    go_wp2_with fail
    go_ret2
    exact RetOI.bad HF.out B1.out
  case true =>
  have hh := opB_iff.1 hop
  obtain ⟨P, rfl⟩ := Int.eq_ofNat_of_zero_le hh.2.1
  have hP : P < os.length := by omega
  have HF := Lib.hid (show rerunF os (P : Int) = clearG os.length os (P : Int) from by unfold rerunF; rw [hop]; rfl)
  have hz1 := B1.out.size
  have CP := Lib.hid (implCopyOwners (c := c) os rfl (by omega) HM.out (h.belowLe B1.out hB) (Nat.le_trans hB hz1))
  have HAH := Lib.hid (ahead_of_voB hh.1)
  clear h hh hop
  go_wp2_with fail
  refine CP.out.mono ?_; rintro e w2 ⟨A2, c2, rfl, ⟨ps, hps, s2⟩, b2⟩
  have hz2 := b2.size
  have CLR := Lib.hid (implClear os.length ps os A2 c2 os.length w1.heap.size w2.heap.size P w2 hps rfl hn HAH.out (by have := clTot_le os; have := HTT.out; omega) hP (by omega) s2 (Nat.le_refl _) hz2)
  have B2 := Lib.hid (B1.out.trans (b2.mono hz1))
  clear s2 b2 hps
  go_wp2_with fail
  refine CLR.out.mono ?_; rintro e w3 ⟨A3, c3, qs, rfl, hqs, s3, l3, t3⟩
  have hz3 := t3.size
  have B3 := Lib.hid (B2.out.trans ((t3.below hz2).mono hz1))
  have HLN := Lib.hid (show (clearG os.length os (P : Int)).1.length = os.length from (keep_clearG _ _ _).1)
  have FIN := Lib.hid (show RetOI (rerunF os (P : Int)) w (.returned (.tuple #[.slice A2 os.length c2, .slice A3 (clearG os.length os (P : Int)).2.length c3])) w3 from by
    rw [HF.out]
    exact ⟨A2, c2, A3, c3, w2.heap.size, ⟨Nat.le_trans hz1 hz2, hz3⟩, by rw [HLN.out], ⟨qs, hqs, s3.mono hz1 (Nat.le_refl _)⟩, l3, B3.out⟩)
  clear s3 l3 t3 hqs
  go_wp2_with fail
  go_ret2
  exact FIN.out

set_option maxHeartbeats 1600000 in
theorem implLabelsOf {A : Option Addr} {c n B : Nat} {w : World} (o : Int) (os : List Own) (ln : os.length = n) (hn : n ≤ 1048576) (ht : tot os ≤ 1048700) (hm : ∀ o ∈ os, o.cl.length ≤ 1099511627776 ∧ o.cx.length ≤ 1099511627776) (h : RdO w B A os) (hB : B ≤ w.heap.size) :
    Calls Try.prog 13 #[.slice A n c, .int .i64 o] w (MadeI w (labF os o)) := by
  subst ln
  have CALL := Lib.hid (implRerunOwner (c := c) o os rfl hn ht hm h hB)
  clear ht hm h
  go_enter Try.func13, Try.ntmps13
  go_wp2_with fail
  refine CALL.out.mono ?_; rintro e w1 ⟨A1, c1, A2, c2, mid, ⟨hm1, hm2⟩, rfl, s1, l1, b1⟩
  have FIN := Lib.hid (show MadeI w (labF os o) (.returned (.slice A2 (rerunF os o).2.length c2)) w1 from ⟨A2, c2, rfl, l1.mono hm1 (Nat.le_refl _), b1⟩)
  clear s1 l1 b1 CALL
  go_wp2_with fail
  go_ret
  exact FIN.out

set_option maxHeartbeats 1600000 in
theorem implDisposeOwner {A : Option Addr} {c n B : Nat} {w : World} (o : Int) (os : List Own) (ln : os.length = n) (hn : n ≤ 1048576) (ht : tot os ≤ 1048700) (hm : ∀ o ∈ os, o.cl.length ≤ 1099511627776 ∧ o.cx.length ≤ 1099511627776) (h : RdO w B A os) (hB : B ≤ w.heap.size) :
    Calls Try.prog 24 #[.slice A n c, .int .i64 o] w (RetOI (dispF os o) w) := by
  subst ln
  have HTT := Lib.hid ht; clear ht
  have CALL := Lib.hid (openOf (c := c) o os rfl hn hm h hB)
  have HM := Lib.hid hm; clear hm
  go_enter Try.func24, Try.ntmps24
  go_wp2_with fail
  refine CALL.out.mono ?_; rintro e w1 ⟨rfl, b1⟩
  have B1 := Lib.hid b1; clear b1 CALL
  cases hop : opB os o
  case false =>
    have HF := Lib.hid (show dispF os o = ([], []) from by unfold dispF; rw [hop]; rfl)
    clear h
    go_wp2_with fail
    go_ret2
    exact RetOI.bad HF.out B1.out
  case true =>
  by_cases hz : o = 0
  case pos =>
    have hzz : (o == 0) = true := by rw [beq_iff_eq]; exact hz
    have hop2 : (opB os o && !(o == 0)) = false := by rw [hzz]; simp
    have HF := Lib.hid (show dispF os o = ([], []) from by unfold dispF; rw [hop2]; rfl)
    clear h hop hop2 hz
    go_wp2_with fail
    go_ret2
    exact RetOI.bad HF.out B1.out
  case neg =>
  have hzz : (o == 0) = false := by rw [beq_eq_false_iff_ne]; exact hz
  have HZZ := Lib.hid hzz
  clear hz
  have hh := opB_iff.1 hop
  obtain ⟨P, rfl⟩ := Int.eq_ofNat_of_zero_le hh.2.1
  have hP : P < os.length := by omega
  have hRF : rerunF os (P : Int) = clearG os.length os (P : Int) := by unfold rerunF; rw [hop]; rfl
  have HF := Lib.hid (show dispF os (P : Int) = (shut (rerunF os (P : Int)).1 P, (rerunF os (P : Int)).2) from by unfold dispF; rw [hop, HZZ.out, hRF]; rfl)
  have hln : (rerunF os (P : Int)).1.length = os.length := by rw [hRF]; exact (keep_clearG os.length os (P : Int)).1
  have hz1 := B1.out.size
  have RR := Lib.hid (implRerunOwner (c := c) (P : Int) os rfl hn HTT.out HM.out (h.belowLe B1.out hB) (Nat.le_trans hB hz1))
  clear h hh hop hRF
  go_wp2_with fail
  refine RR.out.mono ?_; rintro e w3 ⟨A2, c2, A3, c3, mid, ⟨hm1, hm2⟩, rfl, ⟨qs, hqs, s3⟩, l3, b3⟩
  have B3 := Lib.hid (B1.out.trans (b3.mono hz1))
  have HLN := Lib.hid hln
  have hPq : P < (rerunF os (P : Int)).1.length := by rw [hln]; exact hP
  obtain ⟨hd, hk⟩ := at_fst hqs hPq
  have HSH := Lib.hid (shut_eq hPq)
  obtain ⟨q, hq⟩ : ∃ q, rerunF os (P : Int) = q := ⟨_, rfl⟩
  have hb3 := b3.size
  simp only [hq] at hPq hk hqs l3 HSH HLN HF ⊢
  obtain ⟨x, hx⟩ : ∃ x, q.1[P] = x := ⟨_, rfl⟩
  rw [hx] at hk HSH
  obtain ⟨g, o2, rfl⟩ : ∃ g o, A2 = some ⟨g, o, none⟩ := by obtain ⟨g, o, h, _⟩ := s3.cells hk; exact ⟨g, o, h⟩
  have lk := s3.look hk rfl
  obtain ⟨⟨lk1, _⟩, lf1, _, lg1, lg2⟩ := lk
  obtain ⟨p4, t4⟩ := s3.put (hi' := mid) (y := (⟨x.p, false, x.cl, x.cx⟩, hd)) hk 1 (.bool false) (by omega) rfl (Nat.le_refl _) (s3.cl P (x, hd) hk) (s3.cx P (x, hd) hk) (s3.d2 P (x, hd) hk) (fun b hb => s3.own_free hk hb) rfl
  have P4 := Lib.hid p4
  have L4 := Lib.hid (l3.turn t4 (.inr (by omega)))
  have B4 := Lib.hid (B3.out.trans (((t4.mono (lo' := w1.heap.size) lg1 (Nat.le_refl _)).below hb3).mono hz1))
  have HQ := Lib.hid hqs
  have hql : q.1.length = os.length := HLN.out
  clear s3 l3 b3 p4 t4 hk hx hln hPq hqs hq RR
  go_wp2_with fail
  go_ret2
  rw [HF.out]
  refine ⟨some ⟨g, o2, none⟩, c2, A3, c3, mid, ⟨Nat.le_trans hz1 hm1, by simpa [World.setCell] using hm2⟩, ?_, ⟨qs.set P (⟨x.p, false, x.cl, x.cx⟩, hd), ?_, ?_⟩, ?_, ?_⟩
  · show Ending.returned (.tuple #[.slice _ _ _, .slice _ _ _]) = .returned (.tuple #[.slice _ (shut q.1 P).length _, .slice _ _ _])
    rw [(keep_shut _ _).1, hql]
  · show List.map Prod.fst (qs.set P (⟨x.p, false, x.cl, x.cx⟩, hd)) = shut q.1 P
    rw [HSH.out]; exact map_set_fst HQ.out
  · have := P4.out.mono hz1 (Nat.le_refl _); simpa only [Nat.add_assoc] using this
  · have := L4.out
    simpa [World.setCell, Nat.add_assoc] using this
  · have := B4.out; simpa only [Nat.add_assoc] using this
end Go.Proofs.Ytnlbmiangbahgaa
