/-
  impl.openOf; AddCleanup, SetContext, OpenUnder of both sides.
-/
import Derived.Test.YtnlbmiangbahgaaOwnC
import Derived.Test.YtnlbmiangbahgaaOwnD
namespace Go.Proofs.Ytnlbmiangbahgaa
open Go.RowKit

def clLen (os : List Own) (o : Int) : Nat := match os[o.toNat]? with | some x => x.cl.length | none => 0
theorem clLen_eq {os : List Own} {P : Nat} (h : P < os.length) : clLen os (P : Int) = os[P].cl.length := by simp [clLen, h]
def putCl (os : List Own) (o l : Int) : List Own := match os[o.toNat]? with | some x => os.set o.toNat ⟨x.p, x.op, x.cl ++ [l], x.cx⟩ | none => os
theorem putCl_eq {os : List Own} {P : Nat} (l : Int) (h : P < os.length) : putCl os (P : Int) l = os.set P ⟨os[P].p, os[P].op, os[P].cl ++ [l], os[P].cx⟩ := by simp [putCl, h]
def putCx (os : List Own) (o key v : Int) : List Own := match os[o.toNat]? with | some x => os.set o.toNat ⟨x.p, x.op, x.cl, x.cx.set key.toNat v⟩ | none => os
theorem putCx_eq {os : List Own} {P K : Nat} (v : Int) (h : P < os.length) : putCx os (P : Int) (K : Int) v = os.set P ⟨os[P].p, os[P].op, os[P].cl, os[P].cx.set K v⟩ := by simp [putCx, h]
def addF (os : List Own) (o l : Int) : List Own × Bool := if opB os o && inB l 0 50 && !(decide (clLen os o = 5)) then (putCl os o l, true) else ([], false)
def setF (os : List Own) (o key v : Int) : List Own × Bool := if opB os o && inB key 0 2 && inB v 0 50 then (putCx os o key v, true) else ([], false)
def openF (os : List Own) (o : Int) : List Own × Bool := if opB os o && !(decide (os.length = 12)) then (os ++ [⟨o, true, [], [-1, -1, -1]⟩], true) else ([], false)

/-- a list of owners that is new, and a bool -/
def RetOB (p : List Own × Bool) (w : World) (e : Ending) (w' : World) : Prop :=
  ∃ A c, e = .returned (.tuple #[.slice A p.1.length c, .bool p.2]) ∧ SlO w' w.heap.size w'.heap.size A c p.1 ∧ Below w.heap.size w w'
theorem RetOB.bad {p : List Own × Bool} {w w' : World} (h : p = ([], false)) (b : Below w.heap.size w w') : RetOB p w (.returned (.tuple #[.slice none 0 0, .bool false])) w' := by
  subst h; exact ⟨none, 0, rfl, SlO.nil, b⟩
theorem live_pos {A : Option Addr} {c c' : Nat} (h : 0 < c) (h' : 0 < c') : live A c = live A c' := by unfold live; rw [if_neg (by omega), if_neg (by omega)]
theorem SlP.clip {w : World} {lo hi c : Nat} {A : Option Addr} {ps : List (Own × Hd)} (h : SlP w lo hi A c ps) : SlP w lo hi A ps.length ps := by
  have hsub : ∀ b ∈ live A ps.length, b ∈ live A c := fun b hb => by
    by_cases h0 : ps.length = 0
    · rw [h0, live_nil] at hb; cases hb
    · rw [live_pos (c' := ps.length) (by have := h.row.le; omega) (by omega)]; exact hb
  refine ⟨?_, h.cl, h.cx, fun i x hx b hb hb2 => h.d1 i x hx b hb (hsub b hb2), h.d2, h.d3⟩
  obtain ⟨h1, h2, h3⟩ := h.row
  refine ⟨h1, Nat.le_refl _, ?_⟩
  rcases h3 with h3 | ⟨g, o, cur, h4, h5, h6, h7, h8, h9⟩
  · exact .inl (by omega)
  · exact .inr ⟨g, o, cur, h4, h5, h6, h7, by omega, h9⟩
theorem map_set_fst {ps : List (Own × Hd)} {os : List Own} {k : Nat} {y : Own × Hd} (h : ps.map Prod.fst = os) : (ps.set k y).map Prod.fst = os.set k y.1 := by rw [List.map_set, h]
theorem at_fst {ps : List (Own × Hd)} {os : List Own} {k : Nat} (h : ps.map Prod.fst = os) (hk : k < os.length) : ∃ hd, ps[k]? = some (os[k], hd) := by
  subst h
  have hk' : k < ps.length := by simpa using hk
  exact ⟨ps[k].2, by rw [List.getElem?_eq_getElem hk', List.getElem_map]⟩

theorem openOf {A : Option Addr} {c n B : Nat} {w : World} (o : Int) (os : List Own) (ln : os.length = n) (hn : n ≤ 1048576) (hm : ∀ o ∈ os, o.cl.length ≤ 1099511627776 ∧ o.cx.length ≤ 1099511627776) (h : RdO w B A os) (hB : B ≤ w.heap.size) :
    Calls Try.prog 33 #[.slice A n c, .int .i64 o] w fun e w' => e = .returned (.bool (opB os o)) ∧ Below w.heap.size w w' := by
  subst ln
  have CALL := Lib.hid (ownerOf (c := c) (k := o) os rfl (by omega) hm h hB)
  clear hm
  go_enter Try.func33, Try.ntmps33
  go_wp2_with fail
  refine CALL.out.mono ?_; rintro e w1 ⟨rfl, b1⟩
  have B1 := Lib.hid b1; clear b1 CALL
  cases hof : ofB os o
  · have HF := Lib.hid (show opB os o = false from by unfold opB; rw [hof]; rfl)
    clear h hof
    go_wp2_with fail
    go_ret
    exact ⟨ret_bool HF.out.symm, B1.out⟩
  · have hh := (ofB_iff.1 hof).2
    obtain ⟨P, rfl⟩ := Int.eq_ofNat_of_zero_le hh.1
    have hP : P < os.length := by omega
    obtain ⟨g, o2, rfl, hg, hc⟩ := (h.belowLe B1.out hB).op hP
    have HF := Lib.hid (show opB os (P : Int) = opAt os (P : Int) from by unfold opB; rw [hof]; rfl)
    clear h hh hof
    go_wp2_with fail
    go_ret
    exact ⟨ret_bool HF.out.symm, B1.out⟩

set_option maxHeartbeats 1600000 in
theorem specAddCleanup {A : Option Addr} {c n B : Nat} {w : World} (o l : Int) (os : List Own) (ln : os.length = n) (hn : n ≤ 1048576) (hm : ∀ o ∈ os, o.cl.length ≤ 1099511627776 ∧ o.cx.length ≤ 1099511627776) (h : RdO w B A os) (hB : B ≤ w.heap.size) :
    Calls Try.prog 11 #[.slice A n c, .int .i64 o, .int .i64 l] w (RetOB (addF os o l) w) := by
  subst ln
  have CALL := Lib.hid (validOwners (c := c) os rfl (by omega) hm h hB)
  have HM := Lib.hid hm; clear hm
  go_enter Try.func11, Try.ntmps11
  go_wp2_with fail
  refine CALL.out.mono ?_; rintro e w1 ⟨rfl, b1⟩
  have B1 := Lib.hid b1; clear b1 CALL
  cases hv : voB os
  case false =>
    have hop : opB os o = false := by rw [opB_eq, hv]; rfl
    have HF := Lib.hid (show addF os o l = ([], false) from by unfold addF; rw [hop]; rfl)
    clear h
    go_wp2_with fail
    go_ret2
    exact RetOB.bad HF.out B1.out
  case true =>
  go_wp2_with fail
  refine (isOpen (c := c) o os rfl (by omega) (h.belowLe B1.out hB)).mono ?_; rintro e w' ⟨rfl, rfl⟩
  cases hio : isOpB os o
  case false =>
    have hop : opB os o = false := by rw [opB_eq, hio, Bool.and_false]
    have HF := Lib.hid (show addF os o l = ([], false) from by unfold addF; rw [hop]; rfl)
    clear h
    go_wp2_with fail
    go_ret2
    exact RetOB.bad HF.out B1.out
  case true =>
  have hop : opB os o = true := by rw [opB_eq, hv, hio]; rfl
  clear hv hio
  have HOP := Lib.hid hop
  have hh := opB_iff.1 hop
  obtain ⟨P, rfl⟩ := Int.eq_ofNat_of_zero_le hh.2.1
  have hP : P < os.length := by omega
  go_wp2_with fail
  refine inRange.mono ?_; rintro e w' ⟨rfl, rfl⟩
  cases hl : inB l 0 50
  case false =>
    have HF := Lib.hid (show addF os (P : Int) l = ([], false) from by unfold addF; rw [hop, hl]; rfl)
    clear h
    go_wp2_with fail
    go_ret2
    exact RetOB.bad HF.out B1.out
  case true =>
  obtain ⟨g, o2, hd0, hA, hg, ⟨_, _, c2', _⟩, _⟩ := (h.belowLe B1.out hB).at_ hP
  subst hA
  by_cases h5 : os[P].cl.length = 5
  case pos =>
    have HF := Lib.hid (show addF os (P : Int) l = ([], false) from by unfold addF; rw [hop, hl, clLen_eq hP, decide_eq_true h5]; rfl)
    have h5' : ((os[P].cl.length : Int) == 5) = true := by rw [beq_iff_eq]; omega
    clear h h5 hop hh
    go_wp2_with fail
    go_ret2
    exact RetOB.bad HF.out B1.out
  case neg =>
  have HF := Lib.hid (show addF os (P : Int) l = (putCl os P l, true) from by unfold addF; rw [hop, hl, clLen_eq hP, decide_eq_false h5]; rfl)
  have h5' : ((os[P].cl.length : Int) == 5) = false := by rw [beq_eq_false_iff_ne]; omega
  have HLEN := Lib.hid (okO_iff.1 ((voB_iff.1 hh.1).1 P hP)).1.2.1
  clear h5
  have hz1 := B1.out.size
  have CP := Lib.hid (specCopyOwners (c := c) os rfl (by omega) HM.out (h.belowLe B1.out hB) (Nat.le_trans hB hz1))
  clear h hh hop
  go_wp2_with fail
  refine CP.out.mono ?_; rintro e w2 ⟨A2, c2, rfl, ⟨ps, hps, s2⟩, b2⟩
  have hz2 := b2.size
  obtain ⟨hd, hk⟩ := at_fst hps hP
  have HPUT := Lib.hid (putCl_eq l hP)
  obtain ⟨x, hx⟩ : ∃ x, os[P] = x := ⟨_, rfl⟩
  rw [hx] at hk HPUT HLEN h5' c2'
  have CELL := Lib.hid (fun (W : World) (hs : SlP W w1.heap.size w2.heap.size A2 c2 ps) => hs.cells hk)
  obtain ⟨g2, o3, rfl, _⟩ := CELL.out w2 s2
  have CELL := Lib.hid (fun (W : World) (hs : SlP W w1.heap.size w2.heap.size (some ⟨g2, o3, none⟩) c2 ps) => (show W.cell? ⟨g2, o3 + P * 4 + 2, none⟩ = some (.slice hd.clA x.cl.length hd.clC) ∧ W.frozen? ⟨g2, o3 + P * 4 + 2, none⟩ = false from by
    obtain ⟨g', o', hA, _, _, _, _, d1, d2, _⟩ := hs.cells hk
    simp only [Option.some.injEq, Addr.mk.injEq, and_true] at hA
    obtain ⟨rfl, rfl⟩ := hA
    exact ⟨d1 P _ hk 2 _ rfl, d2 (P * 4 + 2)⟩))
  obtain ⟨d2, f2⟩ := CELL.out w2 s2
  have hkl : P < ps.length := (List.getElem?_eq_some_iff.1 hk).1
  have hpl : ps.length = os.length := by rw [← hps, List.length_map]
  have S2 := Lib.hid (s2.alloc (.cells (ints [l]).toArray 3))
  have B2 := Lib.hid (B1.out.trans (b2.mono hz1))
  have HPS := Lib.hid hps
  have HPL := Lib.hid hpl
  have HK := Lib.hid hk
  have hcl5 : x.cl.length ≤ 1099511627776 := by have := HLEN.out; omega
  clear s2 b2 hps hpl hk hx hkl
  go_wp2_with (at_builtin; refine wpList_appCl (.tmp 40) (.tmp 42) rfl rfl ps (x, hd) S2.out HK.out rfl rfl (SlI.newAt (w := w2) w2.heap.size rfl [l] (lo := 0) (Nat.zero_le _)).rd hcl5 (by simp) hz2 ?_; intro A5 c5 w5 p5 s5 fr5 dj5 t5; obtain ⟨d5, f5⟩ := CELL.out w5 p5)
  have hz5 : w2.heap.size + 1 ≤ w5.heap.size := by have := t5.size; simpa using this
  obtain ⟨p6, t6⟩ := p5.put (hi' := w5.heap.size) (y := (⟨x.p, x.op, x.cl ++ [l], x.cx⟩, ⟨A5, c5, hd.cxA, hd.cxC⟩)) HK.out 2 (.slice A5 (x.cl.length + 1) c5) (by omega) (by simp [ocells]) (by omega) s5 ((p5.cx P _ HK.out).mono (Nat.le_refl _) (by omega)) dj5 (fun b hb => by
    unfold foot at hb
    rw [List.mem_append] at hb
    rcases hb with hb | hb
    · exact fr5 b hb
    · exact p5.own_free HK.out (List.mem_append_right _ hb)) rfl
  have B6 := Lib.hid ((B2.out.alloc (Nat.le_trans (Nat.le_refl _) B2.out.size) (.cells (ints [l]).toArray 3)).trans ((t5.below (by simp; omega)).mono hz1))
  have hg2 : w1.heap.size ≤ g2 := by
    obtain ⟨g', o', hA, h1, _⟩ := p5.cells HK.out
    simp only [Option.some.injEq, Addr.mk.injEq, and_true] at hA
    omega
  have B7 := Lib.hid (B6.out.trans (((t6.mono (lo' := w1.heap.size) hg2 (Nat.le_refl _)).below (by omega)).mono hz1))
  have FIN := Lib.hid (show SlO _ w.heap.size w5.heap.size (some ⟨g2, o3, none⟩) c2 (putCl os (P : Int) l) from ⟨_, by rw [HPUT.out]; exact map_set_fst HPS.out, p6.mono hz1 (Nat.le_refl _)⟩)
  have HLN := Lib.hid (show os.length = (putCl os (P : Int) l).length by rw [HPUT.out, List.length_set])
  clear p6 t6 hg2 p5 s5 fr5 dj5 t5
  go_wp2_with fail
  go_ret2
  rw [HF.out]
  refine ⟨some ⟨g2, o3, none⟩, c2, ?_, ?_, ?_⟩
  · show Ending.returned (.tuple #[.slice _ _ _, .bool true]) = .returned (.tuple #[.slice _ (putCl os (P : Int) l).length _, .bool true])
    rw [← HLN.out]
  · have := FIN.out
    simpa [World.setCell, Nat.add_assoc] using this
  · have := B7.out
    simpa [World.setCell, Nat.add_assoc] using this

set_option maxHeartbeats 1600000 in
theorem implAddCleanup {A : Option Addr} {c n B : Nat} {w : World} (o l : Int) (os : List Own) (ln : os.length = n) (hn : n ≤ 1048576) (hm : ∀ o ∈ os, o.cl.length ≤ 1099511627776 ∧ o.cx.length ≤ 1099511627776) (h : RdO w B A os) (hB : B ≤ w.heap.size) :
    Calls Try.prog 10 #[.slice A n c, .int .i64 o, .int .i64 l] w (RetOB (addF os o l) w) := by
  subst ln
  have CALL := Lib.hid (openOf (c := c) o os rfl (by omega) hm h hB)
  have HM := Lib.hid hm; clear hm
  go_enter Try.func10, Try.ntmps10
  go_wp2_with fail
  refine CALL.out.mono ?_; rintro e w1 ⟨rfl, b1⟩
  have B1 := Lib.hid b1; clear b1 CALL
  cases hop : opB os o
  case false =>
    have HF := Lib.hid (show addF os o l = ([], false) from by unfold addF; rw [hop]; rfl)
    clear h
    go_wp2_with fail
    go_ret2
    exact RetOB.bad HF.out B1.out
  case true =>
  have HOP := Lib.hid hop
  have hh := opB_iff.1 hop
  obtain ⟨P, rfl⟩ := Int.eq_ofNat_of_zero_le hh.2.1
  have hP : P < os.length := by omega
  go_wp2_with fail
  refine in_.mono ?_; rintro e w' ⟨rfl, rfl⟩
  cases hl : inB l 0 50
  case false =>
    have HF := Lib.hid (show addF os (P : Int) l = ([], false) from by unfold addF; rw [hop, hl]; rfl)
    clear h
    go_wp2_with fail
    go_ret2
    exact RetOB.bad HF.out B1.out
  case true =>
  obtain ⟨g, o2, hd0, hA, hg, ⟨_, _, c2', _⟩, _⟩ := (h.belowLe B1.out hB).at_ hP
  subst hA
  by_cases h5 : os[P].cl.length = 5
  case pos =>
    have HF := Lib.hid (show addF os (P : Int) l = ([], false) from by unfold addF; rw [hop, hl, clLen_eq hP, decide_eq_true h5]; rfl)
    have h5' : ((os[P].cl.length : Int) == 5) = true := by rw [beq_iff_eq]; omega
    clear h h5 hop hh
    go_wp2_with fail
    go_ret2
    exact RetOB.bad HF.out B1.out
  case neg =>
  have HF := Lib.hid (show addF os (P : Int) l = (putCl os P l, true) from by unfold addF; rw [hop, hl, clLen_eq hP, decide_eq_false h5]; rfl)
  have h5' : ((os[P].cl.length : Int) == 5) = false := by rw [beq_eq_false_iff_ne]; omega
  have HLEN := Lib.hid (okO_iff.1 ((voB_iff.1 hh.1).1 P hP)).1.2.1
  clear h5
  have hz1 := B1.out.size
  have CP := Lib.hid (implCopyOwners (c := c) os rfl (by omega) HM.out (h.belowLe B1.out hB) (Nat.le_trans hB hz1))
  clear h hh hop
  go_wp2_with fail
  refine CP.out.mono ?_; rintro e w2 ⟨A2, c2, rfl, ⟨ps, hps, s2⟩, b2⟩
  have hz2 := b2.size
  obtain ⟨hd, hk⟩ := at_fst hps hP
  have HPUT := Lib.hid (putCl_eq l hP)
  obtain ⟨x, hx⟩ : ∃ x, os[P] = x := ⟨_, rfl⟩
  rw [hx] at hk HPUT HLEN h5' c2'
  have CELL := Lib.hid (fun (W : World) (hs : SlP W w1.heap.size w2.heap.size A2 c2 ps) => hs.cells hk)
  obtain ⟨g2, o3, rfl, _⟩ := CELL.out w2 s2
  have CELL := Lib.hid (fun (W : World) (hs : SlP W w1.heap.size w2.heap.size (some ⟨g2, o3, none⟩) c2 ps) => (show W.cell? ⟨g2, o3 + P * 4 + 2, none⟩ = some (.slice hd.clA x.cl.length hd.clC) ∧ W.frozen? ⟨g2, o3 + P * 4 + 2, none⟩ = false from by
    obtain ⟨g', o', hA, _, _, _, _, d1, d2, _⟩ := hs.cells hk
    simp only [Option.some.injEq, Addr.mk.injEq, and_true] at hA
    obtain ⟨rfl, rfl⟩ := hA
    exact ⟨d1 P _ hk 2 _ rfl, d2 (P * 4 + 2)⟩))
  obtain ⟨d2, f2⟩ := CELL.out w2 s2
  have hkl : P < ps.length := (List.getElem?_eq_some_iff.1 hk).1
  have hpl : ps.length = os.length := by rw [← hps, List.length_map]
  have S2 := Lib.hid (s2.alloc (.cells (ints [l]).toArray 3))
  have B2 := Lib.hid (B1.out.trans (b2.mono hz1))
  have HPS := Lib.hid hps
  have HPL := Lib.hid hpl
  have HK := Lib.hid hk
  have hcl5 : x.cl.length ≤ 1099511627776 := by have := HLEN.out; omega
  clear s2 b2 hps hpl hk hx hkl
  go_wp2_with (at_builtin; refine wpList_appCl (.tmp 35) (.tmp 37) rfl rfl ps (x, hd) S2.out HK.out rfl rfl (SlI.newAt (w := w2) w2.heap.size rfl [l] (lo := 0) (Nat.zero_le _)).rd hcl5 (by simp) hz2 ?_; intro A5 c5 w5 p5 s5 fr5 dj5 t5; obtain ⟨d5, f5⟩ := CELL.out w5 p5)
  have hz5 : w2.heap.size + 1 ≤ w5.heap.size := by have := t5.size; simpa using this
  have hle5 := s5.le
  have P5 := Lib.hid p5
  have FR5 := Lib.hid fr5
  have DJ5 := Lib.hid dj5
  have S5 := Lib.hid s5
  have T5 := Lib.hid t5
  have HLE := Lib.hid hle5
  clear p5 fr5 dj5 s5 t5 hle5
  go_wp2_with fail
  refine (slicesClip (x.cl ++ [l]) (by simp) S5.out).mono ?_; rintro e w' ⟨rfl, s6, rfl⟩
  have s6' : SlI w5 w1.heap.size w5.heap.size A5 (x.cl.length + 1) (x.cl ++ [l]) := by have := s6; simpa using this
  have hlv : live A5 (x.cl.length + 1) = live A5 c5 := live_pos (by omega) (by have := HLE.out; simp at this; omega)
  obtain ⟨p6, t6⟩ := P5.out.put (hi' := w5.heap.size) (y := (⟨x.p, x.op, x.cl ++ [l], x.cx⟩, ⟨A5, x.cl.length + 1, hd.cxA, hd.cxC⟩)) HK.out 2 (.slice A5 (x.cl.length + 1) (x.cl.length + 1)) (by omega) (by simp [ocells]) (by omega) s6' ((P5.out.cx P _ HK.out).mono (Nat.le_refl _) (by omega)) (fun b hb => DJ5.out b (by rw [← hlv]; exact hb)) (fun b hb => by
    unfold foot at hb
    rw [List.mem_append] at hb
    rcases hb with hb | hb
    · exact FR5.out b (by rw [← hlv]; exact hb)
    · exact P5.out.own_free HK.out (List.mem_append_right _ hb)) rfl
  have B6 := Lib.hid ((B2.out.alloc (Nat.le_trans (Nat.le_refl _) B2.out.size) (.cells (ints [l]).toArray 3)).trans ((T5.out.below (by simp; omega)).mono hz1))
  have hg2 : w1.heap.size ≤ g2 := by
    obtain ⟨g', o', hA, h1, _⟩ := P5.out.cells HK.out
    simp only [Option.some.injEq, Addr.mk.injEq, and_true] at hA
    omega
  have B7 := Lib.hid (B6.out.trans (((t6.mono (lo' := w1.heap.size) hg2 (Nat.le_refl _)).below (by omega)).mono hz1))
  have FIN := Lib.hid (show SlO _ w.heap.size w5.heap.size (some ⟨g2, o3, none⟩) c2 (putCl os (P : Int) l) from ⟨_, by rw [HPUT.out]; exact map_set_fst HPS.out, p6.mono hz1 (Nat.le_refl _)⟩)
  have HLN := Lib.hid (show os.length = (putCl os (P : Int) l).length by rw [HPUT.out, List.length_set])
  clear p6 t6 hg2 
  go_wp2_with fail
  go_ret2
  rw [HF.out]
  refine ⟨some ⟨g2, o3, none⟩, c2, ?_, ?_, ?_⟩
  · show Ending.returned (.tuple #[.slice _ _ _, .bool true]) = .returned (.tuple #[.slice _ (putCl os (P : Int) l).length _, .bool true])
    rw [← HLN.out]
  · have := FIN.out
    simpa [World.setCell, Nat.add_assoc] using this
  · have := B7.out
    simpa [World.setCell, Nat.add_assoc] using this

set_option maxHeartbeats 1600000 in
theorem specSetContext {A : Option Addr} {c n B : Nat} {w : World} (o key v : Int) (os : List Own) (ln : os.length = n) (hn : n ≤ 1048576) (hm : ∀ o ∈ os, o.cl.length ≤ 1099511627776 ∧ o.cx.length ≤ 1099511627776) (h : RdO w B A os) (hB : B ≤ w.heap.size) :
    Calls Try.prog 63 #[.slice A n c, .int .i64 o, .int .i64 key, .int .i64 v] w (RetOB (setF os o key v) w) := by
  subst ln
  have CALL := Lib.hid (validOwners (c := c) os rfl (by omega) hm h hB)
  have HM := Lib.hid hm; clear hm
  go_enter Try.func63, Try.ntmps63
  go_wp2_with fail
  refine CALL.out.mono ?_; rintro e w1 ⟨rfl, b1⟩
  have B1 := Lib.hid b1; clear b1 CALL
  cases hv : voB os
  case false =>
    have hop : opB os o = false := by rw [opB_eq, hv]; rfl
    have HF := Lib.hid (show setF os o key v = ([], false) from by unfold setF; rw [hop]; rfl)
    clear h
    go_wp2_with fail
    go_ret2
    exact RetOB.bad HF.out B1.out
  case true =>
  go_wp2_with fail
  refine (isOpen (c := c) o os rfl (by omega) (h.belowLe B1.out hB)).mono ?_; rintro e w' ⟨rfl, rfl⟩
  cases hio : isOpB os o
  case false =>
    have hop : opB os o = false := by rw [opB_eq, hio, Bool.and_false]
    have HF := Lib.hid (show setF os o key v = ([], false) from by unfold setF; rw [hop]; rfl)
    clear h
    go_wp2_with fail
    go_ret2
    exact RetOB.bad HF.out B1.out
  case true =>
  have hop : opB os o = true := by rw [opB_eq, hv, hio]; rfl
  clear hv hio
  have HOP := Lib.hid hop
  have hh := opB_iff.1 hop
  obtain ⟨P, rfl⟩ := Int.eq_ofNat_of_zero_le hh.2.1
  have hP : P < os.length := by omega
  go_wp2_with fail
  refine inRange.mono ?_; rintro e w' ⟨rfl, rfl⟩
  cases hl : inB key 0 2
  case false =>
    have HF := Lib.hid (show setF os (P : Int) key v = ([], false) from by unfold setF; rw [hop, hl]; rfl)
    clear h
    go_wp2_with fail
    go_ret2
    exact RetOB.bad HF.out B1.out
  case true =>
  go_wp2_with fail
  refine inRange.mono ?_; rintro e w' ⟨rfl, rfl⟩
  cases hl2 : inB v 0 50
  case false =>
    have HF := Lib.hid (show setF os (P : Int) key v = ([], false) from by unfold setF; rw [hop, hl, hl2]; rfl)
    clear h
    go_wp2_with fail
    go_ret2
    exact RetOB.bad HF.out B1.out
  case true =>
  have hkk := inB_iff.1 hl
  obtain ⟨K, rfl⟩ := Int.eq_ofNat_of_zero_le hkk.1
  have hK : K < 3 := by omega
  have HF := Lib.hid (show setF os (P : Int) (K : Int) v = (putCx os P K v, true) from by unfold setF; rw [hop, hl, hl2]; rfl)
  have HLEN := Lib.hid (cx_of_voB hh.1 hP)
  clear hl hl2 hkk
  have hz1 := B1.out.size
  have CP := Lib.hid (specCopyOwners (c := c) os rfl (by omega) HM.out (h.belowLe B1.out hB) (Nat.le_trans hB hz1))
  clear h hh hop
  go_wp2_with fail
  refine CP.out.mono ?_; rintro e w2 ⟨A2, c2, rfl, ⟨ps, hps, s2⟩, b2⟩
  have hz2 := b2.size
  obtain ⟨hd, hk⟩ := at_fst hps hP
  have HPUT := Lib.hid (putCx_eq (K := K) v hP)
  obtain ⟨x, hx⟩ : ∃ x, os[P] = x := ⟨_, rfl⟩
  rw [hx] at hk HPUT HLEN
  obtain ⟨g2, o3, rfl, hg1, hg2, hg3, hg4, d1, dd2, _⟩ := s2.cells hk
  have d3 := d1 P _ hk 3 _ rfl
  obtain ⟨l', h', n1, n2, _, n4⟩ := Sl.narrow (s2.cx P _ hk)
  have hcxl := HLEN.out
  dsimp only at n1 n2 n4
  obtain ⟨g4, o4, hA4, hg41, hg42, hcc, hff, hst⟩ := SlI.at_ n1 (k := K) (by omega)
  have hcell := hcc K (by omega)
  have hfr := hff K
  obtain ⟨s5, t5⟩ := hst K v (by omega)
  rw [hA4] at d3
  rw [hcxl] at d3
  have hKi : (K : Int) < ((3 : Nat) : Int) := by omega
  have p6 := s2.innerCx hk (x.cx.set K v) (by simp) t5 n2 s5
  have t6 := n4 _ _ t5
  have B6 := Lib.hid ((B1.out.trans (b2.mono hz1)).trans ((t6.below hz2).mono hz1))
  have FIN := Lib.hid (show SlO _ w.heap.size w2.heap.size (some ⟨g2, o3, none⟩) c2 (putCx os (P : Int) (K : Int) v) from ⟨_, by rw [HPUT.out]; exact map_set_fst hps, p6.mono hz1 (Nat.le_refl _)⟩)
  have HLN := Lib.hid (show os.length = (putCx os (P : Int) (K : Int) v).length by rw [HPUT.out, List.length_set])
  have hpl : ps.length = os.length := by rw [← hps, List.length_map]
  simp only [← Nat.add_assoc] at d3
  obtain ⟨y, hy⟩ : ∃ y, x.cx[K]'(by omega) = y := ⟨_, rfl⟩
  rw [hy] at hcell
  clear s2 b2 hps hk hx hpl d1 dd2 n1 n2 n4 hcc hff hst s5 t5 p6 t6 hA4 hcxl hy hg4
  go_wp2_with fail
  go_ret2
  rw [HF.out]
  refine ⟨some ⟨g2, o3, none⟩, c2, ?_, ?_, ?_⟩
  · show Ending.returned (.tuple #[.slice _ _ _, .bool true]) = .returned (.tuple #[.slice _ (putCx os (P : Int) (K : Int) v).length _, .bool true])
    rw [← HLN.out]
  · have := FIN.out
    simpa [World.setCell, Nat.add_assoc] using this
  · have := B6.out
    simpa [World.setCell, Nat.add_assoc] using this



set_option maxHeartbeats 1600000 in
theorem specOpenUnder {A : Option Addr} {c n B : Nat} {w : World} (o : Int) (os : List Own) (ln : os.length = n) (hn : n ≤ 1048576) (hm : ∀ o ∈ os, o.cl.length ≤ 1099511627776 ∧ o.cx.length ≤ 1099511627776) (h : RdO w B A os) (hB : B ≤ w.heap.size) :
    Calls Try.prog 62 #[.slice A n c, .int .i64 o] w (RetOB (openF os o) w) := by
  subst ln
  have CALL := Lib.hid (validOwners (c := c) os rfl (by omega) hm h hB)
  have HM := Lib.hid hm; clear hm
  go_enter Try.func62, Try.ntmps62
  go_wp2_with fail
  refine CALL.out.mono ?_; rintro e w1 ⟨rfl, b1⟩
  have B1 := Lib.hid b1; clear b1 CALL
  cases hv : voB os
  case false =>
    have hop : opB os o = false := by rw [opB_eq, hv]; rfl
    have HF := Lib.hid (show openF os o = ([], false) from by unfold openF; rw [hop]; rfl)
    clear h
    go_wp2_with fail
    go_ret2
    exact RetOB.bad HF.out B1.out
  case true =>
  go_wp2_with fail
  refine (isOpen (c := c) o os rfl (by omega) (h.belowLe B1.out hB)).mono ?_; rintro e w' ⟨rfl, rfl⟩
  cases hio : isOpB os o
  case false =>
    have hop : opB os o = false := by rw [opB_eq, hio, Bool.and_false]
    have HF := Lib.hid (show openF os o = ([], false) from by unfold openF; rw [hop]; rfl)
    clear h
    go_wp2_with fail
    go_ret2
    exact RetOB.bad HF.out B1.out
  case true =>
  have hop : opB os o = true := by rw [opB_eq, hv, hio]; rfl
  clear hv hio
  have HOP := Lib.hid hop
  have hh := opB_iff.1 hop
  obtain ⟨P, rfl⟩ := Int.eq_ofNat_of_zero_le hh.2.1
  have hP : P < os.length := by omega
  by_cases h12 : os.length = 12
  case pos =>
    have HF := Lib.hid (show openF os (P : Int) = ([], false) from by unfold openF; rw [hop, decide_eq_true h12]; rfl)
    have h12' : ((os.length : Int) == 12) = true := by rw [beq_iff_eq]; omega
    clear h h12 hop hh
    go_wp2_with fail
    go_ret2
    exact RetOB.bad HF.out B1.out
  case neg =>
  have HF := Lib.hid (show openF os (P : Int) = (os ++ [⟨P, true, [], [-1, -1, -1]⟩], true) from by unfold openF; rw [hop, decide_eq_false h12]; rfl)
  have h12' : ((os.length : Int) == 12) = false := by rw [beq_eq_false_iff_ne]; omega
  clear h12
  have hz1 := B1.out.size
  have CP := Lib.hid (specCopyOwners (c := c) os rfl (by omega) HM.out (h.belowLe B1.out hB) (Nat.le_trans hB hz1))
  clear h hh hop
  go_wp2_with fail
  refine CP.out.mono ?_; rintro e w2 ⟨A2, c2, rfl, ⟨ps, hps, s2⟩, b2⟩
  have hz2 := b2.size
  obtain ⟨hd, hk⟩ := at_fst hps hP
  have hpl : ps.length = os.length := by rw [← hps, List.length_map]
  have S2 := Lib.hid s2
  have B2 := Lib.hid (B1.out.trans (b2.mono hz1))
  have HPS := Lib.hid hps
  have HPL := Lib.hid hpl
  clear s2 b2 hps hpl hk
  go_wp2_with fail
  refine emptyContext.mono ?_; rintro e w3 ⟨A3, c3, rfl, s3, b3⟩
  have hz3 := b3.size
  obtain ⟨W4, hW4⟩ : ∃ W4 : World, W4 = w3.alloc (.cells (ocells (⟨P, true, [], [-1, -1, -1]⟩, ⟨none, 0, A3, c3⟩)).toArray 32) := ⟨_, rfl⟩
  have hz4 : W4.heap.size = w3.heap.size + 1 := by rw [hW4, World.size_alloc]
  have b4 : Below w2.heap.size w2 W4 := by rw [hW4]; exact b3.alloc hz3 _
  have UB := Lib.hid (show Blk W4 w3.heap.size 32 (ocells (⟨P, true, [], [-1, -1, -1]⟩, ⟨none, 0, A3, c3⟩)).toArray by rw [hW4]; exact Blk.newAt _ _ _ _ rfl)
  have S4 := Lib.hid (S2.out.below b4 (Nat.le_refl _))
  have u2 : SlI W4 w2.heap.size w3.heap.size A3 c3 [-1, -1, -1] := by rw [hW4]; exact s3.alloc _
  have UCX := Lib.hid (show SlI W4 w1.heap.size W4.heap.size A3 c3 [-1, -1, -1] from u2.mono hz2 (by omega))
  have UCL := Lib.hid (show SlI W4 w1.heap.size W4.heap.size none 0 [] from SlI.nil)
  have UD := Lib.hid (show ∀ b ∈ live none 0, b ∉ live A3 c3 from fun b h1 => by simp [live_nil] at h1)
  have UF := Lib.hid (show ∀ b ∈ foot ((⟨P, true, [], [-1, -1, -1]⟩, ⟨none, 0, A3, c3⟩) : Own × Hd), w2.heap.size ≤ b from fun b hb => by
    unfold foot at hb
    rw [List.mem_append] at hb
    rcases hb with hb | hb
    · simp [live_nil] at hb
    · exact (Sl.live_in u2 b hb).1)
  have UL := Lib.hid (show w1.heap.size ≤ W4.heap.size by omega)
  have UH := Lib.hid (show w2.heap.size ≤ W4.heap.size by omega)
  have UN := Lib.hid (show os.length ≤ 1099511627776 by omega)
  have B4 := Lib.hid (B2.out.trans (b4.mono (Nat.le_trans hz1 hz2)))
  clear u2 b4 hz4 s3 b3
  subst hW4
  go_wp2_with (at_builtin; refine wpList_appO (.tmp 21) (.tmp 25) rfl rfl ps ((⟨P, true, [], [-1, -1, -1]⟩, ⟨none, 0, A3, c3⟩) : Own × Hd) rfl HPL.out S4.out rfl UB.out UCL.out UCX.out UD.out UF.out UN.out UL.out UH.out ?_; intro A5 c5 w5 p5 t5)
  have hz5 := t5.size
  have B5 := Lib.hid (B4.out.trans ((t5.below UL.out).mono hz1))
  have P5 := Lib.hid p5
  have HML := Lib.hid (show (ps ++ [((⟨P, true, [], [-1, -1, -1]⟩, ⟨none, 0, A3, c3⟩) : Own × Hd)]).map Prod.fst = os ++ [⟨P, true, [], [-1, -1, -1]⟩] by rw [List.map_append, HPS.out]; rfl)
  clear t5 p5
  go_wp2_with fail
  go_ret2
  rw [HF.out]
  exact ⟨A5, c5, by simp, ⟨_, HML.out, P5.out.mono hz1 (Nat.le_refl _)⟩, B5.out⟩


theorem tot_set {os : List Own} {k : Nat} {x y : Own} (h : os[k]? = some x) : tot (os.set k y) + (x.cl.length + x.cx.length) = tot os + (y.cl.length + y.cx.length) := by
  induction os generalizing k with
  | nil => simp at h
  | cons z r ih =>
    cases k with
    | zero =>
      simp at h
      subst h
      simp [tot]; omega
    | succ k =>
      have := ih (k := k) (by simpa using h)
      simp [tot] at this ⊢
      omega
theorem putCl_bd (os : List Own) (o l : Int) : (putCl os o l).length = os.length ∧ tot (putCl os o l) ≤ tot os + 1 := by
  unfold putCl
  split
  · next x hx =>
    have := tot_set (y := ⟨x.p, x.op, x.cl ++ [l], x.cx⟩) hx
    simp at this
    exact ⟨by simp, by omega⟩
  · exact ⟨rfl, by omega⟩
theorem putCx_bd (os : List Own) (o k v : Int) : (putCx os o k v).length = os.length ∧ tot (putCx os o k v) ≤ tot os := by
  unfold putCx
  split
  · next x hx =>
    have := tot_set (y := ⟨x.p, x.op, x.cl, x.cx.set k.toNat v⟩) hx
    simp at this
    exact ⟨by simp, by omega⟩
  · exact ⟨rfl, by omega⟩
theorem addF_bd (os : List Own) (o l : Int) (h : os.length + tot os ≤ 1048576) : (addF os o l).1.length ≤ 1048577 ∧ tot (addF os o l).1 ≤ 1048700 := by
  have := putCl_bd os o l
  unfold addF; split
  · simp only; omega
  · simp [tot]
theorem setF_bd (os : List Own) (o k v : Int) (h : os.length + tot os ≤ 1048576) : (setF os o k v).1.length ≤ 1048577 ∧ tot (setF os o k v).1 ≤ 1048700 := by
  have := putCx_bd os o k v
  unfold setF; split
  · simp only; omega
  · simp [tot]
theorem openF_bd (os : List Own) (o : Int) (h : os.length + tot os ≤ 1048576) : (openF os o).1.length ≤ 1048577 ∧ tot (openF os o).1 ≤ 1048700 := by
  unfold openF; split
  · simp only [tot_snoc, List.length_append]; simp; omega
  · simp [tot]

end Go.Proofs.Ytnlbmiangbahgaa
