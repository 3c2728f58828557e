/-
  spec.validOwner, validOwners, ValidOwners, impl.ValidOwners, contextValid, ownerOf: are these owners?
-/
import Derived.Test.YtnlbmiangbahgaaOwnMark
namespace Go.Proofs.Ytnlbmiangbahgaa
open Go.RowKit

def parB (i : Nat) (p : Int) : Bool := if i = 0 then p == -1 else inB p 0 ((i : Int) - 1)
def ctxB (cx : List Int) : Bool := decide (cx.length = 3) && allB (-1) 50 cx
def opAt (os : List Own) (p : Int) : Bool := match os[p.toNat]? with | some o => o.op | none => false
def okO (os : List Own) (i : Nat) (o : Own) : Bool :=
  parB i o.p && (decide (o.cl.length ≤ 5) && allB 0 50 o.cl && ctxB o.cx) && (if o.op then decide (i = 0) || opAt os o.p else decide (o.cl.length = 0))
def voB (os : List Own) : Bool := decide (∀ j, ∀ h : j < os.length, okO os j os[j] = true) && inB os.length 1 12
theorem voB_iff {os : List Own} : voB os = true ↔ (∀ j (h : j < os.length), okO os j os[j] = true) ∧ 1 ≤ os.length ∧ os.length ≤ 12 := by
  simp only [voB, Bool.and_eq_true, decide_eq_true_eq, inB_iff]
  constructor <;> intro h <;> refine ⟨h.1, ?_, ?_⟩ <;> omega
theorem okO_iff {os : List Own} {i : Nat} {o : Own} : okO os i o = true ↔
    (parB i o.p = true ∧ o.cl.length ≤ 5 ∧ (∀ v ∈ o.cl, 0 ≤ v ∧ v ≤ 50) ∧ o.cx.length = 3 ∧ (∀ v ∈ o.cx, -1 ≤ v ∧ v ≤ 50)) ∧ (o.op = true → i = 0 ∨ opAt os o.p = true) ∧ (o.op = false → o.cl = []) := by
  unfold okO ctxB
  cases ho : o.op <;> simp [allB_iff, and_assoc]
theorem parB_iff {i : Nat} {p : Int} : parB i p = true ↔ (i = 0 ∧ p = -1) ∨ (0 < i ∧ 0 ≤ p ∧ p < i) := by
  unfold parB
  split
  · next h => simp [h]
  · next h => rw [inB_iff]; omega
theorem opAt_eq {os : List Own} {P : Nat} (h : P < os.length) : opAt os (P : Int) = os[P].op := by simp [opAt, h]

set_option maxHeartbeats 1600000 in
theorem specValidOwner {A : Option Addr} {c n B : Nat} {w : World} (os : List Own) (ln : os.length = n) (hn : n ≤ 1099511627776) (hm : ∀ o ∈ os, o.cl.length ≤ 1099511627776 ∧ o.cx.length ≤ 1099511627776) (h : RdO w B A os) (hB : B ≤ w.heap.size) (k : Nat) (hk : k < os.length) :
    Calls Try.prog 51 #[.slice A n c, .int .i64 k] w fun e w' => e = .returned (.bool (okO os k os[k])) ∧ Below w.heap.size w w' := by
  subst ln
  obtain ⟨g, o, hd, rfl, hg, ⟨c0, c1, c2, c3⟩, q1, q2, q3, q5⟩ := h.at_ hk
  obtain ⟨hm1, hm2⟩ := hm _ (List.getElem_mem hk)
  have HOP := Lib.hid (fun (P : Nat) (hP : P < os.length) => (show w.cell? ⟨g, o + P * 4 + 1, none⟩ = some (.bool (opAt os (P : Int))) from by
    obtain ⟨g', o', hd', hA, _, ⟨_, hc, _⟩, _⟩ := h.at_ hP
    simp only [Option.some.injEq, Addr.mk.injEq, and_true] at hA
    obtain ⟨rfl, rfl⟩ := hA
    rw [opAt_eq hP]; exact hc))
  obtain ⟨x, hx⟩ : ∃ x, os[k] = x := ⟨_, rfl⟩
  rw [hx] at c0 c1 c2 c3 q1 q2 q3 q5 hm1 hm2 ⊢
  obtain ⟨p, op, cl, cx⟩ := x
  simp only at c0 c1 c2 c3 q1 q2 q3 q5 hm1 hm2
  have HB := Lib.hid (below1 w (.cells #[.int .i64 p, .bool op, .slice hd.clA cl.length hd.clC, .slice hd.cxA cx.length hd.cxC] 32)).1
  have Q1 := Lib.hid (q1.belowLe HB.out hB)
  have Q2 := Lib.hid (q2.belowLe HB.out hB)
  have hgw : g < w.heap.size := by omega
  clear h hm hx q1 q2
  by_cases hk0 : k = 0
  · have hk0' : ((k : Int) == 0) = true := by rw [beq_iff_eq]; omega
    have hk1 : ¬ 0 < k := by omega
    by_cases hp1 : p = -1
    · have hpar : parB k p = true := by rw [parB, if_pos hk0, hp1]; rfl
      have hp1' : (p != -1) = false := by simp [hp1]
      have HK0 := Lib.hid hk0
      clear hp1 hk0
      by_cases h5 : cl.length ≤ 5
      case neg =>
        have HF := Lib.hid (show okO os k ⟨p, op, cl, cx⟩ = false from by simp [okO, h5])
        go_enter Try.func51, Try.ntmps51
        go_wp2_with (first | (go_at_call 39; (with_reducible refine inRange.mono ?_); rintro e w' ⟨rfl, rfl⟩) | (go_at_call 59; (with_reducible refine (allIn cl rfl (by omega) Q1.out).mono ?_); rintro e w' ⟨rfl, rfl⟩) | (go_at_call 59; (with_reducible refine (allIn cx rfl (by omega) Q2.out).mono ?_); rintro e w' ⟨rfl, rfl⟩))
        go_ret
        exact ⟨ret_bool HF.out.symm, HB.out⟩
      cases ha : allB 0 50 cl
      case false =>
        have HF := Lib.hid (show okO os k ⟨p, op, cl, cx⟩ = false from by simp [okO, ha])
        go_enter Try.func51, Try.ntmps51
        go_wp2_with (first | (go_at_call 39; (with_reducible refine inRange.mono ?_); rintro e w' ⟨rfl, rfl⟩) | (go_at_call 59; (with_reducible refine (allIn cl rfl (by omega) Q1.out).mono ?_); rintro e w' ⟨rfl, rfl⟩) | (go_at_call 59; (with_reducible refine (allIn cx rfl (by omega) Q2.out).mono ?_); rintro e w' ⟨rfl, rfl⟩))
        go_ret
        exact ⟨ret_bool HF.out.symm, HB.out⟩
      by_cases h3 : cx.length = 3
      case neg =>
        have HF := Lib.hid (show okO os k ⟨p, op, cl, cx⟩ = false from by simp [okO, ctxB, h3])
        have h3' : ((cx.length : Int) != 3) = true := by rw [bne_iff_ne]; omega
        clear h3
        go_enter Try.func51, Try.ntmps51
        go_wp2_with (first | (go_at_call 39; (with_reducible refine inRange.mono ?_); rintro e w' ⟨rfl, rfl⟩) | (go_at_call 59; (with_reducible refine (allIn cl rfl (by omega) Q1.out).mono ?_); rintro e w' ⟨rfl, rfl⟩) | (go_at_call 59; (with_reducible refine (allIn cx rfl (by omega) Q2.out).mono ?_); rintro e w' ⟨rfl, rfl⟩))
        go_ret
        exact ⟨ret_bool HF.out.symm, HB.out⟩
      have h3' : ((cx.length : Int) != 3) = false := by rw [h3]; rfl
      have H3 := Lib.hid h3; clear h3
      cases hb : allB (-1) 50 cx
      case false =>
        have HF := Lib.hid (show okO os k ⟨p, op, cl, cx⟩ = false from by simp [okO, ctxB, hb])
        go_enter Try.func51, Try.ntmps51
        go_wp2_with (first | (go_at_call 39; (with_reducible refine inRange.mono ?_); rintro e w' ⟨rfl, rfl⟩) | (go_at_call 59; (with_reducible refine (allIn cl rfl (by omega) Q1.out).mono ?_); rintro e w' ⟨rfl, rfl⟩) | (go_at_call 59; (with_reducible refine (allIn cx rfl (by omega) Q2.out).mono ?_); rintro e w' ⟨rfl, rfl⟩))
        go_ret
        exact ⟨ret_bool HF.out.symm, HB.out⟩
      cases op
      · have HF := Lib.hid (show okO os k ⟨p, false, cl, cx⟩ = decide ((cl.length : Int) = 0) from by simp [okO, ctxB, hpar, h5, ha, hb, H3.out])
        clear hpar
        go_enter Try.func51, Try.ntmps51
        go_wp2_with (first | (go_at_call 39; (with_reducible refine inRange.mono ?_); rintro e w' ⟨rfl, rfl⟩) | (go_at_call 59; (with_reducible refine (allIn cl rfl (by omega) Q1.out).mono ?_); rintro e w' ⟨rfl, rfl⟩) | (go_at_call 59; (with_reducible refine (allIn cx rfl (by omega) Q2.out).mono ?_); rintro e w' ⟨rfl, rfl⟩))
        go_ret
        exact ⟨ret_bool (by rw [HF.out]; first | rfl | simp), HB.out⟩
      · have HF := Lib.hid (show okO os k ⟨p, true, cl, cx⟩ = true from by have hz := HK0.out; simp only [okO, hpar]; simp [ctxB, h5, ha, hb, H3.out, hz])
        clear hpar
        go_enter Try.func51, Try.ntmps51
        go_wp2_with (first | (go_at_call 39; (with_reducible refine inRange.mono ?_); rintro e w' ⟨rfl, rfl⟩) | (go_at_call 59; (with_reducible refine (allIn cl rfl (by omega) Q1.out).mono ?_); rintro e w' ⟨rfl, rfl⟩) | (go_at_call 59; (with_reducible refine (allIn cx rfl (by omega) Q2.out).mono ?_); rintro e w' ⟨rfl, rfl⟩))
        go_ret
        exact ⟨ret_bool HF.out.symm, HB.out⟩
    · have HF := Lib.hid (show okO os k ⟨p, op, cl, cx⟩ = false from by simp [okO, parB, hp1, hk0])
      have hp1' : (p != -1) = true := by simp [hp1]
      clear hp1 hk0
      go_enter Try.func51, Try.ntmps51
      go_wp2_with (first | (go_at_call 39; (with_reducible refine inRange.mono ?_); rintro e w' ⟨rfl, rfl⟩) | (go_at_call 59; (with_reducible refine (allIn cl rfl (by omega) Q1.out).mono ?_); rintro e w' ⟨rfl, rfl⟩) | (go_at_call 59; (with_reducible refine (allIn cx rfl (by omega) Q2.out).mono ?_); rintro e w' ⟨rfl, rfl⟩))
      go_ret
      exact ⟨ret_bool HF.out.symm, HB.out⟩
  · have hk1 : 0 < k := by omega
    have hk0' : ((k : Int) == 0) = false := by rw [beq_eq_false_iff_ne]; omega
    cases hin : inB p 0 ((k : Int) - 1)
    · have HF := Lib.hid (show okO os k ⟨p, op, cl, cx⟩ = false from by simp [okO, parB, hk0, hin])
      clear hk0
      go_enter Try.func51, Try.ntmps51
      go_wp2_with (first | (go_at_call 39; (with_reducible refine inRange.mono ?_); rintro e w' ⟨rfl, rfl⟩) | (go_at_call 59; (with_reducible refine (allIn cl rfl (by omega) Q1.out).mono ?_); rintro e w' ⟨rfl, rfl⟩) | (go_at_call 59; (with_reducible refine (allIn cx rfl (by omega) Q2.out).mono ?_); rintro e w' ⟨rfl, rfl⟩))
      go_ret
      exact ⟨ret_bool HF.out.symm, HB.out⟩
    · have hpar : parB k p = true := by simp [parB, hk0, hin]
      by_cases h5 : cl.length ≤ 5
      case neg =>
        have HF := Lib.hid (show okO os k ⟨p, op, cl, cx⟩ = false from by simp [okO, h5])
        go_enter Try.func51, Try.ntmps51
        go_wp2_with (first | (go_at_call 39; (with_reducible refine inRange.mono ?_); rintro e w' ⟨rfl, rfl⟩) | (go_at_call 59; (with_reducible refine (allIn cl rfl (by omega) Q1.out).mono ?_); rintro e w' ⟨rfl, rfl⟩) | (go_at_call 59; (with_reducible refine (allIn cx rfl (by omega) Q2.out).mono ?_); rintro e w' ⟨rfl, rfl⟩))
        go_ret
        exact ⟨ret_bool HF.out.symm, HB.out⟩
      cases ha : allB 0 50 cl
      case false =>
        have HF := Lib.hid (show okO os k ⟨p, op, cl, cx⟩ = false from by simp [okO, ha])
        go_enter Try.func51, Try.ntmps51
        go_wp2_with (first | (go_at_call 39; (with_reducible refine inRange.mono ?_); rintro e w' ⟨rfl, rfl⟩) | (go_at_call 59; (with_reducible refine (allIn cl rfl (by omega) Q1.out).mono ?_); rintro e w' ⟨rfl, rfl⟩) | (go_at_call 59; (with_reducible refine (allIn cx rfl (by omega) Q2.out).mono ?_); rintro e w' ⟨rfl, rfl⟩))
        go_ret
        exact ⟨ret_bool HF.out.symm, HB.out⟩
      by_cases h3 : cx.length = 3
      case neg =>
        have HF := Lib.hid (show okO os k ⟨p, op, cl, cx⟩ = false from by simp [okO, ctxB, h3])
        have h3' : ((cx.length : Int) != 3) = true := by rw [bne_iff_ne]; omega
        clear h3
        go_enter Try.func51, Try.ntmps51
        go_wp2_with (first | (go_at_call 39; (with_reducible refine inRange.mono ?_); rintro e w' ⟨rfl, rfl⟩) | (go_at_call 59; (with_reducible refine (allIn cl rfl (by omega) Q1.out).mono ?_); rintro e w' ⟨rfl, rfl⟩) | (go_at_call 59; (with_reducible refine (allIn cx rfl (by omega) Q2.out).mono ?_); rintro e w' ⟨rfl, rfl⟩))
        go_ret
        exact ⟨ret_bool HF.out.symm, HB.out⟩
      have h3' : ((cx.length : Int) != 3) = false := by rw [h3]; rfl
      have H3 := Lib.hid h3; clear h3
      cases hb : allB (-1) 50 cx
      case false =>
        have HF := Lib.hid (show okO os k ⟨p, op, cl, cx⟩ = false from by simp [okO, ctxB, hb])
        go_enter Try.func51, Try.ntmps51
        go_wp2_with (first | (go_at_call 39; (with_reducible refine inRange.mono ?_); rintro e w' ⟨rfl, rfl⟩) | (go_at_call 59; (with_reducible refine (allIn cl rfl (by omega) Q1.out).mono ?_); rintro e w' ⟨rfl, rfl⟩) | (go_at_call 59; (with_reducible refine (allIn cx rfl (by omega) Q2.out).mono ?_); rintro e w' ⟨rfl, rfl⟩))
        go_ret
        exact ⟨ret_bool HF.out.symm, HB.out⟩
      cases op
      · have HF := Lib.hid (show okO os k ⟨p, false, cl, cx⟩ = decide ((cl.length : Int) = 0) from by simp [okO, ctxB, hpar, h5, ha, hb, H3.out])
        clear hpar
        go_enter Try.func51, Try.ntmps51
        go_wp2_with (first | (go_at_call 39; (with_reducible refine inRange.mono ?_); rintro e w' ⟨rfl, rfl⟩) | (go_at_call 59; (with_reducible refine (allIn cl rfl (by omega) Q1.out).mono ?_); rintro e w' ⟨rfl, rfl⟩) | (go_at_call 59; (with_reducible refine (allIn cx rfl (by omega) Q2.out).mono ?_); rintro e w' ⟨rfl, rfl⟩))
        go_ret
        exact ⟨ret_bool (by rw [HF.out]; first | rfl | simp), HB.out⟩
      · have hpp := inB_iff.1 hin
        obtain ⟨P, rfl⟩ := Int.eq_ofNat_of_zero_le hpp.1
        have hP : P < os.length := by omega
        have hc := HOP.out P hP
        have HF := Lib.hid (show okO os k ⟨(P : Int), true, cl, cx⟩ = opAt os P from by simp [okO, ctxB, hpar, h5, ha, hb, H3.out, hk0])
        obtain ⟨q, hq⟩ : ∃ q, opAt os (P : Int) = q := ⟨_, rfl⟩
        rw [hq] at hc
        have HQ := Lib.hid hq
        clear hpar hq HOP hpp
        cases q <;>
        ( go_enter Try.func51, Try.ntmps51
          go_wp2_with (first | (go_at_call 39; (with_reducible refine inRange.mono ?_); rintro e w' ⟨rfl, rfl⟩) | (go_at_call 59; (with_reducible refine (allIn cl rfl (by omega) Q1.out).mono ?_); rintro e w' ⟨rfl, rfl⟩) | (go_at_call 59; (with_reducible refine (allIn cx rfl (by omega) Q2.out).mono ?_); rintro e w' ⟨rfl, rfl⟩))
          go_ret
          exact ⟨ret_bool (by rw [HF.out, HQ.out]), HB.out⟩ )
end Go.Proofs.Ytnlbmiangbahgaa
