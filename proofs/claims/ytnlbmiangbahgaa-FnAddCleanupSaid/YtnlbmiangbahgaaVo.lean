/-
  Owners stay owners: what opens, adds, sets, clears.
-/
import Derived.Test.YtnlbmiangbahgaaTree
import Derived.Test.YtnlbmiangbahgaaOwnI
import Derived.Test.YtnlbmiangbahgaaOwnL
namespace Go.Proofs.Ytnlbmiangbahgaa
open Go.RowKit

theorem vo_lens {os : List Own} (h : voB os = true) : (1 ≤ os.length ∧ os.length ≤ 12) ∧ ∀ x ∈ os, x.cl.length ≤ 5 ∧ x.cx.length = 3 := by
  obtain ⟨h1, h2, h3⟩ := vo_iff.1 h
  refine ⟨⟨h2, h3⟩, fun x hx => ?_⟩
  obtain ⟨i, hi, rfl⟩ := List.getElem_of_mem hx
  have := (okO_iff.1 (h1 i _ (List.getElem?_eq_getElem hi))).1
  exact ⟨this.2.1, this.2.2.2.1⟩
theorem tot_le_of {os : List Own} (h : ∀ x ∈ os, x.cl.length ≤ 5 ∧ x.cx.length = 3) : tot os ≤ 8 * os.length := by
  induction os with
  | nil => simp [tot]
  | cons x r ih =>
    have h1 := h x (by simp)
    have h2 := ih (fun y hy => h y (by simp [hy]))
    simp [tot] at h2 ⊢
    omega
theorem vo_bd {os : List Own} (h : voB os = true) : (∀ o ∈ os, o.cl.length ≤ 1099511627776 ∧ o.cx.length ≤ 1099511627776) ∧ tot os ≤ 96 := by
  have h1 := vo_lens h
  have h2 := tot_le_of h1.2
  exact ⟨fun o ho => by have := h1.2 o ho; omega, by omega⟩
theorem vo_new {cx : List Int} (h : ctxB cx = true) : newOF cx = [⟨-1, true, [], cx⟩] ∧ voB (newOF cx) = true := by
  have e : newOF cx = [⟨-1, true, [], cx⟩] := by unfold newOF; rw [if_pos h]
  refine ⟨e, ?_⟩
  rw [e, vo_iff]
  refine ⟨fun i x hx => ?_, by simp, by simp⟩
  have hi : i = 0 := by have := (List.getElem?_eq_some_iff.1 hx).1; simpa using this
  subst hi
  simp at hx
  subst hx
  unfold okO
  rw [h]
  rfl
theorem ctxB_iff {cx : List Int} : ctxB cx = true ↔ cx.length = 3 ∧ ∀ v ∈ cx, -1 ≤ v ∧ v ≤ 50 := by unfold ctxB; simp [allB_iff]
/-- one more, or another one in its place with the same parent and mark -/
theorem vo_set {os : List Own} {P : Nat} {x y : Own} (h : voB os = true) (hx : os[P]? = some x) (h1 : y.p = x.p) (h2 : y.op = x.op) (h3 : y.cl.length ≤ 5) (h4 : ∀ v ∈ y.cl, 0 ≤ v ∧ v ≤ 50) (h5 : y.cx.length = 3) (h6 : ∀ v ∈ y.cx, -1 ≤ v ∧ v ≤ 50) (h7 : y.op = false → y.cl = []) : voB (os.set P y) = true := by
  obtain ⟨hv, hl1, hl2⟩ := vo_iff.1 h
  have hop : ∀ p : Int, opAt os p = true → opAt (os.set P y) p = true := fun p hp => by
    unfold opAt at hp ⊢
    rw [List.getElem?_set]
    by_cases e : P = p.toNat
    · rw [if_pos e]
      have hP := (List.getElem?_eq_some_iff.1 hx).1
      rw [if_pos hP]
      rw [← e, hx] at hp
      simpa [h2] using hp
    · rw [if_neg e]; exact hp
  refine vo_iff.2 ⟨fun i z hz => ?_, by simpa using hl1, by simpa using hl2⟩
  rcases get_set hz with ⟨rfl, rfl⟩ | ⟨hne, hz⟩
  · have hk := okO_iff.1 (hv _ x hx)
    rw [okO_iff]
    refine ⟨⟨by rw [h1]; exact hk.1.1, h3, h4, h5, h6⟩, fun ho => ?_, h7⟩
    rcases hk.2.1 (h2 ▸ ho) with h8 | h8
    · exact .inl h8
    · exact .inr (by rw [h1]; exact hop _ h8)
  · have hk := okO_iff.1 (hv i z hz)
    rw [okO_iff]
    exact ⟨hk.1, fun ho => (hk.2.1 ho).imp id (hop _), hk.2.2⟩
theorem vo_openF {os : List Own} {o : Int} (h : voB os = true) (ht : (openF os o).2 = true) : voB (openF os o).1 = true := by
  unfold openF at ht ⊢
  split at ht
  · next hc =>
    rw [if_pos hc]
    rw [Bool.and_eq_true] at hc
    obtain ⟨hc1, hc2⟩ := hc
    have hl : os.length ≠ 12 := by simpa using hc2
    obtain ⟨_, h0, h1, h2⟩ := opB_iff.1 hc1
    obtain ⟨hv, hl1, hl2⟩ := vo_iff.1 h
    have hop : ∀ p : Int, opAt os p = true → opAt (os ++ [⟨o, true, [], [-1, -1, -1]⟩]) p = true := fun p hp => by
      unfold opAt at hp ⊢
      split at hp
      · next y hy => rw [List.getElem?_append_left (List.getElem?_eq_some_iff.1 hy).1, hy]; exact hp
      · cases hp
    show voB (os ++ [⟨o, true, [], [-1, -1, -1]⟩]) = true
    refine vo_iff.2 ⟨fun i z hz => ?_, by simp, by simp; omega⟩
    by_cases hi : i < os.length
    · rw [List.getElem?_append_left hi] at hz
      have hk := okO_iff.1 (hv i z hz)
      rw [okO_iff]
      exact ⟨hk.1, fun ho => (hk.2.1 ho).imp id (hop _), hk.2.2⟩
    · have hi2 : i = os.length := by have := (List.getElem?_eq_some_iff.1 hz).1; simp at this; omega
      subst hi2
      simp at hz
      subst hz
      rw [okO_iff]
      refine ⟨⟨parB_iff.2 (.inr ⟨by omega, h0, by omega⟩), by simp, by simp, rfl, by simp⟩, fun _ => .inr (hop _ h2), fun ho => by cases ho⟩
  · cases ht
theorem vo_addF {os : List Own} {o l : Int} (h : voB os = true) (ht : (addF os o l).2 = true) : voB (addF os o l).1 = true := by
  unfold addF at ht ⊢
  split at ht
  · next hc =>
    rw [if_pos hc]
    simp only [Bool.and_eq_true, Bool.not_eq_true', decide_eq_false_iff_not] at hc
    obtain ⟨⟨hc1, hc2⟩, hc3⟩ := hc
    obtain ⟨_, h0, h1, h2⟩ := opB_iff.1 hc1
    obtain ⟨P, rfl⟩ := Int.eq_ofNat_of_zero_le h0
    have hP : P < os.length := by omega
    rw [clLen_eq hP] at hc3
    have hk := okO_iff.1 ((vo_iff.1 h).1 P _ (List.getElem?_eq_getElem hP))
    rw [opAt_eq hP] at h2
    show voB (putCl os (P : Int) l) = true
    rw [putCl_eq l hP]
    refine vo_set h (List.getElem?_eq_getElem hP) rfl rfl (by simp; have := hk.1.2.1; omega) (fun v hv => ?_) hk.1.2.2.2.1 hk.1.2.2.2.2 (fun ho => by simp only at ho; rw [h2] at ho; cases ho)
    simp only [List.mem_append, List.mem_singleton] at hv
    rcases hv with hv | rfl
    · exact hk.1.2.2.1 v hv
    · exact inB_iff.1 hc2
  · cases ht
theorem vo_setF {os : List Own} {o key v : Int} (h : voB os = true) (ht : (setF os o key v).2 = true) : voB (setF os o key v).1 = true := by
  unfold setF at ht ⊢
  split at ht
  · next hc =>
    rw [if_pos hc]
    simp only [Bool.and_eq_true] at hc
    obtain ⟨⟨hc1, hc2⟩, hc3⟩ := hc
    obtain ⟨_, h0, h1, h2⟩ := opB_iff.1 hc1
    obtain ⟨P, rfl⟩ := Int.eq_ofNat_of_zero_le h0
    obtain ⟨hk0, hk2⟩ := inB_iff.1 hc2
    obtain ⟨K, rfl⟩ := Int.eq_ofNat_of_zero_le hk0
    have hP : P < os.length := by omega
    have hk := okO_iff.1 ((vo_iff.1 h).1 P _ (List.getElem?_eq_getElem hP))
    rw [opAt_eq hP] at h2
    show voB (putCx os (P : Int) (K : Int) v) = true
    rw [putCx_eq v hP]
    refine vo_set h (List.getElem?_eq_getElem hP) rfl rfl hk.1.2.1 hk.1.2.2.1 (by simpa using hk.1.2.2.2.1) (fun u hu => ?_) (fun ho => by simp only at ho; rw [h2] at ho; cases ho)
    rcases List.mem_or_eq_of_mem_set hu with hu | rfl
    · exact hk.1.2.2.2.2 u hu
    · have := inB_iff.1 hc3; omega
  · cases ht
theorem vo_rerunF {os : List Own} {o : Int} (h : opB os o = true) : voB (rerunF os o).1 = true := by
  obtain ⟨hv, h0, h1, h2⟩ := opB_iff.1 h
  obtain ⟨P, rfl⟩ := Int.eq_ofNat_of_zero_le h0
  unfold rerunF
  rw [if_pos h]
  exact (vo_cleared hv (by omega)).1
theorem vo_dispF {os : List Own} {o : Int} (h : opB os o = true) (ho : o ≠ 0) : voB (dispF os o).1 = true := by
  obtain ⟨hv, h0, h1, h2⟩ := opB_iff.1 h
  obtain ⟨P, rfl⟩ := Int.eq_ofNat_of_zero_le h0
  unfold dispF
  rw [if_pos (by rw [h]; simpa using ho)]
  exact (vo_cleared hv (by omega)).2 (by omega)
end Go.Proofs.Ytnlbmiangbahgaa
