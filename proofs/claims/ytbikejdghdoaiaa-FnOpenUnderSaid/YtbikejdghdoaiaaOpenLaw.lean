/-
  The plain law of OpenUnder: the new owner is the last kid of its parent, and sees what that sees.
-/
import Derived.Test.YtbikejdghdoaiaaAboveLaw
namespace Go.Proofs.Ytbikejdghdoaiaa
open Go.RowKit

theorem openF_no {os : List Own} {o : Int} (h : (openF os o).2 = false) : (openF os o).1 = [] := by
  unfold openF at h ⊢
  split at h
  · cases h
  · next hc => rw [if_neg hc]
section
variable {os : List Own} {x : Own}
theorem get_app {i : Nat} (hi : i < os.length) : (os ++ [x])[i]? = os[i]? := List.getElem?_append_left hi
theorem lookG_app (ha : Ahead os) (key : Int) : ∀ (m : Nat) (i : Int), i < os.length → lookG (os ++ [x]) key m i = lookG os key m i
  | 0, _, _ => rfl
  | m + 1, i, hi => by
    rw [lookG, lookG]
    by_cases h : i < 0
    · rw [if_pos h, if_pos h]
    · obtain ⟨q, rfl⟩ := Int.eq_ofNat_of_zero_le (show 0 ≤ i by omega)
      have hq : q < os.length := by omega
      have e1 : ctxAt (os ++ [x]) (q : Int) key = ctxAt os (q : Int) key := by unfold ctxAt; simp only [Int.toNat_natCast]; rw [get_app hq]
      have e2 : parAt (os ++ [x]) (q : Int) = parAt os (q : Int) := by unfold parAt; simp only [Int.toNat_natCast]; rw [get_app hq]
      rw [if_neg h, if_neg h, e1, e2, lookG_app ha key m]
      rw [parAt_get (List.getElem?_eq_getElem hq)]
      have := (ha q _ (List.getElem?_eq_getElem hq)).2
      omega
theorem aboveG_app (ha : Ahead os) : ∀ (m : Nat) (i : Int), i < os.length → aboveG (os ++ [x]) m i = aboveG os m i
  | 0, _, _ => rfl
  | m + 1, i, hi => by
    rw [aboveG, aboveG]
    by_cases h : i < 0
    · rw [if_pos h, if_pos h]
    · obtain ⟨q, rfl⟩ := Int.eq_ofNat_of_zero_le (show 0 ≤ i by omega)
      have hq : q < os.length := by omega
      have e2 : parAt (os ++ [x]) (q : Int) = parAt os (q : Int) := by unfold parAt; simp only [Int.toNat_natCast]; rw [get_app hq]
      rw [if_neg h, if_neg h, e2, aboveG_app ha m]
      rw [parAt_get (List.getElem?_eq_getElem hq)]
      have := (ha q _ (List.getElem?_eq_getElem hq)).2
      omega
end
theorem openF_law {os os2 : List Own} {k : Int} (h : openF os k = (os2, true)) : ∃ P : Nat, k = P ∧ P < os.length ∧ os2.length = os.length + 1 ∧ voB os = true ∧ voB os2 = true ∧
    (∀ K : Nat, K < 3 → lookF os2 (os.length : Int) (K : Int) = lookF os (P : Int) (K : Int)) ∧ (∃ l, kidsOfF os2 (P : Int) = l ++ [(os.length : Int)]) ∧ aboveOfF os2 (os.length : Int) = (os.length : Int) :: aboveOfF os (P : Int) := by
  have h2 : (openF os k).2 = true := by rw [h]
  have h1 : (openF os k).1 = os2 := by rw [h]
  have hset := h2
  unfold openF at hset
  split at hset
  case isFalse => cases hset
  case isTrue hc =>
  have hop := hc
  rw [Bool.and_eq_true] at hop
  obtain ⟨hvo, h0, hl, _⟩ := opB_iff.1 hop.1
  obtain ⟨P, rfl⟩ := Int.eq_ofNat_of_zero_le h0
  have hP : P < os.length := by omega
  have hvo2 := vo_openF hvo h2
  rw [h1] at hvo2
  have e : os2 = os ++ [⟨(P : Int), true, [], [-1, -1, -1]⟩] := by
    rw [← h1]; unfold openF; rw [if_pos hc]
  have hl2 : os2.length = os.length + 1 := by rw [e]; simp
  have ha := ahead_of_voB hvo
  have hn : os2[os.length]? = some ⟨(P : Int), true, [], [-1, -1, -1]⟩ := by rw [e]; simp
  have hnl : os.length < os2.length := by omega
  refine ⟨P, rfl, hP, hl2, hvo, hvo2, fun K hK => ?_, ?_, ?_⟩
  · have hct : ctxAt os2 (os.length : Int) (K : Int) = -1 := by
      rw [ctxAt_get hn, List.getD_eq_getElem?_getD]
      rcases (show K = 0 ∨ K = 1 ∨ K = 2 by omega) with rfl | rfl | rfl <;> rfl
    rw [lookF_eq hvo2 hnl hK, lookF_eq hvo hP hK, lookG_no os2 _ _ _ (by omega) (by rw [hct]; omega), parAt_get hn, hl2, e]
    exact lookG_app ha _ _ _ (by omega)
  · have hof : ofB os2 (P : Int) = true := ofB_iff.2 ⟨hvo2, by omega, by omega⟩
    refine ⟨selF (kidB os2 (P : Int)) os.length, ?_⟩
    unfold kidsOfF kidsF
    rw [if_pos hof, hl2]
    refine selF_yes ?_
    unfold kidB
    rw [hn]
    simp
  · have hof : ofB os (P : Int) = true := ofB_iff.2 ⟨hvo, by omega, by omega⟩
    have hof2 : ofB os2 (os.length : Int) = true := ofB_iff.2 ⟨hvo2, by omega, by omega⟩
    unfold aboveOfF aboveF
    rw [if_pos hof, if_pos hof2, hl2, aboveG, if_neg (by omega), parAt_get hn, e]
    congr 1
    exact aboveG_app ha _ _ (by omega)
end Go.Proofs.Ytbikejdghdoaiaa
