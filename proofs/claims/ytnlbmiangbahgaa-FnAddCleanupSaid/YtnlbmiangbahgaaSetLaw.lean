/-
  The plain law of SetContext: the value is seen by the owner and by its kids.
-/
import Derived.Test.YtnlbmiangbahgaaVo
namespace Go.Proofs.Ytnlbmiangbahgaa
open Go.RowKit

theorem ctxAt_get {os : List Own} {i K : Nat} {x : Own} (h : os[i]? = some x) : ctxAt os (i : Int) (K : Int) = x.cx.getD K (-1) := by unfold ctxAt; simp [h]
theorem parAt_get {os : List Own} {i : Nat} {x : Own} (h : os[i]? = some x) : parAt os (i : Int) = x.p := by unfold parAt; simp [h]
theorem lookF_eq {os : List Own} {i K : Nat} (hv : voB os = true) (hi : i < os.length) (hK : K < 3) : lookF os (i : Int) (K : Int) = lookG os (K : Int) (os.length + 1) (i : Int) := by
  unfold lookF
  rw [if_pos]
  rw [Bool.and_eq_true]
  exact ⟨ofB_iff.2 ⟨hv, by omega, by omega⟩, inB_iff.2 ⟨by omega, by omega⟩⟩
theorem setF_no {os : List Own} {o key v : Int} (h : (setF os o key v).2 = false) : (setF os o key v).1 = [] := by
  unfold setF at h ⊢
  split at h
  · cases h
  · next hc => rw [if_neg hc]
theorem setF_kids {os os2 : List Own} {k u v : Int} (h : setF os k u v = (os2, true)) : ∃ P K : Nat, (k = P ∧ u = K) ∧ (K < 3 ∧ P < os.length) ∧ os2.length = os.length ∧ voB os = true ∧ voB os2 = true ∧ lookF os2 (P : Int) (K : Int) = (v, true) ∧
    ∀ j ∈ kidsOfF os2 (P : Int), ∃ (i : Nat) (x : Own), j = i ∧ os[i]? = some x ∧ (lookF os2 (i : Int) (K : Int)).2 = true ∧ (x.cx.getD K (-1) < 0 → (lookF os2 (i : Int) (K : Int)).1 = v) := by
  have h2 : (setF os k u v).2 = true := by rw [h]
  have h1 : (setF os k u v).1 = os2 := by rw [h]
  have hset := h2
  unfold setF at hset
  split at hset
  case isFalse => cases hset
  case isTrue hc =>
  have hop := hc
  simp only [Bool.and_eq_true] at hop
  obtain ⟨⟨ho, hu⟩, hv⟩ := hop
  obtain ⟨hvo, h0, hl, _⟩ := opB_iff.1 ho
  obtain ⟨P, rfl⟩ := Int.eq_ofNat_of_zero_le h0
  obtain ⟨hu0, hu2⟩ := inB_iff.1 hu
  obtain ⟨K, rfl⟩ := Int.eq_ofNat_of_zero_le hu0
  have hv0 := inB_iff.1 hv
  have hP : P < os.length := by omega
  have hK : K < 3 := by omega
  have hvo2 := vo_setF hvo h2
  rw [h1] at hvo2
  have e : os2 = os.set P ⟨os[P].p, os[P].op, os[P].cl, os[P].cx.set K v⟩ := by
    rw [← h1, ← putCx_eq v hP]
    unfold setF
    rw [if_pos hc]
  have hl2 : os2.length = os.length := by rw [e]; simp
  have hcx : os[P].cx.length = 3 := ((vo_lens hvo).2 _ (List.getElem_mem hP)).2
  have hat : os2[P]? = some ⟨os[P].p, os[P].op, os[P].cl, os[P].cx.set K v⟩ := by rw [e]; exact get_set_self (List.getElem?_eq_getElem hP)
  have hcP : ctxAt os2 (P : Int) (K : Int) = v := by
    rw [ctxAt_get hat]
    simp only [List.getD_eq_getElem?_getD]
    rw [List.getElem?_set, if_pos rfl, if_pos (by omega)]
    rfl
  have hlP : ∀ m, lookG os2 (K : Int) (m + 1) (P : Int) = (v, true) := fun m => by rw [lookG_yes os2 _ m _ (by omega) (by rw [hcP]; exact hv0.1), hcP]
  refine ⟨P, K, ⟨rfl, rfl⟩, ⟨hK, hP⟩, hl2, hvo, hvo2, ?_, fun j hj => ?_⟩
  · rw [lookF_eq hvo2 (by omega) hK]; exact hlP _
  · unfold kidsOfF at hj
    split at hj
    case isFalse => cases hj
    case isTrue hof =>
    obtain ⟨i, rfl, hi, y, hy, hyp, hyo⟩ := kids_in hj
    have hiP : P < i := by have := (ahead_of_voB hvo2 i y hy).2; omega
    have hi' : i < os.length := by omega
    have hyo2 : os[i]? = some y := by rw [← hy, e, List.getElem?_set_ne (by omega)]
    have hci : ctxAt os2 (i : Int) (K : Int) = y.cx.getD K (-1) := ctxAt_get hy
    refine ⟨i, y, rfl, hyo2, ?_, fun hneg => ?_⟩
    · rw [lookF_eq hvo2 hi hK]
      by_cases hc0 : 0 ≤ ctxAt os2 (i : Int) (K : Int)
      · rw [lookG_yes os2 _ _ _ (by omega) hc0]
      · rw [lookG_no os2 _ _ _ (by omega) hc0, parAt_get hy, hyp]
        obtain ⟨m, hm⟩ : ∃ m, os2.length = m + 1 := ⟨os2.length - 1, by omega⟩
        rw [hm, hlP]
    · rw [lookF_eq hvo2 hi hK, lookG_no os2 _ _ _ (by omega) (by rw [hci]; omega), parAt_get hy, hyp]
      obtain ⟨m, hm⟩ : ∃ m, os2.length = m + 1 := ⟨os2.length - 1, by omega⟩
      rw [hm, hlP]
end Go.Proofs.Ytnlbmiangbahgaa
