/-
  The text of a formula: plain.
-/
import Derived.Test.YtdhjejpcppmejaaDoorDeepLaw
import Derived.Lib.ItoaNum
import Derived.Lib.Join
import Derived.Lib.SmallJoins
namespace Go.Proofs.YtdhjejpcppmejaaDoor
open Go.RowKit

def kindW : List (List UInt8) := [[97, 100, 100], [115, 117, 98], [109, 117, 108], [109, 105, 110], [109, 97, 120], [108, 101, 115, 115], [105, 102]]
/-- a part's word -/
def wordP (p : Prt) : List UInt8 := if p.kd = 0 then Lib.decDigits p.nn.toNat else if p.kd = 1 then 114 :: Lib.decDigits p.nn.toNat else kindW.getD (p.kd.toNat - 2) []
abbrev bts (l : List UInt8) : ByteArray := ⟨l.toArray⟩
abbrev strV (l : List UInt8) : Value := .string (bts l)
/-- words, a space between two of them -/
def joinW (ws : List (List UInt8)) : List UInt8 := Lib.join ws [32]
/-- what a part of a valid formula bears -/
def OkP (p : Prt) : Prop := (p.kd = 0 ∧ 0 ≤ p.nn ∧ p.nn ≤ 99) ∨ (p.kd = 1 ∧ 0 ≤ p.nn ∧ p.nn ≤ 99) ∨ (2 ≤ p.kd ∧ p.kd ≤ 8)
theorem ok_of_alone {p : Prt} (h : aloneB p = true) : OkP p := by
  unfold aloneB at h
  unfold OkP
  by_cases h0 : p.kd = 0
  · rw [if_pos h0] at h
    simp only [Bool.and_eq_true, inB_iff] at h
    omega
  · rw [if_neg h0] at h
    by_cases h1 : p.kd = 1
    · rw [if_pos h1] at h
      simp only [Bool.and_eq_true, inB_iff] at h
      omega
    · rw [if_neg h1] at h
      by_cases h8 : p.kd = 8
      · omega
      · rw [if_neg h8] at h
        by_cases h2 : 2 ≤ p.kd ∧ p.kd ≤ 7
        · omega
        · rw [if_neg h2] at h; cases h
theorem order_ok (ps : List Prt) : ∀ j (h : j < (orderF ps).length), OkP (orderF ps)[j] := by
  intro j hj
  cases hv : validF ps
  · exfalso
    have : orderF ps = [] := by unfold orderF; rw [hv]; rfl
    rw [this] at hj
    simp at hj
  · exact ok_of_alone (alone_at (order_deep hv).2.1 j hj)
theorem order_twelve (ps : List Prt) : (orderF ps).length ≤ 12 := by
  cases hv : validF ps
  · have : orderF ps = [] := by unfold orderF; rw [hv]; rfl
    rw [this]; simp
  · have := (order_deep hv).1
    have := validF_len hv
    omega
def textF (ps : List Prt) : List UInt8 := joinW ((orderF ps).map wordP)
theorem joinW_snoc (ws : List (List UInt8)) (x : List UInt8) : joinW (ws ++ [x]) = if ws = [] then x else joinW ws ++ [32] ++ x := by
  unfold joinW
  cases ws with
  | nil => simp [Lib.join_one]
  | cons y r =>
    rw [if_neg (by simp), List.cons_append, Lib.join_cons, Lib.join_cons]
    simp [Lib.joinTail]
theorem dec_one {n : Nat} (h : n < 10) : Lib.decDigits n = [UInt8.ofNat (48 + n)] := by rw [Lib.decDigits, dif_pos h]
theorem dec_two {n : Nat} (h : 10 ≤ n) (h2 : n < 100) : Lib.decDigits n = Lib.decDigits (n / 10) ++ Lib.decDigits (n % 10) := by
  rw [dec_one (by omega : n % 10 < 10), Lib.decDigits, dif_neg (by omega)]
theorem dec_len {n : Nat} (h2 : n < 100) : (Lib.decDigits n).length ≤ 2 := by
  by_cases h : n < 10
  · rw [dec_one h]; simp
  · rw [dec_two (by omega) h2, dec_one (by omega), dec_one (by omega)]; simp
theorem word_len {p : Prt} (h : OkP p) : (wordP p).length ≤ 4 := by
  unfold wordP
  rcases h with ⟨h0, h1, h2⟩ | ⟨h0, h1, h2⟩ | ⟨h1, h2⟩
  · rw [if_pos h0]
    have := dec_len (n := p.nn.toNat) (by omega)
    omega
  · rw [if_neg (by omega), if_pos h0]
    have := dec_len (n := p.nn.toNat) (by omega)
    simp; omega
  · rw [if_neg (by omega), if_neg (by omega)]
    have : ∀ k, (kindW.getD k []).length ≤ 4 := by
      intro k
      match k with
      | 0 | 1 | 2 | 3 | 4 | 5 | 6 => decide
      | k + 7 => simp [kindW]
    exact this _
theorem joinW_len : ∀ (ws : List (List UInt8)), (∀ x ∈ ws, x.length ≤ 4) → (joinW ws).length ≤ 5 * ws.length := by
  intro ws h
  unfold joinW
  cases ws with
  | nil => simp [Lib.join_nil]
  | cons y r =>
    have hy := h y (by simp)
    have : ∀ r : List (List UInt8), (∀ x ∈ r, x.length ≤ 4) → (Lib.joinTail [32] r).length ≤ 5 * r.length := by
      intro r
      induction r with
      | nil => intro _; simp [Lib.joinTail]
      | cons z r ih =>
        intro h
        have h1 := ih fun x hx => h x (by simp [hx])
        have h2 := h z (by simp)
        simp only [Lib.joinTail, List.map_cons, List.flatten_cons, List.length_append, List.length_cons, List.length_nil] at h1 ⊢
        omega
    have := this r fun x hx => h x (by simp [hx])
    rw [Lib.join_cons, List.length_append, List.length_cons]
    omega
theorem words_len (ps : List Prt) (k : Nat) : (joinW (((orderF ps).take k).map wordP)).length ≤ 60 := by
  have h := joinW_len (((orderF ps).take k).map wordP) (by
    intro x hx
    obtain ⟨p, hp, rfl⟩ := List.mem_map.1 hx
    obtain ⟨j, hj, rfl⟩ := List.getElem_of_mem (List.mem_of_mem_take hp)
    exact word_len (order_ok ps j hj))
  have := order_twelve ps
  rw [List.length_map, List.length_take] at h
  omega
theorem bts_app (a b : List UInt8) : bts a ++ bts b = bts (a ++ b) := by
  show (⟨a.toArray⟩ : ByteArray) ++ ⟨b.toArray⟩ = ⟨(a ++ b).toArray⟩
  rw [ByteArray.mk_append_mk]
theorem bts_size (a : List UInt8) : (bts a).size = a.length := by rw [Lib.size_eq]
end Go.Proofs.YtdhjejpcppmejaaDoor
