/-
  The plain law: no further key could stay.
-/
import Derived.Test.YtplgmieiclicoaaStaysMost
namespace Go.Proofs.Ytplgmieiclicoaa

theorem len_parts (p : Int → Bool) (zs : List Int) : zs.length = (zs.filter p).length + (zs.filter (fun y => !p y)).length := by
  induction zs with
  | nil => rfl
  | cons z zs ih => cases h : p z <;> simp [h] <;> omega
theorem plc_inj {c : List Int} {x y : Int} (hx : x ∈ c) (hy : y ∈ c) (h : plc x c = plc y c) : x = y := by
  induction c with
  | nil => cases hx
  | cons d c ih =>
    by_cases h1 : x = d
    · by_cases h2 : y = d
      · rw [h1, h2]
      · have hy' : y ∈ c := by rcases List.mem_cons.1 hy with e | e; exact absurd e h2; exact e
        rw [h1, plc_cons_self, plc_cons_ne h2 hy'] at h
        have := plc_mem.2 hy'; omega
    · have hx' : x ∈ c := by rcases List.mem_cons.1 hx with e | e; exact absurd e h1; exact e
      by_cases h2 : y = d
      · rw [h2, plc_cons_self, plc_cons_ne h1 hx'] at h
        have := plc_mem.2 hx'; omega
      · have hy' : y ∈ c := by rcases List.mem_cons.1 hy with e | e; exact absurd e h2; exact e
        rw [plc_cons_ne h1 hx', plc_cons_ne h2 hy'] at h
        exact ih hx' hy' (by omega)
theorem ins_sub {c zs : List Int} {x : Int} (p : Int → Bool) (hp : zs.Pairwise (fun x y => plc x c < plc y c)) (hm : ∀ y ∈ zs, y ∈ c) (hx : x ∈ c) (hn : x ∉ zs) (he : ∀ y ∈ zs, p y = decide (plc y c < plc x c)) :
    (zs.filter p ++ x :: zs.filter (fun y => !p y)).Sublist c := by
  have h1 : ∀ y ∈ zs.filter p, plc y c < plc x c := fun y hy => by
    obtain ⟨h2, h3⟩ := List.mem_filter.1 hy
    rw [he y h2] at h3; exact of_decide_eq_true h3
  have h2 : ∀ y ∈ zs.filter (fun y => !p y), plc x c < plc y c := fun y hy => by
    obtain ⟨h2, h3⟩ := List.mem_filter.1 hy
    rw [he y h2] at h3
    have h4 : ¬ plc y c < plc x c := by simpa using h3
    have h5 : plc x c ≠ plc y c := fun e => hn (by rw [plc_inj hx (hm y h2) e]; exact h2)
    omega
  refine sub_of_rise c _ ?_ ?_
  · rw [List.pairwise_append]
    refine ⟨hp.filter _, List.pairwise_cons.2 ⟨h2, hp.filter _⟩, fun y hy z hz => ?_⟩
    rcases List.mem_cons.1 hz with e | e
    · rw [e]; exact h1 y hy
    · have := h1 y hy; have := h2 z e; omega
  · intro y hy
    rcases List.mem_append.1 hy with e | e
    · exact hm y (List.mem_filter.1 e).1
    · rcases List.mem_cons.1 e with e | e
      · rw [e]; exact hx
      · exact hm y (List.mem_filter.1 e).1
/-- a key in both lists, and not among those that stay, does not fit all of these -/
theorem staysF_all {a b : List Int} (ha : a.Nodup) (hb : b.Nodup) {x : Int} (hxa : x ∈ a) (hxb : x ∈ b) (hn : x ∉ staysF a b) :
    ∃ y ∈ staysF a b, decide (plc y a < plc x a) ≠ decide (plc y b < plc x b) := by
  refine Classical.byContradiction fun hno => ?_
  have hall : ∀ y ∈ staysF a b, decide (plc y a < plc x a) = decide (plc y b < plc x b) := fun y hy => Classical.byContradiction fun h => hno ⟨y, hy, h⟩
  have s1 := ins_sub (fun y => decide (plc y a < plc x a)) (staysF_rise a b) (staysF_in a b) hxa hn (fun _ _ => rfl)
  have s2 := ins_sub (fun y => decide (plc y a < plc x a)) (rise_of_sub hb _ (staysF_after a b)) (fun y hy => (staysF_after a b).subset hy) hxb hn hall
  have := staysF_most ha s1 s2
  have hl := len_parts (fun y => decide (plc y a < plc x a)) (staysF a b)
  rw [List.length_append, List.length_cons] at this
  omega
end Go.Proofs.Ytplgmieiclicoaa
