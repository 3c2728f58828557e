/-
  Slices of ints of the call's own; what a call that makes one hands back.
-/
import Derived.Test.YtlinngohbghimaaSl
namespace Go.Proofs.Ytlinngohbghimaa
open Go.RowKit

def SlI (w : World) (lo hi : Nat) (A : Option Addr) (c : Nat) (xs : List Int) : Prop := Sl w lo hi 3 1 A xs.length c (ints xs)
section
variable {w w' : World} {lo hi lo' hi' B c : Nat} {A : Option Addr} {xs : List Int}
theorem SlI.le (h : SlI w lo hi A c xs) : xs.length ≤ c := h.2.1
theorem SlI.rd (h : SlI w lo hi A c xs) : RdI w hi A xs := Sl.rd h
theorem SlI.mono (h : SlI w lo hi A c xs) (h1 : lo' ≤ lo) (h2 : hi ≤ hi') : SlI w lo' hi' A c xs := Sl.mono h h1 h2
theorem SlI.turn (h : SlI w lo hi A c xs) (ht : Turn lo' hi' w w') (hd : hi ≤ lo' ∨ hi' ≤ lo) : SlI w' lo hi A c xs := Sl.turn h ht hd
theorem SlI.below (h : SlI w lo hi A c xs) (hb : Below B w w') (hB : hi ≤ B) : SlI w' lo hi A c xs := Sl.below h hb hB
theorem SlI.alloc (h : SlI w lo hi A c xs) (o : Obj) : SlI (w.alloc o) lo hi A c xs := Sl.alloc h o
theorem SlI.drewN (h : SlI w lo hi A c xs) (k : Nat) : SlI (w.drewN k) lo hi A c xs := h
theorem SlI.nil : SlI w lo hi A 0 [] := Sl.nil _ _ _ _ _ _
theorem SlI.new (w : World) (xs : List Int) (h : lo ≤ w.heap.size) : SlI (w.alloc (.cells (ints xs).toArray 3)) lo (w.heap.size + 1) (some ⟨w.heap.size, 0, none⟩) xs.length xs := Sl.new w (ints xs) xs.length (by simp) h
theorem SlI.newAt {w : World} (g : Nat) (hg : w.heap.size = g) (xs : List Int) (h : lo ≤ g) : SlI (w.alloc (.cells (ints xs).toArray 3)) lo (g + 1) (some ⟨g, 0, none⟩) xs.length xs := by subst hg; exact SlI.new w xs h
theorem SlI.of_blk {g : Nat} (h : Blk w g 3 (ints xs).toArray) (h1 : lo ≤ g) (h2 : g < hi) : SlI w lo hi (some ⟨g, 0, none⟩) xs.length xs := Sl.of_blk h (by simp) h1 h2
theorem SlI.cut (hs : SlI w lo hi A c xs) {l h m : Nat} (h1 : l ≤ h) (h2 : h ≤ xs.length) (h3 : h ≤ m) (h4 : m ≤ c) :
    SlI w lo hi (if m = l then A else A.map (·.add l)) (m - l) ((xs.drop l).take (h - l)) := by
  have := Sl.cut hs h1 h2 h3 h4
  unfold SlI
  rw [show ((xs.drop l).take (h - l)).length = h - l by rw [List.length_take, List.length_drop]; omega]
  simpa [ints, List.map_drop, List.map_take] using this
theorem SlI.take (hs : SlI w lo hi A c xs) {h : Nat} (h2 : h ≤ xs.length) : SlI w lo hi A c (xs.take h) := by
  have := hs.cut (l := 0) (h := h) (m := c) (Nat.zero_le _) h2 (by have := hs.le; omega) (Nat.le_refl _)
  simp at this
  by_cases hc : c = 0
  · have hx : xs = [] := List.eq_nil_of_length_eq_zero (by have := hs.le; omega)
    subst hc hx
    simpa using hs
  · rw [if_neg hc] at this
    cases A with
    | none => exact absurd (Sl.noAddr hs rfl) hc
    | some ad => simpa [Addr.add] using this
theorem SlI.clip (hs : SlI w lo hi A c xs) : SlI w lo hi A xs.length xs := by
  have := hs.cut (l := 0) (h := xs.length) (m := xs.length) (Nat.zero_le _) (Nat.le_refl _) (Nat.le_refl _) hs.le
  simp at this
  by_cases hc : xs = []
  · subst hc
    exact SlI.nil
  · have hpos : 0 < xs.length := List.length_pos_iff.2 hc
    rw [if_neg hc] at this
    cases A with
    | none => have := Sl.noAddr hs rfl; have := hs.le; omega
    | some ad => simpa [Addr.add] using this
theorem SlI.get {g o j : Nat} {x : Int} (h : SlI w lo hi (some ⟨g, o, Option.none⟩) c xs) (hx : xs[j]? = some x) : w.cell? ⟨g, o + j, Option.none⟩ = some (.int .i64 x) := by
  obtain ⟨hj, e⟩ := List.getElem?_eq_some_iff.1 hx
  obtain ⟨ad, e1, _, hcc⟩ := h.rd.at_ hj
  injection e1 with e1
  subst e1
  have := hcc j hj
  rw [add_lit, e] at this
  exact this
theorem SlI.cellAt {ad : Addr} {k : Nat} {p : Int} (h : SlI w lo hi (some ad) c xs) (hk : k < xs.length) (e : xs[k] = p) : w.cell? (ad.add k) = some (.int .i64 p) := by
  obtain ⟨a2, e2, _, hcc⟩ := h.rd.at_ hk
  injection e2 with e2
  subst e2
  rw [hcc k hk, e]
/-- what a store of a number into it does -/
theorem SlI.at_ (h : SlI w lo hi A c xs) {k : Nat} (hk : k < xs.length) : ∃ g o, A = some ⟨g, o, none⟩ ∧ lo ≤ g ∧ g < hi ∧ (∀ j (hj : j < xs.length), w.cell? ⟨g, o + j, none⟩ = some (.int .i64 xs[j])) ∧ (∀ j, w.frozen? ⟨g, o + j, none⟩ = false) ∧
    ∀ j x, j < xs.length → SlI (w.setCell ⟨g, o + j, none⟩ (.int .i64 x)) lo hi A c (xs.set j x) ∧ Turn lo hi w (w.setCell ⟨g, o + j, none⟩ (.int .i64 x)) := by
  obtain ⟨g, o, hA, h1, h2, h3, h4, h5⟩ := Sl.at_ h (by omega)
  refine ⟨g, o, hA, h1, h2, fun j hj => ?_, h4, fun j x hj => ?_⟩
  · rw [h3 j (by simpa using hj)]; simp
  · obtain ⟨h6, h7⟩ := h5 j (.int .i64 x) (by simpa using hj)
    refine ⟨?_, h7⟩
    unfold SlI
    rw [List.length_set]
    simpa [ints, List.map_set] using h6
end

section
variable {w : World} {ops : Array Oper} {rest : List Oper} {o : Oper} {a : Act} {Q : Exit → Act → World → Prop}
/-- append(out, ys...) at ints: out of the call's own -/
theorem wpList_appI (s x : Operand) (hgd : o.guard = none)
    (ho : o.op = .call { callee := .builtin .append, args := #[s, x], argTypes := #[38, 38] })
    {lo hi n c c' B m : Nat} {A A' : Option Addr} (xs : List Int) (ys : List Int) (hs : a.eval s = .slice A n c) (hn : xs.length = n) (hown : SlI w lo hi A c xs) (hx : a.eval x = .slice A' m c') (hl : ys.length = m) (hr : RdI w B A' ys)
    (hb : n + m ≤ 17592186044416) (hlo : lo ≤ w.heap.size)
    (h : ∀ A'' c'' w', SlI w' lo (max hi w'.heap.size) A'' c'' (xs ++ ys) → Turn lo hi w w' → (c < n + m → w.grownBy w' Option.none) → wpList Try.prog ops Q rest (a.put o.dst (.slice A'' (n + m) c'')) w') : wpList Try.prog ops Q (o :: rest) a w := by
  subst hn hl
  obtain ⟨i0, hi0, hz0, hz1, hz2⟩ := info_parts Try.infoInt
  refine wpList_app w hgd s x 38 ho lo hi 3 i0 (.int .i64 0) 1 8 Try.underlying38 hi0 hz0 hz1 hz2 rfl (by decide) A xs.length c (ints xs) hs hown B A' ys.length c' (ints ys) hx (by simp) hr (ints_oneCell _ _)
    (by unfold maxLen; omega) (by omega) hlo ?_
  intro A'' c'' w' h2 h3 _ h4
  refine h A'' c'' w' ?_ h3 h4
  unfold SlI
  rw [List.length_append]
  simpa [ints] using h2
/-- .. in a region that draws -/
theorem step_appI {K : Act → World → Prop} {E : Prop} (s x : Operand) (hgd : o.guard = none)
    (ho : o.op = .call { callee := .builtin .append, args := #[s, x], argTypes := #[38, 38] })
    {lo hi n c c' B m : Nat} {A A' : Option Addr} (xs : List Int) (ys : List Int) (hs : a.eval s = .slice A n c) (hn : xs.length = n) (hown : SlI w lo hi A c xs) (hx : a.eval x = .slice A' m c') (hl : ys.length = m) (hr : RdI w B A' ys)
    (hb : n + m ≤ 17592186044416) (hlo : lo ≤ w.heap.size)
    (h : ∀ A'' c'' w', SlI w' lo (max hi w'.heap.size) A'' c'' (xs ++ ys) → Turn lo hi w w' → (c < n + m → w.grownBy w' Option.none) → K (a.put o.dst (.slice A'' (n + m) c'')) w') :
    if Region.wanted o (yielded ops a.tmps) = true then Oper.wp Try.prog o a w K Q else E := by
  have hw : Region.wanted o (yielded ops a.tmps) = true := by simp [Region.wanted, hgd]
  rw [if_pos hw]
  subst hn hl
  obtain ⟨i0, hi0, hz0, hz1, hz2⟩ := info_parts Try.infoInt
  refine wp_app w s x 38 ho lo hi 3 i0 (.int .i64 0) 1 8 Try.underlying38 hi0 hz0 hz1 hz2 rfl (by decide) A xs.length c (ints xs) hs hown B A' ys.length c' (ints ys) hx (by simp) hr (ints_oneCell _ _)
    (by unfold maxLen; omega) (by omega) hlo ?_
  intro A'' c'' w' h2 h3 _ h4
  refine h A'' c'' w' ?_ h3 h4
  unfold SlI
  rw [List.length_append]
  simpa [ints] using h2
/-- a grown slice lies in what is there -/
theorem SlI.all {w w' : World} {lo hi c : Nat} {A : Option Addr} {xs : List Int} (h : SlI w' lo (max hi w'.heap.size) A c xs) (ht : Turn lo hi w w') (hh : hi ≤ w.heap.size) : SlI w' lo w'.heap.size A c xs := by
  have := ht.size
  rwa [Nat.max_eq_right (by omega)] at h
end

theorem run_makeI (n : Nat) (hn : n ≤ 1099511627776) (w : World) : (Instr.makeSlice 38 (.int .i64 (n : Int)) (.int .i64 (n : Int))).run Try.prog w = .ok (.slice (some ⟨w.heap.size, 0, none⟩) n n) (w.alloc (.cells (ints (List.replicate n 0)).toArray 3)) := by
  obtain ⟨i0, hi, hz0, hz1, hz2⟩ := info_parts Try.infoInt
  have hr := run_make (P := Try.prog) w 38 3 i0 (.int .i64 0) Try.underlying38 hi hz0 .i64 .i64 n n (by omega) (by omega) (by rw [hz2]; omega) (by omega)
  rw [hr, hz1]
  simp only [Int.toNat_natCast, Nat.mul_one, Value.cells]
  have e : madeCells #[.int .i64 0] n = (ints (List.replicate n 0)).toArray := by
    apply Array.ext'
    rw [toList_madeCells_one]
    simp [ints]
  rw [e]
def MadeI (w : World) (xs : List Int) (e : Ending) (w' : World) : Prop :=
  ∃ A c, e = .returned (.slice A xs.length c) ∧ SlI w' w.heap.size w'.heap.size A c xs ∧ Below w.heap.size w w'
theorem retI {A A' : Option Addr} {n n' c c' : Nat} (h1 : A = A') (h2 : n = n') (h3 : c = c') : Ending.returned (.slice A n c) = .returned (.slice A' n' c') := by rw [h1, h2, h3]
end Go.Proofs.Ytlinngohbghimaa
