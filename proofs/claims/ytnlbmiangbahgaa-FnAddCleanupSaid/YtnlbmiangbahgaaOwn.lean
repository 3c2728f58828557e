/-
  Owners in memory: a list of owners that reads, a list of owners that the call owns (each inner list in a block of its own).
-/
import Derived.Test.YtnlbmiangbahgaaInts
namespace Go.Proofs.Ytnlbmiangbahgaa
open Go.RowKit

structure Own where
  p : Int
  op : Bool
  cl : List Int
  cx : List Int
  deriving DecidableEq
structure Hd where
  clA : Option Addr
  clC : Nat
  cxA : Option Addr
  cxC : Nat

def ocells (x : Own × Hd) : List Value := [.int .i64 x.1.p, .bool x.1.op, .slice x.2.clA x.1.cl.length x.2.clC, .slice x.2.cxA x.1.cx.length x.2.cxC]
def orow : List (Own × Hd) → List Value
  | [] => []
  | x :: r => ocells x ++ orow r
theorem ocells_len (x : Own × Hd) : (ocells x).length = 4 := rfl
theorem orow_len : ∀ ps : List (Own × Hd), (orow ps).length = ps.length * 4
  | [] => rfl
  | x :: r => by rw [orow, List.length_append, orow_len r, ocells_len, List.length_cons]; omega
theorem orow_get : ∀ (ps : List (Own × Hd)) (k j : Nat) (x : Own × Hd), ps[k]? = some x → j < 4 → (orow ps)[k * 4 + j]? = (ocells x)[j]?
  | y :: r, 0, j, x, h, hj => by
    simp only [List.getElem?_cons_zero, Option.some.injEq] at h
    subst h
    rw [orow, List.getElem?_append_left (by rw [ocells_len]; omega)]
    simp
  | y :: r, k + 1, j, x, h, hj => by
    rw [orow, List.getElem?_append_right (by rw [ocells_len]; omega), ocells_len, show (k + 1) * 4 + j - 4 = k * 4 + j by omega]
    exact orow_get r k j x (by simpa using h) hj
theorem orow_append : ∀ ps qs : List (Own × Hd), orow (ps ++ qs) = orow ps ++ orow qs
  | [], _ => rfl
  | x :: r, qs => by rw [List.cons_append, orow, orow_append r qs, orow, List.append_assoc]
theorem orow_set : ∀ (ps : List (Own × Hd)) (k j : Nat) (x y : Own × Hd) (u : Value), ps[k]? = some x → j < 4 → ocells y = (ocells x).set j u → (orow ps).set (k * 4 + j) u = orow (ps.set k y)
  | z :: r, 0, j, x, y, u, h, hj, e => by
    simp only [List.getElem?_cons_zero, Option.some.injEq] at h
    subst h
    rw [List.set_cons_zero, orow, orow, e, Nat.zero_mul, Nat.zero_add, List.set_append_left _ _ (by rw [ocells_len]; omega)]
  | z :: r, k + 1, j, x, y, u, h, hj, e => by
    rw [List.set_cons_succ, orow, orow, List.set_append_right _ _ (by rw [ocells_len]; omega), ocells_len, show (k + 1) * 4 + j - 4 = k * 4 + j by omega, orow_set r k j x y u (by simpa using h) hj e]
theorem orow_take : ∀ (ps : List (Own × Hd)) (k : Nat), (orow ps).take (k * 4) = orow (ps.take k)
  | [], k => by simp [orow]
  | x :: r, 0 => by simp [orow]
  | x :: r, k + 1 => by
    rw [orow, List.take_succ_cons, orow, List.take_append, ocells_len, show (k + 1) * 4 - 4 = k * 4 by omega, orow_take r k, List.take_of_length_le (by rw [ocells_len]; omega)]

/-- the block of a slice that has room -/
def live (A : Option Addr) (c : Nat) : List Nat := if c = 0 then [] else (A.map Addr.block).toList
theorem live_nil (A : Option Addr) : live A 0 = [] := by simp [live]
theorem live_none (c : Nat) : live none c = [] := by unfold live; split <;> rfl
theorem mem_live {g o : Nat} {c : Nat} (hc : 0 < c) : g ∈ live (some ⟨g, o, none⟩) c := by unfold live; rw [if_neg (by omega)]; simp
theorem of_live {b g o c : Nat} (h : b ∈ live (some ⟨g, o, none⟩) c) : b = g := by
  unfold live at h; split at h
  · simp at h
  · simpa using h

section
variable {w w' : World} {lo hi lo' hi' B : Nat} {e : TypeId} {size n c : Nat} {A : Option Addr} {xs : List Value}
theorem Sl.live_in (h : Sl w lo hi e size A n c xs) : ∀ b ∈ live A c, lo ≤ b ∧ b < hi ∧ b < w.heap.size := fun b hb => by
  rcases h.2.2 with h5 | ⟨g, o, cur, rfl, h7, h8, h9, _⟩
  · rw [h5, live_nil] at hb; cases hb
  · rw [of_live hb]; exact ⟨h7, h8, h9.lt⟩
theorem Sl.apart (h : Sl w lo hi e size A n c xs) (ht : Turn lo' hi' w w') (hd : ∀ b ∈ live A c, b < lo' ∨ hi' ≤ b) : Sl w' lo hi e size A n c xs := by
  obtain ⟨h3, h4, h5⟩ := h
  refine ⟨h3, h4, ?_⟩
  by_cases hc : c = 0
  · exact .inl hc
  · rcases h5 with h5 | ⟨g, o, cur, rfl, h7, h8, h9, h10⟩
    · exact .inl h5
    · exact .inr ⟨g, o, cur, rfl, h7, h8, ht.blk h9 (hd g (mem_live (by omega))), h10⟩
theorem Sl.narrow (h : Sl w lo hi e size A n c xs) : ∃ a b, Sl w a b e size A n c xs ∧ (∀ m, a ≤ m → m < b → m ∈ live A c) ∧ (a = lo ∨ a < w.heap.size) ∧ ∀ w1 w2 : World, Turn a b w1 w2 → Turn lo hi w1 w2 := by
  obtain ⟨h3, h4, h5⟩ := h
  by_cases hc : c = 0
  · exact ⟨lo, lo, ⟨h3, h4, .inl hc⟩, fun m h1 h2 => by omega, .inl rfl, fun w1 w2 ht => ⟨ht.os, ht.tape, ht.output, ht.size, fun k hk _ => ht.block k hk (by omega)⟩⟩
  · rcases h5 with h5 | ⟨g, o, cur, rfl, h7, h8, h9, h10⟩
    · exact absurd h5 hc
    · exact ⟨g, g + 1, ⟨h3, h4, .inr ⟨g, o, cur, rfl, Nat.le_refl _, by omega, h9, h10⟩⟩, fun m h1 h2 => by
        have : m = g := by omega
        subst this; exact mem_live (by omega), .inr h9.lt, fun w1 w2 ht => ht.mono h7 (by omega)⟩
theorem Sl.top (h : Sl w lo hi e size A n c xs) : Sl w lo (min hi w.heap.size) e size A n c xs := by
  obtain ⟨h3, h4, h5⟩ := h
  refine ⟨h3, h4, ?_⟩
  rcases h5 with h5 | ⟨g, o, cur, h6, h7, h8, h9, h10⟩
  · exact .inl h5
  · exact .inr ⟨g, o, cur, h6, h7, by have := h9.lt; omega, h9, h10⟩
theorem Sl.range (h : Sl w lo hi e size A n c xs) (hd : ∀ b ∈ live A c, lo' ≤ b ∧ b < hi') : Sl w lo' hi' e size A n c xs := by
  obtain ⟨h3, h4, h5⟩ := h
  refine ⟨h3, h4, ?_⟩
  by_cases hc : c = 0
  · exact .inl hc
  · rcases h5 with h5 | ⟨g, o, cur, rfl, h7, h8, h9, h10⟩
    · exact .inl h5
    · have := hd g (mem_live (by omega)); exact .inr ⟨g, o, cur, rfl, this.1, this.2, h9, h10⟩
end

def foot (x : Own × Hd) : List Nat := live x.2.clA x.2.clC ++ live x.2.cxA x.2.cxC

/-- the owners ps, each with where its inner lists lie: the row in its block, each inner list in a block of its own -/
structure SlP (w : World) (lo hi : Nat) (A : Option Addr) (c : Nat) (ps : List (Own × Hd)) : Prop where
  row : Sl w lo hi 32 4 A ps.length c (orow ps)
  cl : ∀ (i : Nat) (x : Own × Hd), ps[i]? = some x → SlI w lo hi x.2.clA x.2.clC x.1.cl
  cx : ∀ (i : Nat) (x : Own × Hd), ps[i]? = some x → SlI w lo hi x.2.cxA x.2.cxC x.1.cx
  d1 : ∀ (i : Nat) (x : Own × Hd), ps[i]? = some x → ∀ b ∈ foot x, b ∉ live A c
  d2 : ∀ (i : Nat) (x : Own × Hd), ps[i]? = some x → ∀ b ∈ live x.2.clA x.2.clC, b ∉ live x.2.cxA x.2.cxC
  d3 : ∀ (i j : Nat) (x y : Own × Hd), ps[i]? = some x → ps[j]? = some y → i ≠ j → ∀ b ∈ foot x, b ∉ foot y

section
variable {w w' : World} {lo hi lo' hi' B c : Nat} {A : Option Addr} {ps : List (Own × Hd)}
theorem SlP.nil : SlP w lo hi A 0 [] := ⟨Sl.nil _ _ _ _ _ _, by simp, by simp, by simp, by simp, by simp⟩
theorem SlP.mono (h : SlP w lo hi A c ps) (h1 : lo' ≤ lo) (h2 : hi ≤ hi') : SlP w lo' hi' A c ps :=
  ⟨h.row.mono h1 h2, fun i x hx => (h.cl i x hx).mono h1 h2, fun i x hx => (h.cx i x hx).mono h1 h2, h.d1, h.d2, h.d3⟩
theorem SlP.turn (h : SlP w lo hi A c ps) (ht : Turn lo' hi' w w') (hd : hi ≤ lo' ∨ hi' ≤ lo) : SlP w' lo hi A c ps :=
  ⟨h.row.turn ht hd, fun i x hx => (h.cl i x hx).turn ht hd, fun i x hx => (h.cx i x hx).turn ht hd, h.d1, h.d2, h.d3⟩
theorem SlP.below (h : SlP w lo hi A c ps) (hb : Below B w w') (hB : hi ≤ B) : SlP w' lo hi A c ps :=
  ⟨h.row.below hb hB, fun i x hx => (h.cl i x hx).below hb hB, fun i x hx => (h.cx i x hx).below hb hB, h.d1, h.d2, h.d3⟩
theorem SlP.alloc (h : SlP w lo hi A c ps) (o : Obj) : SlP (w.alloc o) lo hi A c ps :=
  ⟨h.row.alloc o, fun i x hx => (h.cl i x hx).alloc o, fun i x hx => (h.cx i x hx).alloc o, h.d1, h.d2, h.d3⟩
theorem SlP.drewN (h : SlP w lo hi A c ps) (k : Nat) : SlP (w.drewN k) lo hi A c ps := ⟨h.row, h.cl, h.cx, h.d1, h.d2, h.d3⟩
theorem SlP.foot_in (h : SlP w lo hi A c ps) {i : Nat} {x : Own × Hd} (hx : ps[i]? = some x) : ∀ b ∈ foot x, lo ≤ b ∧ b < hi ∧ b < w.heap.size := fun b hb => by
  unfold foot at hb
  rw [List.mem_append] at hb
  rcases hb with hb | hb
  · exact (h.cl i x hx).live_in b hb
  · exact (h.cx i x hx).live_in b hb
theorem SlP.take (h : SlP w lo hi A c ps) (k : Nat) (hk : k ≤ ps.length) : SlP w lo hi A c (ps.take k) := by
  have hsub : ∀ i (x : Own × Hd), (ps.take k)[i]? = some x → ps[i]? = some x := fun i x hx => by
    rw [List.getElem?_take] at hx; split at hx
    · exact hx
    · cases hx
  refine ⟨?_, fun i x hx => h.cl i x (hsub i x hx), fun i x hx => h.cx i x (hsub i x hx), fun i x hx => h.d1 i x (hsub i x hx), fun i x hx => h.d2 i x (hsub i x hx), fun i j x y hx hy => h.d3 i j x y (hsub i x hx) (hsub j y hy)⟩
  obtain ⟨h1, h2, h3⟩ := h.row
  have hle : (ps.take k).length = k := by rw [List.length_take]; omega
  refine ⟨by rw [orow_len], by omega, ?_⟩
  rcases h3 with h3 | ⟨g, o, cur, h4, h5, h6, h7, h8, h9⟩
  · exact .inl h3
  · refine .inr ⟨g, o, cur, h4, h5, h6, h7, h8, ?_⟩
    rw [hle, ← orow_take, ← h9, List.take_take]
    congr 1
    omega
/-- the cells of one owner -/
theorem SlP.cells (h : SlP w lo hi A c ps) {k : Nat} {x : Own × Hd} (hk : ps[k]? = some x) : ∃ g o, A = some ⟨g, o, none⟩ ∧ lo ≤ g ∧ g < hi ∧ g < w.heap.size ∧ g ∈ live A c ∧
    (∀ (i : Nat) (y : Own × Hd), ps[i]? = some y → ∀ (j : Nat) (u : Value), (ocells y)[j]? = some u → w.cell? ⟨g, o + (i * 4 + j), none⟩ = some u) ∧ (∀ j, w.frozen? ⟨g, o + j, none⟩ = false) ∧
    ∀ j u, j < ps.length * 4 → Sl (w.setCell ⟨g, o + j, none⟩ u) lo hi 32 4 A ps.length c ((orow ps).set j u) ∧ Turn g (g + 1) w (w.setCell ⟨g, o + j, none⟩ u) := by
  have hkl : k < ps.length := (List.getElem?_eq_some_iff.1 hk).1
  obtain ⟨g, o, rfl, h1, h2, h3, h4, h5⟩ := h.row.at_ (by omega)
  have hg : g ∈ live (some ⟨g, o, none⟩) c := mem_live (by have := h.row.le; omega)
  refine ⟨g, o, rfl, h1, h2, (h.row.live_in g hg).2.2, hg, fun i y hy j u hu => ?_, h4, fun j u hj => ⟨(h5 j u (by rw [orow_len]; exact hj)).1, (Turn.refl g (g + 1) w).setCell (p := ⟨g, o + j, none⟩) (Nat.le_refl _) (.inl (Nat.lt_succ_self _)) u⟩⟩
  have hj : j < 4 := by rw [← ocells_len y]; exact (List.getElem?_eq_some_iff.1 hu).1
  have e := orow_get ps i j y hy hj
  rw [hu] at e
  obtain ⟨hlt, e2⟩ := List.getElem?_eq_some_iff.1 e
  rw [h3 _ hlt, e2]
theorem get_set {α : Type} {ps : List α} {k i : Nat} {y x : α} (h : (ps.set k y)[i]? = some x) : (i = k ∧ x = y) ∨ (i ≠ k ∧ ps[i]? = some x) := by
  rw [List.getElem?_set] at h
  split at h
  · next e =>
    split at h
    · exact .inl ⟨e.symm, by injection h with h; exact h.symm⟩
    · cases h
  · next e => exact .inr ⟨fun e2 => e e2.symm, h⟩
/-- block b is no one's but perhaps owner k's -/
def Free (A : Option Addr) (c : Nat) (ps : List (Own × Hd)) (k b : Nat) : Prop := b ∉ live A c ∧ ∀ (i : Nat) (z : Own × Hd), ps[i]? = some z → i ≠ k → b ∉ foot z
theorem SlP.free (h : SlP w lo hi A c ps) {k b : Nat} (hb : hi ≤ b) : Free A c ps k b :=
  ⟨fun hc => by have := (h.row.live_in b hc).2.1; omega, fun i z hz _ hc => by have := (h.foot_in hz b hc).2.1; omega⟩
theorem SlP.own_free (h : SlP w lo hi A c ps) {k b : Nat} {x : Own × Hd} (hk : ps[k]? = some x) (hb : b ∈ foot x) : Free A c ps k b :=
  ⟨h.d1 k x hk b hb, fun i z hz hne => h.d3 k i x z hk hz (Ne.symm hne) b hb⟩
/-- a store into the head of one owner: a new parent, a new mark, or another inner list -/
theorem SlP.put (h : SlP w lo hi A c ps) {k : Nat} {x y : Own × Hd} (hk : ps[k]? = some x) (j : Nat) (u : Value) (hj : j < 4) (he : ocells y = (ocells x).set j u) (hh : hi ≤ hi')
    (hcl : SlI w lo hi' y.2.clA y.2.clC y.1.cl) (hcx : SlI w lo hi' y.2.cxA y.2.cxC y.1.cx) (hd : ∀ b ∈ live y.2.clA y.2.clC, b ∉ live y.2.cxA y.2.cxC) (hf : ∀ b ∈ foot y, Free A c ps k b)
    {g o : Nat} (hA : A = some ⟨g, o, none⟩) : SlP (w.setCell ⟨g, o + (k * 4 + j), none⟩ u) lo hi' A c (ps.set k y) ∧ Turn g (g + 1) w (w.setCell ⟨g, o + (k * 4 + j), none⟩ u) := by
  obtain ⟨g', o', hA', h1, h2, h3, h4, h5, h6, h7⟩ := h.cells hk
  rw [hA] at hA'
  injection hA' with hA'
  injection hA' with e1 e2
  subst e1 e2
  have hkl : k < ps.length := (List.getElem?_eq_some_iff.1 hk).1
  obtain ⟨h8, h9⟩ := h7 (k * 4 + j) u (by omega)
  have far : ∀ {A' : Option Addr} {c' : Nat} {l1 l2 : Nat} {xs : List Int}, SlI w l1 l2 A' c' xs → (∀ b ∈ live A' c', b ≠ g) → SlI (w.setCell ⟨g, o + (k * 4 + j), none⟩ u) l1 l2 A' c' xs :=
    fun hs hb => Sl.apart hs h9 (fun b hb' => by have := hb b hb'; omega)
  have gy : ∀ b ∈ foot y, b ∉ live A c := fun b hb => (hf b hb).1
  have ne : ∀ z : Own × Hd, (∀ b ∈ foot z, b ∉ live A c) → ∀ b ∈ foot z, b ≠ g := fun z hz b hb e => hz b hb (e ▸ h4)
  refine ⟨⟨?_, ?_, ?_, ?_, ?_, ?_⟩, h9⟩
  · rw [List.length_set, ← orow_set ps k j x y u hk hj he]; exact h8.mono (Nat.le_refl _) hh
  · intro i z hz
    rcases get_set hz with ⟨rfl, rfl⟩ | ⟨_, hz⟩
    · exact far hcl (fun b hb => ne z gy b (List.mem_append_left _ hb))
    · exact far ((h.cl i z hz).mono (Nat.le_refl _) hh) (fun b hb => ne z (h.d1 i z hz) b (List.mem_append_left _ hb))
  · intro i z hz
    rcases get_set hz with ⟨rfl, rfl⟩ | ⟨_, hz⟩
    · exact far hcx (fun b hb => ne z gy b (List.mem_append_right _ hb))
    · exact far ((h.cx i z hz).mono (Nat.le_refl _) hh) (fun b hb => ne z (h.d1 i z hz) b (List.mem_append_right _ hb))
  · intro i z hz
    rcases get_set hz with ⟨rfl, rfl⟩ | ⟨_, hz⟩
    · exact gy
    · exact h.d1 i z hz
  · intro i z hz
    rcases get_set hz with ⟨rfl, rfl⟩ | ⟨_, hz⟩
    · exact hd
    · exact h.d2 i z hz
  · intro i i' z z' hz hz' hne b hb hb'
    rcases get_set hz with ⟨rfl, rfl⟩ | ⟨h10, hz2⟩
    · rcases get_set hz' with ⟨rfl, rfl⟩ | ⟨h11, hz'⟩
      · exact hne rfl
      · exact (hf b hb).2 i' z' hz' (Ne.symm hne) hb'
    · rcases get_set hz' with ⟨rfl, rfl⟩ | ⟨h11, hz'⟩
      · exact (hf b hb').2 i z hz2 hne hb
      · exact h.d3 i i' z z' hz2 hz' hne b hb hb'
theorem Free.set {k b : Nat} {y : Own × Hd} (h : Free A c ps k b) : Free A c (ps.set k y) k b :=
  ⟨h.1, fun i z hz hne => by
    rcases get_set hz with ⟨rfl, _⟩ | ⟨_, hz⟩
    · exact absurd rfl hne
    · exact h.2 i z hz hne⟩
theorem get_set_self {α : Type} {ps : List α} {k : Nat} {x y : α} (h : ps[k]? = some x) : (ps.set k y)[k]? = some y := by
  rw [List.getElem?_set, if_pos rfl, if_pos (List.getElem?_eq_some_iff.1 h).1]
theorem set_self {α : Type} {ps : List α} {k : Nat} {x : α} (h : ps[k]? = some x) : ps.set k x = ps := by
  apply List.ext_getElem?
  intro i
  rw [List.getElem?_set]
  split
  · next e => rw [← e, h, if_pos (List.getElem?_eq_some_iff.1 h).1]
  · rfl
/-- all of one owner is stored anew; its inner lists are new -/
theorem SlP.putAll (h : SlP w lo hi A c ps) {k : Nat} {x : Own × Hd} (y : Own × Hd) (hk : ps[k]? = some x) (hh : hi ≤ hi')
    (hcl : SlI w lo hi' y.2.clA y.2.clC y.1.cl) (hcx : SlI w lo hi' y.2.cxA y.2.cxC y.1.cx) (hd : ∀ b ∈ live y.2.clA y.2.clC, b ∉ live y.2.cxA y.2.cxC) (hf : ∀ b ∈ foot y, hi ≤ b)
    {g o : Nat} (hA : A = some ⟨g, o, none⟩) :
    SlP ((((w.setCell ⟨g, o + (k * 4 + 0), none⟩ (.int .i64 y.1.p)).setCell ⟨g, o + (k * 4 + 1), none⟩ (.bool y.1.op)).setCell ⟨g, o + (k * 4 + 2), none⟩ (.slice y.2.clA y.1.cl.length y.2.clC)).setCell ⟨g, o + (k * 4 + 3), none⟩ (.slice y.2.cxA y.1.cx.length y.2.cxC)) lo hi' A c (ps.set k y) ∧
    Turn g (g + 1) w ((((w.setCell ⟨g, o + (k * 4 + 0), none⟩ (.int .i64 y.1.p)).setCell ⟨g, o + (k * 4 + 1), none⟩ (.bool y.1.op)).setCell ⟨g, o + (k * 4 + 2), none⟩ (.slice y.2.clA y.1.cl.length y.2.clC)).setCell ⟨g, o + (k * 4 + 3), none⟩ (.slice y.2.cxA y.1.cx.length y.2.cxC)) := by
  have ggt : ∀ b ∈ foot y, b ≠ g := fun b hb e => by
    obtain ⟨g', o', hA', h1, h2, _⟩ := h.cells hk
    rw [hA] at hA'
    injection hA' with hA'
    injection hA' with e1 e2
    have := hf b hb; omega
  have far : ∀ {A' : Option Addr} {c' : Nat} {l1 l2 : Nat} {xs : List Int} {w1 w2 : World}, SlI w1 l1 l2 A' c' xs → (∀ b ∈ live A' c', b ∈ foot y) → Turn g (g + 1) w1 w2 → SlI w2 l1 l2 A' c' xs :=
    fun hs hb ht => Sl.apart hs ht (fun b hb' => by have := ggt b (hb b hb'); omega)
  have iny : ∀ b ∈ live y.2.clA y.2.clC, b ∈ foot y := fun b hb => List.mem_append_left _ hb
  have iny2 : ∀ b ∈ live y.2.cxA y.2.cxC, b ∈ foot y := fun b hb => List.mem_append_right _ hb
  obtain ⟨p1, t1⟩ := h.put (hi' := hi) (x := x) (y := (⟨y.1.p, x.1.op, x.1.cl, x.1.cx⟩, x.2)) hk 0 (.int .i64 y.1.p) (by omega) rfl (Nat.le_refl _) (h.cl k x hk) (h.cx k x hk) (h.d2 k x hk) (fun b hb => h.own_free hk hb) hA
  have k1 := get_set_self (y := ((⟨y.1.p, x.1.op, x.1.cl, x.1.cx⟩, x.2) : Own × Hd)) hk
  have e1 := p1.cl k _ k1
  have e2 := p1.cx k _ k1
  have e3 := p1.d2 k _ k1
  obtain ⟨p2, t2⟩ := p1.put (hi' := hi) (y := (⟨y.1.p, y.1.op, x.1.cl, x.1.cx⟩, x.2)) k1 1 (.bool y.1.op) (by omega) rfl (Nat.le_refl _) e1 e2 e3 (fun b hb => p1.own_free k1 hb) hA
  rw [List.set_set] at p2
  have k2 := get_set_self (y := ((⟨y.1.p, y.1.op, x.1.cl, x.1.cx⟩, x.2) : Own × Hd)) hk
  have T12 := t1.trans t2
  obtain ⟨p3, t3⟩ := p2.put (hi' := hi') (y := (⟨y.1.p, y.1.op, y.1.cl, x.1.cx⟩, ⟨y.2.clA, y.2.clC, x.2.cxA, x.2.cxC⟩)) k2 2 (.slice y.2.clA y.1.cl.length y.2.clC) (by omega) rfl hh (far hcl iny T12) ((p2.cx k _ k2).mono (Nat.le_refl _) hh)
    (fun b hb hb' => by have := hf b (iny b hb); have := (Sl.live_in (p2.cx k _ k2) b hb').2.1; omega)
    (fun b hb => by
      unfold foot at hb
      rw [List.mem_append] at hb
      rcases hb with hb | hb
      · exact p2.free (hf b (iny b hb))
      · exact p2.own_free k2 (List.mem_append_right _ hb)) hA
  rw [List.set_set] at p3
  have k3 := get_set_self (y := ((⟨y.1.p, y.1.op, y.1.cl, x.1.cx⟩, ⟨y.2.clA, y.2.clC, x.2.cxA, x.2.cxC⟩) : Own × Hd)) hk
  have T13 := T12.trans t3
  obtain ⟨p4, t4⟩ := p3.put (hi' := hi') (y := y) k3 3 (.slice y.2.cxA y.1.cx.length y.2.cxC) (by omega) rfl (Nat.le_refl _) (far hcl iny T13) (far hcx iny2 T13) hd
    (fun b hb => by
      have := (h.free (k := k) (hf b hb)).set (y := ((⟨y.1.p, y.1.op, y.1.cl, x.1.cx⟩, ⟨y.2.clA, y.2.clC, x.2.cxA, x.2.cxC⟩) : Own × Hd))
      exact this) hA
  rw [List.set_set] at p4
  exact ⟨p4, T13.trans t4⟩
/-- a turn of one inner list of one owner -/
theorem SlP.inner (h : SlP w lo hi A c ps) {k : Nat} {x y : Own × Hd} (hk : ps[k]? = some x) (he : ocells y = ocells x) {a b : Nat} (ht : Turn a b w w')
    (hcl : SlI w' lo hi y.2.clA y.2.clC y.1.cl) (hcx : SlI w' lo hi y.2.cxA y.2.cxC y.1.cx) (hab : ∀ m, a ≤ m → m < b → m ∈ foot x) : SlP w' lo hi A c (ps.set k y) := by
  have hh : y.2 = x.2 := by
    unfold ocells at he
    simp only [List.cons.injEq, Value.slice.injEq, and_true] at he
    obtain ⟨_, _, ⟨h1, _, h2⟩, h3, _, h4⟩ := he
    cases hy : y.2; cases hx : x.2
    rw [hy, hx] at h1 h2 h3 h4
    simp_all
  have hfoot : foot y = foot x := by unfold foot; rw [hh]
  have far : ∀ {A' : Option Addr} {c' : Nat} {t : TypeId} {l1 l2 s n : Nat} {xs : List Value}, Sl w l1 l2 t s A' n c' xs → (∀ m ∈ live A' c', m ∉ foot x) → Sl w' l1 l2 t s A' n c' xs :=
    fun hs hb => Sl.apart hs ht (fun m hm => by
      have := hb m hm
      have : ¬ (a ≤ m ∧ m < b) := fun h2 => this (hab m h2.1 h2.2)
      omega)
  have hoff : ∀ {ys : List (Own × Hd)}, ys = ps → orow (ys.set k y) = orow ps := by
    rintro ys rfl
    have := orow_set ys k 0 x y (.int .i64 x.1.p) hk (by omega) (by rw [he]; rfl)
    rw [← this]
    apply List.ext_getElem?
    intro i
    rw [List.getElem?_set]
    split
    · next e =>
      have := orow_get ys k 0 x hk (by omega)
      rw [← e, this]
      split
      · rfl
      · next e2 =>
        exfalso
        have := (List.getElem?_eq_some_iff.1 hk).1
        rw [orow_len] at e2; omega
    · rfl
  refine ⟨?_, ?_, ?_, ?_, ?_, ?_⟩
  · rw [List.length_set, hoff rfl]
    exact far h.row (fun m hm hm' => h.d1 k x hk m hm' hm)
  · intro i z hz
    rcases get_set hz with ⟨rfl, rfl⟩ | ⟨hne, hz⟩
    · exact hcl
    · exact far (h.cl i z hz) (fun m hm hm' => h.d3 i k z x hz hk hne m (List.mem_append_left _ hm) hm')
  · intro i z hz
    rcases get_set hz with ⟨rfl, rfl⟩ | ⟨hne, hz⟩
    · exact hcx
    · exact far (h.cx i z hz) (fun m hm hm' => h.d3 i k z x hz hk hne m (List.mem_append_right _ hm) hm')
  · intro i z hz
    rcases get_set hz with ⟨rfl, rfl⟩ | ⟨_, hz⟩
    · rw [hfoot]; exact h.d1 i x hk
    · exact h.d1 i z hz
  · intro i z hz
    rcases get_set hz with ⟨rfl, rfl⟩ | ⟨_, hz⟩
    · rw [hh]; exact h.d2 i x hk
    · exact h.d2 i z hz
  · intro i i' z z' hz hz' hne b hb hb'
    rcases get_set hz with ⟨rfl, rfl⟩ | ⟨h10, hz2⟩
    · rcases get_set hz' with ⟨rfl, rfl⟩ | ⟨h11, hz'⟩
      · exact hne rfl
      · rw [hfoot] at hb; exact h.d3 i i' x z' hk hz' hne b hb hb'
    · rcases get_set hz' with ⟨rfl, rfl⟩ | ⟨h11, hz'⟩
      · rw [hfoot] at hb'; exact h.d3 i i' z x hz2 hk hne b hb hb'
      · exact h.d3 i i' z z' hz2 hz' hne b hb hb'
/-- one owner more: the row has grown (in place, or into a new block), its inner lists are new -/
theorem SlP.grow (h : SlP w lo hi A c ps) (x : Own × Hd) {a b : Nat} (ht : Turn a b w w') (hab : ∀ m, a ≤ m → m < b → m ∈ live A c) {A' : Option Addr} {c' : Nat}
    (hr : Sl w' lo hi' 32 4 A' (ps.length + 1) c' (orow ps ++ ocells x)) (hnew : (∀ m ∈ live A' c', m ∈ live A c ∨ w.heap.size ≤ m)) (hh : hi ≤ hi')
    (hcl : SlI w lo hi' x.2.clA x.2.clC x.1.cl) (hcx : SlI w lo hi' x.2.cxA x.2.cxC x.1.cx) (hd : ∀ m ∈ live x.2.clA x.2.clC, m ∉ live x.2.cxA x.2.cxC)
    (hf : ∀ m ∈ foot x, hi ≤ m) : SlP w' lo hi' A' c' (ps ++ [x]) := by
  have at_app : ∀ {i : Nat} {z : Own × Hd}, (ps ++ [x])[i]? = some z → (i < ps.length ∧ ps[i]? = some z) ∨ (i = ps.length ∧ z = x) := fun {i z} hz => by
    rcases Nat.lt_or_ge i ps.length with hlt | hge
    · rw [List.getElem?_append_left hlt] at hz; exact .inl ⟨hlt, hz⟩
    · rw [List.getElem?_append_right hge] at hz
      rcases Nat.eq_zero_or_pos (i - ps.length) with h0 | h0
      · rw [h0] at hz; simp at hz; exact .inr ⟨by omega, hz.symm⟩
      · rw [List.getElem?_eq_none (by simp; omega)] at hz; cases hz
  have far : ∀ {A' : Option Addr} {c' : Nat} {l1 l2 : Nat} {xs : List Int}, SlI w l1 l2 A' c' xs → (∀ m ∈ live A' c', m ∉ live A c) → SlI w' l1 l2 A' c' xs :=
    fun hs hb => Sl.apart hs ht (fun m hm => by
      have := hb m hm
      have : ¬ (a ≤ m ∧ m < b) := fun h2 => this (hab m h2.1 h2.2)
      omega)
  have xw : ∀ m ∈ foot x, m < w.heap.size := fun m hm => by
    unfold foot at hm
    rw [List.mem_append] at hm
    rcases hm with hm | hm
    · exact (Sl.live_in hcl m hm).2.2
    · exact (Sl.live_in hcx m hm).2.2
  have xa : ∀ m ∈ foot x, m ∉ live A c := fun m hm hm' => by
    have := hf m hm; have := (h.row.live_in m hm').2.1; omega
  refine ⟨?_, ?_, ?_, ?_, ?_, ?_⟩
  · rw [orow_append, List.length_append]; simpa [orow] using hr
  · intro i z hz
    rcases at_app hz with ⟨_, hz⟩ | ⟨_, rfl⟩
    · exact far ((h.cl i z hz).mono (Nat.le_refl _) hh) (fun m hm => h.d1 i z hz m (List.mem_append_left _ hm))
    · exact far hcl (fun m hm => xa m (List.mem_append_left _ hm))
  · intro i z hz
    rcases at_app hz with ⟨_, hz⟩ | ⟨_, rfl⟩
    · exact far ((h.cx i z hz).mono (Nat.le_refl _) hh) (fun m hm => h.d1 i z hz m (List.mem_append_right _ hm))
    · exact far hcx (fun m hm => xa m (List.mem_append_right _ hm))
  · intro i z hz m hm hm'
    rcases at_app hz with ⟨_, hz⟩ | ⟨_, rfl⟩
    · rcases hnew m hm' with h1 | h1
      · exact h.d1 i z hz m hm h1
      · have := (h.foot_in hz m hm).2.2; omega
    · rcases hnew m hm' with h1 | h1
      · exact xa m hm h1
      · have := xw m hm; omega
  · intro i z hz
    rcases at_app hz with ⟨_, hz⟩ | ⟨_, rfl⟩
    · exact h.d2 i z hz
    · exact hd
  · intro i j z y hz hy hne m hm hm'
    rcases at_app hz with ⟨_, hz2⟩ | ⟨e1, rfl⟩
    · rcases at_app hy with ⟨_, hy⟩ | ⟨e2, rfl⟩
      · exact h.d3 i j z y hz2 hy hne m hm hm'
      · have := (h.foot_in hz2 m hm).2.1; have := hf m hm'; omega
    · rcases at_app hy with ⟨_, hy⟩ | ⟨e2, rfl⟩
      · have := (h.foot_in hy m hm').2.1; have := hf m hm; omega
      · omega
end

/-- a list of owners that the call owns -/
def SlO (w : World) (lo hi : Nat) (A : Option Addr) (c : Nat) (os : List Own) : Prop := ∃ ps : List (Own × Hd), ps.map Prod.fst = os ∧ SlP w lo hi A c ps
/-- a list of owners that reads -/
def RdO (w : World) (B : Nat) (A : Option Addr) (os : List Own) : Prop :=
  ∃ ps : List (Own × Hd), ps.map Prod.fst = os ∧ Rd w B A (orow ps) ∧ ∀ (i : Nat) (x : Own × Hd), ps[i]? = some x → RdI w B x.2.clA x.1.cl ∧ RdI w B x.2.cxA x.1.cx ∧ x.1.cl.length ≤ x.2.clC ∧ x.1.cx.length ≤ x.2.cxC
section
variable {w w' : World} {lo hi lo' hi' B B' c : Nat} {A : Option Addr} {os : List Own}
theorem SlO.nil : SlO w lo hi A 0 [] := ⟨[], rfl, SlP.nil⟩
theorem SlO.mono (h : SlO w lo hi A c os) (h1 : lo' ≤ lo) (h2 : hi ≤ hi') : SlO w lo' hi' A c os := by obtain ⟨ps, e, h⟩ := h; exact ⟨ps, e, h.mono h1 h2⟩
theorem SlO.turn (h : SlO w lo hi A c os) (ht : Turn lo' hi' w w') (hd : hi ≤ lo' ∨ hi' ≤ lo) : SlO w' lo hi A c os := by obtain ⟨ps, e, h⟩ := h; exact ⟨ps, e, h.turn ht hd⟩
theorem SlO.below (h : SlO w lo hi A c os) (hb : Below B w w') (hB : hi ≤ B) : SlO w' lo hi A c os := by obtain ⟨ps, e, h⟩ := h; exact ⟨ps, e, h.below hb hB⟩
theorem SlO.alloc (h : SlO w lo hi A c os) (o : Obj) : SlO (w.alloc o) lo hi A c os := by obtain ⟨ps, e, h⟩ := h; exact ⟨ps, e, h.alloc o⟩
theorem SlO.drewN (h : SlO w lo hi A c os) (k : Nat) : SlO (w.drewN k) lo hi A c os := by obtain ⟨ps, e, h⟩ := h; exact ⟨ps, e, h.drewN k⟩
theorem SlO.le (h : SlO w lo hi A c os) : os.length ≤ c := by obtain ⟨ps, e, h⟩ := h; have := h.row.le; rw [← e, List.length_map]; exact this
theorem RdO.keep (h : RdO w B A os) (hk : ∀ p : Addr, p.block < B → w'.cell? p = w.cell? p) : RdO w' B A os := by
  obtain ⟨ps, e, h1, h2⟩ := h
  exact ⟨ps, e, h1.keep hk, fun i x hx => by obtain ⟨h3, h4, h5⟩ := h2 i x hx; exact ⟨Rd.keep h3 hk, Rd.keep h4 hk, h5⟩⟩
theorem RdO.more (h : RdO w B A os) (hB : B ≤ B') : RdO w B' A os := by
  obtain ⟨ps, e, h1, h2⟩ := h
  exact ⟨ps, e, h1.more hB, fun i x hx => by obtain ⟨h3, h4, h5⟩ := h2 i x hx; exact ⟨h3.more hB, h4.more hB, h5⟩⟩
theorem RdO.belowLe (h : RdO w B A os) (hb : Below B' w w') (hB : B ≤ B') : RdO w' B A os := h.keep fun _ hp => hb.cell (by omega)
theorem RdO.below (h : RdO w B A os) (hb : Below B w w') : RdO w' B A os := h.belowLe hb (Nat.le_refl _)
theorem RdO.drewN (h : RdO w B A os) (k : Nat) : RdO (w.drewN k) B A os := h
theorem RdO.turn (h : RdO w B A os) (ht : Turn lo hi w w') (hB : B ≤ lo) (hw : lo ≤ w.heap.size) : RdO w' B A os := h.belowLe (ht.below hw) hB
theorem SlP.rd {ps : List (Own × Hd)} (h : SlP w lo hi A c ps) : RdO w hi A (ps.map Prod.fst) :=
  ⟨ps, rfl, h.row.rd, fun i x hx => ⟨(h.cl i x hx).rd, (h.cx i x hx).rd, (h.cl i x hx).le, (h.cx i x hx).le⟩⟩
theorem SlO.rd (h : SlO w lo hi A c os) : RdO w hi A os := by obtain ⟨ps, rfl, h⟩ := h; exact h.rd
theorem spot_none {w : World} {a : Addr} {u : Value} (h : w.cell? a = some u) : a.spot = none := by
  unfold World.cell? at h
  split at h
  · split at h
    · cases h
    · next h1 => simpa using h1
  · cases h
/-- one owner of a list that reads -/
theorem RdO.at_ (h : RdO w B A os) {k : Nat} (hk : k < os.length) : ∃ (g o : Nat) (hd : Hd), A = some ⟨g, o, none⟩ ∧ g < B ∧
    (w.cell? ⟨g, o + k * 4, none⟩ = some (.int .i64 os[k].p) ∧ w.cell? ⟨g, o + k * 4 + 1, none⟩ = some (.bool os[k].op) ∧ w.cell? ⟨g, o + k * 4 + 2, none⟩ = some (.slice hd.clA os[k].cl.length hd.clC) ∧ w.cell? ⟨g, o + k * 4 + 3, none⟩ = some (.slice hd.cxA os[k].cx.length hd.cxC)) ∧
    RdI w B hd.clA os[k].cl ∧ RdI w B hd.cxA os[k].cx ∧ os[k].cl.length ≤ hd.clC ∧ os[k].cx.length ≤ hd.cxC := by
  obtain ⟨ps, rfl, h1, h2⟩ := h
  have hkl : k < ps.length := by simpa using hk
  have hx : ps[k]? = some ps[k] := List.getElem?_eq_getElem hkl
  obtain ⟨ad, hA, had, hc⟩ := h1.at_ (k := k * 4) (by rw [orow_len]; omega)
  obtain ⟨h3, h4, h5, h6⟩ := h2 k _ hx
  have h0 := hc (0 * 4 + 0) _ (by rw [orow_get ps 0 0 _ (List.getElem?_eq_getElem (by omega)) (by omega)]; rfl)
  have hsp := spot_none h0
  obtain ⟨g, o, sp⟩ := ad
  simp only [Addr.add, if_pos] at hsp
  subst hsp
  simp only [List.getElem_map]
  have at' : ∀ (j : Nat) (u : Value), j < 4 → (ocells ps[k])[j]? = some u → w.cell? ⟨g, o + (k * 4 + j), none⟩ = some u := fun j u hj hu => by
    have := hc (k * 4 + j) u (by rw [orow_get ps k j _ hx hj]; exact hu)
    rwa [add_lit] at this
  exact ⟨g, o, ps[k].2, hA, had, ⟨at' 0 _ (by omega) rfl, at' 1 _ (by omega) rfl, at' 2 _ (by omega) rfl, at' 3 _ (by omega) rfl⟩, h3, h4, h5, h6⟩
end
end Go.Proofs.Ytnlbmiangbahgaa
