/-
  What a loop over an iterator asks of its body, at slices of the call's own; append inside a fence.
-/
import Derived.Test.YtmmegmefiihabaaBack
namespace Go.Proofs.Ytmmegmefiihabaa
open Go.RowKit Go.Shelf
attribute [local go_sem] Oper.semAt_some

section
variable {W W' w : World} {row : Option Nat} {B lo hi : Nat}
theorem Blk.own {g : Nat} {t : TypeId} {cs : Array Value} (h : Blk W g t cs) (hg : W.grownBy W' row) (hr : ∀ r, row = some r → B ≤ r ∧ ∃ o : Obj, W.heap[r]? = some o ∧ o.isCells = false) : Blk W' g t cs :=
  h.grown hg fun e => by
    obtain ⟨_, o, h1, h2⟩ := hr g e.symm
    unfold Blk at h
    rw [h] at h1
    cases h1
    cases h2
theorem Sl.own {e : TypeId} {size n c : Nat} {A : Option Addr} {xs : List Value} (h : Sl W lo hi e size A n c xs) (hg : W.grownBy W' row) (hr : ∀ r, row = some r → B ≤ r ∧ ∃ o : Obj, W.heap[r]? = some o ∧ o.isCells = false) : Sl W' lo hi e size A n c xs := by
  obtain ⟨h3, h4, h5⟩ := h
  refine ⟨h3, h4, ?_⟩
  rcases h5 with h5 | ⟨g, o, cur, h6, h7, h8, h9, h10⟩
  · exact .inl h5
  · exact .inr ⟨g, o, cur, h6, h7, h8, h9.own hg hr, h10⟩
theorem SlI.own {c : Nat} {A : Option Addr} {xs : List Int} (h : SlI W lo hi A c xs) (hg : W.grownBy W' row) (hr : ∀ r, row = some r → B ≤ r ∧ ∃ o : Obj, W.heap[r]? = some o ∧ o.isCells = false) : SlI W' lo hi A c xs := Sl.own h hg hr
theorem SlI.ownTop {c : Nat} {A : Option Addr} {xs : List Int} (h : SlI W lo W.heap.size A c xs) (hg : W.grownBy W' row) (hr : ∀ r, row = some r → B ≤ r ∧ ∃ o : Obj, W.heap[r]? = some o ∧ o.isCells = false) : SlI W' lo W'.heap.size A c xs := (h.own hg hr).mono (Nat.le_refl _) hg.size
theorem Turn.own (h : Turn lo hi w W) (hg : W.grownBy W' row) (hr : ∀ r, row = some r → B ≤ r ∧ ∃ o : Obj, W.heap[r]? = some o ∧ o.isCells = false) (hB : w.heap.size ≤ B) : Turn lo hi w W' :=
  ⟨hg.os.trans h.os, hg.tape.trans h.tape, hg.output.trans h.output, Nat.le_trans h.size hg.size, fun k hk ho => (hg.block k (Nat.lt_of_lt_of_le hk h.size) (fun e => by have := (hr k e.symm).1; omega)).trans (h.block k hk ho)⟩
theorem obj_own {k : Nat} {o : Obj} (h : W.heap[k]? = some o) (hk : k < B) (hg : W.grownBy W' row) (hr : ∀ r, row = some r → B ≤ r ∧ ∃ o : Obj, W.heap[r]? = some o ∧ o.isCells = false) : W'.heap[k]? = some o :=
  (hg.block k (Array.getElem?_eq_some_iff.1 h).1 (fun e => by have := (hr k e.symm).1; omega)).trans h
theorem KeepsFrom.of_turn (h : Turn lo hi W W') (hB : hi ≤ B) : KeepsFrom B W W' :=
  ⟨h.size, fun k o hk ho _ => (h.block k (Array.getElem?_eq_some_iff.1 ho).1 (.inr (by omega))).trans ho⟩
/-- only these blocks, and new ones, have turned -/
def TurnIn (l : List Nat) (W W' : World) : Prop := W.heap.size ≤ W'.heap.size ∧ ∀ k, k < W.heap.size → k ∉ l → W'.heap[k]? = W.heap[k]?
theorem TurnIn.others {e : TypeId} {size n c : Nat} {A : Option Addr} {xs : List Value} (h : Sl W lo hi e size A n c xs) (t : TurnIn (live A c) W W') : KeepsOthers W W' :=
  ⟨t.1, fun k o hk ho => (t.2 k (Array.getElem?_eq_some_iff.1 hk).1 (fun hl => by
    rcases h.2.2 with h5 | ⟨g, o', cur, rfl, _, _, h9, _⟩
    · rw [h5, live_nil] at hl; cases hl
    · rw [of_live hl] at hk
      unfold Blk at h9
      rw [h9] at hk
      cases hk
      cases ho)).trans hk⟩
theorem TurnIn.kept {l : List Nat} (t : TurnIn l W W') {k : Nat} (hk : k < W.heap.size) (hl : k ∉ l) : KeptAt k W W' := fun p hp => World.cell?_of_block (by rw [hp]; exact t.2 k hk hl)
theorem KeptAt.setCell {k : Nat} (h : KeptAt k W W') {p : Addr} (hp : k ≠ p.block) (v : Value) : KeptAt k W (W'.setCell p v) := fun q hq => (World.cell?_of_block (by rw [hq]; exact Below.heap_setCell W' p v k hp)).trans (h q hq)
theorem KeptAt.alloc {k : Nat} (h : KeptAt k W W') (hk : k < W'.heap.size) (o : Obj) : KeptAt k W (W'.alloc o) := fun q hq => (World.cell?_of_block (by rw [hq]; exact Below.heap_alloc W' o k hk)).trans (h q hq)
/-- blocks of other types are not live -/
theorem Sl.other {e t : TypeId} {size n c g : Nat} {A : Option Addr} {xs : List Value} {cs : Array Value} (h : Sl W lo hi e size A n c xs) (hb : Blk W g t cs) (ht : e ≠ t) : g ∉ live A c := fun hl => by
  rcases h.2.2 with h5 | ⟨g', o', cur, rfl, _, _, h9, _⟩
  · rw [h5, live_nil] at hl; cases hl
  · rw [of_live hl] at hb
    unfold Blk at h9 hb
    rw [h9] at hb
    injection hb with hb
    injection hb with _ hb
    exact ht hb
end

/-- append, all that is said of it at ints -/
theorem run_appI {w : World} {lo hi n c c' B m : Nat} {A A' : Option Addr} (xs ys : List Int) (ty : TypeId) (hn : xs.length = n) (hown : SlI w lo hi A c xs) (hl : ys.length = m) (hr : RdI w B A' ys)
    (hb : n + m ≤ 17592186044416) (hlo : lo ≤ w.heap.size) :
    ∃ A'' c'' w', (Builtin.append_ #[23, 23] ty #[.slice A n c, .slice A' m c']).run Try.prog w = .ok (.slice A'' (n + m) c'') w' ∧ SlI w' lo (max hi w'.heap.size) A'' c'' (xs ++ ys) ∧ Turn lo hi w w' ∧ TurnIn (live A c) w w' := by
  subst hn hl
  obtain ⟨i0, hi0, hz0, hz1, hz2⟩ := info_parts Try.infoInt
  obtain ⟨a, b, hs, hlv, ha, _⟩ := Sl.narrow hown
  obtain ⟨A1, c1, w1, e1, s1, t1, _, _⟩ := run_app (P := Try.prog) w lo hi 23 ty 3 i0 (.int .i64 0) 1 8 Try.underlying23 hi0 hz0 hz1 hz2 rfl (by decide) A xs.length c (ints xs) hown B A' ys.length c' (ints ys) (by simp) hr (ints_oneCell _ _)
    (by unfold maxLen; omega) (by omega) hlo
  obtain ⟨A2, c2, w2, e2, _, t2, _, _⟩ := run_app (P := Try.prog) w a b 23 ty 3 i0 (.int .i64 0) 1 8 Try.underlying23 hi0 hz0 hz1 hz2 rfl (by decide) A xs.length c (ints xs) hs B A' ys.length c' (ints ys) (by simp) hr (ints_oneCell _ _)
    (by unfold maxLen; omega) (by omega) (by rcases ha with rfl | ha <;> omega)
  rw [e1] at e2
  injection e2 with _ e2
  subst e2
  refine ⟨A1, c1, w1, e1, ?_, t1, t1.size, fun k hk hl => t2.block k hk ?_⟩
  · unfold SlI
    rw [List.length_append]
    simpa [ints] using s1
  · by_cases h1 : k < a
    · exact .inl h1
    · by_cases h2 : b ≤ k
      · exact .inr h2
      · exact absurd (hlv k (by omega) (by omega)) hl

section
variable {F : Fence} {f : Nat} {w : World} {ops : Array Oper} {rest : List Oper} {o : Oper} {a : Act} {Q : Exit → Act → World → Prop}
theorem wpListIn_appI (s x : Operand) (hgd : o.guard = none)
    (ho : o.op = .call { callee := .builtin .append, args := #[s, x], argTypes := #[23, 23] })
    {lo hi n c c' B m : Nat} {A A' : Option Addr} (xs : List Int) (ys : List Int) (hs : a.eval s = .slice A n c) (hn : xs.length = n) (hown : SlI w lo hi A c xs) (hx : a.eval x = .slice A' m c') (hl : ys.length = m) (hr : RdI w B A' ys)
    (hb : n + m ≤ 17592186044416) (hlo : lo ≤ w.heap.size)
    (h : ∀ A'' c'' w', SlI w' lo (max hi w'.heap.size) A'' c'' (xs ++ ys) → Turn lo hi w w' → TurnIn (live A c) w w' → wpListIn F f Try.prog ops Q rest (a.put o.dst (.slice A'' (n + m) c'')) w') : wpListIn F f Try.prog ops Q (o :: rest) a w := by
  refine wpListIn_plain hgd fun K hK' => ?_
  obtain ⟨A'', c'', w', hrun, r1, r2, r3⟩ := run_appI xs ys o.type hn hown hl hr hb hlo (c' := c')
  unfold Oper.wpIn
  refine ⟨?_, ?_⟩
  · simp [Oper.about, ho, resolve, Target.leads, Sem.run_pure]
  · rw [Oper.semAt_plain F _ _ (by rw [ho]; intro c hc'; cases hc')]
    simp [execOp, ho, resolve, invoke, builtin, hs, hx, hrun, Result.andThen]
    exact hK' _ _ (h A'' c'' w' r1 r2 r3)
/-- .. in a region that draws -/
theorem stepIn_appI {K : Act → World → Prop} {E : Prop} (s x : Operand) (hgd : o.guard = none)
    (ho : o.op = .call { callee := .builtin .append, args := #[s, x], argTypes := #[23, 23] })
    {lo hi n c c' B m : Nat} {A A' : Option Addr} (xs : List Int) (ys : List Int) (hs : a.eval s = .slice A n c) (hn : xs.length = n) (hown : SlI w lo hi A c xs) (hx : a.eval x = .slice A' m c') (hl : ys.length = m) (hr : RdI w B A' ys)
    (hb : n + m ≤ 17592186044416) (hlo : lo ≤ w.heap.size)
    (h : ∀ A'' c'' w', SlI w' lo (max hi w'.heap.size) A'' c'' (xs ++ ys) → Turn lo hi w w' → TurnIn (live A c) w w' → K (a.put o.dst (.slice A'' (n + m) c'')) w') :
    if Region.wanted o (yielded ops a.tmps) = true then Oper.wpIn F f Try.prog o a w K Q else E := by
  have hw : Region.wanted o (yielded ops a.tmps) = true := by simp [Region.wanted, hgd]
  rw [if_pos hw]
  obtain ⟨A'', c'', w', hrun, r1, r2, r3⟩ := run_appI xs ys o.type hn hown hl hr hb hlo (c' := c')
  unfold Oper.wpIn
  refine ⟨?_, ?_⟩
  · simp [Oper.about, ho, resolve, Target.leads, Sem.run_pure]
  · rw [Oper.semAt_plain F _ _ (by rw [ho]; intro c hc'; cases hc')]
    simp [execOp, ho, resolve, invoke, builtin, hs, hx, hrun, Result.andThen]
    exact h A'' c'' w' r1 r2 r3
end

/-- the block that a slice's cells lie in, where it has some -/
theorem SlI.home {w : World} {lo hi c : Nat} {A : Option Addr} {zs : List Int} (h : SlI w lo hi A c zs) (z : Nat) : ∃ b, (b = z ∨ (lo ≤ b ∧ b < hi ∧ b < w.heap.size)) ∧ (zs ≠ [] → ∀ ad, A = some ad → ad.block = b) := by
  by_cases hz : zs = []
  · exact ⟨z, .inl rfl, fun hn => absurd hz hn⟩
  · have hp : 0 < zs.length := List.length_pos_iff.2 hz
    obtain ⟨g, o, cur, rfl, h1, h2, h3, _⟩ := Sl.block h (by have := h.le; omega)
    exact ⟨g, .inr ⟨h1, h2, h3.lt⟩, fun _ ad e => by injection e with e; subst e; rfl⟩
end Go.Proofs.Ytmmegmefiihabaa
