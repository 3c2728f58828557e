/-
  append onto a row of the call's own, whatever the source: nil, empty or not. (After the guide's own lemma, over the word Rd.)
-/
import Derived.Test.YthfkmlpnefpipaaMem
import Derived.Maps.AppendAt
import Derived.RegionTactic
import Derived.OwnWalk
namespace Go.Proofs.Ythfkmlpnefpipaa
open Go.RowKit

section
variable {P : Program} (w : World)

theorem run_append_of_nil (base : Nat) (t ty e : TypeId) (i : TypeInfo) (size : Nat) (ht : P.underlying t = some (.slice e)) (hi : P.info? e = some i)
    (v : Value) (n : Nat) (xs : List Value) (hown : w.ownsRow base e size v n xs) (c : Nat) : (Builtin.append_ #[t, t] ty #[v, .slice none 0 c]).run P w = .ok v w := by
  rcases hown.2 with ⟨rfl, rfl⟩ | ⟨g, cap, cur, rfl, _, _, hnc, _⟩
  · simp [Builtin.append_, run_underlying ht, sizeOf, typeInfo, hi, Builtin.lenOf, Builtin.firstCells]
  · simp [Builtin.append_, run_underlying ht, sizeOf, typeInfo, hi, Builtin.lenOf, Builtin.firstCells, hnc, storeCells]

theorem run_append_any (base : Nat) (t ty e : TypeId) (i : TypeInfo) (z : Value) (size bytes : Nat) (ht : P.underlying t = some (.slice e)) (hi : P.info? e = some i) (hz : i.zero = some z)
    (hsize : i.size = size) (hby : i.bytes = bytes) (hzs : z.cells.size = size) (hsz : 0 < size)
    (v : Value) (n : Nat) (xs : List Value) (hown : w.ownsRow base e size v n xs)
    (B : Nat) (A : Option Addr) (m c : Nat) (news : List Value) (hl : news.length = m * size) (hr : Rd w B A news) (h1 : ∀ u ∈ news, u.oneCell' = true)
    (h63 : n + m ≤ maxLen) (hbytes : (n + m) * bytes ≤ 140737488355328) (hbase : base ≤ w.heap.size) :
    ∃ v' w', (Builtin.append_ #[t, t] ty #[v, .slice A m c]).run P w = .ok v' w' ∧ w'.ownsRow base e size v' (n + m) (xs ++ news) ∧ w.grownBy w' v.ownBlock ∧
      (v'.ownBlock = v.ownBlock ∨ v'.ownBlock = some w.heap.size) := by
  rcases A with _ | ad
  · have hn : news = [] := Classical.byContradiction fun hne => by obtain ⟨ad, h, _⟩ := hr hne; cases h
    subst hn
    have hm : m = 0 := by
      rcases Nat.eq_zero_or_pos m with h0 | h0
      · exact h0
      · have := Nat.mul_pos h0 hsz
        simp at hl; omega
    subst hm
    exact ⟨v, w, run_append_of_nil w base t ty e i size ht hi v n xs hown c, by simpa using hown, World.grownBy.refl w _, .inl rfl⟩
  · have hcells : ∀ j u, news[j]? = some u → w.cell? (ad.add j) = some u := by
      intro j u hu
      have hne : news ≠ [] := by rintro rfl; simp at hu
      obtain ⟨ad', h, _, hc⟩ := hr hne
      injection h with h
      subst h
      exact hc j u hu
    obtain ⟨v', w', hrun, h2, h3, _, h5⟩ := run_append_own_at (P := P) w base t ty e i z size bytes ht hi hz hsize hby hzs hsz v n xs hown ad m c news hl hcells h1 h63 hbytes hbase
    exact ⟨v', w', hrun, h2, h3, h5⟩

theorem wp_append_any {o : Oper} {a : Act} {K : Act → World → Prop} {Q : Exit → Act → World → Prop} (s x : Operand) (t : TypeId)
    (ho : o.op = .call { callee := .builtin .append, args := #[s, x], argTypes := #[t, t] })
    (base : Nat) (e : TypeId) (i : TypeInfo) (z : Value) (size bytes : Nat) (ht : P.underlying t = some (.slice e)) (hi : P.info? e = some i) (hz : i.zero = some z)
    (hsize : i.size = size) (hby : i.bytes = bytes) (hzs : z.cells.size = size) (hsz : 0 < size)
    (v : Value) (n : Nat) (xs : List Value) (hs : a.eval s = v) (hown : w.ownsRow base e size v n xs)
    (B : Nat) (A : Option Addr) (m c : Nat) (news : List Value) (hx : a.eval x = .slice A m c) (hl : news.length = m * size) (hr : Rd w B A news) (h1 : ∀ u ∈ news, u.oneCell' = true)
    (h63 : n + m ≤ maxLen) (hbytes : (n + m) * bytes ≤ 140737488355328) (hbase : base ≤ w.heap.size)
    (h : ∀ v' w', w'.ownsRow base e size v' (n + m) (xs ++ news) → w.grownBy w' v.ownBlock → (v'.ownBlock = v.ownBlock ∨ v'.ownBlock = some w.heap.size) → K (a.put o.dst v') w') : o.wp P a w K Q := by
  obtain ⟨v', w', hrun, h2, h3, h4⟩ := run_append_any (P := P) w base t o.type e i z size bytes ht hi hz hsize hby hzs hsz v n xs hown B A m c news hl hr h1 h63 hbytes hbase
  unfold Oper.wp execOp
  simp only [ho, resolve, invoke, builtin, Sem.run_bind, Sem.run_pure, Result.andThen_ok, List.map_toArray, List.map_cons, List.map_nil, hs, hx, hrun]
  exact h v' w' h2 h3 h4

theorem wpList_append_any {ops : Array Oper} {rest : List Oper} {o : Oper} {a : Act} {Q : Exit → Act → World → Prop} (hgd : o.guard = none) (s x : Operand) (t : TypeId)
    (ho : o.op = .call { callee := .builtin .append, args := #[s, x], argTypes := #[t, t] })
    (base : Nat) (e : TypeId) (i : TypeInfo) (z : Value) (size bytes : Nat) (ht : P.underlying t = some (.slice e)) (hi : P.info? e = some i) (hz : i.zero = some z)
    (hsize : i.size = size) (hby : i.bytes = bytes) (hzs : z.cells.size = size) (hsz : 0 < size)
    (v : Value) (n : Nat) (xs : List Value) (hs : a.eval s = v) (hown : w.ownsRow base e size v n xs)
    (B : Nat) (A : Option Addr) (m c : Nat) (news : List Value) (hx : a.eval x = .slice A m c) (hl : news.length = m * size) (hr : Rd w B A news) (h1 : ∀ u ∈ news, u.oneCell' = true)
    (h63 : n + m ≤ maxLen) (hbytes : (n + m) * bytes ≤ 140737488355328) (hbase : base ≤ w.heap.size)
    (h : ∀ v' w', w'.ownsRow base e size v' (n + m) (xs ++ news) → w.grownBy w' v.ownBlock → (v'.ownBlock = v.ownBlock ∨ v'.ownBlock = some w.heap.size) → wpList P ops Q rest (a.put o.dst v') w') : wpList P ops Q (o :: rest) a w :=
  wpList_plain hgd fun _ hK => wp_append_any w s x t ho base e i z size bytes ht hi hz hsize hby hzs hsz v n xs hs hown B A m c news hx hl hr h1 h63 hbytes hbase fun v' w' h2 h3 h4 => hK _ _ (h v' w' h2 h3 h4)
end

/-- a slice of ints that grows: it is nil, or lies at the head of a block from lo on -/
def GrI (w : World) (lo : Nat) (A : Option Addr) (c : Nat) (xs : List Int) : Prop := w.ownsRow lo 3 1 (.slice A xs.length c) xs.length (ints xs)
section
variable {w w' : World} {lo hi c B : Nat} {A : Option Addr} {xs : List Int}
theorem GrI.lit0 (w : World) (h : lo ≤ w.heap.size) : GrI (w.alloc (.cells #[] 3)) lo (some ⟨w.heap.size, 0, none⟩) 0 [] :=
  World.ownsRow_lit w #[] 0 h (by unfold maxLen; omega) (by simp)
theorem GrI.nil (w : World) : GrI w lo none 0 [] := World.ownsRow_nil _ _ _ _
theorem GrI.ow (h : GrI w lo A c xs) : OwI w lo w.heap.size A xs := fun hn => by
  rcases h.2 with ⟨_, h0⟩ | ⟨g, cap, cur, hv, hg, hh, _, _, _, ht⟩
  · have : xs = [] := List.eq_nil_of_length_eq_zero h0
    subst this; exact absurd rfl hn
  · injection hv with hA _ _
    have hb : Blk w g 3 cur := hh
    exact ⟨g, cur, hA, hg, hb.lt, hb, by rw [← ht]; simp⟩
theorem GrI.of_own {v : Value} {n : Nat} {ys : List Value} (h : w.ownsRow lo 3 1 v n ys) (hy : ys = ints xs) : ∃ A c, v = .slice A xs.length c ∧ GrI w lo A c xs := by
  subst hy
  have hn : xs.length = n := by simpa using h.1
  subst hn
  rcases h.2 with ⟨rfl, h0⟩ | ⟨g, cap, cur, rfl, hg, hh, r⟩
  · have : xs = [] := List.eq_nil_of_length_eq_zero h0
    subst this
    exact ⟨none, 0, rfl, GrI.nil w⟩
  · exact ⟨_, _, rfl, h⟩
theorem GrI.block (h : GrI w lo A c xs) : ∀ k, (Value.slice A xs.length c).ownBlock = some k → lo ≤ k ∧ k < w.heap.size := World.ownsRow.lt h
theorem GrI.kept {lo' hi' : Nat} (h : GrI w lo A c xs) (ht : Turn lo' hi' w w') (hd : hi' ≤ lo ∨ w.heap.size ≤ lo') : GrI w' lo A c xs := by
  obtain ⟨h1, h2⟩ := h
  refine ⟨h1, ?_⟩
  rcases h2 with h2 | ⟨g, cap, cur, hv, hg, hh, r⟩
  · exact .inl h2
  · have hb : Blk w g 3 cur := hh
    have := hb.lt
    exact .inr ⟨g, cap, cur, hv, hg, (ht.block g (by omega) (by omega)).trans hh, r⟩
theorem GrI.alloc (h : GrI w lo A c xs) (o : Obj) : GrI (w.alloc o) lo A c xs := World.ownsRow.alloc h o
theorem GrI.drewN (h : GrI w lo A c xs) (n : Nat) : GrI (w.drewN n) lo A c xs := h
theorem Turn.grown {row : Option Nat} (hg : w.grownBy w' row) (hr : ∀ k, row = some k → lo ≤ k) (hh : ∀ k, row = some k → k < hi) : Turn lo hi w w' :=
  ⟨hg.os, hg.tape, hg.output, hg.size, fun k hk ho => hg.block k hk (fun e => by have h1 := hr k e.symm; have h2 := hh k e.symm; omega)⟩
theorem Turn.alloc {w0 : World} (h : Turn lo hi w0 w) (o : Obj) : Turn lo hi w0 (w.alloc o) :=
  h.trans ⟨rfl, rfl, rfl, by simp, fun k hk _ => Below.heap_alloc w o k hk⟩
theorem ints_one (xs : List Int) : ∀ u ∈ ints xs, u.oneCell' = true := ints_oneCell _ _
end

section
variable {w : World} {ops : Array Oper} {rest : List Oper} {o : Oper} {a : Act} {Q : Exit → Act → World → Prop}
/-- append(out, ys...) at ints: out of the call's own -/
theorem wpList_appI (s x : Operand) (hgd : o.guard = none)
    (ho : o.op = .call { callee := .builtin .append, args := #[s, x], argTypes := #[23, 23] })
    {lo c c' B m : Nat} {A A' : Option Addr} {xs : List Int} (ys : List Int) (hs : a.eval s = .slice A xs.length c) (hown : GrI w lo A c xs) (hx : a.eval x = .slice A' m c') (hl : ys.length = m) (hr : RdI w B A' ys)
    (hb : xs.length + m ≤ 17592186044416) (hlo : lo ≤ w.heap.size)
    (h : ∀ A'' c'' w', GrI w' lo A'' c'' (xs ++ ys) → Turn lo w.heap.size w w' → w.grownBy w' (Value.slice A xs.length c).ownBlock → wpList Try.prog ops Q rest (a.put o.dst (.slice A'' (xs.length + m) c'')) w') : wpList Try.prog ops Q (o :: rest) a w := by
  obtain ⟨i0, hi, hz0, hz1, hz2⟩ := info_parts Try.infoInt
  refine wpList_append_any w hgd s x 23 ho lo 3 i0 (.int .i64 0) 1 8 Try.underlying23 hi hz0 hz1 hz2 rfl (by decide) (.slice A xs.length c) xs.length (ints xs) hs hown B A' m c' (ints ys) hx (by simp [hl]) hr (ints_one ys)
    (by unfold maxLen; omega) (by omega) hlo ?_
  intro v' w' h2 h3 _
  obtain ⟨A'', c'', rfl, h4⟩ := GrI.of_own (xs := xs ++ ys) h2 (by simp [ints])
  have e : (xs ++ ys).length = xs.length + m := by simp [hl]
  rw [e]
  exact h A'' c'' w' h4 (Turn.grown h3 (fun k hk => (hown.block k hk).1) (fun k hk => (hown.block k hk).2)) h3
end
end Go.Proofs.Ythfkmlpnefpipaa
