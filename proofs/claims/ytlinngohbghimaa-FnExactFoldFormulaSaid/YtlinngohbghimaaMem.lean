/-
  Words for memory: a slice that reads as a list of cells, a slice that the call owns, what a call may turn.
-/
import Derived.WalkKit
import Derived.Deep.Draws
import Derived.Deep.AppendLies
import Derived.Laws.OwnMore
import Derived.Deep.QuietTactic
import Derived.BigQuiet
import Derived.Lib.Hide
import Derived.Test.YtlinngohbghimaaProg
import Derived.KernelRfl
namespace Go.Proofs.Ytlinngohbghimaa
open Go.RowKit

theorem block_of_add (a : Addr) (n : Nat) : (a.add n).block = a.block := by unfold Addr.add; split <;> rfl
theorem add_of_add (a : Addr) (i j : Nat) : (a.add i).add j = a.add (i + j) := by
  unfold Addr.add
  by_cases hi : i = 0 <;> by_cases hj : j = 0 <;> simp [hi, hj, Nat.add_assoc]

/-- The slice value with address A and so many cells in all holds the cells xs, below block B. -/
def Rd (w : World) (B : Nat) (A : Option Addr) (xs : List Value) : Prop :=
  xs ≠ [] → ∃ ad, A = some ad ∧ ad.block < B ∧ ∀ j u, xs[j]? = some u → w.cell? (ad.add j) = some u

section
variable {w w' : World} {B B' n : Nat} {A : Option Addr} {xs : List Value}
theorem Rd.nil : Rd w B A [] := fun h => absurd rfl h
theorem Rd.at_ (h : Rd w B A xs) {k : Nat} (hk : k < xs.length) : ∃ ad, A = some ad ∧ ad.block < B ∧ ∀ j u, xs[j]? = some u → w.cell? (ad.add j) = some u :=
  h (by intro e; subst e; simp at hk)
theorem Rd.keep (h : Rd w B A xs) (hk : ∀ p : Addr, p.block < B → w'.cell? p = w.cell? p) : Rd w' B A xs := fun hn => by
  obtain ⟨ad, e, hb, hc⟩ := h hn
  exact ⟨ad, e, hb, fun j u hu => (hk _ (by rw [block_of_add]; exact hb)).trans (hc j u hu)⟩
theorem Rd.more (h : Rd w B A xs) (hB : B ≤ B') : Rd w B' A xs := fun hn => by
  obtain ⟨ad, e, hb, hc⟩ := h hn
  exact ⟨ad, e, by omega, hc⟩
theorem Rd.below (h : Rd w B A xs) (hb : Below B w w') : Rd w' B A xs := h.keep fun _ hp => hb.cell hp
theorem Rd.belowLe (h : Rd w B A xs) (hb : Below B' w w') (hB : B ≤ B') : Rd w' B A xs := h.keep fun _ hp => hb.cell (by omega)
theorem Rd.drewN (h : Rd w B A xs) (k : Nat) : Rd (w.drewN k) B A xs := h
theorem Rd.cut (h : Rd w B A xs) {k cap size : Nat} (hc : k * size < xs.length → cap ≠ k) :
    Rd w B (if cap = k then A else A.map (·.add (k * size))) (xs.drop (k * size)) := by
  intro hn
  have hl : k * size < xs.length := by
    rcases Nat.lt_or_ge (k * size) xs.length with h1 | h1
    · exact h1
    · exact absurd (List.drop_eq_nil_of_le h1) hn
  obtain ⟨ad, rfl, hb, hcell⟩ := h.at_ hl
  rw [if_neg (hc hl)]
  refine ⟨ad.add (k * size), rfl, by rw [block_of_add]; exact hb, fun j u hu => ?_⟩
  rw [add_of_add]
  exact hcell _ u (by rw [← hu, List.getElem?_drop])
theorem Rd.take (h : Rd w B A xs) (k : Nat) : Rd w B A (xs.take k) := by
  intro hn
  obtain ⟨ad, e, hb, hc⟩ := h (by intro e; subst e; simp at hn)
  refine ⟨ad, e, hb, fun j u hu => hc j u ?_⟩
  rw [List.getElem?_take] at hu
  split at hu
  · exact hu
  · cases hu
end

theorem below_drewN {B : Nat} {a w : World} (h : Below B a w) (n : Nat) : Below B a (w.drewN n) := ⟨h.os, h.tape, h.output, h.size, h.block⟩

/-- a slice of ints -/
abbrev ints (xs : List Int) : List Value := xs.map (Value.int .i64)
def RdI (w : World) (B : Nat) (A : Option Addr) (xs : List Int) : Prop := Rd w B A (ints xs)
section
variable {w w' : World} {B B' n : Nat} {A : Option Addr} {xs : List Int}
theorem RdI.nil : RdI w B A [] := Rd.nil
theorem RdI.at_ (h : RdI w B A xs) {k : Nat} (hk : k < xs.length) : ∃ ad, A = some ad ∧ ad.block < B ∧ ∀ j (hj : j < xs.length), w.cell? (ad.add j) = some (.int .i64 xs[j]) := by
  obtain ⟨ad, e, hb, hc⟩ := Rd.at_ h (k := k) (by simpa using hk)
  exact ⟨ad, e, hb, fun j hj => hc j _ (by simp [hj])⟩
theorem RdI.below (h : RdI w B A xs) (hb : Below B w w') : RdI w' B A xs := Rd.below h hb
theorem RdI.belowLe (h : RdI w B A xs) (hb : Below B' w w') (hB : B ≤ B') : RdI w' B A xs := Rd.belowLe h hb hB
theorem RdI.more (h : RdI w B A xs) (hB : B ≤ B') : RdI w B' A xs := Rd.more h hB
theorem RdI.drewN (h : RdI w B A xs) (k : Nat) : RdI (w.drewN k) B A xs := h
end


/-- block g is just the cells cs of element type t, none frozen -/
def Blk (w : World) (g : Nat) (t : TypeId) (cs : Array Value) : Prop := w.heap[g]? = some (.cells cs t (0, 0))
section
variable {w w' : World} {g : Nat} {t : TypeId} {cs : Array Value}
theorem Blk.lt (h : Blk w g t cs) : g < w.heap.size := by
  rcases Nat.lt_or_ge g w.heap.size with hlt | hge
  · exact hlt
  · unfold Blk at h; rw [Array.getElem?_eq_none hge] at h; cases h
theorem Blk.cell (h : Blk w g t cs) (i : Nat) : w.cell? ⟨g, i, none⟩ = cs[i]? := cell_of_row w g i cs t (0, 0) h
theorem Blk.frozen (h : Blk w g t cs) (i : Nat) : w.frozen? ⟨g, i, none⟩ = false := by
  unfold Blk at h
  simp [World.frozen?, h]
theorem Blk.new (w : World) (t : TypeId) (cs : Array Value) : Blk (w.alloc (.cells cs t)) w.heap.size t cs := heap_alloc_new w _
theorem Blk.drew (h : Blk w g t cs) : Blk w.drew g t cs := h
theorem Blk.drewN (h : Blk w g t cs) (n : Nat) : Blk (w.drewN n) g t cs := h
theorem Blk.alloc (h : Blk w g t cs) (o : Obj) : Blk (w.alloc o) g t cs := (Below.heap_alloc w o g h.lt).trans h
theorem Blk.set_ (h : Blk w g t cs) (i : Nat) (u : Value) : Blk (w.setCell ⟨g, i, none⟩ u) g t (cs.setIfInBounds i u) := by
  unfold Blk at h ⊢
  simp [World.setCell, Array.getElem?_modify, h]
theorem Blk.far (h : Blk w g t cs) {p : Addr} (hp : g ≠ p.block) (u : Value) : Blk (w.setCell p u) g t cs := (Below.heap_setCell w p u g hp).trans h
theorem Blk.below {B : Nat} (h : Blk w g t cs) (hb : Below B w w') (hg : g < B) : Blk w' g t cs := (hb.block g hg).trans h
theorem Blk.grown {row : Option Nat} (h : Blk w g t cs) (hb : w.grownBy w' row) (hg : some g ≠ row) : Blk w' g t cs := (hb.block g h.lt hg).trans h
end

/-- from w to w' only blocks lo up to hi, and what is new, may have turned -/
structure Turn (lo hi : Nat) (w w' : World) : Prop where
  os : w'.os = w.os
  tape : w'.tape = w.tape
  output : w'.output = w.output
  size : w.heap.size ≤ w'.heap.size
  block : ∀ k, k < w.heap.size → (k < lo ∨ hi ≤ k) → w'.heap[k]? = w.heap[k]?
section
variable {w w' w'' : World} {lo hi lo' hi' : Nat} {A : Option Addr} {xs : List Value}
theorem Turn.refl (lo hi : Nat) (w : World) : Turn lo hi w w := ⟨rfl, rfl, rfl, Nat.le_refl _, fun _ _ _ => rfl⟩
theorem Turn.trans (h : Turn lo hi w w') (k : Turn lo hi w' w'') : Turn lo hi w w'' :=
  ⟨k.os.trans h.os, k.tape.trans h.tape, k.output.trans h.output, Nat.le_trans h.size k.size, fun i hi ho => (k.block i (Nat.lt_of_lt_of_le hi h.size) ho).trans (h.block i hi ho)⟩
theorem Turn.mono (h : Turn lo hi w w') (h1 : lo' ≤ lo) (h2 : hi ≤ hi') : Turn lo' hi' w w' := ⟨h.os, h.tape, h.output, h.size, fun k hk ho => h.block k hk (by omega)⟩
/-- then a turn of what is new -/
theorem Turn.new (h : Turn lo hi w w') (k : Turn lo' hi' w' w'') (hn : w.heap.size ≤ lo') : Turn lo hi w w'' :=
  ⟨k.os.trans h.os, k.tape.trans h.tape, k.output.trans h.output, Nat.le_trans h.size k.size, fun i hi ho => (k.block i (Nat.lt_of_lt_of_le hi h.size) (.inl (by omega))).trans (h.block i hi ho)⟩
theorem Below.new {B : Nat} (h : Below B w w') (k : Turn lo' hi' w' w'') (hn : B ≤ lo') (hB : B ≤ w.heap.size) : Below B w w'' :=
  ⟨k.os.trans h.os, k.tape.trans h.tape, k.output.trans h.output, Nat.le_trans h.size k.size, fun i hi => (k.block i (by have := h.size; omega) (.inl (by omega))).trans (h.block i hi)⟩
theorem Turn.below (h : Turn lo hi w w') (hw : lo ≤ w.heap.size) : Below lo w w' := ⟨h.os, h.tape, h.output, h.size, fun k hk => h.block k (by omega) (.inl hk)⟩
theorem Below.turn (h : Below w.heap.size w w') (lo hi : Nat) : Turn lo hi w w' := ⟨h.os, h.tape, h.output, h.size, fun k hk _ => h.block k hk⟩
theorem Turn.drewN (h : Turn lo hi w w') (n : Nat) : Turn lo hi w (w'.drewN n) := ⟨h.os, h.tape, h.output, h.size, h.block⟩
theorem Turn.setCell (h : Turn lo hi w w') {p : Addr} (h1 : lo ≤ p.block) (h2 : p.block < hi ∨ w.heap.size ≤ p.block) (u : Value) : Turn lo hi w (w'.setCell p u) :=
  ⟨h.os, h.tape, h.output, by simpa [World.setCell] using h.size, fun k hk ho => (Below.heap_setCell w' p u k (by omega)).trans (h.block k hk ho)⟩
theorem Turn.rd (h : Turn lo hi w w') {C : Nat} (hr : Rd w C A xs) (hC : C ≤ lo) (hw : lo ≤ w.heap.size) : Rd w' C A xs := hr.belowLe (h.below hw) hC
theorem Turn.grown {row : Option Nat} (hg : w.grownBy w' row) (hr : ∀ k, row = some k → lo ≤ k) (hh : ∀ k, row = some k → k < hi) : Turn lo hi w w' :=
  ⟨hg.os, hg.tape, hg.output, hg.size, fun k hk ho => hg.block k hk (fun e => by have h1 := hr k e.symm; have h2 := hh k e.symm; omega)⟩
theorem Turn.alloc (h : Turn lo hi w w') (o : Obj) : Turn lo hi w (w'.alloc o) :=
  h.trans ⟨rfl, rfl, rfl, by simp, fun k hk _ => Below.heap_alloc w' o k hk⟩
theorem Turn.blk {t : TypeId} {g : Nat} {cs : Array Value} (h : Turn lo hi w w') (hb : Blk w g t cs) (ho : g < lo ∨ hi ≤ g) : Blk w' g t cs := (h.block g hb.lt ho).trans hb
end
/-- a row that is filled: the first k cells of cs, behind them those of zs -/
def mix (cs zs : List Value) (k : Nat) : Array Value := (cs.take k ++ zs.drop k).toArray
section
variable {cs zs : List Value} {k : Nat}
theorem mix_zero : mix cs zs 0 = zs.toArray := by simp [mix]
theorem mix_ge (hl : zs.length = cs.length) (j : Nat) (hj : k ≤ j) : (mix cs zs k)[j]? = zs[j]? := by
  simp only [mix, List.getElem?_toArray]
  rw [List.getElem?_append]
  by_cases h : j < (cs.take k).length
  · rw [List.length_take, Nat.min_def] at h; split at h <;> omega
  · rw [if_neg h, List.getElem?_drop, List.length_take, Nat.min_def]
    by_cases hc : k ≤ cs.length
    · rw [if_pos hc]; congr 1; omega
    · rw [if_neg hc, List.getElem?_eq_none (by omega), List.getElem?_eq_none (by omega)]
theorem mix_step (hl : zs.length = cs.length) (hk : k < cs.length) : (mix cs zs k).setIfInBounds k cs[k] = mix cs zs (k + 1) := by
  apply Array.ext'
  simp only [mix, Array.toList_setIfInBounds]
  have hm : (cs.take k).length = k := by rw [List.length_take]; omega
  rw [List.take_succ_eq_append_getElem hk, List.set_append_right _ _ (by omega), hm, Nat.sub_self, List.drop_eq_getElem_cons (by omega : k < zs.length), List.set_cons_zero, List.append_assoc]
  rfl
theorem mix_done (hl : zs.length = cs.length) : mix cs zs cs.length = cs.toArray := by
  simp only [mix, List.take_length]
  rw [List.drop_eq_nil_of_le (by omega), List.append_nil]
theorem toList_made (z : Value) (n : Nat) (hz : z.cells = #[z]) : (madeCells z.cells n).toList = List.replicate n z := by rw [hz]; exact toList_madeCells_one z n
end
theorem ret_int {k : IntKind} {a b : Int} (h : a = b) : Ending.returned (.int k a) = .returned (.int k b) := by rw [h]
theorem ret_bool {a b : Bool} (h : a = b) : Ending.returned (.bool a) = .returned (.bool b) := by rw [h]

theorem Turn.rdI {w w' : World} {lo hi C : Nat} {A : Option Addr} {xs : List Int} (h : Turn lo hi w w') (hr : RdI w C A xs) (hC : C ≤ lo) (hw : lo ≤ w.heap.size) : RdI w' C A xs := h.rd hr hC hw
/-- a contract of a callee that leaves the world alone, in a region that draws -/
theorem quiet_left {P : Program} {f : FuncId} {args : Array Value} {w : World} {n : Nat} {v : Value}
    (h : Calls P f args (w.drewN n) fun e w' => e = .returned v ∧ w.drewN n = w') : Calls P f args (w.drewN n) fun e w'' => e = .returned v ∧ ∃ m, w'' = w.drewN m :=
  h.mono fun _ _ ⟨he, hm⟩ => ⟨he, n, hm.symm⟩
theorem quiet_bool {P : Program} {f : FuncId} {args : Array Value} {w : World} {n : Nat} {b : Bool}
    (h : Calls P f args (w.drewN n) fun e w' => ∃ d, e = .returned (.bool b) ∧ w' = (w.drewN n).drewN d) : Calls P f args (w.drewN n) fun e w'' => e = .returned (.bool b) ∧ ∃ m, w'' = w.drewN m :=
  h.mono fun _ _ ⟨d, he, hm⟩ => ⟨he, n + d, by rw [hm, World.drewN_drewN]⟩
theorem Try.infoInt : (Try.prog.info? 3).map (fun i => (i.zero, i.size, i.bytes)) = some (some (.int .i64 0), 1, 8) := by kernel_rfl
end Go.Proofs.Ytlinngohbghimaa
