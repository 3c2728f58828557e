/-
  Rows of records that are each so many ints: how they lie in a row of cells, a slice of them that reads, a slice of them that the call owns.
-/
import Derived.Test.YtlinngohbghimaaInts
namespace Go.Proofs.Ytlinngohbghimaa
open Go.RowKit

/-- records, each read as a list of ints of one length, one behind the other -/
def rows {α : Type} (cs : α → List Int) : List α → List Int
  | [] => []
  | x :: r => cs x ++ rows cs r
section
variable {α : Type} {cs : α → List Int} {K : Nat}
theorem rows_len (hK : ∀ x, (cs x).length = K) : ∀ xs : List α, (rows cs xs).length = xs.length * K
  | [] => by simp [rows]
  | x :: r => by rw [rows, List.length_append, hK, rows_len hK r, List.length_cons, Nat.succ_mul]; omega
theorem rows_get (hK : ∀ x, (cs x).length = K) : ∀ (xs : List α) (k j : Nat) (x : α), xs[k]? = some x → j < K → (rows cs xs)[k * K + j]? = (cs x)[j]?
  | y :: r, 0, j, x, h, hj => by
    simp only [List.getElem?_cons_zero, Option.some.injEq] at h
    subst h
    rw [rows, List.getElem?_append_left (by rw [hK]; omega)]
    simp
  | y :: r, k + 1, j, x, h, hj => by
    rw [rows, List.getElem?_append_right (by rw [hK, Nat.succ_mul]; omega), hK, show (k + 1) * K + j - K = k * K + j by rw [Nat.succ_mul]; omega]
    exact rows_get hK r k j x (by simpa using h) hj
theorem rows_append : ∀ xs ys : List α, rows cs (xs ++ ys) = rows cs xs ++ rows cs ys
  | [], _ => rfl
  | x :: r, ys => by rw [List.cons_append, rows, rows_append r ys, rows, List.append_assoc]
theorem rows_one (x : α) : rows cs [x] = cs x := by simp [rows]
theorem rows_set (hK : ∀ x, (cs x).length = K) : ∀ (xs : List α) (k j : Nat) (x y : α) (u : Int), xs[k]? = some x → j < K → cs y = (cs x).set j u → (rows cs xs).set (k * K + j) u = rows cs (xs.set k y)
  | z :: r, 0, j, x, y, u, h, hj, e => by
    simp only [List.getElem?_cons_zero, Option.some.injEq] at h
    subst h
    rw [List.set_cons_zero, rows, rows, e, Nat.zero_mul, Nat.zero_add, List.set_append_left _ _ (by rw [hK]; omega)]
  | z :: r, k + 1, j, x, y, u, h, hj, e => by
    rw [List.set_cons_succ, rows, rows, List.set_append_right _ _ (by rw [hK, Nat.succ_mul]; omega), hK, show (k + 1) * K + j - K = k * K + j by rw [Nat.succ_mul]; omega, rows_set hK r k j x y u (by simpa using h) hj e]
theorem rows_setAll (hK : ∀ x, (cs x).length = K) : ∀ (xs : List α) (k : Nat) (y : α), k < xs.length → (rows cs xs).take (k * K) ++ cs y ++ (rows cs xs).drop (k * K + K) = rows cs (xs.set k y)
  | z :: r, 0, y, _ => by
    rw [List.set_cons_zero, rows, rows, Nat.zero_mul, List.take_zero, List.nil_append, Nat.zero_add, List.drop_left' (hK z)]
  | z :: r, k + 1, y, h => by
    have ih := rows_setAll hK r k y (by simpa using h)
    rw [List.set_cons_succ, rows, rows, ← ih, Nat.succ_mul, List.take_append, List.drop_append, hK, List.take_of_length_le (by rw [hK]; omega), List.drop_eq_nil_of_le (by rw [hK]; omega), Nat.add_sub_cancel, show k * K + K + K - K = k * K + K by omega]
    simp
theorem rows_take (hK : ∀ x, (cs x).length = K) : ∀ (xs : List α) (k : Nat), (rows cs xs).take (k * K) = rows cs (xs.take k)
  | [], k => by simp [rows]
  | x :: r, 0 => by simp [rows]
  | x :: r, k + 1 => by
    rw [rows, List.take_succ_cons, rows, List.take_append, hK, Nat.succ_mul, show k * K + K - K = k * K by omega, rows_take hK r k, List.take_of_length_le (by rw [hK]; omega)]
theorem rows_drop (hK : ∀ x, (cs x).length = K) : ∀ (xs : List α) (k : Nat), (rows cs xs).drop (k * K) = rows cs (xs.drop k)
  | [], k => by simp [rows]
  | x :: r, 0 => by simp [rows]
  | x :: r, k + 1 => by
    rw [rows, List.drop_succ_cons, List.drop_append, hK, Nat.succ_mul, show k * K + K - K = k * K by omega, rows_drop hK r k, List.drop_eq_nil_of_le (by rw [hK]; omega), List.nil_append]
theorem rows_replicate (z : α) (n : Nat) (v : Int) (hz : cs z = List.replicate K v) : rows cs (List.replicate n z) = List.replicate (n * K) v := by
  induction n with
  | zero => simp [rows]
  | succ n ih => rw [List.replicate_succ, rows, ih, hz, List.replicate_append_replicate, Nat.succ_mul, Nat.add_comm]
end

/-- a slice of records that reads -/
def RdR {α : Type} (cs : α → List Int) (w : World) (B : Nat) (A : Option Addr) (xs : List α) : Prop := RdI w B A (rows cs xs)
/-- a slice of records (element type t, so many cells each) that the call owns -/
def SlR {α : Type} (cs : α → List Int) (t : TypeId) (K : Nat) (w : World) (lo hi : Nat) (A : Option Addr) (c : Nat) (xs : List α) : Prop := Sl w lo hi t K A xs.length c (ints (rows cs xs))

theorem cell_spot {w : World} {a : Addr} {u : Value} (h : w.cell? a = some u) : a.spot = none := by
  unfold World.cell? at h
  split at h
  · split at h
    · cases h
    · next h1 => simpa using h1
  · cases h

section
variable {α : Type} {cs : α → List Int} {t : TypeId} {K : Nat} {w w' : World} {B B' lo hi lo' hi' c : Nat} {A : Option Addr} {xs : List α}
theorem RdR.nil : RdR cs w B A [] := RdI.nil
theorem RdR.below (h : RdR cs w B A xs) (hb : Below B w w') : RdR cs w' B A xs := RdI.below h hb
theorem RdR.belowLe (h : RdR cs w B A xs) (hb : Below B' w w') (hB : B ≤ B') : RdR cs w' B A xs := RdI.belowLe h hb hB
theorem RdR.more (h : RdR cs w B A xs) (hB : B ≤ B') : RdR cs w B' A xs := RdI.more h hB
theorem RdR.drewN (h : RdR cs w B A xs) (k : Nat) : RdR cs (w.drewN k) B A xs := h
theorem RdR.turn (h : RdR cs w B A xs) (ht : Turn lo hi w w') (hB : B ≤ lo) (hw : lo ≤ w.heap.size) : RdR cs w' B A xs := h.belowLe (ht.below hw) hB
theorem RdR.at_ (hK : ∀ x, (cs x).length = K) (hp : 0 < K) (h : RdR cs w B A xs) {k : Nat} (hk : k < xs.length) :
    ∃ g o, A = some ⟨g, o, none⟩ ∧ g < B ∧ ∀ j u, (cs xs[k])[j]? = some u → w.cell? ⟨g, o + k * K + j, none⟩ = some (.int .i64 u) := by
  have hlen := rows_len hK xs
  have hkK : (k + 1) * K ≤ xs.length * K := Nat.mul_le_mul_right _ hk
  rw [Nat.succ_mul] at hkK
  obtain ⟨ad, hA, had, hc⟩ := RdI.at_ h (k := k * K) (by omega)
  have h0 := hc 0 (by omega)
  have hsp := cell_spot h0
  obtain ⟨g, o, sp⟩ := ad
  simp only [Addr.add, if_pos] at hsp
  subst hsp
  refine ⟨g, o, hA, had, fun j u hu => ?_⟩
  have hj : j < K := by rw [← hK xs[k]]; exact (List.getElem?_eq_some_iff.1 hu).1
  have e := rows_get hK xs k j _ (List.getElem?_eq_getElem hk) hj
  rw [hu] at e
  obtain ⟨hlt, e2⟩ := List.getElem?_eq_some_iff.1 e
  have := hc (k * K + j) hlt
  rw [add_lit, e2] at this
  rwa [Nat.add_assoc]
theorem RdR.take (hK : ∀ x, (cs x).length = K) (h : RdR cs w B A xs) (k : Nat) : RdR cs w B A (xs.take k) := by
  unfold RdR RdI
  rw [← rows_take hK, ints, List.map_take]
  exact Rd.take h _
theorem SlR.le (h : SlR cs t K w lo hi A c xs) : xs.length ≤ c := h.2.1
theorem SlR.rd (h : SlR cs t K w lo hi A c xs) : RdR cs w hi A xs := Sl.rd h
theorem SlR.mono (h : SlR cs t K w lo hi A c xs) (h1 : lo' ≤ lo) (h2 : hi ≤ hi') : SlR cs t K w lo' hi' A c xs := Sl.mono h h1 h2
theorem SlR.turn (h : SlR cs t K w lo hi A c xs) (ht : Turn lo' hi' w w') (hd : hi ≤ lo' ∨ hi' ≤ lo) : SlR cs t K w' lo hi A c xs := Sl.turn h ht hd
theorem SlR.below (h : SlR cs t K w lo hi A c xs) (hb : Below B w w') (hB : hi ≤ B) : SlR cs t K w' lo hi A c xs := Sl.below h hb hB
theorem SlR.alloc (h : SlR cs t K w lo hi A c xs) (o : Obj) : SlR cs t K (w.alloc o) lo hi A c xs := Sl.alloc h o
theorem SlR.drewN (h : SlR cs t K w lo hi A c xs) (k : Nat) : SlR cs t K (w.drewN k) lo hi A c xs := h
theorem SlR.nil : SlR cs t K w lo hi A 0 [] := Sl.nil _ _ _ _ _ _
theorem SlR.of_blk (hK : ∀ x, (cs x).length = K) {g : Nat} (h : Blk w g t (ints (rows cs xs)).toArray) (h1 : lo ≤ g) (h2 : g < hi) : SlR cs t K w lo hi (some ⟨g, 0, none⟩) xs.length xs := Sl.of_blk h (by simp [rows_len hK]) h1 h2
theorem SlR.newAt (hK : ∀ x, (cs x).length = K) {g : Nat} (hg : w.heap.size = g) (xs : List α) (h : lo ≤ g) : SlR cs t K (w.alloc (.cells (ints (rows cs xs)).toArray t)) lo (g + 1) (some ⟨g, 0, none⟩) xs.length xs := by
  subst hg; exact Sl.new w _ _ (by simp [rows_len hK]) h
/-- s[:len(s):len(s)] -/
theorem SlR.clip (hK : ∀ x, (cs x).length = K) (hs : SlR cs t K w lo hi A c xs) : SlR cs t K w lo hi A xs.length xs := by
  have := Sl.cut hs (l := 0) (h := xs.length) (m := xs.length) (Nat.zero_le _) (Nat.le_refl _) (Nat.le_refl _) hs.le
  simp only [Nat.sub_zero, Nat.zero_mul, List.drop_zero] at this
  rw [List.take_of_length_le (by simp [rows_len hK])] at this
  by_cases hc : xs = []
  · subst hc
    exact SlR.nil
  · have hpos : 0 < xs.length := List.length_pos_iff.2 hc
    rw [if_neg (by omega)] at this
    cases A with
    | none => have := Sl.noAddr hs rfl; have := hs.le; omega
    | some ad => unfold SlR; simpa [Addr.add] using this
/-- the cells of one record; a store of one number, and of a whole record -/
theorem SlR.at_ (hK : ∀ x, (cs x).length = K) (h : SlR cs t K w lo hi A c xs) {k : Nat} (hk : k < xs.length) : ∃ g o, A = some ⟨g, o, none⟩ ∧ lo ≤ g ∧ g < hi ∧ g < w.heap.size ∧
    (∀ (i : Nat) (x : α), xs[i]? = some x → ∀ j u, (cs x)[j]? = some u → w.cell? ⟨g, o + (i * K + j), none⟩ = some (.int .i64 u)) ∧ (∀ j, w.frozen? ⟨g, o + j, none⟩ = false) ∧
    (∀ (j : Nat) (u : Int) (y : α), j < K → cs y = (cs xs[k]).set j u → SlR cs t K (w.setCell ⟨g, o + (k * K + j), none⟩ (.int .i64 u)) lo hi A c (xs.set k y) ∧ Turn g (g + 1) w (w.setCell ⟨g, o + (k * K + j), none⟩ (.int .i64 u))) ∧
    (∀ y : α, SlR cs t K (w.setCells g (o + k * K) (ints (cs y))) lo hi A c (xs.set k y) ∧ Turn g (g + 1) w (w.setCells g (o + k * K) (ints (cs y)))) := by
  have hlen := rows_len hK xs
  have hkK : (k + 1) * K ≤ xs.length * K := Nat.mul_le_mul_right _ hk
  rw [Nat.succ_mul] at hkK
  have hle := h.le
  have hrd := Sl.rd h
  obtain ⟨g, o, cur, rfl, h1, h2, h3, h4, h5⟩ := Sl.block h (by omega)
  have hcK : xs.length * K ≤ c * K := Nat.mul_le_mul_right _ hle
  have hglt := h3.lt
  refine ⟨g, o, rfl, h1, h2, hglt, fun i x hx j u hu => ?_, fun j => h3.frozen _, fun j u y hj e => ⟨?_, ?_⟩, fun y => ⟨?_, ?_⟩⟩
  · have hj : j < K := by rw [← hK x]; exact (List.getElem?_eq_some_iff.1 hu).1
    have e := rows_get hK xs i j _ hx hj
    rw [hu] at e
    have hne : ints (rows cs xs) ≠ [] := by
      intro e2
      have := congrArg List.length e2
      rw [List.length_map, hlen, List.length_nil] at this
      have := Nat.mul_pos (show 0 < xs.length by omega) (show 0 < K by omega)
      omega
    obtain ⟨ad, e1, _, hcc⟩ := hrd hne
    injection e1 with e1
    subst e1
    have := hcc (i * K + j) (.int .i64 u) (by rw [List.getElem?_map, e]; rfl)
    rwa [add_lit] at this
  · obtain ⟨g', o', hA', _, _, _, _, h7⟩ := Sl.at_ h (by omega)
    injection hA' with hA'
    injection hA' with e1 e2
    subst e1 e2
    have := (h7 (k * K + j) (.int .i64 u) (by rw [List.length_map, hlen]; omega)).1
    unfold SlR
    rw [List.length_set, ← rows_set hK xs k j xs[k] y u (List.getElem?_eq_getElem hk) hj e, ints, List.map_set]
    exact this
  · exact (Turn.refl g (g + 1) w).setCell (p := ⟨g, o + (k * K + j), none⟩) (Nat.le_refl _) (.inl (Nat.lt_succ_self _)) _
  · have hb := blk_setCells (ints (cs y)) (o + k * K) cur h3 (by rw [List.length_map, hK]; omega)
    rw [List.length_map, hK] at hb
    unfold SlR
    rw [List.length_set]
    refine ⟨by rw [List.length_map, rows_len hK, List.length_set], hle, .inr ⟨g, o, _, rfl, h1, h2, hb, ?_, ?_⟩⟩
    · simp [hK]; omega
    · rw [← rows_setAll hK xs k y hk]
      have e1 : (cur.toList.take (o + k * K) ++ ints (cs y) ++ cur.toList.drop (o + k * K + K)).drop o = (cur.toList.drop o).take (k * K) ++ ints (cs y) ++ (cur.toList.drop o).drop (k * K + K) := by
        rw [List.append_assoc, List.drop_append_of_le_length (by simp; omega), List.drop_take, Nat.add_sub_cancel_left, List.append_assoc, List.drop_drop, Nat.add_assoc]
      have e2 : xs.length * K = (k * K + K) + (xs.length * K - (k * K + K)) := by omega
      have e3 : ((cur.toList.drop o).take (k * K) ++ ints (cs y)).length = k * K + K := by simp [hK]; omega
      have hl5 : ints (rows cs xs) = (cur.toList.drop o).take (xs.length * K) := h5.symm
      have e4 : (ints ((rows cs xs).take (k * K))) = (cur.toList.drop o).take (k * K) := by
        rw [ints, List.map_take]
        show (ints (rows cs xs)).take (k * K) = _
        rw [hl5, List.take_take, Nat.min_eq_left (by omega)]
      have e5 : (ints ((rows cs xs).drop (k * K + K))) = ((cur.toList.drop o).drop (k * K + K)).take (xs.length * K - (k * K + K)) := by
        rw [ints, List.map_drop]
        show (ints (rows cs xs)).drop (k * K + K) = _
        rw [hl5, List.drop_take]
      rw [List.toList_toArray, e1]
      conv => lhs; rw [e2]
      rw [show k * K + K + (xs.length * K - (k * K + K)) = ((cur.toList.drop o).take (k * K) ++ ints (cs y)).length + (xs.length * K - (k * K + K)) by rw [e3], List.take_length_add_append, ← e4, ← e5]
      simp [ints]
  · exact Turn.grown (grownBy_setCells w g _ _) (fun k e => by cases e; exact Nat.le_refl _) (fun k e => by cases e; exact Nat.lt_succ_self _)
end
/-- append(out, y), y new in a block of its own; where out does not change hands it holds what it held -/
theorem wpList_appR {P : Program} {w : World} {ops : Array Oper} {rest : List Oper} {o : Oper} {a : Act} {Q : Exit → Act → World → Prop} {α : Type} {cs : α → List Int} {K : Nat} (hK : ∀ x, (cs x).length = K) (hp : 0 < K) (s x : Operand) (T t : TypeId) (i : TypeInfo) (z : Value) (bytes : Nat)
    (hT : P.underlying T = some (.slice t)) (hI : P.info? t = some i) (hz : i.zero = some z) (hsize : i.size = K) (hby : i.bytes = bytes) (hzs : z.cells.size = K) (hbl : bytes ≤ 64) (hgd : o.guard = none)
    (ho : o.op = .call { callee := .builtin .append, args := #[s, x], argTypes := #[T, T] })
    {lo hi n c gx : Nat} {A : Option Addr} (xs : List α) (y : α) (hs : a.eval s = .slice A n c) (hn : xs.length = n) (hsl : SlR cs t K w lo hi A c xs) (hx : a.eval x = .slice (some ⟨gx, 0, none⟩) 1 1)
    (hgx : Blk w gx t (ints (cs y)).toArray) (hb : n ≤ 1099511627776) (hlo : lo ≤ w.heap.size)
    (h : ∀ A'' c'' w', SlR cs t K w' lo (max hi w'.heap.size) A'' c'' (xs ++ [y]) → Turn lo hi w w' → (c < n + 1 → w.grownBy w' none) → wpList P ops Q rest (a.put o.dst (.slice A'' (n + 1) c'')) w') : wpList P ops Q (o :: rest) a w := by
  subst hn
  refine wpList_app w hgd s x T ho lo hi t i z K bytes hT hI hz hsize hby hzs hp A xs.length c (ints (rows cs xs)) hs hsl (gx + 1) (some ⟨gx, 0, none⟩) 1 1 (ints (cs y)) hx (by simp [hK])
    (fun _ => ⟨_, rfl, Nat.lt_succ_self _, fun j u hu => by rw [add_lit, hgx.cell, Nat.zero_add, List.getElem?_toArray]; exact hu⟩) (ints_oneCell _ _) (by unfold maxLen; omega) ?_ hlo ?_
  · have : (xs.length + 1) * bytes ≤ (xs.length + 1) * 64 := Nat.mul_le_mul_left _ hbl
    omega
  · intro A'' c'' w' h2 h3 _ h4
    refine h A'' c'' w' ?_ h3 h4
    unfold SlR
    rw [List.length_append, rows_append, rows_one]
    simpa [ints] using h2
end Go.Proofs.Ytlinngohbghimaa
