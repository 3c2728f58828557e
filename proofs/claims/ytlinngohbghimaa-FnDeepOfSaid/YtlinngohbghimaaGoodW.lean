/-
  Words for spec.goodFormula: the parts and the open indices, each in its own region; readPartOf.
-/
import Derived.Test.YtlinngohbghimaaFold2
import Derived.Test.YtlinngohbghimaaReader
import Derived.Test.YtlinngohbghimaaMatchStep
namespace Go.Proofs.Ytlinngohbghimaa
open Go.RowKit

/-- the parts (their slice lies in a cell of its own), the indices that are open, the reader -/
structure GI (w : World) (N g m : Nat) (wx : World) (lop hip : Nat) (Ap : Option Addr) (cp : Nat) (ps : List Prt) (loi hii : Nat) (Ai : Option Addr) (ci : Nat) (xs : List Int) : Prop where
  sp : SlP wx lop hip Ap cp ps
  si : SlI wx loi hii Ai ci xs
  bf : Blk wx (w.heap.size + 1) 29 #[.slice Ap ps.length cp]
  br : Blk wx w.heap.size 29 #[.slice none 0 0]
  rd : Rdr wx N g m
  tn : Turn g (g + 1) w wx
  gw : g < w.heap.size
  l1 : w.heap.size + 2 ≤ lop
  l2 : w.heap.size + 2 ≤ loi
  l3 : lop ≤ wx.heap.size
  l4 : loi ≤ wx.heap.size
  l5 : hip ≤ wx.heap.size
  l6 : hii ≤ wx.heap.size
  ap : hip ≤ loi ∨ hii ≤ lop
section
variable {w wx wy : World} {N g m m' lop hip cp loi hii ci lo' hi' c' : Nat} {Ap Ai A' : Option Addr} {ps ps' : List Prt} {xs xs' : List Int}
theorem GI.below (h : GI w N g m wx lop hip Ap cp ps loi hii Ai ci xs) (b : Below wx.heap.size wx wy) : GI w N g m wy lop hip Ap cp ps loi hii Ai ci xs := by
  have hz := b.size
  exact ⟨h.sp.below b h.l5, h.si.below b h.l6, h.bf.below b h.bf.lt, h.br.below b h.br.lt, h.rd.below b h.rd.lt, h.tn.trans (Below.turn b g (g + 1)), h.gw, h.l1, h.l2, Nat.le_trans h.l3 hz, Nat.le_trans h.l4 hz, Nat.le_trans h.l5 hz, Nat.le_trans h.l6 hz, h.ap⟩
theorem GI.alloc (h : GI w N g m wx lop hip Ap cp ps loi hii Ai ci xs) (o : Obj) : GI w N g m (wx.alloc o) lop hip Ap cp ps loi hii Ai ci xs := h.below ((Below.refl _ _).alloc (Nat.le_refl _) o)
theorem GI.drew (h : GI w N g m wx lop hip Ap cp ps loi hii Ai ci xs) : GI w N g m wx.drew lop hip Ap cp ps loi hii Ai ci xs := h.below (Below.refl _ _).drew
theorem GI.more (h : GI w N g m wx lop hip Ap cp ps loi hii Ai ci xs) (hm : m ≤ m') : GI w N g m' wx lop hip Ap cp ps loi hii Ai ci xs := ⟨h.sp, h.si, h.bf, h.br, h.rd.more hm, h.tn, h.gw, h.l1, h.l2, h.l3, h.l4, h.l5, h.l6, h.ap⟩
theorem GI.pick (h : GI w N g m wx lop hip Ap cp ps loi hii Ai ci xs) (r : Rdr wy N g m') (t : Turn g (g + 1) wx wy) : GI w N g m' wy lop hip Ap cp ps loi hii Ai ci xs := by
  have hz := t.size
  have := h.l1; have := h.l2; have := h.gw
  exact ⟨h.sp.turn t (.inr (by omega)), h.si.turn t (.inr (by omega)), t.blk h.bf (.inr (by omega)), t.blk h.br (.inr (by omega)), r, h.tn.trans t, h.gw, h.l1, h.l2, Nat.le_trans h.l3 hz, Nat.le_trans h.l4 hz, Nat.le_trans h.l5 hz, Nat.le_trans h.l6 hz, h.ap⟩
/-- a store elsewhere: in a block that is newer than the first two and lies in neither region -/
theorem GI.setFar (h : GI w N g m wx lop hip Ap cp ps loi hii Ai ci xs) {b : Nat} (hp : w.heap.size + 2 ≤ b ∧ (b < lop ∨ hip ≤ b) ∧ (b < loi ∨ hii ≤ b)) (i : Nat) (u : Value) : GI w N g m (wx.setCell ⟨b, i, none⟩ u) lop hip Ap cp ps loi hii Ai ci xs := by
  have t2 : Turn b (b + 1) wx (wx.setCell ⟨b, i, none⟩ u) := (Turn.refl _ _ wx).setCell (p := ⟨b, i, none⟩) (Nat.le_refl _) (.inl (Nat.lt_succ_self _)) _
  have hz := t2.size
  have := h.l1; have := h.l2; have := h.l3; have := h.l4; have := h.l5; have := h.l6; have := h.gw
  exact ⟨h.sp.turn t2 (by omega), h.si.turn t2 (by omega), t2.blk h.bf (.inl (by omega)), t2.blk h.br (.inl (by omega)), h.rd.turn t2 (by omega), h.tn.new t2 (by omega), h.gw, h.l1, h.l2, by omega, by omega, by omega, by omega, h.ap⟩
/-- the open indices appended to -/
theorem GI.putI (h : GI w N g m wx lop hip Ap cp ps loi hii Ai ci xs) (s : SlI wy lo' hi' A' c' xs') (d : (lo' = loi ∧ hi' = hii) ∨ (lo' = wx.heap.size ∧ hi' = wy.heap.size)) (t : Turn loi hii wx wy) : GI w N g m wy lop hip Ap cp ps lo' hi' A' c' xs' := by
  have hz := t.size
  have := h.l1; have := h.l2; have := h.l3; have := h.l4; have := h.l5; have := h.l6; have := h.gw; have := h.ap
  exact ⟨h.sp.turn t (by omega), s, t.blk h.bf (.inl (by omega)), t.blk h.br (.inl (by omega)), h.rd.turn t (by omega), h.tn.new t (by omega), h.gw, h.l1, by omega, by omega, by omega, by omega, by omega, by omega⟩
/-- a part appended, its slice's head not stored yet -/
theorem GI.putP {n' : Nat} (h : GI w N g m wx lop hip Ap cp ps loi hii Ai ci xs) (s : SlP wy lo' hi' A' c' ps') (hn : ps'.length = n') (d : (lo' = lop ∧ hi' = hip) ∨ (lo' = wx.heap.size ∧ hi' = wy.heap.size)) (t : Turn lop hip wx wy) :
    Blk wy (w.heap.size + 1) 29 #[.slice Ap ps.length cp] ∧ GI w N g m (wy.setCell ⟨w.heap.size + 1, 0, none⟩ (.slice A' n' c')) lo' hi' A' c' ps' loi hii Ai ci xs := by
  subst hn
  have hz := t.size
  have := h.l1; have := h.l2; have := h.l3; have := h.l4; have := h.l5; have := h.l6; have := h.gw; have := h.ap
  have b1 := t.blk h.bf (.inl (by omega))
  have t2 : Turn (w.heap.size + 1) (w.heap.size + 2) wy (wy.setCell ⟨w.heap.size + 1, 0, none⟩ (.slice A' ps'.length c')) := (Turn.refl _ _ wy).setCell (p := ⟨w.heap.size + 1, 0, none⟩) (Nat.le_refl _) (.inl (Nat.lt_succ_self _)) _
  refine ⟨b1, ⟨s.turn t2 (.inr (by omega)), (h.si.turn t (by omega)).turn t2 (.inr (by omega)), b1.set_ 0 _, t2.blk (t.blk h.br (.inl (by omega))) (.inl (by omega)), (h.rd.turn t (by omega)).turn t2 (by omega), (h.tn.new t (by omega)).new t2 (by omega), h.gw, by omega, h.l2, ?_, ?_, ?_, ?_, by omega⟩⟩
  all_goals
    have : wy.heap.size ≤ (wy.setCell ⟨w.heap.size + 1, 0, none⟩ (.slice A' ps'.length c')).heap.size := t2.size
    omega
/-- the head of the parts' slice -/
theorem GI.head {n : Nat} (h : GI w N g m wx lop hip Ap cp ps loi hii Ai ci xs) (hn : ps.length = n) : wx.cell? ⟨w.heap.size + 1, 0, none⟩ = some (.slice Ap n cp) := by subst hn; exact h.bf.cell 0
end

section
variable {w : World}
/-- append of one part, as an equation -/
theorem run_appP (ty : TypeId) {lo hi n c gx : Nat} {A : Option Addr} (xs : List Prt) (y : Prt) (hn : xs.length = n) (hs : SlP w lo hi A c xs) (hgx : Blk w gx 50 (ints (cP y)).toArray) (hb : n ≤ 1099511627776) :
    ∃ A'' c'' lo' hi' w', (Builtin.append_ #[27, 27] ty #[.slice A n c, .slice (some ⟨gx, 0, none⟩) 1 1]).run Try.prog w = .ok (.slice A'' (n + 1) c'') w' ∧
      SlP w' lo' hi' A'' c'' (xs ++ [y]) ∧ ((lo' = lo ∧ hi' = hi) ∨ (lo' = w.heap.size ∧ hi' = w'.heap.size)) ∧ Turn lo hi w w' := by
  subst hn
  obtain ⟨i0, hi0, hz0, hz1, hz2⟩ := info_parts Try.infoP
  obtain ⟨A'', c'', w', hrun, ht2, hfin⟩ := run_appS (P := Try.prog) w lo hi 27 ty 50 i0 _ 5 40 Try.underlying27 hi0 hz0 hz1 hz2 rfl (by decide) A xs.length c (ints (rows cP xs)) hs
    (gx + 1) (some ⟨gx, 0, none⟩) 1 1 (ints (cP y)) (by simp [kP]) (fun _ => ⟨_, rfl, Nat.lt_succ_self _, fun j u hu => by rw [add_lit, hgx.cell, Nat.zero_add, List.getElem?_toArray]; exact hu⟩) (ints_oneCell _ _) (by unfold maxLen; omega) (by omega)
  have e : ∀ (lo' hi' : Nat), Sl w' lo' hi' 50 5 A'' (xs.length + 1) c'' (ints (rows cP xs) ++ ints (cP y)) → SlP w' lo' hi' A'' c'' (xs ++ [y]) := fun lo' hi' h => by
    show Sl _ _ _ _ _ _ _ _ _
    rw [List.length_append, rows_append, rows_one]
    simpa [ints] using h
  rcases hfin with ⟨rfl, rfl, hfin⟩ | ⟨hfin, _⟩
  · exact ⟨_, _, lo, hi, w', hrun, e _ _ hfin, .inl ⟨rfl, rfl⟩, ht2⟩
  · exact ⟨_, _, w.heap.size, w'.heap.size, w', hrun, e _ _ hfin, .inr ⟨rfl, rfl⟩, ht2⟩
/-- append of one int, as an equation -/
theorem run_appI1 (ty : TypeId) {lo hi n c gx : Nat} {A : Option Addr} (xs : List Int) (y : Int) (hn : xs.length = n) (hs : SlI w lo hi A c xs) (hgx : Blk w gx 3 #[.int .i64 y]) (hb : n ≤ 1099511627776) :
    ∃ A'' c'' lo' hi' w', (Builtin.append_ #[38, 38] ty #[.slice A n c, .slice (some ⟨gx, 0, none⟩) 1 1]).run Try.prog w = .ok (.slice A'' (n + 1) c'') w' ∧
      SlI w' lo' hi' A'' c'' (xs ++ [y]) ∧ ((lo' = lo ∧ hi' = hi) ∨ (lo' = w.heap.size ∧ hi' = w'.heap.size)) ∧ Turn lo hi w w' := by
  subst hn
  obtain ⟨i0, hi0, hz0, hz1, hz2⟩ := info_parts Try.infoInt
  obtain ⟨A'', c'', w', hrun, ht2, hfin⟩ := run_appS (P := Try.prog) w lo hi 38 ty 3 i0 (.int .i64 0) 1 8 Try.underlying38 hi0 hz0 hz1 hz2 rfl (by decide) A xs.length c (ints xs) hs
    (gx + 1) (some ⟨gx, 0, none⟩) 1 1 (ints [y]) (by simp [ints]) (fun _ => ⟨_, rfl, Nat.lt_succ_self _, fun j u hu => by rw [add_lit, hgx.cell, Nat.zero_add, ← hu]; simp [ints]⟩) (ints_oneCell _ _) (by unfold maxLen; omega) (by omega)
  have e : ∀ (lo' hi' : Nat), Sl w' lo' hi' 3 1 A'' (xs.length + 1) c'' (ints xs ++ ints [y]) → SlI w' lo' hi' A'' c'' (xs ++ [y]) := fun lo' hi' h => by
    unfold SlI
    rw [List.length_append]
    simpa [ints] using h
  rcases hfin with ⟨rfl, rfl, hfin⟩ | ⟨hfin, _⟩
  · exact ⟨_, _, lo, hi, w', hrun, e _ _ hfin, .inl ⟨rfl, rfl⟩, ht2⟩
  · exact ⟨_, _, w.heap.size, w'.heap.size, w', hrun, e _ _ hfin, .inr ⟨rfl, rfl⟩, ht2⟩
end

/-- a drawn part -/
def DrawPt (N g m : Nat) (w : World) (e : Ending) (w' : World) : Prop := ∃ x : Prt, e = .returned (vP x) ∧ Rdr w' N g m ∧ Turn g (g + 1) w w'
set_option maxHeartbeats 800000 in
theorem readPartOf {A : Option Addr} {c lo hi : Nat} (ns : List Int) (N g m : Nat) {w : World} (hpos : 0 < ns.length) (hn : ns.length ≤ 1000000) (hm : m ≤ 900000) (h : Rdr w N g m) (ho : SlI w lo hi A c ns) (hlo : g < lo) :
    Calls Try.prog 77 #[.pointer (some ⟨g, 0, none⟩), .slice A ns.length c] w (DrawPt N g (m + 1) w) := by
  have hg := h.lt
  have K1 := Lib.hid (Blk.new w 50 #[.int .i64 0, .int .i64 0, .int .i64 0, .int .i64 0, .int .i64 0])
  have R1 := Lib.hid (h.below ((Below.refl w.heap.size w).alloc (Nat.le_refl _) (.cells #[.int .i64 0, .int .i64 0, .int .i64 0, .int .i64 0, .int .i64 0] 50)) hg)
  have O1 := Lib.hid (ho.alloc (.cells #[.int .i64 0, .int .i64 0, .int .i64 0, .int .i64 0, .int .i64 0] 50))
  have T1 := Lib.hid ((Turn.refl g (g + 1) w).alloc (.cells #[.int .i64 0, .int .i64 0, .int .i64 0, .int .i64 0, .int .i64 0] 50))
  have hnz : ((ns.length : Int) == 0) = false := by rw [beq_eq_false_iff_ne]; omega
  clear h ho
  go_enter Try.func77, Try.ntmps77
  go_wp2_with fail
  refine (pick _ N g m _ (by omega) R1.out).mono ?_; rintro e w2 ⟨v, rfl, hv0, hv, r2, t2⟩
  have hv2 : v < (ns.length : Int) := by omega
  obtain ⟨k, rfl⟩ := Int.eq_ofNat_of_zero_le hv0
  have hk : k < ns.length := by omega
  obtain ⟨ad, rfl, _, hc⟩ := (O1.out.turn t2 (.inr (by omega))).rd.at_ hk
  have hcell := hc k hk
  obtain ⟨y, hy⟩ : ∃ y, ns[k] = y := ⟨_, rfl⟩
  rw [hy] at hcell
  have k2 := t2.blk K1.out (.inr (by omega))
  have f0 := k2.frozen 0; have f1 := k2.frozen 1; have f2 := k2.frozen 2; have f3 := k2.frozen 3; have f4 := k2.frozen 4
  have g0 := k2.cell 0; have g1 := k2.cell 1; have g2 := k2.cell 2; have g3 := k2.cell 3; have g4 := k2.cell 4
  have T2 := Lib.hid (T1.out.trans t2)
  have R2 := Lib.hid r2
  have K2 := Lib.hid k2
  clear r2 t2 hc hy hv k2
  go_wp2_with fail
  have K5 := (((((K2.out.set_ 0 (.int .i64 1)).set_ 1 (.int .i64 (-1))).set_ 2 (.int .i64 (-1))).set_ 3 (.int .i64 (-1))).set_ 4 (.int .i64 y))
  have e0 := K5.cell 0; have e1 := K5.cell 1; have e2 := K5.cell 2; have e3 := K5.cell 3; have e4 := K5.cell 4
  simp at e0 e1 e2 e3 e4
  refine bodyPost_ret (v := .agg #[.int .i64 1, .int .i64 (-1), .int .i64 (-1), .int .i64 (-1), .int .i64 y]) (by simp [results, Try.results77, go_sem, e0, e1, e2, e3, e4]) rfl ?_
  have t5 := fun (W : World) (i : Nat) (u : Value) => (Turn.refl w.heap.size (w.heap.size + 1) W).setCell (p := ⟨w.heap.size, i, none⟩) (Nat.le_refl _) (.inl (Nat.lt_succ_self _)) u
  have t6 := ((((t5 w2 0 (.int .i64 1)).trans (t5 _ 1 (.int .i64 (-1)))).trans (t5 _ 2 (.int .i64 (-1)))).trans (t5 _ 3 (.int .i64 (-1)))).trans (t5 _ 4 (.int .i64 y))
  exact ⟨⟨1, -1, -1, -1, y⟩, rfl, R2.out.turn t6 hg, T2.out.new t6 (Nat.le_refl _)⟩
end Go.Proofs.Ytlinngohbghimaa
