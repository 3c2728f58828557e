/-
  Append to a row of owners; spec.copyOwners, emptyContext, isOpen.
-/
import Derived.Test.YtnlbmiangbahgaaOwnL
namespace Go.Proofs.Ytnlbmiangbahgaa
open Go.RowKit

section
variable {P : Program} (w : World)
/-- append, told so far as to say where the new slice lies: where the old one lay, or in a new block -/
theorem run_appF (lo hi : Nat) (t ty e : TypeId) (i : TypeInfo) (z : Value) (size bytes : Nat) (ht : P.underlying t = some (.slice e)) (hI : P.info? e = some i) (hz : i.zero = some z)
    (hsize : i.size = size) (hby : i.bytes = bytes) (hzs : z.cells.size = size) (hsz : 0 < size)
    (A : Option Addr) (n c : Nat) (xs : List Value) (hs : Sl w lo hi e size A n c xs)
    (B : Nat) (A' : Option Addr) (m c' : Nat) (news : List Value) (hl : news.length = m * size) (hr : Rd w B A' news) (h1 : ∀ u ∈ news, u.oneCell' = true)
    (h63 : n + m ≤ maxLen) (hbytes : (n + m) * bytes ≤ 140737488355328) :
    ∃ A'' c'' w', (Builtin.append_ #[t, t] ty #[.slice A n c, .slice A' m c']).run P w = .ok (.slice A'' (n + m) c'') w' ∧ Turn lo hi w w' ∧
      ((A'' = A ∧ c'' = c ∧ Sl w' lo hi e size A'' (n + m) c'' (xs ++ news)) ∨ (Sl w' w.heap.size w'.heap.size e size A'' (n + m) c'' (xs ++ news) ∧ Turn 0 0 w w')) := by
  have hnone : A = none → c = 0 := fun hA => hs.noAddr hA
  rcases Nat.eq_zero_or_pos m with h0 | hm
  · subst h0
    have hn : news = [] := List.eq_nil_of_length_eq_zero (by simpa using hl)
    subst hn
    exact ⟨A, c, w, run_app_none w t ty e i ht hI A A' n c c' hs.le, Turn.refl _ _ _, .inl ⟨rfl, rfl, by simpa using hs⟩⟩
  · have hne : news ≠ [] := by
      rintro rfl
      have := Nat.mul_pos hm hsz
      simp at hl; omega
    obtain ⟨a, rfl, _, hcells⟩ := hr hne
    by_cases hroom : n + m ≤ c
    · obtain ⟨g, o, cur, rfl, h6, h7, h8, h9, h10⟩ := hs.block (by omega)
      have hcs : (n + m) * size ≤ c * size := Nat.mul_le_mul_right _ hroom
      rw [Nat.add_mul] at hcs
      have hrun := run_append_room_cells (P := P) w t ty e i ht hI g o n c a m c' news (by rw [hsize]; exact hl) hcells h1 hroom
        (fun j hj => by rw [h8.cell, hsize, Array.getElem?_eq_getElem (by omega)]; rfl) (fun j hj => h8.frozen _)
      rw [hsize] at hrun
      refine ⟨_, c, _, hrun, Turn.grown (grownBy_setCells w g news _) (fun k e => by cases e; exact h6) (fun k e => by cases e; exact h7), .inl ⟨rfl, rfl, by rw [List.length_append, hs.1, hl, Nat.add_mul], by omega, .inr ⟨g, o, _, rfl, h6, h7, blk_setCells news _ cur h8 (by omega), ?_, ?_⟩⟩⟩
      · simp; omega
      · have e1 : (cur.toList.take (o + n * size) ++ news ++ cur.toList.drop (o + n * size + news.length)).drop o = xs ++ (news ++ cur.toList.drop (o + n * size + news.length)) := by
          rw [List.append_assoc, List.drop_append_of_le_length (by simp; omega), List.drop_take, Nat.add_sub_cancel_left, h10]
        rw [List.toList_toArray, e1, ← List.append_assoc]
        exact List.take_left' (by rw [List.length_append, hs.1, hl, Nat.add_mul])
    · cases A with
      | some b =>
        obtain ⟨v', w', hrun, r1, r2⟩ := run_append_arg_grows (P := P) w t ty e i z size bytes ht hI hz hsize hby hzs hsz b n c xs hs.1
          (fun j u hu => by
            obtain ⟨ad, e1, _, hcc⟩ := hs.rd (by rintro rfl; simp at hu)
            injection e1 with e1
            subst e1
            exact hcc j u hu) a m c' news hl hcells (by omega) h63 hbytes
        obtain ⟨A'', c'', rfl, h2⟩ := Sl.of_own (lo := w.heap.size) (hi := w'.heap.size) r1 (Nat.le_refl _) (Nat.le_refl _)
        exact ⟨A'', c'', w', hrun, Turn.grown r2 (fun k e => by cases e) (fun k e => by cases e), .inr ⟨h2, Turn.grown r2 (fun k e => by cases e) (fun k e => by cases e)⟩⟩
      | none =>
        have hc0 := hnone rfl
        have hn0 : n = 0 := by have := hs.le; omega
        subst hc0 hn0
        have hx : xs = [] := List.eq_nil_of_length_eq_zero (by simpa using hs.1)
        subst hx
        obtain ⟨v', w', hrun, r1, r2, _⟩ := run_append_own (P := P) w w.heap.size t ty e i z size bytes ht hI hz hsize hby hzs hsz (.slice none 0 0) 0 [] (World.ownsRow_nil w _ e size) a m c' news hl hcells h1 h63 hbytes (Nat.le_refl _)
        obtain ⟨A'', c'', rfl, h2⟩ := Sl.of_own (lo := w.heap.size) (hi := w'.heap.size) r1 (Nat.le_refl _) (Nat.le_refl _)
        exact ⟨A'', c'', w', hrun, Turn.grown r2 (fun k e => by cases e) (fun k e => by cases e), .inr ⟨h2, Turn.grown r2 (fun k e => by cases e) (fun k e => by cases e)⟩⟩
end

section
variable {w : World} {ops : Array Oper} {rest : List Oper} {o : Oper} {a : Act} {Q : Exit → Act → World → Prop}
/-- append(out, y) at owners -/
theorem wpList_appO (s x : Operand) (hgd : o.guard = none)
    (ho : o.op = .call { callee := .builtin .append, args := #[s, x], argTypes := #[23, 23] })
    {lo hi n c gx : Nat} {A : Option Addr} (ps : List (Own × Hd)) (y : Own × Hd) (hs : a.eval s = .slice A n c) (hn : ps.length = n) (hp : SlP w lo hi A c ps) (hx : a.eval x = .slice (some ⟨gx, 0, none⟩) 1 1)
    (hgx : Blk w gx 32 (ocells y).toArray) (hcl : SlI w lo w.heap.size y.2.clA y.2.clC y.1.cl) (hcx : SlI w lo w.heap.size y.2.cxA y.2.cxC y.1.cx)
    (hd : ∀ b ∈ live y.2.clA y.2.clC, b ∉ live y.2.cxA y.2.cxC) (hf : ∀ b ∈ foot y, hi ≤ b) (hb : n ≤ 1099511627776) (hlo : lo ≤ w.heap.size) (hhi : hi ≤ w.heap.size)
    (h : ∀ A'' c'' w', SlP w' lo w'.heap.size A'' c'' (ps ++ [y]) → Turn lo hi w w' → wpList Try.prog ops Q rest (a.put o.dst (.slice A'' (n + 1) c'')) w') : wpList Try.prog ops Q (o :: rest) a w := by
  subst hn
  obtain ⟨i0, hi0, hz0, hz1, hz2⟩ := info_parts Try.infoO
  obtain ⟨l', h', hs1, hs2, hs3, hs4⟩ := Sl.narrow hp.row
  obtain ⟨A'', c'', w', hrun, ht, hfin⟩ := run_appF (P := Try.prog) w l' h' 23 o.type 32 i0 _ 4 64 Try.underlying23 hi0 hz0 hz1 hz2 rfl (by decide)
    A ps.length c (orow ps) hs1 (gx + 1) (some ⟨gx, 0, none⟩) 1 1 (ocells y) rfl
    (fun _ => ⟨_, rfl, Nat.lt_succ_self _, fun j u hu => by rw [add_lit, hgx.cell, Nat.zero_add, List.getElem?_toArray]; exact hu⟩) (by intro u hu; simp [ocells] at hu; rcases hu with rfl | rfl | rfl | rfl <;> rfl) (by unfold maxLen; omega) (by omega)
  refine wpList_plain hgd fun K hK => ?_
  unfold Oper.wp execOp
  simp only [ho, resolve, invoke, builtin, Sem.run_bind, Sem.run_pure, Result.andThen_ok, List.map_toArray, List.map_cons, List.map_nil, hs, hx, hrun]
  have hz := ht.size
  have hlive : ∀ m ∈ live A'' c'', (m ∈ live A c ∨ w.heap.size ≤ m) ∧ m < w'.heap.size := fun m hm => by
    rcases hfin with ⟨rfl, rfl, hfin⟩ | ⟨hfin, _⟩
    · exact ⟨.inl hm, (hfin.live_in m hm).2.2⟩
    · exact ⟨.inr (hfin.live_in m hm).1, (hfin.live_in m hm).2.2⟩
  have hsl : Sl w' lo w'.heap.size 32 4 A'' (ps.length + 1) c'' (orow ps ++ ocells y) := by
    have hr : ∀ m ∈ live A'' c'', lo ≤ m ∧ m < w'.heap.size := fun m hm => by
      obtain ⟨h1, h2⟩ := hlive m hm
      rcases h1 with h1 | h1
      · exact ⟨(hp.row.live_in m h1).1, h2⟩
      · exact ⟨by omega, h2⟩
    rcases hfin with ⟨_, _, hfin⟩ | ⟨hfin, _⟩
    · exact hfin.range hr
    · exact hfin.range hr
  exact hK _ _ (h A'' c'' w' (hp.grow y ht hs2 hsl (fun m hm => (hlive m hm).1) (by omega) (hcl.mono (Nat.le_refl _) hz) (hcx.mono (Nat.le_refl _) hz) hd hf) (hs4 _ _ ht))
end

theorem Sl.pre {w : World} {lo hi : Nat} {e : TypeId} {size n m c : Nat} {A : Option Addr} {xs news : List Value} (h : Sl w lo hi e size A (n + m) c (xs ++ news)) (hl : xs.length = n * size) : Sl w lo hi e size A n c xs := by
  obtain ⟨h1, h2, h3⟩ := h
  refine ⟨hl, by omega, ?_⟩
  rcases h3 with h3 | ⟨g, o, cur, h4, h5, h6, h7, h8, h9⟩
  · exact .inl h3
  · refine .inr ⟨g, o, cur, h4, h5, h6, h7, h8, ?_⟩
    have := congrArg (List.take (n * size)) h9
    rw [List.take_take, Nat.min_eq_left (Nat.mul_le_mul_right _ (by omega)), List.take_left' hl] at this
    exact this
section
variable {w : World} {ops : Array Oper} {rest : List Oper} {o : Oper} {a : Act} {Q : Exit → Act → World → Prop}
/-- append(list[k].Cleanups, x) at owners of the call's own: the list holds what it held; the new inner list may take the old one's place -/
theorem wpList_appCl (s x : Operand) (hgd : o.guard = none)
    (ho : o.op = .call { callee := .builtin .append, args := #[s, x], argTypes := #[29, 29] })
    {lo hi c k c' B : Nat} {A A' : Option Addr} {v : Int} (ps : List (Own × Hd)) (y : Own × Hd) (hp : SlP w lo hi A c ps) (hk : ps[k]? = some y) (hs : a.eval s = .slice y.2.clA y.1.cl.length y.2.clC)
    (hx : a.eval x = .slice A' 1 c') (hr : RdI w B A' [v]) (hb : y.1.cl.length ≤ 1099511627776) (hhi : hi ≤ w.heap.size) (hlo : lo ≤ hi)
    (h : ∀ A'' c'' w', SlP w' lo hi A c ps → SlI w' lo w'.heap.size A'' c'' (y.1.cl ++ [v]) → (∀ b ∈ live A'' c'', Free A c ps k b) → (∀ b ∈ live A'' c'', b ∉ live y.2.cxA y.2.cxC) → Turn lo hi w w' →
      wpList Try.prog ops Q rest (a.put o.dst (.slice A'' (y.1.cl.length + 1) c'')) w') : wpList Try.prog ops Q (o :: rest) a w := by
  obtain ⟨i0, hi0, hz0, hz1, hz2⟩ := info_parts Try.infoInt
  obtain ⟨l', h', hs1, hs2, hs3, hs4⟩ := Sl.narrow (hp.cl k y hk)
  obtain ⟨A'', c'', w', hrun, ht, hfin⟩ := run_appF (P := Try.prog) w l' h' 29 o.type 3 i0 _ 1 8 Try.underlying29 hi0 hz0 hz1 hz2 rfl (by decide)
    y.2.clA y.1.cl.length y.2.clC (ints y.1.cl) hs1 B A' 1 c' (ints [v]) rfl hr (ints_oneCell _ _) (by unfold maxLen; omega) (by omega)
  refine wpList_plain hgd fun K hK => ?_
  unfold Oper.wp execOp
  simp only [ho, resolve, invoke, builtin, Sem.run_bind, Sem.run_pure, Result.andThen_ok, List.map_toArray, List.map_cons, List.map_nil, hs, hx, hrun]
  have hz := ht.size
  have hnew : ints y.1.cl ++ ints [v] = ints (y.1.cl ++ [v]) := by simp [ints]
  have hlen : (y.1.cl ++ [v]).length = y.1.cl.length + 1 := by simp
  rcases hfin with ⟨rfl, rfl, hfin⟩ | ⟨hfin, ht0⟩
  · have hp' : SlP w' lo hi A c ps := by
      have := hp.inner hk rfl ht (Sl.range (hfin.pre (by simp)) (lo' := lo) (hi' := hi) fun b hb => by have := (hp.cl k y hk).live_in b hb; exact ⟨this.1, this.2.1⟩)
        (Sl.apart (hp.cx k y hk) ht fun m hm => by
          have : ¬ (l' ≤ m ∧ m < h') := fun h2 => hp.d2 k y hk m (hs2 m h2.1 h2.2) hm
          omega) (fun m h1 h2 => List.mem_append_left _ (hs2 m h1 h2))
      rwa [set_self hk] at this
    refine hK _ _ (h _ _ w' hp' ?_ (fun b hb => hp.own_free hk (List.mem_append_left _ hb)) (hp.d2 k y hk) (hs4 _ _ ht))
    unfold SlI
    rw [hlen, ← hnew]
    exact hfin.range fun b hb => by have := (hp.cl k y hk).live_in b hb; exact ⟨this.1, by omega⟩
  · have hp' : SlP w' lo hi A c ps := hp.turn (lo' := 0) (hi' := 0) ht0 (.inr (by omega))
    refine hK _ _ (h _ _ w' hp' ?_ (fun b hb => hp.free (by have := (hfin.live_in b hb).1; omega)) (fun b hb hb2 => by have := (hfin.live_in b hb).1; have := (Sl.live_in (hp.cx k y hk) b hb2).2.1; omega) (hs4 _ _ ht))
    unfold SlI
    rw [hlen, ← hnew]
    exact hfin.range fun b hb => by have := hfin.live_in b hb; exact ⟨by omega, this.2.1⟩
end
theorem Blk.rd4 {w : World} {g : Nat} {t : TypeId} {x : Own × Hd} (h : Blk w g t (ocells x).toArray) : (w.cell? ⟨g, 0, none⟩ = some (.int .i64 x.1.p) ∧ w.cell? ⟨g, 1, none⟩ = some (.bool x.1.op) ∧ w.cell? ⟨g, 2, none⟩ = some (.slice x.2.clA x.1.cl.length x.2.clC) ∧ w.cell? ⟨g, 3, none⟩ = some (.slice x.2.cxA x.1.cx.length x.2.cxC)) ∧
    w.frozen? ⟨g, 0, none⟩ = false ∧ w.frozen? ⟨g, 1, none⟩ = false ∧ w.frozen? ⟨g, 2, none⟩ = false ∧ w.frozen? ⟨g, 3, none⟩ = false := Blk.four h

set_option maxHeartbeats 1600000 in
theorem specCopyOwners {A : Option Addr} {c n B : Nat} {w : World} (os : List Own) (ln : os.length = n) (hn : n ≤ 1048577) (hm : ∀ o ∈ os, o.cl.length ≤ 1099511627776 ∧ o.cx.length ≤ 1099511627776) (h : RdO w B A os) (hB : B ≤ w.heap.size) :
    Calls Try.prog 40 #[.slice A n c] w (MadeO w os) := by
  subst ln
  have HM := Lib.hid hm; clear hm
  go_enter Try.func40, Try.ntmps40
  go_wp2_with fail
  go_loopw [3, 4] (fun v i wr => ∃ (k : Nat) (A2 : Option Addr) (c2 : Nat) (ps : List (Own × Hd)), k ≤ os.length ∧ i = .int .i64 k ∧ v = .slice A2 ps.length c2 ∧ ps.map Prod.fst = os.take k ∧ SlP wr w.heap.size wr.heap.size A2 c2 ps ∧ Below w.heap.size w wr) (fun _ i _ => os.length - (intOf i).toNat)
  case atStart =>
    refine ⟨0, some ⟨w.heap.size, 0, none⟩, 0, [], Nat.zero_le _, rfl, rfl, rfl, SlP.nil, (below1 w _).1⟩
  case round =>
    obtain ⟨k, A2, c2, ps, hk, rfl, rfl, hps, hs, hb⟩ := hrel
    have HPS := Lib.hid hps; clear hps
    have HS := Lib.hid hs; clear hs
    have HB := Lib.hid hb; clear hb
    by_cases hlt : k < os.length
    · have hpl : ps.length ≤ 1048577 := by
        have := congrArg List.length HPS.out
        rw [List.length_map, List.length_take] at this
        omega
      obtain ⟨g, o, hd, rfl, hg, ⟨c0, c1, c2', c3⟩, q1, q2, q3, q5⟩ := (h.belowLe HB.out hB).at_ hlt
      obtain ⟨hm1, hm2⟩ := HM.out _ (List.getElem_mem hlt)
      have HX := Lib.hid (show os.take (k + 1) = os.take k ++ [os[k]] from List.take_succ_eq_append_getElem hlt)
      obtain ⟨x, hx⟩ : ∃ x, os[k] = x := ⟨_, rfl⟩
      rw [hx] at c0 c1 c2' c3 q1 q2 q3 q5 hm1 hm2 HX
      obtain ⟨p, op, cl, cx⟩ := x
      simp only at c0 c1 c2' c3 q1 q2 q3 q5 hm1 hm2
      have HQ1 := Lib.hid q1
      have HQ2 := Lib.hid q2
      clear h hx q1 q2 q3 q5
      have hz0 := HB.out.size
      go_wp2_with fail
      refine (copyInts cl rfl (by omega) (HQ1.out.belowLe (below1 wr _).1 (Nat.le_trans hB hz0)) (Nat.le_trans (Nat.le_trans hB hz0) (below1 wr _).1.size)).mono ?_
      rintro e w1 ⟨A1, c1', rfl, s1, b1⟩
      have hz1 := b1.size
      simp only [World.size_alloc] at hz1
      have B1 := Lib.hid ((below1 wr _).1.trans (b1.mono (below1 wr _).1.size))
      have v1 : Blk w1 wr.heap.size 32 (ocells (⟨p, op, cl, cx⟩, hd)).toArray := (Blk.new wr _ #[.int .i64 p, .bool op, .slice hd.clA cl.length hd.clC, .slice hd.cxA cx.length hd.cxC]).below b1 (by simp)
      have V1 := Lib.hid v1
      obtain ⟨⟨_, _, v12, v13⟩, _, _, vf2, _⟩ := v1.rd4
      have v1' := v1.set_ 2 (.slice A1 cl.length c1')
      have S1 := Lib.hid s1
      have c13 : (w1.setCell ⟨wr.heap.size, 2, none⟩ (.slice A1 cl.length c1')).cell? ⟨wr.heap.size, 3, none⟩ = some (.slice hd.cxA cx.length hd.cxC) := by rw [v1'.cell]; rfl
      clear b1 s1 v1 v1'
      go_wp2_with fail
      have b2 := B1.out.setCell (p := ⟨wr.heap.size, 2, none⟩) (Nat.le_refl _) (.slice A1 cl.length c1')
      refine (copyInts cx rfl (by omega) (HQ2.out.belowLe b2 (Nat.le_trans hB hz0)) (Nat.le_trans (Nat.le_trans hB hz0) b2.size)).mono ?_
      rintro e w2 ⟨A3, c3', rfl, s2, b3⟩
      have hz2 := b3.size
      simp only [World.setCell, Array.size_modify] at hz2
      have v2 : Blk w2 wr.heap.size 32 #[.int .i64 p, .bool op, .slice A1 cl.length c1', .slice hd.cxA cx.length hd.cxC] := (V1.out.set_ 2 (.slice A1 cl.length c1')).below b3 (by simp [World.setCell]; omega)
      have v3 : Blk (w2.setCell ⟨wr.heap.size, 3, none⟩ (.slice A3 cx.length c3')) wr.heap.size 32 (ocells (⟨p, op, cl, cx⟩, ⟨A1, c1', A3, c3'⟩)).toArray := v2.set_ 3 (.slice A3 cx.length c3')
      obtain ⟨⟨_, _, _, v23⟩, _, _, _, vf3⟩ := v2.four
      obtain ⟨⟨d0, d1, d2, d3⟩, _⟩ := v3.rd4
      have TB : Turn wr.heap.size (wr.heap.size + 1) w2 (w2.setCell ⟨wr.heap.size, 3, none⟩ (.slice A3 cx.length c3')) := (Turn.refl _ _ _).setCell (p := ⟨wr.heap.size, 3, none⟩) (Nat.le_refl _) (.inl (Nat.lt_succ_self _)) _
      have S1' := (S1.out.turn ((Turn.refl wr.heap.size (wr.heap.size + 1) w1).setCell (p := ⟨wr.heap.size, 2, none⟩) (Nat.le_refl _) (.inl (Nat.lt_succ_self _)) (.slice A1 cl.length c1')) (.inr (by simp))).below b3 (by simp [World.setCell])
      have T1 := S1'.turn TB (.inr (by simp))
      have T2 := s2.turn TB (.inr (by simp [World.setCell]; omega))
      have B3 := Lib.hid (b2.trans (b3.mono b2.size) |>.trans ((TB.below (by omega)).mono (Nat.le_refl _)))
      have hzw : (w2.setCell ⟨wr.heap.size, 3, none⟩ (.slice A3 cx.length c3')).heap.size = w2.heap.size := by simp [World.setCell]
      obtain ⟨W4, hW4⟩ : ∃ W4 : World, W4 = (w2.setCell ⟨wr.heap.size, 3, none⟩ (.slice A3 cx.length c3')).alloc (.cells (ocells (⟨p, op, cl, cx⟩, ⟨A1, c1', A3, c3'⟩)).toArray 32) := ⟨_, rfl⟩
      have hz4 : W4.heap.size = w2.heap.size + 1 := by rw [hW4, World.size_alloc, hzw]
      have u1 : SlI W4 (wr.heap.size + 1) w1.heap.size A1 c1' cl := by rw [hW4]; exact (T1.alloc _).mono (by simp) (Nat.le_refl _)
      have u2 : SlI W4 w1.heap.size w2.heap.size A3 c3' cx := by rw [hW4]; exact (T2.alloc _).mono (by simp [World.setCell]) (Nat.le_refl _)
      have UB := Lib.hid (show Blk W4 w2.heap.size 32 (ocells (⟨p, op, cl, cx⟩, ⟨A1, c1', A3, c3'⟩)).toArray by rw [hW4]; exact Blk.newAt _ _ _ _ hzw)
      have b4 : Below wr.heap.size wr W4 := by rw [hW4]; exact B3.out.alloc (by rw [hzw]; omega) _
      have B4 := Lib.hid b4
      have S4 := Lib.hid (HS.out.below b4 (Nat.le_refl _))
      have UCL := Lib.hid (show SlI W4 w.heap.size W4.heap.size A1 c1' cl from u1.mono (by omega) (by omega))
      have UCX := Lib.hid (show SlI W4 w.heap.size W4.heap.size A3 c3' cx from u2.mono (by omega) (by omega))
      have UD := Lib.hid (show ∀ b ∈ live A1 c1', b ∉ live A3 c3' from fun b h1 h2 => by have := (Sl.live_in u1 b h1).2.1; have := (Sl.live_in u2 b h2).1; omega)
      have UF := Lib.hid (show ∀ b ∈ foot ((⟨p, op, cl, cx⟩, ⟨A1, c1', A3, c3'⟩) : Own × Hd), wr.heap.size ≤ b from fun b hb => by
        unfold foot at hb
        rw [List.mem_append] at hb
        rcases hb with hb | hb
        · have := (Sl.live_in u1 b hb).1; omega
        · have := (Sl.live_in u2 b hb).1; omega)
      have UL := Lib.hid (show w.heap.size ≤ W4.heap.size by omega)
      have UH := Lib.hid (show wr.heap.size ≤ W4.heap.size by omega)
      clear u1 u2 b4 hz4
      subst hW4
      clear b2 b3 s2 v2 v3 TB S1' T1 T2 hzw v12 vf2 v13 c13 S1 B3
      go_wp2_with (at_builtin; refine wpList_appO (.tmp 25) (.tmp 27) rfl rfl ps ((⟨p, op, cl, cx⟩, ⟨A1, c1', A3, c3'⟩) : Own × Hd) rfl rfl S4.out rfl UB.out UCL.out UCX.out UD.out UF.out (by omega) UL.out UH.out ?_; intro A4 c4 w4 h4 t4)
      have P4 := Lib.hid h4
      have B5 := Lib.hid ((HB.out.trans (B4.out.mono hz0)).trans (t4.below UL.out))
      clear h4 t4 d0 d1 d2 d3 v23 vf3
      go_wp2_with fail
      go_roundw
      case rel => exact ⟨k + 1, A4, c4, _, by omega, by go_num, by rw [List.length_append]; rfl, by rw [List.map_append, HPS.out, HX.out]; rfl, P4.out, B5.out⟩
      case measure => simp [intOf]; omega
    · have hkl : k = os.length := by omega
      have hps := HPS.out
      rw [hkl, List.take_length] at hps
      have HE := Lib.hid (show ps.length = os.length by rw [← hps, List.length_map])
      have HP := Lib.hid hps
      clear hkl h HPS hps
      go_wp2_with fail
      go_ret
      exact ⟨A2, c2, by rw [HE.out]; rfl, ⟨ps, HP.out, HS.out⟩, HB.out⟩

def isOpB (os : List Own) (o : Int) : Bool := inB o 0 ((os.length : Int) - 1) && opAt os o
def opB (os : List Own) (o : Int) : Bool := ofB os o && opAt os o
theorem opB_eq (os : List Own) (o : Int) : opB os o = (voB os && isOpB os o) := by unfold opB ofB isOpB; rw [Bool.and_assoc]
theorem opB_iff {os : List Own} {o : Int} : opB os o = true ↔ voB os = true ∧ 0 ≤ o ∧ o < os.length ∧ opAt os o = true := by
  unfold opB; rw [Bool.and_eq_true, ofB_iff]; simp only [and_assoc]
theorem RdO.op {w : World} {B : Nat} {A : Option Addr} {os : List Own} (h : RdO w B A os) {P : Nat} (hP : P < os.length) : ∃ g o, A = some ⟨g, o, none⟩ ∧ g < B ∧ w.cell? ⟨g, o + P * 4 + 1, none⟩ = some (.bool (opAt os (P : Int))) := by
  obtain ⟨g, o, hd, hA, hg, ⟨_, hc, _⟩, _⟩ := h.at_ hP
  exact ⟨g, o, hA, hg, by rw [opAt_eq hP]; exact hc⟩

theorem isOpen {A : Option Addr} {c n B : Nat} {w : World} (o : Int) (os : List Own) (ln : os.length = n) (hn : n ≤ 1048577) (h : RdO w B A os) :
    Calls Try.prog 38 #[.slice A n c, .int .i64 o] w fun e w' => e = .returned (.bool (isOpB os o)) ∧ w = w' := by
  subst ln
  cases hin : inB o 0 ((os.length : Int) - 1)
  · have HF := Lib.hid (show isOpB os o = false from by unfold isOpB; rw [hin]; rfl)
    clear h
    go_enter Try.func38, Try.ntmps38
    go_wp2_with fail
    refine inRange.mono ?_; rintro e w' ⟨rfl, rfl⟩
    go_wp2_with fail
    go_ret
    exact ⟨ret_bool HF.out.symm, rfl⟩
  · have hh := inB_iff.1 hin
    obtain ⟨P, rfl⟩ := Int.eq_ofNat_of_zero_le hh.1
    have hP : P < os.length := by omega
    obtain ⟨g, o2, rfl, hg, hc⟩ := h.op hP
    have HF := Lib.hid (show isOpB os (P : Int) = opAt os (P : Int) from by unfold isOpB; rw [hin]; rfl)
    clear h hh
    go_enter Try.func38, Try.ntmps38
    go_wp2_with fail
    refine inRange.mono ?_; rintro e w' ⟨rfl, rfl⟩
    go_wp2_with fail
    go_ret
    exact ⟨ret_bool HF.out.symm, rfl⟩

set_option maxHeartbeats 400000 in
theorem emptyContext {w : World} : Calls Try.prog 64 #[] w (MadeI w [-1, -1, -1]) := by
  go_enter Try.func64, Try.ntmps64
  go_wp2_with fail
  go_loopw [1, 2] (fun v i wr => ∃ (k : Nat) (A2 : Option Addr) (c2 : Nat) (ys : List Int), k ≤ 3 ∧ i = .int .i64 k ∧ v = .slice A2 ys.length c2 ∧ ys = List.replicate k (-1) ∧ SlI wr w.heap.size wr.heap.size A2 c2 ys ∧ Below w.heap.size w wr) (fun _ i _ => 3 - (intOf i).toNat)
  case atStart => exact ⟨0, some ⟨w.heap.size, 0, none⟩, 0, [], by omega, rfl, rfl, rfl, (SlI.new w [] (Nat.le_refl _)).mono (Nat.le_refl _) (by simp), (below1 w _).1⟩
  case round =>
    obtain ⟨k, A2, c2, ys, hk, rfl, rfl, hys, hs, hb⟩ := hrel
    have hyl : ys.length = k := by rw [hys]; simp
    have HYL := Lib.hid hyl
    have hyl2 : ys.length ≤ 3 := by omega
    have HY := Lib.hid hys; clear hys hyl
    have HS := Lib.hid hs; clear hs
    have HB := Lib.hid hb; clear hb
    by_cases hlt : k < 3
    · go_wp2_with (at_builtin; refine wpList_appI (.tmp 8) (.tmp 9) rfl rfl ys [-1] rfl rfl (HS.out.alloc _) rfl rfl (SlI.newAt (w := wr) wr.heap.size rfl [-1] (lo := 0) (Nat.zero_le _)).rd (by simp; omega) (by have := HB.out.size; simp; omega) ?_; intro A4 c4 w4 h4 t4 _)
      obtain ⟨s4, b4⟩ := app1 _ HB.out (Nat.le_refl _) h4 t4
      have S4 := Lib.hid s4
      have B4 := Lib.hid b4
      clear h4 t4 s4 b4
      go_wp2_with fail
      go_roundw
      case rel => exact ⟨k + 1, A4, c4, ys ++ [-1], by omega, by go_num, by simp, by rw [HY.out, List.replicate_succ'], S4.out, B4.out⟩
      case measure => simp [intOf]; omega
    · have hk3 : k = 3 := by omega
      have HE := Lib.hid (show ys = [-1, -1, -1] by rw [HY.out, hk3]; rfl)
      clear hk3 HY
      go_wp2_with fail
      go_ret
      exact ⟨A2, c2, by rw [HE.out]; rfl, by rw [← HE.out]; exact HS.out, HB.out⟩
end Go.Proofs.Ytnlbmiangbahgaa
