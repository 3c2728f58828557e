/-
  impl.FormatFormula: the text of a formula.
-/
import Derived.Test.YtdhjejpcppmejaaDoorTextS
import Derived.Test.YtdhjejpcppmejaaDoorShelfText
namespace Go.Proofs.YtdhjejpcppmejaaDoor
open Go.RowKit

theorem Tryd.infoStr : (Tryd.prog.info? 9).map (fun i => (i.zero, i.size, i.bytes)) = some (some (.string ⟨#[]⟩), 1, 16) := by kernel_rfl
/-- a slice of strings of the call's own -/
def SlS (w : World) (lo hi : Nat) (A : Option Addr) (c : Nat) (xs : List (List UInt8)) : Prop := Sl w lo hi 9 1 A xs.length c (xs.map strV)
section
variable {w : World} {ops : Array Oper} {rest : List Oper} {o : Oper} {a : Act} {Q : Exit → Act → World → Prop}
theorem wpList_appSS (s x : Operand) (hgd : o.guard = none)
    (ho : o.op = .call { callee := .builtin .append, args := #[s, x], argTypes := #[36, 36] })
    {lo hi n c gx : Nat} {A : Option Addr} (xs : List (List UInt8)) (y : List UInt8) (hs : a.eval s = .slice A n c) (hn : xs.length = n) (hown : SlS w lo hi A c xs) (hx : a.eval x = .slice (some ⟨gx, 0, Option.none⟩) 1 1)
    (hgx : Blk w gx 9 #[strV y]) (hb : n ≤ 1099511627776)
    (h : ∀ A'' c'' lo' hi' w', SlS w' lo' hi' A'' c'' (xs ++ [y]) → ((lo' = lo ∧ hi' = hi) ∨ (lo' = w.heap.size ∧ hi' = w'.heap.size)) → Turn lo hi w w' → wpList Tryd.prog ops Q rest (a.put o.dst (.slice A'' (n + 1) c'')) w') : wpList Tryd.prog ops Q (o :: rest) a w := by
  subst hn
  obtain ⟨i0, hi0, hz0, hz1, hz2⟩ := info_parts Tryd.infoStr
  refine wpList_appS s x 36 hgd ho 9 i0 (.string ⟨#[]⟩) 1 16 Tryd.underlying36 hi0 hz0 hz1 hz2 rfl (by decide) (xs.map strV) [strV y] hs hown hx rfl
    (fun _ => ⟨_, rfl, Nat.lt_succ_self _, fun j u hu => by rw [add_lit, hgx.cell, Nat.zero_add, List.getElem?_toArray]; exact hu⟩) (by intro u hu; rw [List.mem_singleton] at hu; subst hu; rfl) (by unfold maxLen; omega) (by omega) ?_
  intro A'' c'' lo' hi' w' h2 h3 h4
  refine h A'' c'' lo' hi' w' ?_ h3 h4
  unfold SlS
  rw [List.length_append, List.map_append]
  exact h2
end
/-- the table of words as it is laid -/
def WordsAt (w : World) (B : Nat) : Prop := ∃ (wa : Addr) (cw : Nat), w.cell? ⟨0, 0, none⟩ = some (.slice (some wa) 7 cw) ∧ 0 < B ∧ wa.block < B ∧ 7 ≤ cw ∧ ∀ j, j < 7 → w.cell? (wa.add j) = some (strV (kindW.getD j []))
theorem WordsAt.below {w w' : World} {B B' : Nat} (h : WordsAt w B) (hb : Below B' w w') (hB : B ≤ B') : WordsAt w' B := by
  obtain ⟨wa, cw, h1, h2, h3, h4, h5⟩ := h
  exact ⟨wa, cw, (hb.cell (Nat.lt_of_lt_of_le h2 hB)).trans h1, h2, h3, h4, fun j hj => (hb.cell (by rw [block_of_add]; omega)).trans (h5 j hj)⟩
theorem WordsAt.more {w : World} {B B' : Nat} (h : WordsAt w B) (hB : B ≤ B') : WordsAt w B' := by
  obtain ⟨wa, cw, h1, h2, h3, h4, h5⟩ := h
  exact ⟨wa, cw, h1, Nat.lt_of_lt_of_le h2 hB, Nat.lt_of_lt_of_le h3 hB, h4, h5⟩

theorem round_end {w2 wr w9 : World} {lo3 hi3 lo9 hi9 : Nat} {o1 o2 : Obj} (hb : Below w2.heap.size w2 wr) (hlo : w2.heap.size ≤ lo3) (hhi : hi3 ≤ wr.heap.size) (hlr : lo3 ≤ wr.heap.size)
    (d : (lo9 = lo3 ∧ hi9 = hi3) ∨ (lo9 = ((wr.alloc o1).alloc o2).heap.size ∧ hi9 = w9.heap.size)) (t : Turn lo3 hi3 ((wr.alloc o1).alloc o2) w9) :
    w2.heap.size ≤ lo9 ∧ hi9 ≤ w9.heap.size ∧ lo9 ≤ w9.heap.size ∧ Below w2.heap.size w2 w9 := by
  have z := t.size
  have z0 := hb.size
  simp only [World.size_alloc] at z d
  refine ⟨by omega, by omega, by omega, ?_⟩
  exact Below.new ((hb.alloc z0 _).alloc (by simp; omega) _) t hlo (Nat.le_refl _)

theorem joinL {w : World} {lo hi c : Nat} {A : Option Addr} (l : List Prt) (hs : SlS w lo hi A c (l.map wordP)) (hh : hi ≤ w.heap.size) (h12 : l.length ≤ 12) (hj : (joinW (l.map wordP)).length ≤ 60) :
    Calls Tryd.prog 15 #[.slice A l.length c, .string ⟨#[32]⟩] w fun e w' => e = .returned (strV (joinW (l.map wordP))) ∧ Below w.heap.size w w' := by
  by_cases h0 : l.length = 0
  · have hl := List.eq_nil_of_length_eq_zero h0
    subst hl
    exact (joinC0 A c ⟨#[32]⟩ w).mono fun e w' ⟨he, hw⟩ => ⟨by rw [he]; rfl, hw ▸ Below.refl _ _⟩
  · have hn := Sl.le hs
    have hr := Sl.rd hs
    rw [List.length_map] at hn
    obtain ⟨g, o, cur, rfl, h1, h2, _⟩ := Sl.block hs (by omega)
    have hl : (l.map fun p => bts (wordP p)).length = l.length := by simp
    have e : (l.map fun p => bts (wordP p)).map (·.data.toList) = l.map wordP := by rw [List.map_map]; rfl
    have hJ := joinC g o c (l.map fun p => bts (wordP p)) (bts [32]) w (fun j x hx => by
      rw [List.getElem?_map] at hx
      cases hlj : l[j]? with
      | none => rw [hlj] at hx; cases hx
      | some p =>
        rw [hlj] at hx
        obtain ⟨hlt, _⟩ := List.getElem?_eq_some_iff.1 hlj
        obtain ⟨ad, e1, _, hcc⟩ := hr.at_ (k := j) (by simpa using hlt)
        injection e1 with e1
        subst e1
        have := hcc j (.string x) (by rw [List.getElem?_map, List.getElem?_map, hlj]; simp at hx; simp [← hx])
        rwa [add_lit] at this) (by omega) (by rw [hl]; omega) (by rw [hl]; exact hn) (by rw [e]; exact Nat.le_trans hj (by decide))
    rw [hl, e] at hJ
    exact hJ

set_option maxRecDepth 100000 in
set_option maxHeartbeats 1600000 in
theorem implFormat {A : Option Addr} {c n B : Nat} {w : World} (ps : List Prt) (ln : ps.length = n) (hn : n ≤ 9223372036854775807) (h : RdP w B A ps) (hB : B ≤ w.heap.size) (hw : WordsAt w B) :
    Calls Tryd.prog 7 #[.agg #[.slice A n c]] w fun e w' => e = .returned (strV (textF ps)) ∧ Below w.heap.size w w' := by
  have HB1 := Lib.hid (bel1P w (.cells #[.slice A n c] 29))
  have H := Lib.hid (h.belowLe HB1.out hB)
  have WA := Lib.hid (hw.below HB1.out hB)
  have LN := Lib.hid ln
  have HT := Lib.hid (show textF ps = joinW ((orderF ps).map wordP) from rfl)
  have h12 := order_twelve ps
  have OK := Lib.hid (order_ok ps)
  have JL := Lib.hid (fun k => words_len ps k)
  have SO := Lib.hid (fun (W : World) (hr : RdP W B A ps) (hb : B ≤ W.heap.size) => implOrderParts (c := c) ps ln hn hr hb)
  clear h ln hw
  obtain ⟨l, hl⟩ : ∃ l, orderF ps = l := ⟨_, rfl⟩
  rw [hl] at h12 OK JL SO HT
  rw [HT.out]
  clear hl HT
  go_enter Tryd.func7, Tryd.ntmps7
  go_wp2_with fail
  refine (SO.out _ H.out (by simp; omega)).mono ?_; rintro e w2 ⟨A2, c2, rfl, s2, b2⟩
  have HB2 := Lib.hid (HB1.out.trans (b2.mono (by simp)))
  have WA2 := Lib.hid (WA.out.below b2 (by simp; omega))
  have S2 := Lib.hid s2
  have hz2 := b2.size
  rw [World.size_alloc] at hz2
  clear s2 b2 H SO HB1 WA
  have hf := runField A2 l.length c2 w2
  go_wp2_with fail
  go_loopw [3, 10] (fun s i wr => ∃ (k : Nat) (A3 : Option Addr) (c3 lo3 hi3 : Nat), k ≤ l.length ∧ i = .int .i64 k ∧ s = .slice A3 k c3 ∧ SlS wr lo3 hi3 A3 c3 ((l.take k).map wordP) ∧ w2.heap.size ≤ lo3 ∧ hi3 ≤ wr.heap.size ∧ lo3 ≤ wr.heap.size ∧ Below w2.heap.size w2 wr) (fun _ i _ => l.length - (intOf i).toNat)
  case atStart => exact ⟨0, none, 0, w2.heap.size, w2.heap.size, Nat.zero_le _, rfl, rfl, Sl.nil _ _ _ _ _ _, Nat.le_refl _, Nat.le_refl _, Nat.le_refl _, Below.refl _ _⟩
  case round =>
    obtain ⟨k, A3, c3, lo3, hi3, hk, rfl, rfl, hs, hlo3, hhi3, hlr, hb⟩ := hrel
    have HBr := Lib.hid hb
    have HS := Lib.hid hs
    have hzr := hb.size
    by_cases hlt : k < l.length
    case pos =>
      obtain ⟨g, o, hA, hg, hc⟩ := RdP_at (S2.out.rd.below hb) hlt
      subst hA
      have hokp := OK.out k hlt
      have HTK := Lib.hid (show (l.take (k + 1)).map wordP = (l.take k).map wordP ++ [wordP l[k]] from by rw [List.take_succ_eq_append_getElem hlt, List.map_append]; rfl)
      have hl1 := JL.out k
      have hlw := word_len hokp
      have hc0 := S2.out.le
      have HXL := Lib.hid (show ((l.take k).map wordP).length = k from by rw [List.length_map, List.length_take_of_le (by omega)])
      obtain ⟨x, hx⟩ : ∃ x, l[k] = x := ⟨_, rfl⟩
      rw [hx] at hc HTK hokp hlw
      obtain ⟨ys, hys⟩ : ∃ ys, (l.take k).map wordP = ys := ⟨_, rfl⟩
      rw [hys] at HTK HXL HS
      obtain ⟨kd, pa, pb, pc, nn⟩ := x
      obtain ⟨c0, c1, c2', c3', c4⟩ := hc
      dsimp only at c0 c1 c2' c3' c4
      clear hx hb hys hs
      obtain ⟨u, hu⟩ : ∃ u, wordP ⟨kd, pa, pb, pc, nn⟩ = u := ⟨_, rfl⟩
      rw [hu] at HTK hlw
      rcases hokp with ⟨h0, h1, h2⟩ | ⟨h0, h1, h2⟩ | ⟨h1, h2⟩
      · dsimp only at h0 h1 h2
        subst h0
        obtain ⟨m, rfl⟩ := Int.eq_ofNat_of_zero_le h1
        have hu : Lib.decDigits m = u := by rw [← hu]; unfold wordP; rw [if_pos rfl, Int.toNat_natCast]
        have IT := Lib.hid (fun w => itoaC m (by omega) w)
        rw [hu] at IT
        clear hu
        go_wp2_with fail
        refine (IT.out _).mono ?_; rintro e w3 ⟨rfl, rfl⟩
        go_wp2_with (at_builtin; refine wpList_appSS (.tmp 27) (.tmp 31) rfl rfl ys u rfl HXL.out (Sl.alloc (Sl.alloc HS.out _) _) rfl (blkAt (by simp)) (by omega) ?_; intro A9 c9 lo9 hi9 w9 h9 d9 t9)
        obtain ⟨e1, e2, e3, e4⟩ := round_end HBr.out hlo3 hhi3 hlr d9 t9
        have H9 := Lib.hid h9; have E4 := Lib.hid e4
        clear h9 d9 t9 e4
        go_wp2_with fail
        go_roundw
        case rel => exact ⟨k + 1, A9, c9, lo9, hi9, by omega, by go_num, by go_num, by rw [HTK.out]; exact H9.out, e1, e2, e3, E4.out⟩
        case measure => simp [intOf]; omega
      · dsimp only at h0 h1 h2
        subst h0
        obtain ⟨m, rfl⟩ := Int.eq_ofNat_of_zero_le h1
        obtain ⟨v, hv⟩ : ∃ v, Lib.decDigits m = v := ⟨_, rfl⟩
        have hu : 114 :: v = u := by rw [← hu, ← hv]; unfold wordP; rw [if_neg (show ¬ ((1 : Int) = 0) by decide), if_pos rfl, Int.toNat_natCast]
        have IT := Lib.hid (fun w => itoaC m (by omega) w)
        rw [hv] at IT
        have hb1 : ({ data := #[114] } : ByteArray) ++ bts v = bts u := by rw [← hu]; exact bts_app [114] v
        have hvl : v.length ≤ 3 := by have := hlw; rw [← hu, List.length_cons] at this; omega
        clear hu hv
        go_wp2_with fail
        refine (IT.out _).mono ?_; rintro e w3 ⟨rfl, rfl⟩
        go_wp2_with (at_builtin; refine wpList_appSS (.tmp 35) (.tmp 40) rfl rfl ys u rfl HXL.out (Sl.alloc (Sl.alloc HS.out _) _) rfl (blkAt (by simp)) (by omega) ?_; intro A9 c9 lo9 hi9 w9 h9 d9 t9)
        obtain ⟨e1, e2, e3, e4⟩ := round_end HBr.out hlo3 hhi3 hlr d9 t9
        have H9 := Lib.hid h9; have E4 := Lib.hid e4
        clear h9 d9 t9 e4
        go_wp2_with fail
        go_roundw
        case rel => exact ⟨k + 1, A9, c9, lo9, hi9, by omega, by go_num, by go_num, by rw [HTK.out]; exact H9.out, e1, e2, e3, E4.out⟩
        case measure => simp [intOf]; omega
      · dsimp only at h1 h2
        obtain ⟨q, rfl⟩ : ∃ q : Nat, kd = (q : Int) + 2 := ⟨(kd - 2).toNat, by omega⟩
        have hq : q < 7 := by omega
        have e0 : (((q : Int) + 2) == 0) = false := by rw [beq_eq_false_iff_ne]; omega
        have e1 : (((q : Int) + 2) == 1) = false := by rw [beq_eq_false_iff_ne]; omega
        have hu : kindW.getD q [] = u := by rw [← hu]; unfold wordP; rw [if_neg (show ¬ ((q : Int) + 2 = 0) by omega), if_neg (show ¬ ((q : Int) + 2 = 1) by omega)]; rw [show ((q : Int) + 2).toNat - 2 = q by omega]
        have hs2 : IntKind.i64.wrap ((q : Int) + 2 - 2) = (q : Int) := by rw [show (q : Int) + 2 - 2 = (q : Int) by omega]; exact IntWalk.i64_in _ (by omega)
        have hq0 : (0 : Int) ≤ (q : Int) := by omega
        have hq7 : (q : Int) < 7 := by omega
        have hBw : B ≤ w2.heap.size := by omega
        have hBr : B ≤ wr.heap.size := by omega
        obtain ⟨wa, cw, g1, g2, g3, g4, g5⟩ := (WA2.out.below HBr.out hBw).below (bel1P wr (.cells #[.int .i64 ((q : Int) + 2), .int .i64 pa, .int .i64 pb, .int .i64 pc, .int .i64 nn] 39)) hBr
        have gq := g5 q hq
        rw [hu] at gq
        clear hu g5
        go_wp2_with (at_builtin; refine wpList_appSS (.tmp 16) (.tmp 23) rfl rfl ys u rfl HXL.out (Sl.alloc (Sl.alloc HS.out _) _) rfl (blkAt (by simp)) (by omega) ?_; intro A9 c9 lo9 hi9 w9 h9 d9 t9)
        obtain ⟨e1, e2, e3, e4⟩ := round_end HBr.out hlo3 hhi3 hlr d9 t9
        have H9 := Lib.hid h9; have E4 := Lib.hid e4
        clear h9 d9 t9 e4
        go_wp2_with fail
        go_roundw
        case rel => exact ⟨k + 1, A9, c9, lo9, hi9, by omega, by go_num, by go_num, by rw [HTK.out]; exact H9.out, e1, e2, e3, E4.out⟩
        case measure => simp [intOf]; omega
    case neg =>
      have hke : k = l.length := by omega
      subst hke
      rw [List.take_length] at hs
      have hjl := JL.out l.length
      rw [List.take_length] at hjl
      have JN := Lib.hid (joinL l hs hhi3 h12 hjl)
      clear hs hjl hb
      go_wp2_with fail
      refine JN.out.mono ?_; rintro e w5 ⟨rfl, b5⟩
      have HB5 := Lib.hid (HB2.out.trans ((HBr.out.trans (b5.mono hzr)).mono HB2.out.size))
      clear b5
      go_wp2_with fail
      go_ret
      exact ⟨rfl, HB5.out⟩
end Go.Proofs.YtdhjejpcppmejaaDoor
