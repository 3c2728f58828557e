/-
  spec.someFormula: a drawn formula that may be invalid; spec.DrawDeepOf.
-/
import Derived.Test.YtlinngohbghimaaGoodF
import Derived.Deep.RegionHeld3
import Derived.Deep.RegionWith
namespace Go.Proofs.Ytlinngohbghimaa
open Go.RowKit
attribute [-go_sem] Builtin.append_
set_option linter.unusedVariables false

/-- the parts; the head of their slice lies in block b; the result's cell; the reader -/
structure FI (w : World) (N g m : Nat) (wx : World) (b lo hi : Nat) (A : Option Addr) (c n : Nat) (ps : List Prt) : Prop where
  sp : SlP wx lo hi A c ps
  ln : ps.length = n
  bf : Blk wx b 29 #[.slice A n c]
  br : Blk wx w.heap.size 29 #[.slice none 0 0]
  rd : Rdr wx N g m
  tn : Turn g (g + 1) w wx
  gw : g < w.heap.size
  l1 : w.heap.size + 1 ≤ lo
  l2 : w.heap.size + 1 ≤ b
  l5 : hi ≤ wx.heap.size
  ap : hi ≤ b ∨ b < lo
section
variable {w wx wy : World} {N g m m' b lo hi c n lo' hi' c' : Nat} {A A' : Option Addr} {ps ps' : List Prt}
theorem FI.below (h : FI w N g m wx b lo hi A c n ps) (hb : Below wx.heap.size wx wy) : FI w N g m wy b lo hi A c n ps :=
  ⟨h.sp.below hb h.l5, h.ln, h.bf.below hb h.bf.lt, h.br.below hb h.br.lt, h.rd.below hb h.rd.lt, h.tn.trans (Below.turn hb g (g + 1)), h.gw, h.l1, h.l2, Nat.le_trans h.l5 hb.size, h.ap⟩
theorem FI.alloc (h : FI w N g m wx b lo hi A c n ps) (o : Obj) : FI w N g m (wx.alloc o) b lo hi A c n ps := h.below ((Below.refl _ _).alloc (Nat.le_refl _) o)
theorem FI.drew (h : FI w N g m wx b lo hi A c n ps) : FI w N g m wx.drew b lo hi A c n ps := h.below (Below.refl _ _).drew
theorem FI.pick (h : FI w N g m wx b lo hi A c n ps) (r : Rdr wy N g m') (t : Turn g (g + 1) wx wy) : FI w N g m' wy b lo hi A c n ps := by
  have := h.l1; have := h.l2; have := h.gw
  exact ⟨h.sp.turn t (.inr (by omega)), h.ln, t.blk h.bf (.inr (by omega)), t.blk h.br (.inr (by omega)), r, h.tn.trans t, h.gw, h.l1, h.l2, Nat.le_trans h.l5 t.size, h.ap⟩
/-- a field of a part: where it lies, and what a store of a number there does -/
theorem FI.at_ (h : FI w N g m wx b lo hi A c n ps) {k : Nat} (hk : k < n) : ∃ ga o, A = some ⟨ga, o, none⟩ ∧ ∀ (j : Nat), j < 5 → (∃ u, wx.cell? ⟨ga, o + k * 5 + j, none⟩ = some (.int .i64 u)) ∧ wx.frozen? ⟨ga, o + k * 5 + j, none⟩ = false ∧
    ∀ u, ∃ ps', FI w N g m (wx.setCell ⟨ga, o + k * 5 + j, none⟩ (.int .i64 u)) b lo hi A c n ps' := by
  have hk' : k < ps.length := by rw [h.ln]; exact hk
  obtain ⟨ga, o, hA, h1, h2, h3, h4, h5, h6, _⟩ := SlR.at_ kP h.sp hk'
  have := h.l1; have := h.l2; have := h.gw; have := h.ap; have := h.l5; have hln := h.ln
  refine ⟨ga, o, hA, fun j hj => ⟨?_, by rw [Nat.add_assoc]; exact h5 _, fun u => ?_⟩⟩
  · rw [Nat.add_assoc]
    have e : ∃ z, (cP ps[k])[j]? = some z := ⟨(cP ps[k])[j]'(by rw [kP]; exact hj), List.getElem?_eq_getElem _⟩
    obtain ⟨z, hz⟩ := e
    exact ⟨z, h4 k _ (List.getElem?_eq_getElem hk') j z hz⟩
  · have e : ∃ y : Prt, cP y = (cP ps[k]).set j u := by
      obtain ⟨kd, pa, pb, pc, nn⟩ := ps[k]
      match j, hj with
      | 0, _ => exact ⟨⟨u, pa, pb, pc, nn⟩, rfl⟩
      | 1, _ => exact ⟨⟨kd, u, pb, pc, nn⟩, rfl⟩
      | 2, _ => exact ⟨⟨kd, pa, u, pc, nn⟩, rfl⟩
      | 3, _ => exact ⟨⟨kd, pa, pb, u, nn⟩, rfl⟩
      | 4, _ => exact ⟨⟨kd, pa, pb, pc, u⟩, rfl⟩
    obtain ⟨y, hy⟩ := e
    obtain ⟨s, t⟩ := h6 j u y hj hy
    rw [← Nat.add_assoc] at s t
    exact ⟨ps.set k y, s, by rw [List.length_set]; exact hln, t.blk h.bf (by omega), t.blk h.br (by omega), h.rd.turn t (by omega), h.tn.new t (by omega), h.gw, h.l1, h.l2, Nat.le_trans h.l5 t.size, h.ap⟩
/-- a part appended -/
theorem FI.app (h : FI w N g m wx b lo hi A c n ps) (s : SlP wy lo' hi' A' c' ps') (hl : ps'.length = n + 1) (d : (lo' = lo ∧ hi' = hi) ∨ (lo' = wx.heap.size ∧ hi' = wy.heap.size)) (t : Turn lo hi wx wy) :
    Blk wy b 29 #[.slice A n c] ∧ FI w N g m (wy.setCell ⟨b, 0, none⟩ (.slice A' (n + 1) c')) b lo' hi' A' c' (n + 1) ps' := by
  have hz := t.size
  have hbl := h.bf.lt
  have := h.l1; have := h.l2; have := h.gw; have := h.ap; have := h.l5; have hrl := h.br.lt
  have b1 := t.blk h.bf (by omega)
  have t2 : Turn b (b + 1) wy (wy.setCell ⟨b, 0, none⟩ (.slice A' (n + 1) c')) := (Turn.refl _ _ wy).setCell (p := ⟨b, 0, none⟩) (Nat.le_refl _) (.inl (Nat.lt_succ_self _)) _
  exact ⟨b1, s.turn t2 (by omega), hl, b1.set_ 0 _, t2.blk (t.blk h.br (.inl (by omega))) (.inl (by omega)), (h.rd.turn t (by omega)).turn t2 (by omega), (h.tn.new t (by omega)).new t2 (by omega), h.gw, by omega, h.l2, by have := t2.size; omega, by omega⟩
theorem FI.fin (h : FI w N g m wx b lo hi A c n ps) {M L : Nat} (hm : m ≤ M) (h1 : 1 ≤ n) (hL : n ≤ L) : DrawF N g M L w (.returned (.agg #[.slice A n c])) (wx.setCell ⟨w.heap.size, 0, none⟩ (.slice A n c)) := by
  have t2 : Turn w.heap.size (w.heap.size + 1) wx (wx.setCell ⟨w.heap.size, 0, none⟩ (.slice A n c)) := (Turn.refl _ _ wx).setCell (p := ⟨w.heap.size, 0, none⟩) (Nat.le_refl _) (.inl (Nat.lt_succ_self _)) _
  have := h.gw; have := h.l1; have hln := h.ln
  exact ⟨A, c, ps, by rw [hln], by omega, by omega, (h.sp.turn t2 (.inr (by omega))).mono (by omega) (Nat.le_trans h.l5 t2.size), (h.rd.turn t2 (by omega)).more hm, h.tn.new t2 (by omega)⟩
end

set_option maxRecDepth 100000 in
set_option maxHeartbeats 4000000 in
theorem someFormula {N g m : Nat} {w : World} (hm : m ≤ 700000) (h : Rdr w N g m) :
    Calls Try.prog 42 #[.pointer (some ⟨g, 0, none⟩)] w (DrawF N g (m + 70) 21 w) := by
  have hg := h.lt
  have RX := Lib.hid (h.below (((Below.refl w.heap.size w).alloc (Nat.le_refl _) (.cells #[.slice none 0 0] 29)).alloc (by simp) (.cells (ints [0, 1, 2, 3]).toArray 3)) hg)
  have OX := Lib.hid (SlI.newAt (lo := w.heap.size) (w := w.alloc (.cells #[.slice none 0 0] 29)) (w.heap.size + 1) (by simp) [0, 1, 2, 3] (by omega))
  have BR := Lib.hid ((Blk.new w 29 #[.slice none 0 0]).alloc (.cells (ints [0, 1, 2, 3]).toArray 3))
  have TX := Lib.hid (((Turn.refl g (g + 1) w).alloc (.cells #[.slice none 0 0] 29)).alloc (.cells (ints [0, 1, 2, 3]).toArray 3))
  clear h
  go_enter Try.func42, Try.ntmps42
  go_wp2_with fail
  refine (goodFormula [0, 1, 2, 3] (by decide) (by decide) (by omega) RX.out OX.out hg).mono ?_
  rintro e w3 ⟨A, c, ps, rfl, hp1, hp2, s3, r3, t3⟩
  have hz3 := t3.size
  simp only [World.size_alloc] at hz3
  obtain ⟨n, hn⟩ : ∃ n, ps.length = n := ⟨_, rfl⟩
  rw [hn] at hp1 hp2 ⊢
  have HN := Lib.hid hn
  have K4 := Lib.hid (show FI w N g (m + 60) (w3.alloc (.cells #[.slice A n c] 29)) w3.heap.size (w.heap.size + 2) w3.heap.size A c n ps from
    { sp := (s3.mono (by simp) (Nat.le_refl _)).alloc _, ln := HN.out, bf := Blk.new _ _ _, br := (t3.blk BR.out (.inr (by omega))).alloc _, rd := r3.below ((Below.refl _ _).alloc (Nat.le_refl _) _) r3.lt, tn := (TX.out.trans t3).alloc _, gw := hg, l1 := by omega, l2 := by omega, l5 := by simp, ap := .inl (Nat.le_refl _) })
  obtain ⟨b, hb⟩ : ∃ b, w3.heap.size = b := ⟨_, rfl⟩
  have hb2 : w.heap.size + 2 ≤ b := by omega
  have HB := Lib.hid hb
  rw [hb] at K4
  clear s3 r3 t3 hn hz3 RX OX BR TX
  go_wp2_with fail
  refine (pick _ N g (m + 60) _ (by omega) K4.out.rd).mono ?_; rintro e w5 ⟨v, rfl, hv0, hv, r5, t5⟩
  obtain ⟨k, rfl⟩ := Int.eq_ofNat_of_zero_le hv0
  have hk : k < n := by omega
  have K5 := Lib.hid (K4.out.pick r5 t5)
  clear r5 t5 K4 hv HB hb
  go_wp2_with fail
  refine (pick _ N g (m + 60 + 1) _ (by omega) K5.out.rd).mono ?_; rintro e w6 ⟨d, rfl, hd0, hd, r6, t6⟩
  have K := Lib.hid (K5.out.pick r6 t6)
  have hd24 : d < 24 := by omega
  clear r6 t6 K5 hd
  by_cases hd0 : d = 0
  case pos =>
    subst hd0; clear hd0 hd24
    have KA := Lib.hid (show FI w N g (m + 60 + 1 + 1) (w6.alloc (.cells #[.int .i64 (-1), .int .i64 (9), .int .i64 (8)] 3)).drew b (w.heap.size + 2) b A c n ps from (K.out.alloc _).drew)
    have OA := Lib.hid (show SlI (w6.alloc (.cells #[.int .i64 (-1), .int .i64 (9), .int .i64 (8)] 3)).drew w.heap.size (w6.heap.size + 1) (some ⟨w6.heap.size, 0, none⟩) 3 [-1, 9, 8] from (SlI.newAt (lo := w.heap.size) (w := w6) w6.heap.size rfl [-1, 9, 8] (by have := K.out.br.lt; omega)).drewN 1)
    have hk0 : (0 : Int) ≤ (k : Int) := Int.natCast_nonneg _
    have hk1 : (k : Int) < (n : Int) := by omega
    have AFT := Lib.hid (fun (w7 : World) (y : Int) (r7 : Rdr w7 N g (m + 60 + 1 + 1 + 1)) (t7 : Turn g (g + 1) (w6.alloc (.cells #[.int .i64 (-1), .int .i64 (9), .int .i64 (8)] 3)).drew w7) => (show FI w N g (m + 60 + 1 + 1 + 1) w7 b (w.heap.size + 2) b A c n ps from KA.out.pick r7 t7))
    obtain ⟨ga, oa, hA, _⟩ := K.out.at_ hk
    subst hA
    have S1 := K.out.drew.bf.cell 0
    have S2 : (w6.alloc (.cells #[.int .i64 (-1), .int .i64 (9), .int .i64 (8)] 3)).drew.cell? ⟨b, 0, none⟩ = some (.slice (some ⟨ga, oa, none⟩) n c) := KA.out.bf.cell 0
    go_wp2_with fail
    go_region_held3 (fun w' => w'.cell? ⟨b, 0, none⟩ = some (.slice (some ⟨ga, oa, none⟩) n c))
      (first | go_keep | exact S2 | exact S1 | exact S7 | exact S9)
      ((first | (go_at_call 64; refine (one (n := 3) [-1, 9, 8] rfl (by omega) (by omega) N g (m + 60 + 1 + 1) (by omega) KA.out.rd OA.out hg).mono ?_; rintro e w7 ⟨y, _, rfl, r7, t7⟩; have K7 := Lib.hid (AFT.out w7 y r7 t7); have S7 := K7.out.bf.cell 0; obtain ⟨ga', oa', hA', hst⟩ := K7.out.at_ hk; injection hA' with hA'; injection hA' with hA1 hA2; subst hA1; subst hA2; obtain ⟨⟨u7, hc7⟩, hf7, hs7⟩ := hst 0 (by omega); (try simp only [Nat.add_zero] at hc7 hf7 hs7); obtain ⟨ps9, k9⟩ := hs7 y; have S9 := k9.bf.cell 0; have K9 := Lib.hid k9; clear hst hs7 k9 r7 t7)))
    all_goals
      have HF := Lib.hid (K9.out.fin (M := m + 70) (L := 21) (by omega) (by omega) (by omega))
      have cf := K9.out.bf.cell 0
      have cr := K9.out.br.cell 0
      have fr := K9.out.br.frozen 0
      have E := Lib.hid ((K9.out.br.set_ 0 (.slice (some ⟨ga, oa, none⟩) n c)).cell 0)
      clear K K7 K9 AFT KA OA S1 S2 S7 S9
      go_wp2_with fail
      have HE := E.out
      simp at HE
      refine bodyPost_ret (v := .agg #[.slice (some ⟨ga, oa, none⟩) n c]) (by simp [results, Try.results42, go_sem, HE]) rfl HF.out
  case neg =>
  have hd0' : (d == 0) = false := by rw [beq_eq_false_iff_ne]; exact hd0
  by_cases hd1 : d = 1
  case pos =>
    subst hd1; clear hd0 hd24
    have KA := Lib.hid (show FI w N g (m + 60 + 1 + 1) (w6.alloc (.cells #[.int .i64 ((k : Int)), .int .i64 (-1), .int .i64 (5)] 3)).drew b (w.heap.size + 2) b A c n ps from (K.out.alloc _).drew)
    have OA := Lib.hid (show SlI (w6.alloc (.cells #[.int .i64 ((k : Int)), .int .i64 (-1), .int .i64 (5)] 3)).drew w.heap.size (w6.heap.size + 1) (some ⟨w6.heap.size, 0, none⟩) 3 [(k : Int), -1, 5] from (SlI.newAt (lo := w.heap.size) (w := w6) w6.heap.size rfl [(k : Int), -1, 5] (by have := K.out.br.lt; omega)).drewN 1)
    have hk0 : (0 : Int) ≤ (k : Int) := Int.natCast_nonneg _
    have hk1 : (k : Int) < (n : Int) := by omega
    have AFT := Lib.hid (fun (w7 : World) (y : Int) (r7 : Rdr w7 N g (m + 60 + 1 + 1 + 1)) (t7 : Turn g (g + 1) (w6.alloc (.cells #[.int .i64 ((k : Int)), .int .i64 (-1), .int .i64 (5)] 3)).drew w7) => (show FI w N g (m + 60 + 1 + 1 + 1) w7 b (w.heap.size + 2) b A c n ps from KA.out.pick r7 t7))
    obtain ⟨ga, oa, hA, _⟩ := K.out.at_ hk
    subst hA
    have S1 := K.out.drew.bf.cell 0
    have S2 : (w6.alloc (.cells #[.int .i64 ((k : Int)), .int .i64 (-1), .int .i64 (5)] 3)).drew.cell? ⟨b, 0, none⟩ = some (.slice (some ⟨ga, oa, none⟩) n c) := KA.out.bf.cell 0
    go_wp2_with fail
    go_region_held3 (fun w' => w'.cell? ⟨b, 0, none⟩ = some (.slice (some ⟨ga, oa, none⟩) n c))
      (first | go_keep | exact S2 | exact S1 | exact S7 | exact S9)
      ((first | (go_at_call 64; refine (one (n := 3) [(k : Int), -1, 5] rfl (by omega) (by omega) N g (m + 60 + 1 + 1) (by omega) KA.out.rd OA.out hg).mono ?_; rintro e w7 ⟨y, _, rfl, r7, t7⟩; have K7 := Lib.hid (AFT.out w7 y r7 t7); have S7 := K7.out.bf.cell 0; obtain ⟨ga', oa', hA', hst⟩ := K7.out.at_ hk; injection hA' with hA'; injection hA' with hA1 hA2; subst hA1; subst hA2; obtain ⟨⟨u7, hc7⟩, hf7, hs7⟩ := hst 1 (by omega); (try simp only [Nat.add_zero] at hc7 hf7 hs7); obtain ⟨ps9, k9⟩ := hs7 y; have S9 := k9.bf.cell 0; have K9 := Lib.hid k9; clear hst hs7 k9 r7 t7)))
    all_goals
      have HF := Lib.hid (K9.out.fin (M := m + 70) (L := 21) (by omega) (by omega) (by omega))
      have cf := K9.out.bf.cell 0
      have cr := K9.out.br.cell 0
      have fr := K9.out.br.frozen 0
      have E := Lib.hid ((K9.out.br.set_ 0 (.slice (some ⟨ga, oa, none⟩) n c)).cell 0)
      clear K K7 K9 AFT KA OA S1 S2 S7 S9
      go_wp2_with fail
      have HE := E.out
      simp at HE
      refine bodyPost_ret (v := .agg #[.slice (some ⟨ga, oa, none⟩) n c]) (by simp [results, Try.results42, go_sem, HE]) rfl HF.out
  case neg =>
  have hd1' : (d == 1) = false := by rw [beq_eq_false_iff_ne]; exact hd1
  by_cases hd2 : d = 2
  case pos =>
    subst hd2; clear hd0 hd24
    have KA := Lib.hid (show FI w N g (m + 60 + 1 + 1) (w6.alloc (.cells #[.int .i64 (-1), .int .i64 (100), .int .i64 (1)] 3)).drew b (w.heap.size + 2) b A c n ps from (K.out.alloc _).drew)
    have OA := Lib.hid (show SlI (w6.alloc (.cells #[.int .i64 (-1), .int .i64 (100), .int .i64 (1)] 3)).drew w.heap.size (w6.heap.size + 1) (some ⟨w6.heap.size, 0, none⟩) 3 [-1, 100, 1] from (SlI.newAt (lo := w.heap.size) (w := w6) w6.heap.size rfl [-1, 100, 1] (by have := K.out.br.lt; omega)).drewN 1)
    have hk0 : (0 : Int) ≤ (k : Int) := Int.natCast_nonneg _
    have hk1 : (k : Int) < (n : Int) := by omega
    have AFT := Lib.hid (fun (w7 : World) (y : Int) (r7 : Rdr w7 N g (m + 60 + 1 + 1 + 1)) (t7 : Turn g (g + 1) (w6.alloc (.cells #[.int .i64 (-1), .int .i64 (100), .int .i64 (1)] 3)).drew w7) => (show FI w N g (m + 60 + 1 + 1 + 1) w7 b (w.heap.size + 2) b A c n ps from KA.out.pick r7 t7))
    obtain ⟨ga, oa, hA, _⟩ := K.out.at_ hk
    subst hA
    have S1 := K.out.drew.bf.cell 0
    have S2 : (w6.alloc (.cells #[.int .i64 (-1), .int .i64 (100), .int .i64 (1)] 3)).drew.cell? ⟨b, 0, none⟩ = some (.slice (some ⟨ga, oa, none⟩) n c) := KA.out.bf.cell 0
    go_wp2_with fail
    go_region_held3 (fun w' => w'.cell? ⟨b, 0, none⟩ = some (.slice (some ⟨ga, oa, none⟩) n c))
      (first | go_keep | exact S2 | exact S1 | exact S7 | exact S9)
      ((first | (go_at_call 64; refine (one (n := 3) [-1, 100, 1] rfl (by omega) (by omega) N g (m + 60 + 1 + 1) (by omega) KA.out.rd OA.out hg).mono ?_; rintro e w7 ⟨y, _, rfl, r7, t7⟩; have K7 := Lib.hid (AFT.out w7 y r7 t7); have S7 := K7.out.bf.cell 0; obtain ⟨ga', oa', hA', hst⟩ := K7.out.at_ hk; injection hA' with hA'; injection hA' with hA1 hA2; subst hA1; subst hA2; obtain ⟨⟨u7, hc7⟩, hf7, hs7⟩ := hst 4 (by omega); (try simp only [Nat.add_zero] at hc7 hf7 hs7); obtain ⟨ps9, k9⟩ := hs7 y; have S9 := k9.bf.cell 0; have K9 := Lib.hid k9; clear hst hs7 k9 r7 t7)))
    all_goals
      have HF := Lib.hid (K9.out.fin (M := m + 70) (L := 21) (by omega) (by omega) (by omega))
      have cf := K9.out.bf.cell 0
      have cr := K9.out.br.cell 0
      have fr := K9.out.br.frozen 0
      have E := Lib.hid ((K9.out.br.set_ 0 (.slice (some ⟨ga, oa, none⟩) n c)).cell 0)
      clear K K7 K9 AFT KA OA S1 S2 S7 S9
      go_wp2_with fail
      have HE := E.out
      simp at HE
      refine bodyPost_ret (v := .agg #[.slice (some ⟨ga, oa, none⟩) n c]) (by simp [results, Try.results42, go_sem, HE]) rfl HF.out
  case neg =>
  have hd2' : (d == 2) = false := by rw [beq_eq_false_iff_ne]; exact hd2
  by_cases hd3 : d = 3
  case pos =>
    subst hd3; clear hd0 hd24
    have ARM := Lib.hid (fun (w7 : World) (b7 : Below w6.drew.heap.size w6.drew w7) => (show w7.cell? ⟨b, 0, none⟩ = some (.slice A n c) ∧ (w7.alloc (.cells #[.int .i64 0, .int .i64 (-1), .int .i64 (-1), .int .i64 (-1), .int .i64 1] 50)).cell? ⟨b, 0, none⟩ = some (.slice A n c) ∧ ∃ A9 c9 lo9 hi9 w9 ps9, (Builtin.append_ #[27, 27] 27 #[.slice A n c, .slice (some ⟨w7.heap.size, 0, none⟩) 1 1]).run Try.prog (w7.alloc (.cells #[.int .i64 0, .int .i64 (-1), .int .i64 (-1), .int .i64 (-1), .int .i64 1] 50)) = .ok (.slice A9 (n + 1) c9) w9 ∧ w9.cell? ⟨b, 0, none⟩ = some (.slice A n c) ∧ w9.frozen? ⟨b, 0, none⟩ = false ∧ Hid (FI w N g (m + 60 + 1 + 1) (w9.setCell ⟨b, 0, none⟩ (.slice A9 (n + 1) c9)) b lo9 hi9 A9 c9 (n + 1) ps9) from by
      have K7 := K.out.drew.below b7
      have KA : FI w N g _ (w7.alloc (.cells #[.int .i64 0, .int .i64 (-1), .int .i64 (-1), .int .i64 (-1), .int .i64 1] 50)) _ _ _ _ _ _ _ := K7.alloc _
      obtain ⟨A9, c9, lo9, hi9, w9, hrun, s9, d9, t9⟩ := run_appP (w := (w7.alloc (.cells #[.int .i64 0, .int .i64 (-1), .int .i64 (-1), .int .i64 (-1), .int .i64 1] 50))) 27 ps (numP 1) KA.ln KA.sp (Blk.new _ _ _) (by omega)
      obtain ⟨b9, k9⟩ := KA.app s9 (by rw [List.length_append, KA.ln]; rfl) d9 t9
      exact ⟨K7.bf.cell 0, KA.bf.cell 0, A9, c9, lo9, hi9, w9, _, hrun, b9.cell 0, b9.frozen 0, k9⟩))
    have S1 := K.out.drew.bf.cell 0
    go_wp2_with fail
    go_region_with (go_at_call 65; refine (show Calls Try.prog 65 #[.int .i64 1] w6.drew (fun e w' => e = .returned (.agg #[.int .i64 0, .int .i64 (-1), .int .i64 (-1), .int .i64 (-1), .int .i64 1]) ∧ Below w6.drew.heap.size w6.drew w') from numberPart 1).mono ?_; rintro e w7 ⟨rfl, b7⟩; obtain ⟨c7, ca7, A9, c9, lo9, hi9, w9, ps9, hrun, e9, f9, k9⟩ := ARM.out w7 b7; clear b7)
    all_goals
      have K9 := k9; clear k9
      have HF := Lib.hid (K9.out.fin (M := m + 70) (L := 21) (by omega) (by omega) (by omega))
      have cf := K9.out.bf.cell 0
      have cr := K9.out.br.cell 0
      have fr := K9.out.br.frozen 0
      have E := Lib.hid ((K9.out.br.set_ 0 (.slice A9 (n + 1) c9)).cell 0)
      clear K K9 ARM hrun c7 ca7 e9 f9 S1
      go_wp2_with fail
      have HE := E.out
      simp at HE
      refine bodyPost_ret (v := .agg #[.slice A9 (n + 1) c9]) (by simp [results, Try.results42, go_sem, HE]) rfl HF.out
  case neg =>
  have hd3' : (d == 3) = false := by rw [beq_eq_false_iff_ne]; exact hd3
  have HF := Lib.hid (K.out.fin (M := m + 70) (L := 21) (by omega) (by omega) (by omega))
  have cf := K.out.bf.cell 0
  have cr := K.out.br.cell 0
  have fr := K.out.br.frozen 0
  have E := Lib.hid ((K.out.br.set_ 0 (.slice A n c)).cell 0)
  clear K
  go_wp2_with fail
  have HE := E.out
  simp at HE
  refine bodyPost_ret (v := .agg #[.slice A n c]) (by simp [results, Try.results42, go_sem, HE]) rfl HF.out

/-- a drawn formula, handed out -/
def DrawnF (w : World) (e : Ending) (w' : World) : Prop :=
  ∃ (A : Option Addr) (c : Nat) (ps : List Prt), e = .returned (.agg #[.slice A ps.length c]) ∧ 1 ≤ ps.length ∧ ps.length ≤ 21 ∧ RdP w' w'.heap.size A ps ∧ Below w.heap.size w w'
set_option maxRecDepth 100000 in
set_option maxHeartbeats 800000 in
theorem drawDeepOf {A : Option Addr} {c n : Nat} {w : World} (bs : List Int) (ln : bs.length = n) (hn : n ≤ c) (hc : c ≤ 9223372036854775807) (hx : ∀ x ∈ bs, (Lit.int .u8 x).wf = true) (hr : Rd w w.heap.size A (bytes8 bs)) :
    Calls Try.prog 17 #[.slice A n c] w (DrawnF w) := by
  subst ln
  have B1 := Lib.hid ((Below.refl w.heap.size w).alloc (Nat.le_refl _) (.cells #[.slice none 0 0] 29))
  have K1 := Lib.hid (Blk.new w 29 #[.slice none 0 0])
  have HR := Lib.hid ((hr.belowLe B1.out (Nat.le_refl _)).more (show w.heap.size ≤ (w.alloc (.cells #[.slice none 0 0] 29)).heap.size by simp)); clear hr
  have HX := Lib.hid hx; clear hx
  go_enter Try.func17, Try.ntmps17
  go_wp2_with fail
  refine (newReader bs rfl hn hc HX.out HR.out).mono ?_; rintro e w1 ⟨rfl, r1, b1, z1⟩
  simp only [World.size_alloc] at r1
  have R1 := Lib.hid r1
  have K2 := Lib.hid (K1.out.below b1 K1.out.lt)
  have B2 := Lib.hid (B1.out.trans (b1.mono (by simp)))
  simp only [World.size_alloc] at z1
  have HZ := Lib.hid z1
  clear r1 b1 z1 HR HX
  go_wp2_with fail
  refine (someFormula (m := 0) (Nat.zero_le _) R1.out).mono ?_; rintro e w2 ⟨A2, c2, ps, rfl, hp1, hp2, s2, r2, t2⟩
  have hz2 := t2.size
  rw [HZ.out] at hz2
  have k2 := t2.blk K2.out (.inl (by simp))
  have cr := k2.cell 0
  have fr := k2.frozen 0
  have E := Lib.hid ((k2.set_ 0 (.slice A2 ps.length c2)).cell 0)
  have B3 := Lib.hid (Below.new B2.out t2 (by simp) (by have := B2.out.size; omega))
  have S2 := Lib.hid s2
  clear k2 s2 r2 t2
  go_wp2_with fail
  have HE := E.out
  simp at HE
  refine bodyPost_ret (v := .agg #[.slice A2 ps.length c2]) (by simp [results, Try.results17, go_sem, HE]) rfl ?_
  have t3 : Turn w.heap.size (w.heap.size + 1) w2 (w2.setCell ⟨w.heap.size, 0, none⟩ (.slice A2 ps.length c2)) := (Turn.refl _ _ w2).setCell (p := ⟨w.heap.size, 0, none⟩) (Nat.le_refl _) (.inl (Nat.lt_succ_self _)) _
  exact ⟨A2, c2, ps, rfl, hp1, hp2, ((S2.out.turn t3 (.inr (by rw [HZ.out]; omega))).rd).more t3.size, Below.new B3.out t3 (Nat.le_refl _) (by omega)⟩
end Go.Proofs.Ytlinngohbghimaa
