/-
  impl.clearOwner.
-/
import Derived.Test.YtnlbmiangbahgaaOwnI
import Derived.Test.YtnlbmiangbahgaaFence
namespace Go.Proofs.Ytnlbmiangbahgaa
open Go.RowKit Go.Shelf
attribute [local go_sem] Oper.semAt_some
attribute [-go_sem] Builtin.append_

theorem SlP.own {W W' : World} {row : Option Nat} {B lo hi c : Nat} {A : Option Addr} {ps : List (Own × Hd)} (h : SlP W lo hi A c ps) (hg : W.grownBy W' row) (hr : ∀ r, row = some r → B ≤ r ∧ ∃ o : Obj, W.heap[r]? = some o ∧ o.isCells = false) : SlP W' lo hi A c ps :=
  ⟨h.row.own hg hr, fun i x hx => (h.cl i x hx).own hg hr, fun i x hx => (h.cx i x hx).own hg hr, h.d1, h.d2, h.d3⟩
abbrev KidsA (os : List Own) (P : Nat) := {x : Nat × Nat // P < x.2 ∧ x.2 < os.length}
def encK {os : List Own} {P : Nat} (x : KidsA os P) : Array Value := #[.int .i64 (x.1.1 : Int), .int .i64 (x.1.2 : Int)]
theorem back_kids {os : List Own} {P : Nat} (ha : Ahead os) {ks : List Int} (hk : kidsF os (P : Int) = ks) : ∃ xs : List (KidsA os P), xs.length = ks.length ∧
    (∀ (j t : Nat) (hj : j < ks.length) (ht : t < xs.length), j + t + 1 = ks.length → encK xs[t] = #[.int .i64 (j : Int), .int .i64 ks[j]]) ∧ xs.map (fun x => (x.1.2 : Int)) = ks.reverse := by
  have h : ∀ t : Fin ks.length, ∃ i : Nat, ks[ks.length - 1 - t.1]'(by omega) = (i : Int) ∧ (P < i ∧ i < os.length) := fun t => by
    obtain ⟨i, h1, h2, x, h3, h4, _⟩ := kids_in (os := os) (o := (P : Int)) (k := ks[ks.length - 1 - t.1]'(by omega)) (by rw [hk]; exact List.getElem_mem _)
    exact ⟨i, h1, by have := (ha i x h3).2; omega, h2⟩
  have h' : ∃ f : Fin ks.length → Nat, ∀ t : Fin ks.length, ks[ks.length - 1 - t.1]'(by omega) = (f t : Int) ∧ (P < f t ∧ f t < os.length) := ⟨fun t => (h t).choose, fun t => (h t).choose_spec⟩
  obtain ⟨f, hf⟩ := h'
  refine ⟨List.ofFn fun t => ⟨(ks.length - 1 - t.1, f t), (hf t).2⟩, by simp, fun j t hj ht hjt => ?_, ?_⟩
  · have ht' : t < ks.length := by simpa using ht
    have e : ks.length - 1 - t = j := by omega
    have e2 := (hf ⟨t, ht'⟩).1
    simp only [List.getElem_ofFn, encK]
    simp only [e] at e2 ⊢
    rw [e2]
  · apply List.ext_getElem
    · simp
    · intro t h1 h2
      simp only [List.getElem_map, List.getElem_ofFn, List.getElem_reverse]
      exact (hf ⟨t, by simpa using h1⟩).1.symm
def encL (x : Nat × Int) : Array Value := #[.int .i64 (x.1 : Int), .int .i64 x.2]
theorem back_ints (ks : List Int) : ∃ xs : List (Nat × Int), xs.length = ks.length ∧
    (∀ (j t : Nat) (hj : j < ks.length) (ht : t < xs.length), j + t + 1 = ks.length → encL xs[t] = #[.int .i64 (j : Int), .int .i64 ks[j]]) ∧ xs.map Prod.snd = ks.reverse := by
  refine ⟨List.ofFn fun t : Fin ks.length => (ks.length - 1 - t.1, ks[ks.length - 1 - t.1]'(by omega)), by simp, fun j t hj ht hjt => ?_, ?_⟩
  · have e : ks.length - 1 - t = j := by omega
    simp only [List.getElem_ofFn, encL]
    simp only [e]
  · apply List.ext_getElem
    · simp
    · intro t h1 h2
      simp

set_option maxRecDepth 100000 in
set_option maxHeartbeats 3200000 in
theorem implClear (m : Nat) : ∀ (ps : List (Own × Hd)) (os : List Own) (A : Option Addr) (c n lo hi P : Nat) (w : World), ps.map Prod.fst = os → os.length = n → n ≤ 1048576 → Ahead os → clTot os ≤ 1099511627776 → P < n → n ≤ P + m → SlP w lo hi A c ps → hi ≤ w.heap.size → lo ≤ hi →
    Calls Try.prog 47 #[.slice A n c, .int .i64 P] w (Cleared w lo hi A c (clearG m os P)) := by
  induction m with
  | zero => intro ps os A c n lo hi P w _ _ _ _ _ h1 h2; omega
  | succ m ih =>
    intro ps os A c n lo hi P w hps hn hnn ha hct hP hm hs hhi hlo
    subst hn
    have IH := Lib.hid ih; clear ih
    have HA := Lib.hid ha
    have HCT := Lib.hid hct
    have HPS := Lib.hid hps
    obtain ⟨hd0, hk0⟩ := at_fst hps hP
    obtain ⟨g, o, rfl⟩ : ∃ g o, A = some ⟨g, o, none⟩ := by obtain ⟨g, o, h, _⟩ := hs.cells hk0; exact ⟨g, o, h⟩
    obtain ⟨w0, hw0⟩ : ∃ w0 : World, w0 = (w.alloc (.cells #[.slice (some ⟨g, o, none⟩) os.length c] 23)).alloc (.cells #[.slice none 0 0] 29) := ⟨_, rfl⟩
    have hz0 : w0.heap.size = w.heap.size + 2 := by rw [hw0]; simp
    have bl0 : Blk w0 w.heap.size 23 #[.slice (some ⟨g, o, none⟩) os.length c] := by rw [hw0]; exact (Blk.new _ _ _).alloc _
    have bm0 : Blk w0 (w.heap.size + 1) 29 #[.slice none 0 0] := by
      rw [hw0]; have := Blk.new (w.alloc (.cells #[.slice (some ⟨g, o, none⟩) os.length c] 23)) 29 #[.slice none 0 0]; rwa [World.size_alloc] at this
    have t0 : Below w.heap.size w w0 := by rw [hw0]; exact ((Below.refl _ w).alloc (Nat.le_refl _) _).alloc (by simp) _
    have p0 : SlP w0 lo hi (some ⟨g, o, none⟩) c ps := hs.below t0 hhi
    have KC := Lib.hid (implKids (c := c) (o := (P : Int)) os rfl hnn (show RdO w0 hi (some ⟨g, o, none⟩) os from by rw [← hps]; exact p0.rd) (by omega))
    obtain ⟨ks, hks⟩ : ∃ ks, kidsF os (P : Int) = ks := ⟨_, rfl⟩
    have HKS := Lib.hid hks
    have HKL := Lib.hid (show ks.length ≤ os.length from by rw [← hks]; exact selF_le _ _)
    rw [hks] at KC
    have CG := Lib.hid (show clearG (m + 1) os (P : Int) = (wipe (ks.reverse.foldl (stepG (clearG m)) (os, [])).1 P, (ks.reverse.foldl (stepG (clearG m)) (os, [])).2 ++ (clAt (ks.reverse.foldl (stepG (clearG m)) (os, [])).1 P).reverse) from by rw [clearG, hks])
    have BL0 := Lib.hid bl0
    have BM0 := Lib.hid bm0
    have T0 := Lib.hid t0
    have P0 := Lib.hid p0
    have cl0 := bl0.cell 0
    have HZ0 := Lib.hid hz0
    clear hks hps ha hct hs hk0 bl0 bm0 t0 p0 hz0
    subst hw0
    refine (callsIn_wide (n := 6)).1 ?_
    refine callsIn_of_wp_marks Try.func47 rfl trivial ?_ rfl
    simp only [Try.ntmps47, List.size_toArray, List.length_cons, List.length_nil, Nat.reduceAdd, Nat.reduceSub, Array.replicate_succ, Array.replicate_zero, List.push_toArray, List.append_toArray, List.nil_append, List.cons_append]
    gi_wp2_with (first
      | (refine ⟨trivial, ?_⟩; gi_at_call 46; refine (callsIn_wide.2 KC.out).mono ?_; rintro e w1 ⟨A3, c3, rfl, s1, b1⟩)
      | (refine ⟨trivial, ?_⟩; gi_at_call 56; refine (callsIn_wide.2 backward).mono ?_; rintro e w' ⟨rfl, rfl⟩))
    have hzz := HZ0.out
    have hz1 := b1.size
    rw [hzz] at hz1
    obtain ⟨wl, hwl⟩ : ∃ wl : World, wl = w1.alloc (.cells #[.slice A3 ks.length c3] 29) := ⟨_, rfl⟩
    have hzl : wl.heap.size = w1.heap.size + 1 := by rw [hwl]; simp
    have bb : Blk wl w1.heap.size 29 #[.slice A3 ks.length c3] := by rw [hwl]; exact Blk.new _ _ _
    have blk : Blk wl w.heap.size 23 #[.slice (some ⟨g, o, none⟩) os.length c] := by rw [hwl]; exact (BL0.out.below b1 (by rw [hzz]; omega)).alloc _
    have bmk : Blk wl (w.heap.size + 1) 29 #[.slice none 0 0] := by rw [hwl]; exact (BM0.out.below b1 (by rw [hzz]; omega)).alloc _
    have sk : SlI wl (w.heap.size + 2) w1.heap.size A3 c3 ks := by rw [hwl]; exact (s1.mono (Nat.le_of_eq hzz.symm) (Nat.le_refl _)).alloc _
    have pk : SlP wl lo hi (some ⟨g, o, none⟩) c ps := by rw [hwl]; exact (P0.out.below b1 (by rw [hzz]; omega)).alloc _
    have tk : Turn lo hi w wl := by rw [hwl]; exact (Below.turn (T0.out.trans (b1.mono (by rw [hzz]; omega))) lo hi).alloc _
    rw [← hwl]
    clear hwl BL0 BM0 T0 P0 KC cl0 HZ0 hzz s1 b1
    obtain ⟨b, hb1, hb2⟩ := sk.home w1.heap.size
    have hbr : w.heap.size + 2 ≤ b ∧ b < wl.heap.size := by rcases hb1 with rfl | h <;> omega
    obtain ⟨xs, hxl, hxe, hxm⟩ := back_kids HA.out HKS.out
    have hbx := bb.cell 0
    refine wpIn_rangeFunc_ownG rfl (by decide) (gf := 60) (lb := #[.pointer (some ⟨w1.heap.size, 0, none⟩)]) rfl trivial (enters_of Try.func60 (by kernel_rfl) rfl)
      (backward_stops (Bs := w1.heap.size) (b := b) Fence.wide 5 trivial rfl (by decide) ks xs encK (by have := HKL.out; omega) hxl hxe (by omega) hbx sk.rd (by omega) hb2)
      keptBB_t (keptBB_b (by omega) hbr.2) (Below.refl _ _) (fun _ => rfl)
      (fun pre W => ∃ (acc : List Own × List Int) (qs : List (Own × Hd)) (A2 : Option Addr) (c2 : Nat), acc = (pre.map fun x => (x.1.2 : Int)).foldl (stepG (clearG m)) (os, []) ∧ qs.map Prod.fst = acc.1 ∧ SlP W lo hi (some ⟨g, o, none⟩) c qs ∧ SlI W wl.heap.size W.heap.size A2 c2 acc.2 ∧
        Blk W (w.heap.size + 1) 29 #[.slice A2 acc.2.length c2] ∧ Blk W w.heap.size 23 #[.slice (some ⟨g, o, none⟩) os.length c] ∧ Turn lo hi w W ∧ wl.heap.size ≤ W.heap.size)
      (fun _ _ _ => False) ?hI (fun _ _ _ _ _ hs _ _ => hs) ?h0
      (fun x => { tmps := #[.slice (some ⟨g, o, none⟩) os.length c, .int .i64 (P : Int), .pointer (some ⟨w.heap.size, 0, none⟩), undef, .slice none 0 0, .pointer (some ⟨w.heap.size + 1, 0, none⟩), undef, .int .i64 (x.1.2 : Int), undef, undef,
        .slice (some ⟨g, o, none⟩) os.length c, .int .i64 (P : Int), .slice A3 ks.length c3, .func (.func 60) #[] #[.pointer (some ⟨w1.heap.size, 0, none⟩)], .int .i64 (x.1.1 : Int), .int .i64 (x.1.2 : Int), undef, undef, undef, undef, undef, undef, undef, undef, undef, undef, undef, undef, undef, undef, undef, undef, undef, undef, undef, undef, undef, undef, undef, undef, undef, undef, undef], defers := [] }) ?assign ?body ?done ?stop
    case hI =>
      rintro pre W W' row ⟨acc, qs, A2, c2, h1, h2, h3, h4, h5, h6, h7, h8⟩ hg hr
      exact ⟨acc, qs, A2, c2, h1, h2, h3.own hg hr, h4.ownTop hg hr, h5.own hg hr, h6.own hg hr, h7.own hg hr (by omega), Nat.le_trans h8 hg.size⟩
    case h0 => exact ⟨(os, []), ps, none, 0, rfl, HPS.out, pk, SlI.nil, bmk, blk, tk, Nat.le_refl _⟩
    case assign =>
      intro l x W K hK
      clear hbx
      dsimp only [encK]
      gi_wp2
      exact hK
    case stop =>
      rintro D c pre W _ _ h _
      exact h.elim
    case body =>
      rintro l pre ⟨⟨j, i⟩, hPi, hio⟩ W ⟨acc, qs, A2, c2, hacc, hqs, hp, ho, bm, bl, ht, hB⟩ hlt
      dsimp only at hPi hio ⊢
      have hd : 1 ≤ 6 - 1 - 1 := by decide
      have hmx : Try.prog.follows .mixedOrders = true := by kernel_rfl
      have hkeep : Keep os acc.1 := by rw [hacc]; exact keep_fold (clearG m) (keep_clearG m) _ (os, [])
      have htot : clTot acc.1 + acc.2.length = clTot os := by rw [hacc]; have := clTot_fold (clearG m) (clTot_clearG m) (pre.map fun x => (x.1.2 : Int)) (os, []); simpa using this
      have bmc := bm.cell 0
      have blc := bl.cell 0
      have IHC := Lib.hid (IH.out qs acc.1 (some ⟨g, o, none⟩) c os.length lo hi i W.drew hqs hkeep.1 hnn (hkeep.ahead HA.out) (by have := HCT.out; omega) hio (by omega) (show SlP W.drew lo hi (some ⟨g, o, none⟩) c qs from ⟨hp.row, hp.cl, hp.cx, hp.d1, hp.d2, hp.d3⟩) (Nat.le_trans hhi ht.size) hlo)
      obtain ⟨q, hq⟩ : ∃ q, clearG m acc.1 (i : Int) = q := ⟨_, rfl⟩
      have hqk : Keep acc.1 q.1 := by rw [← hq]; exact keep_clearG m acc.1 (i : Int)
      have hqt : clTot q.1 + q.2.length = clTot acc.1 := by rw [← hq]; exact clTot_clearG m acc.1 (i : Int)
      rw [hq] at IHC
      have hq1l : i < q.1.length := by rw [hqk.1, hkeep.1]; exact hio
      have hcct := HCT.out
      have ARM := Lib.hid (show ∀ w2 A4 c4 qs2, qs2.map Prod.fst = q.1 → SlP w2 lo hi (some ⟨g, o, none⟩) c qs2 → SlI w2 W.drew.heap.size w2.heap.size A4 c4 q.2 → Turn lo hi W.drew w2 →
          w2.cell? ⟨w.heap.size + 1, 0, none⟩ = some (.slice A2 acc.2.length c2) ∧ ∃ A5 c5 w4, (Builtin.append_ #[29, 29] 29 #[.slice A2 acc.2.length c2, .slice A4 q.2.length c4]).run Try.prog w2 = .ok (.slice A5 (acc.2.length + q.2.length) c5) w4 ∧ SlI w4 wl.heap.size w4.heap.size A5 c5 (acc.2 ++ q.2) ∧ Turn wl.heap.size w2.heap.size w2 w4 ∧ TurnIn (live A2 c2) w2 w4 ∧
            w4.cell? ⟨w.heap.size + 1, 0, none⟩ = some (.slice A2 acc.2.length c2) ∧ w4.frozen? ⟨w.heap.size + 1, 0, none⟩ = false ∧ w4.cell? ⟨w.heap.size, 0, none⟩ = some (.slice (some ⟨g, o, none⟩) os.length c) ∧
            w4.cell? ⟨g, o + i * 4 + 1, none⟩ = some (.bool q.1[i].op) ∧ w4.frozen? ⟨g, o + i * 4 + 1, none⟩ = false from by
        intro w2 A4 c4 qs2 hqs2 p2 s2 t2
        have hz2 : W.heap.size ≤ w2.heap.size := t2.size
        have o2 : SlI w2 wl.heap.size W.heap.size A2 c2 acc.2 := SlI.turn (w := W.drew) (show SlI W.drew wl.heap.size W.heap.size A2 c2 acc.2 from ho) t2 (.inr (by omega))
        obtain ⟨A5, c5, w4, hrun, s4, t4, l4⟩ := run_appI acc.2 q.2 29 rfl o2 rfl s2.rd (by omega) (by omega) (c' := c4)
        have hz4 := t4.size
        obtain ⟨hdq, hqq⟩ := at_fst hqs2 hq1l
        have p4 := p2.turn t4 (.inl (by omega))
        have l5 := p4.look hqq rfl
        have bm4 : Blk w4 (w.heap.size + 1) 29 #[.slice A2 acc.2.length c2] := t4.blk (t2.blk (w := W.drew) (show Blk W.drew _ _ _ from bm) (.inr (by omega))) (.inl (by omega))
        have bl4 : Blk w4 w.heap.size 23 #[.slice (some ⟨g, o, none⟩) os.length c] := t4.blk (t2.blk (w := W.drew) (show Blk W.drew _ _ _ from bl) (.inr (by omega))) (.inl (by omega))
        exact ⟨(t2.blk (w := W.drew) (show Blk W.drew _ _ _ from bm) (.inr (by omega))).cell 0, A5, c5, w4, hrun, s4.all t4 hz2, t4.mono (Nat.le_refl _) hz2, l4, bm4.cell 0, bm4.frozen 0, bl4.cell 0, l5.1.1, l5.2.1⟩)
      have FIN := Lib.hid (show ∀ w2 A4 c4 qs2, qs2.map Prod.fst = q.1 → SlP w2 lo hi (some ⟨g, o, none⟩) c qs2 → SlI w2 W.drew.heap.size w2.heap.size A4 c4 q.2 → Turn lo hi W.drew w2 → ∀ A5 c5 w4, SlI w4 wl.heap.size w4.heap.size A5 c5 (acc.2 ++ q.2) → Turn wl.heap.size w2.heap.size w2 w4 → TurnIn (live A2 c2) w2 w4 →
          KeepsFrom wl.heap.size W ((w4.setCell ⟨w.heap.size + 1, 0, none⟩ (.slice A5 (acc.2.length + q.2.length) c5)).setCell ⟨g, o + i * 4 + 1, none⟩ (.bool false)) ∧ KeptBB w1.heap.size b W ((w4.setCell ⟨w.heap.size + 1, 0, none⟩ (.slice A5 (acc.2.length + q.2.length) c5)).setCell ⟨g, o + i * 4 + 1, none⟩ (.bool false)) ∧
          ∃ (acc9 : List Own × List Int) (qs : List (Own × Hd)) (A9 : Option Addr) (c9 : Nat), acc9 = ((pre ++ [(⟨(j, i), hPi, hio⟩ : KidsA os P)]).map fun x => (x.1.2 : Int)).foldl (stepG (clearG m)) (os, []) ∧ qs.map Prod.fst = acc9.1 ∧ SlP ((w4.setCell ⟨w.heap.size + 1, 0, none⟩ (.slice A5 (acc.2.length + q.2.length) c5)).setCell ⟨g, o + i * 4 + 1, none⟩ (.bool false)) lo hi (some ⟨g, o, none⟩) c qs ∧
            SlI ((w4.setCell ⟨w.heap.size + 1, 0, none⟩ (.slice A5 (acc.2.length + q.2.length) c5)).setCell ⟨g, o + i * 4 + 1, none⟩ (.bool false)) wl.heap.size ((w4.setCell ⟨w.heap.size + 1, 0, none⟩ (.slice A5 (acc.2.length + q.2.length) c5)).setCell ⟨g, o + i * 4 + 1, none⟩ (.bool false)).heap.size A9 c9 acc9.2 ∧
            Blk ((w4.setCell ⟨w.heap.size + 1, 0, none⟩ (.slice A5 (acc.2.length + q.2.length) c5)).setCell ⟨g, o + i * 4 + 1, none⟩ (.bool false)) (w.heap.size + 1) 29 #[.slice A9 acc9.2.length c9] ∧ Blk ((w4.setCell ⟨w.heap.size + 1, 0, none⟩ (.slice A5 (acc.2.length + q.2.length) c5)).setCell ⟨g, o + i * 4 + 1, none⟩ (.bool false)) w.heap.size 23 #[.slice (some ⟨g, o, none⟩) os.length c] ∧
            Turn lo hi w ((w4.setCell ⟨w.heap.size + 1, 0, none⟩ (.slice A5 (acc.2.length + q.2.length) c5)).setCell ⟨g, o + i * 4 + 1, none⟩ (.bool false)) ∧ wl.heap.size ≤ ((w4.setCell ⟨w.heap.size + 1, 0, none⟩ (.slice A5 (acc.2.length + q.2.length) c5)).setCell ⟨g, o + i * 4 + 1, none⟩ (.bool false)).heap.size from by
        intro w2 A4 c4 qs2 hqs2 p2 s2 t2 A5 c5 w4 s4 t4 l4
        have hz2 : W.heap.size ≤ w2.heap.size := t2.size
        have hz4 := t4.size
        have o2 : SlI w2 wl.heap.size W.heap.size A2 c2 acc.2 := SlI.turn (w := W.drew) (show SlI W.drew wl.heap.size W.heap.size A2 c2 acc.2 from ho) t2 (.inr (by omega))
        obtain ⟨hdq, hqq⟩ := at_fst hqs2 hq1l
        obtain ⟨y, hy⟩ : ∃ y, q.1[i] = y := ⟨_, rfl⟩
        have hsh := shut_eq hq1l
        rw [hy] at hqq hsh
        have p4 := p2.turn t4 (.inl (by omega))
        have bm4 : Blk w4 (w.heap.size + 1) 29 #[.slice A2 acc.2.length c2] := t4.blk (t2.blk (w := W.drew) (show Blk W.drew _ _ _ from bm) (.inr (by omega))) (.inl (by omega))
        have bl4 : Blk w4 w.heap.size 23 #[.slice (some ⟨g, o, none⟩) os.length c] := t4.blk (t2.blk (w := W.drew) (show Blk W.drew _ _ _ from bl) (.inr (by omega))) (.inl (by omega))
        have T4 : Turn lo hi w w4 := ((show Turn lo hi w W.drew from ⟨ht.os, ht.tape, ht.output, ht.size, ht.block⟩).trans t2).new t4 (by omega)
        have K4 : KeepsFrom wl.heap.size W w4 := ((KeepsOthers.drew W).from _).trans ((KeepsFrom.of_turn t2 (by omega)).trans ((l4.others o2).from _))
        have B4 : ∀ k, w.heap.size + 2 ≤ k → k < wl.heap.size → KeptAt k W w4 := fun k h1 h2 => (KeptAt.of_turn (W := W.drew) t2 (show k < W.heap.size by omega) (.inr (by omega))).trans (KeptAt.of_turn t4 (by omega) (.inl h2))
        obtain ⟨W5, hW5⟩ : ∃ W5 : World, W5 = w4.setCell ⟨w.heap.size + 1, 0, none⟩ (.slice A5 (acc.2.length + q.2.length) c5) := ⟨_, rfl⟩
        have t5 : Turn (w.heap.size + 1) (w.heap.size + 2) w4 W5 := by rw [hW5]; exact (Turn.refl _ _ _).setCell (p := ⟨w.heap.size + 1, 0, none⟩) (Nat.le_refl _) (.inl (Nat.lt_succ_self _)) _
        have hz5 : W5.heap.size = w4.heap.size := by rw [hW5]; simp [World.setCell]
        have K5 : KeepsFrom wl.heap.size W W5 := by rw [hW5]; exact K4.trans ((KeepsOthers.setCell _ _ _).from _)
        have B5 : ∀ k, w.heap.size + 2 ≤ k → k < wl.heap.size → KeptAt k W W5 := fun k h1 h2 => by rw [hW5]; exact (B4 k h1 h2).setCell (p := ⟨w.heap.size + 1, 0, none⟩) (by show k ≠ w.heap.size + 1; omega) _
        have bm5 : Blk W5 (w.heap.size + 1) 29 #[.slice A5 (acc.2 ++ q.2).length c5] := by rw [hW5, List.length_append]; exact bm4.set_ 0 (.slice A5 (acc.2.length + q.2.length) c5)
        have bl5 : Blk W5 w.heap.size 23 #[.slice (some ⟨g, o, none⟩) os.length c] := t5.blk bl4 (.inl (by omega))
        have p5 := p4.turn t5 (.inl (by omega))
        have s5 : SlI W5 wl.heap.size W5.heap.size A5 c5 (acc.2 ++ q.2) := by rw [hz5]; exact s4.turn t5 (.inr (by omega))
        have T5 := T4.new t5 (by omega)
        rw [← hW5]
        clear hW5
        obtain ⟨p6, t6⟩ := p5.put (hi' := hi) (y := (⟨y.p, false, y.cl, y.cx⟩, hdq)) hqq 1 (.bool false) (by omega) rfl (Nat.le_refl _) (p5.cl i (y, hdq) hqq) (p5.cx i (y, hdq) hqq) (p5.d2 i (y, hdq) hqq) (fun b hb => p5.own_free hqq hb) rfl
        have hgg := p5.look hqq rfl
        rw [← Nat.add_assoc] at p6 t6
        have hz6 : (W5.setCell ⟨g, o + i * 4 + 1, none⟩ (.bool false)).heap.size = W5.heap.size := by simp [World.setCell]
        have B6 : ∀ k, w.heap.size + 2 ≤ k → k < wl.heap.size → KeptAt k W (W5.setCell ⟨g, o + i * 4 + 1, none⟩ (.bool false)) := fun k h1 h2 => (B5 k h1 h2).setCell (p := ⟨g, o + i * 4 + 1, none⟩) (by show k ≠ g; have := hgg.2.2.2.2; omega) _
        refine ⟨K5.trans ((KeepsOthers.setCell _ _ _).from _), ⟨B6 _ (by omega) (by omega), B6 _ hbr.1 hbr.2⟩, (shut q.1 (i : Int), acc.2 ++ q.2), qs2.set i (⟨y.p, false, y.cl, y.cx⟩, hdq), A5, c5, ?_, ?_, p6, ?_, ?_, ?_, ?_, ?_⟩
        · rw [List.map_append, List.foldl_append, ← hacc]
          simp only [List.map_cons, List.map_nil, List.foldl_cons, List.foldl_nil, stepG, hq]
        · show _ = shut q.1 (i : Int)
          rw [hsh]; exact map_set_fst hqs2
        · rw [hz6]; exact s5.turn t6 (.inr (by have := hgg.2.2.2.2; omega))
        · exact t6.blk bm5 (by have := hgg.2.2.2.2; omega)
        · exact t6.blk bl5 (by have := hgg.2.2.2.2; omega)
        · exact T5.trans (t6.mono hgg.2.2.2.1 (by have := hgg.2.2.2.2; omega))
        · rw [hz6]; omega)
      have HACC := Lib.hid hacc
      have HP := Lib.hid hp
      have HO := Lib.hid ho
      have HT := Lib.hid ht
      have BM := Lib.hid bm
      have BL := Lib.hid bl
      have HQS := Lib.hid hqs
      have HKEEP := Lib.hid hkeep
      have HTOT := Lib.hid htot
      clear hacc hp ho ht bm bl hqs hkeep htot hbx bb blk bmk sk pk tk hxe hxm hxl hq hqk hqt hcct
      gi_wp2
      gi_region_with_o ((first | (refine ⟨trivial, ?_⟩; gi_at_call 47) | gi_at_call 47); refine (CallsIn.inRound l (callsIn_wide.2 IHC.out)).mono ?_; rintro e w2 ⟨A4, c4, qs2, rfl, hqs2, p2, s2, t2⟩; obtain ⟨bm2, A5, c5, w4, hrun, s4, t4, l4, bm4, bf4, bl4, co4, cf4⟩ := ARM.out w2 A4 c4 qs2 hqs2 p2 s2 t2)
      all_goals gi_wp2
      all_goals exact FIN.out w2 A4 c4 qs2 hqs2 p2 s2 t2 A5 c5 w4 s4 t4 l4
    case done =>
      rintro D1 ys W hD1 hys ⟨acc, qs, A2, c2, hacc, hqs, hp, ho, bm, bl, ht, hB⟩ hK1
      subst hys
      rw [hxm] at hacc
      have hkeep : Keep os acc.1 := by rw [hacc]; exact keep_fold (clearG m) (keep_clearG m) _ (os, [])
      have htot : clTot acc.1 + acc.2.length = clTot os := by rw [hacc]; have := clTot_fold (clearG m) (clTot_clearG m) ks.reverse (os, []); simpa using this
      have hPa : P < acc.1.length := by rw [hkeep.1]; exact hP
      obtain ⟨hdP, hqP⟩ := at_fst hqs hPa
      have HCL := Lib.hid (clAt_eq hPa)
      have HW := Lib.hid (wipe_eq hPa)
      have hclT := clTot_wipe acc.1 (P : Int)
      obtain ⟨y, hy⟩ : ∃ y, acc.1[P] = y := ⟨_, rfl⟩
      rw [hy] at hqP HCL HW
      rw [HCL.out] at hclT
      have hycl : acc.2.length + y.cl.length ≤ 1099511627776 := by have := HCT.out; omega
      have clc := (hp.look hqP rfl).1.2
      dsimp only at clc
      have hgg := (hp.look hqP rfl).2.2.2
      have scl : SlI W lo hi hdP.clA hdP.clC y.cl := hp.cl P _ hqP
      have blc := bl.cell 0
      have HACC := Lib.hid hacc
      have HP := Lib.hid hp
      have HO := Lib.hid ho
      have HT := Lib.hid ht
      have BM := Lib.hid bm
      have BL := Lib.hid bl
      have HQS := Lib.hid hqs
      have HQP := Lib.hid hqP
      have HK1 := Lib.hid hK1
      have SCL := Lib.hid scl
      clear hacc hp ho ht bm bl hqs hkeep htot hbx bb blk bmk sk pk tk hxe hxm hxl hy hclT hqP hK1 scl hb2
      gi_wp2_with (refine ⟨trivial, ?_⟩; gi_at_call 56; refine (callsIn_wide.2 backward).mono ?_; rintro e w' ⟨rfl, rfl⟩)
      obtain ⟨W2, hW2⟩ : ∃ W2 : World, W2 = W.alloc (.cells #[.slice hdP.clA y.cl.length hdP.clC] 29) := ⟨_, rfl⟩
      have hz2 : W2.heap.size = W.heap.size + 1 := by rw [hW2]; simp
      have bb2 : Blk W2 W.heap.size 29 #[.slice hdP.clA y.cl.length hdP.clC] := by rw [hW2]; exact Blk.new _ _ _
      have bl2 : Blk W2 w.heap.size 23 #[.slice (some ⟨g, o, none⟩) os.length c] := by rw [hW2]; exact BL.out.alloc _
      have bm2 : Blk W2 (w.heap.size + 1) 29 #[.slice A2 acc.2.length c2] := by rw [hW2]; exact BM.out.alloc _
      have p2 : SlP W2 lo hi (some ⟨g, o, none⟩) c qs := by rw [hW2]; exact HP.out.alloc _
      have o2 : SlI W2 wl.heap.size W2.heap.size A2 c2 acc.2 := by rw [hW2]; exact (HO.out.alloc _).mono (Nat.le_refl _) (by simp)
      have t2 : Turn lo hi w W2 := by rw [hW2]; exact HT.out.alloc _
      have s2 : SlI W2 lo hi hdP.clA hdP.clC y.cl := by rw [hW2]; exact SCL.out.alloc _
      have hD1l : D1 < W.heap.size := (Array.getElem?_eq_some_iff.1 HK1.out).1
      have k2 : W2.heap[D1]? = some (.deferred (some [])) := by rw [hW2]; exact (Below.heap_alloc _ _ _ hD1l).trans HK1.out
      rw [← hW2]
      clear hW2 HP HO HT BM BL HK1 SCL blc clc
      obtain ⟨b2, hb21, hb22⟩ := s2.home W.heap.size
      have hbr2 : b2 < W2.heap.size := by rcases hb21 with rfl | h <;> omega
      obtain ⟨xs2, hxl2, hxe2, hxm2⟩ := back_ints y.cl
      have hbx2 := bb2.cell 0
      refine wpIn_rangeFunc_ownG rfl (by decide) (gf := 60) (lb := #[.pointer (some ⟨W.heap.size, 0, none⟩)]) rfl trivial (enters_of Try.func60 (by kernel_rfl) rfl)
        (backward_stops (Bs := W.heap.size) (b := b2) Fence.wide 5 trivial rfl (by decide) y.cl xs2 encL (by omega) hxl2 hxe2 (by omega) hbx2 s2.rd (by omega) hb22)
        keptBB_t (keptBB_b (by omega) hbr2) (Below.refl _ _) (fun _ => rfl)
        (fun pre V => ∃ (A6 : Option Addr) (c6 : Nat) (ys : List Int), ys = acc.2 ++ pre.map Prod.snd ∧ SlP V lo hi (some ⟨g, o, none⟩) c qs ∧ SlI V wl.heap.size V.heap.size A6 c6 ys ∧
          Blk V (w.heap.size + 1) 29 #[.slice A6 ys.length c6] ∧ Blk V w.heap.size 23 #[.slice (some ⟨g, o, none⟩) os.length c] ∧ Blk V W.heap.size 29 #[.slice hdP.clA y.cl.length hdP.clC] ∧
          V.heap[D1]? = some (.deferred (some [])) ∧ Turn lo hi w V ∧ W2.heap.size ≤ V.heap.size)
        (fun _ _ _ => False) ?hI2 (fun _ _ _ _ _ hs _ _ => hs) ?h02
        (fun x => { tmps := #[.slice (some ⟨g, o, none⟩) os.length c, .int .i64 (P : Int), .pointer (some ⟨w.heap.size, 0, none⟩), undef, .slice none 0 0, .pointer (some ⟨w.heap.size + 1, 0, none⟩), undef, undef, undef, .int .i64 x.2,
          .slice (some ⟨g, o, none⟩) os.length c, .int .i64 (P : Int), .slice A3 ks.length c3, .func (.func 60) #[] #[.pointer (some ⟨w1.heap.size, 0, none⟩)], undef, undef, undef, undef, undef, undef, undef, undef, undef, undef, undef,
          .slice (some ⟨g, o, none⟩) os.length c, .int .i64 (P : Int), .pointer (some ⟨g, o + P * 4, none⟩), .pointer (some ⟨g, o + P * 4 + 2, none⟩), .slice hdP.clA y.cl.length hdP.clC, .func (.func 60) #[] #[.pointer (some ⟨W.heap.size, 0, none⟩)], .int .i64 (x.1 : Int), .int .i64 x.2, undef, undef, undef, undef, undef, undef, undef, undef, undef, undef], defers := [] }) ?assign2 ?body2 ?done2 ?stop2
      case hI2 =>
        rintro pre V V' row ⟨A6, c6, ys, h1, h2, h3, h4, h5, h6, h7, h8, h9⟩ hg hr
        exact ⟨A6, c6, ys, h1, h2.own hg hr, h3.ownTop hg hr, h4.own hg hr, h5.own hg hr, h6.own hg hr, obj_own h7 (by omega) hg hr, h8.own hg hr (by omega), Nat.le_trans h9 hg.size⟩
      case h02 => exact ⟨A2, c2, acc.2, by simp, p2, o2, bm2, bl2, bb2, k2, t2, Nat.le_refl _⟩
      case assign2 =>
        intro l x V K hK
        clear hbx2
        dsimp only [encL]
        gi_wp2
        exact hK
      case stop2 =>
        rintro D c pre V _ _ h _
        exact h.elim
      case body2 =>
        rintro l pre ⟨j, x⟩ V ⟨A6, c6, ys, hys, hp, ho, bm, bl, bb, hD, ht, hV⟩ hlt
        dsimp only
        have hyl : ys.length ≤ 1099511627776 := by
          rw [hys, List.length_append, List.length_map]; omega
        have bmc := bm.cell 0
        have ARM := Lib.hid (show ∀ w7 : World, Turn wl.heap.size V.heap.size (V.alloc (.cells #[.int .i64 x] 3)) w7 → w7.cell? ⟨w.heap.size + 1, 0, none⟩ = some (.slice A6 ys.length c6) ∧ w7.frozen? ⟨w.heap.size + 1, 0, none⟩ = false from fun w7 t7 => by
          have := t7.blk (bm.alloc _) (.inl (by omega))
          exact ⟨this.cell 0, this.frozen 0⟩)
        have FIN := Lib.hid (show ∀ A7 c7 w7, SlI w7 wl.heap.size (max V.heap.size w7.heap.size) A7 c7 (ys ++ [x]) → Turn wl.heap.size V.heap.size (V.alloc (.cells #[.int .i64 x] 3)) w7 → TurnIn (live A6 c6) (V.alloc (.cells #[.int .i64 x] 3)) w7 →
            KeepsFrom W2.heap.size V (w7.setCell ⟨w.heap.size + 1, 0, none⟩ (.slice A7 (ys.length + 1) c7)) ∧ KeptBB W.heap.size b2 V (w7.setCell ⟨w.heap.size + 1, 0, none⟩ (.slice A7 (ys.length + 1) c7)) ∧
            ∃ (A8 : Option Addr) (c8 : Nat) (zs : List Int), zs = acc.2 ++ (pre ++ [(j, x)]).map Prod.snd ∧ SlP (w7.setCell ⟨w.heap.size + 1, 0, none⟩ (.slice A7 (ys.length + 1) c7)) lo hi (some ⟨g, o, none⟩) c qs ∧ SlI (w7.setCell ⟨w.heap.size + 1, 0, none⟩ (.slice A7 (ys.length + 1) c7)) wl.heap.size (w7.setCell ⟨w.heap.size + 1, 0, none⟩ (.slice A7 (ys.length + 1) c7)).heap.size A8 c8 zs ∧
              Blk (w7.setCell ⟨w.heap.size + 1, 0, none⟩ (.slice A7 (ys.length + 1) c7)) (w.heap.size + 1) 29 #[.slice A8 zs.length c8] ∧ Blk (w7.setCell ⟨w.heap.size + 1, 0, none⟩ (.slice A7 (ys.length + 1) c7)) w.heap.size 23 #[.slice (some ⟨g, o, none⟩) os.length c] ∧ Blk (w7.setCell ⟨w.heap.size + 1, 0, none⟩ (.slice A7 (ys.length + 1) c7)) W.heap.size 29 #[.slice hdP.clA y.cl.length hdP.clC] ∧
              (w7.setCell ⟨w.heap.size + 1, 0, none⟩ (.slice A7 (ys.length + 1) c7)).heap[D1]? = some (.deferred (some [])) ∧ Turn lo hi w (w7.setCell ⟨w.heap.size + 1, 0, none⟩ (.slice A7 (ys.length + 1) c7)) ∧ W2.heap.size ≤ (w7.setCell ⟨w.heap.size + 1, 0, none⟩ (.slice A7 (ys.length + 1) c7)).heap.size from by
          intro A7 c7 w7 h7 t7 l7
          have hz7 := t7.size
          rw [World.size_alloc] at hz7
          have hs7 : (w7.setCell ⟨w.heap.size + 1, 0, none⟩ (.slice A7 (ys.length + 1) c7)).heap.size = w7.heap.size := by simp [World.setCell]
          have oa : SlI (V.alloc (.cells #[.int .i64 x] 3)) wl.heap.size V.heap.size A6 c6 ys := ho.alloc _
          have K7 : KeepsOthers V w7 := (KeepsOthers.alloc V _).trans (l7.others oa)
          have K8 : KeepsOthers V (w7.setCell ⟨w.heap.size + 1, 0, none⟩ (.slice A7 (ys.length + 1) c7)) := K7.trans (KeepsOthers.setCell _ _ _)
          have nb : W.heap.size ∉ live A6 c6 := Sl.other oa (bb.alloc _) (by decide)
          have b7 : w7.heap[W.heap.size]? = V.heap[W.heap.size]? := (l7.2 _ (by simp; omega) nb).trans (Below.heap_alloc V _ _ (by omega))
          have t8 : Turn (w.heap.size + 1) (w.heap.size + 2) w7 (w7.setCell ⟨w.heap.size + 1, 0, none⟩ (.slice A7 (ys.length + 1) c7)) := (Turn.refl _ _ _).setCell (p := ⟨w.heap.size + 1, 0, none⟩) (Nat.le_refl _) (.inl (Nat.lt_succ_self _)) _
          have ka : KeptAt W.heap.size V w7 := fun p hp => World.cell?_of_block (by rw [hp]; exact b7)
          have kb : ∀ k, k < hi → KeptAt k V w7 := fun k hk => ((KeptAt.refl k V).alloc (by omega) _).trans (KeptAt.of_turn t7 (by simp; omega) (.inl (by omega)))
          have kk : KeptAt b2 V w7 := by
            rcases hb21 with h | h
            · rw [h]; exact ka
            · exact kb _ h.2.1
          refine ⟨K8.from _, ⟨ka.setCell (p := ⟨w.heap.size + 1, 0, none⟩) (by show W.heap.size ≠ w.heap.size + 1; omega) _, kk.setCell (p := ⟨w.heap.size + 1, 0, none⟩) (by show b2 ≠ w.heap.size + 1; rcases hb21 with h | h <;> omega) _⟩, A7, c7, ys ++ [x], ?_, ?_, ?_, ?_, ?_, ?_, ?_, ?_, ?_⟩
          · rw [hys, List.map_append, List.append_assoc]; rfl
          · exact ((hp.alloc _).turn t7 (.inl (by omega))).turn t8 (.inl (by omega))
          · rw [hs7]
            exact SlI.turn (by rw [Nat.max_eq_right (by omega)] at h7; exact h7) t8 (.inr (by omega))
          · rw [List.length_append]; exact (t7.blk (bm.alloc _) (.inl (by omega))).set_ 0 (.slice A7 (ys.length + 1) c7)
          · exact t8.blk (t7.blk (bl.alloc _) (.inl (by omega))) (.inl (by omega))
          · exact t8.blk (show Blk w7 W.heap.size _ _ from b7.trans bb) (.inr (by omega))
          · exact K8.same _ _ hD rfl
          · exact ((ht.alloc _).new t7 (by omega)).new t8 (by omega)
          · rw [hs7]; omega)
        have HO := Lib.hid ho
        clear hys hp ho bm bl bb hD ht hbx2 bb2 bl2 bm2 p2 o2 t2 s2 k2 hxe2 hxm2 hxl2
        gi_wp2_with (gi_at_builtin; refine wpListIn_appI (.tmp 33) (.tmp 35) rfl rfl ys [x] rfl rfl (HO.out.alloc _) rfl rfl (SlI.newAt (w := V) V.heap.size rfl [x] (lo := 0) (Nat.zero_le _)).rd (by simp; omega) (by simp; omega) ?_; intro A7 c7 w7 h7 t7 l7; obtain ⟨bm7, bf7⟩ := ARM.out w7 t7)
        exact FIN.out A7 c7 w7 h7 t7 l7
      case done2 =>
        rintro D2 ys2 V hD2 hys2 ⟨A6, c6, ys, hys, hp, ho, bm, bl, bb, hD, ht, hV⟩ hK2
        subst hys2
        rw [hxm2] at hys
        have hyl : ys.length ≤ 1099511627776 := by
          rw [hys, List.length_append, List.length_reverse]; exact hycl
        have hl := hp.look HQP.out rfl
        have clc := hl.1.2
        have clf := hl.2.2.1
        have blc := bl.cell 0
        have bmc := bm.cell 0
        have t3 : Turn g (g + 1) V (V.setCell ⟨g, o + P * 4 + 2, none⟩ (.slice none 0 0)) := (Turn.refl _ _ _).setCell (p := ⟨g, o + P * 4 + 2, none⟩) (Nat.le_refl _) (.inl (Nat.lt_succ_self _)) _
        have CLIP := Lib.hid (slicesClip (c := c6) ys rfl (ho.turn t3 (.inr (by omega))))
        dsimp only at clc
        have HP := Lib.hid hp
        have HT := Lib.hid ht
        have HD := Lib.hid hD
        have HK2 := Lib.hid hK2
        have HYS := Lib.hid hys
        clear hp ho bm bl bb ht hys hbx2 bb2 bl2 bm2 p2 o2 t2 s2 k2 hxe2 hxm2 hxl2 hl hD hK2
        gi_wp2_with (refine ⟨trivial, ?_⟩; gi_at_call 36; refine (callsIn_wide.2 CLIP.out).mono ?_; rintro e w9 ⟨rfl, s9, rfl⟩)
        obtain ⟨p3, _⟩ := HP.out.put (hi' := hi) (y := (⟨y.p, y.op, [], y.cx⟩, ⟨none, 0, hdP.cxA, hdP.cxC⟩)) HQP.out 2 (.slice none 0 0) (by omega) rfl (Nat.le_refl _) SlI.nil (HP.out.cx P (y, hdP) HQP.out) (fun b hb => by rw [live_nil] at hb; cases hb) (fun b hb => HP.out.own_free HQP.out (by unfold foot at hb ⊢; rw [live_nil, List.nil_append] at hb; exact List.mem_append_right _ hb)) rfl
        rw [← Nat.add_assoc] at p3
        have T3 : Turn lo hi w (V.setCell ⟨g, o + P * 4 + 2, none⟩ (.slice none 0 0)) := HT.out.trans (t3.mono hgg.1 (by have := hgg.2; omega))
        have k2 := (KeepsOthers.setCell V ⟨g, o + P * 4 + 2, none⟩ (.slice none 0 0)).same _ _ HK2.out rfl
        have k1 := (KeepsOthers.setCell V ⟨g, o + P * 4 + 2, none⟩ (.slice none 0 0)).same _ _ HD.out rfl
        have hz3 : (V.setCell ⟨g, o + P * 4 + 2, none⟩ (.slice none 0 0)).heap.size = V.heap.size := by simp [World.setCell]
        obtain ⟨V3, hV3⟩ : ∃ V3 : World, V3 = V.setCell ⟨g, o + P * 4 + 2, none⟩ (.slice none 0 0) := ⟨_, rfl⟩
        rw [← hV3] at p3 T3 k2 k1 hz3 s9 ⊢
        have hne : D1 ≠ D2 := by omega
        have k1' : (V3.putObj D2 (.deferred none)).heap[D1]? = some (.deferred (some [])) := (World.putObj_heap_other hne).trans k1
        have g2 := grownBy_putObj' V3 D2 (.deferred none)
        have r2 : ∀ r, some D2 = some r → w.heap.size ≤ r ∧ ∃ o : Obj, V3.heap[r]? = some o ∧ o.isCells = false := fun r e => by cases e; exact ⟨by omega, _, k2, rfl⟩
        have g1 := grownBy_putObj' (V3.putObj D2 (.deferred none)) D1 (.deferred none)
        have r1 : ∀ r, some D1 = some r → w.heap.size ≤ r ∧ ∃ o : Obj, (V3.putObj D2 (.deferred none)).heap[r]? = some o ∧ o.isCells = false := fun r e => by cases e; exact ⟨by omega, _, k1', rfl⟩
        refine ⟨by simp, .inl ⟨_, _, rfl, run_takeDeferred k2, ?_⟩⟩
        refine ⟨by simp, .inl ⟨_, _, rfl, run_takeDeferred k1', ?_⟩⟩
        refine ⟨_, results_tmp rfl _ _ _, ?_⟩
        rw [CG.out, ← HACC.out, HCL.out, HW.out, ← HYS.out]
        exact ⟨A6, ys.length, qs.set P (⟨y.p, y.op, [], y.cx⟩, ⟨none, 0, hdP.cxA, hdP.cxC⟩), rfl, map_set_fst HQS.out, (p3.own g2 r2).own g1 r1, ((((s9.mono (by omega) (by omega)) : SlI V3 w.heap.size V3.heap.size A6 ys.length ys).ownTop g2 r2).ownTop g1 r1), (T3.own g2 r2 (Nat.le_refl _)).own g1 r1 (Nat.le_refl _)⟩
end Go.Proofs.Ytnlbmiangbahgaa
