/-
  impl.PatchOf.
-/
import Derived.Test.YtmmegmefiihabaaPatch
import Derived.Test.YtmmegmefiihabaaFenceC
namespace Go.Proofs.Ytmmegmefiihabaa
open Go.RowKit Go.Shelf
attribute [local go_sem] Oper.semAt_some
attribute [-go_sem] Builtin.append_

def encB (x : Nat × Int) : Array Value := #[.int .i64 (x.1 : Int), .int .i64 x.2]
theorem back_list (ks : List Int) : ∃ xs : List (Nat × Int), xs.length = ks.length ∧
    (∀ (j t : Nat) (hj : j < ks.length) (ht : t < xs.length), j + t + 1 = ks.length → encB xs[t] = #[.int .i64 (j : Int), .int .i64 ks[j]]) ∧ xs.map Prod.snd = ks.reverse := by
  refine ⟨List.ofFn fun t : Fin ks.length => (ks.length - 1 - t.1, ks[ks.length - 1 - t.1]'(by omega)), by simp, fun j t hj ht hjt => ?_, ?_⟩
  · have e : ks.length - 1 - t = j := by omega
    simp only [List.getElem_ofFn, encB]
    simp only [e]
  · apply List.ext_getElem
    · simp
    · intro t h1 h2
      simp
def remS (b : List Int) (l : List Int) : List Chg := (l.filter fun k => !memB k b).map fun k => ⟨0, k, -1⟩
theorem remS_snoc (b l : List Int) (k : Int) : remS b (l ++ [k]) = remS b l ++ if memB k b then [] else [⟨0, k, -1⟩] := by
  unfold remS
  rw [List.filter_append, List.map_append]
  cases h : memB k b <;> simp [h]
theorem remS_all (a b : List Int) : remS b a.reverse = remF a b := by unfold remS remF missF; rw [List.filter_reverse]
theorem remS_len (b l : List Int) : (remS b l).length ≤ l.length := by unfold remS; rw [List.length_map]; exact List.length_filter_le _ _

set_option maxRecDepth 100000 in
set_option maxHeartbeats 6400000 in
theorem implPatchOf {A A' : Option Addr} {c n B c' n' B' : Nat} {w : World} (xs ys : List Int) (ln : xs.length = n) (ln' : ys.length = n') (hn : n ≤ 1048576) (hn' : n' ≤ 1048576) (hc : n ≤ c) (hc' : n' ≤ c') (h : RdI w B A xs) (h' : RdI w B' A' ys) (hB : B ≤ w.heap.size) (hB' : B' ≤ w.heap.size) :
    Calls Try.prog 30 #[.slice A n c, .slice A' n' c'] w (MadeC w (patchOfF xs ys)) := by
  subst ln ln'
  have bx : Below w.heap.size w (w.alloc (.cells #[.slice A' ys.length c'] 23)) := (Below.refl w.heap.size w).alloc (Nat.le_refl _) _
  have BK := Lib.hid (bothKeys (c := c) (c' := c') xs ys rfl rfl (by omega) (by omega) hc hc' (h.belowLe bx hB) (h'.belowLe bx hB'))
  have H := Lib.hid h; clear h
  have H' := Lib.hid h'; clear h'
  have BX := Lib.hid bx; clear bx
  cases hv : (vkB xs && vkB ys)
  case false =>
    rw [hv] at BK
    have HF := Lib.hid (show MadeC w (patchOfF xs ys) (.returned (.slice none 0 0)) (w.alloc (.cells #[.slice A' ys.length c'] 23)) from by
      have e : patchOfF xs ys = [] := by unfold patchOfF; rw [hv]; rfl
      rw [e]
      exact ⟨none, 0, rfl, SlR.nil, BX.out⟩)
    clear hv
    go_enter Try.func30, Try.ntmps30
    go_wp2_with fail
    refine BK.out.mono ?_; rintro e w1 ⟨rfl, rfl⟩
    go_wp2_with fail
    go_ret
    exact HF.out
  case true =>
  rw [hv] at BK
  have hvv := hv
  rw [Bool.and_eq_true] at hvv
  have hx10 := (vkB_iff.1 hvv.1).2.2
  have hy10 := (vkB_iff.1 hvv.2).2.2
  have HPO := Lib.hid (show patchOfF xs ys = patchF xs ys from by unfold patchOfF; rw [hv]; rfl)
  clear hv hvv
  obtain ⟨w0, hw0⟩ : ∃ w0 : World, w0 = (w.alloc (.cells #[.slice A' ys.length c'] 23)).alloc (.cells #[.slice none 0 0] 24) := ⟨_, rfl⟩
  have hz0 : w0.heap.size = w.heap.size + 2 := by rw [hw0]; simp
  have bl0 : Blk w0 w.heap.size 23 #[.slice A' ys.length c'] := by rw [hw0]; exact (Blk.new _ _ _).alloc _
  have bm0 : Blk w0 (w.heap.size + 1) 24 #[.slice none 0 0] := by
    rw [hw0]; have := Blk.new (w.alloc (.cells #[.slice A' ys.length c'] 23)) 24 #[.slice none 0 0]; rwa [World.size_alloc] at this
  have t0 : Below w.heap.size w w0 := by rw [hw0]; exact BX.out.alloc (by simp) _
  obtain ⟨wl, hwl⟩ : ∃ wl : World, wl = w0.alloc (.cells #[.slice A xs.length c] 23) := ⟨_, rfl⟩
  have hzl : wl.heap.size = w.heap.size + 3 := by rw [hwl, World.size_alloc, hz0]
  have bb : Blk wl (w.heap.size + 2) 23 #[.slice A xs.length c] := by rw [hwl, ← hz0]; exact Blk.new _ _ _
  have blk : Blk wl w.heap.size 23 #[.slice A' ys.length c'] := by rw [hwl]; exact bl0.alloc _
  have bmk : Blk wl (w.heap.size + 1) 24 #[.slice none 0 0] := by rw [hwl]; exact bm0.alloc _
  have tk : Below w.heap.size w wl := by rw [hwl]; exact t0.alloc (by omega) _
  have HWL := Lib.hid (show wl = (((w.alloc (.cells #[.slice A' ys.length c'] 23)).alloc (.cells #[.slice none 0 0] 24)).alloc (.cells #[.slice A xs.length c] 23)) from by rw [hwl, hw0])
  have BB := Lib.hid bb
  have BLK := Lib.hid blk
  have BMK := Lib.hid bmk
  have TK := Lib.hid tk
  have HZL := Lib.hid hzl
  clear hwl bl0 bm0 t0 hz0 hw0 bb blk bmk tk hzl
  refine (callsIn_wide (n := 6)).1 ?_
  refine callsIn_of_wp_marks Try.func30 rfl trivial ?_ rfl
  simp only [Try.ntmps30, List.size_toArray, List.length_cons, List.length_nil, Nat.reduceAdd, Nat.reduceSub, Array.replicate_succ, Array.replicate_zero, List.push_toArray, List.append_toArray, List.nil_append, List.cons_append]
  gi_wp2_with (first
    | (refine ⟨trivial, ?_⟩; gi_at_call 62; refine (callsIn_wide.2 BK.out).mono ?_; rintro e w' ⟨rfl, rfl⟩)
    | (refine ⟨trivial, ?_⟩; gi_at_call 63; refine (callsIn_wide.2 backward).mono ?_; rintro e w' ⟨rfl, rfl⟩))
  rw [← HWL.out]
  have hzl := HZL.out
  obtain ⟨b, hbo, hb2⟩ : ∃ b, b ≤ w.heap.size ∧ (xs ≠ [] → ∀ ad, A = some ad → ad.block = b) := by
    by_cases hx : xs = []
    · exact ⟨w.heap.size, Nat.le_refl _, fun hn => absurd hx hn⟩
    · obtain ⟨ad, rfl, hab, _⟩ := H.out.at_ (k := 0) (List.length_pos_iff.2 hx)
      exact ⟨ad.block, by omega, fun _ a2 e => by injection e with e; rw [e]⟩
  have hbr : b < wl.heap.size := by omega
  obtain ⟨bs, hxl, hxe, hxm⟩ := back_list xs
  have hbx := BB.out.cell 0
  refine wpIn_rangeFunc_ownG rfl (by decide) (gf := 87) (lb := #[.pointer (some ⟨w.heap.size + 2, 0, none⟩)]) rfl trivial (enters_of Try.func87 (by kernel_rfl) rfl)
    (backward_stops (Bs := w.heap.size + 2) (b := b) Fence.wide 5 trivial rfl (by decide) xs bs encB (by omega) hxl hxe (by omega) hbx (H.out.belowLe TK.out hB) (by omega) hb2)
    keptBB_t (keptBB_b (by omega) hbr) (Below.refl _ _) (fun _ => rfl)
    (fun pre V => ∃ (A6 : Option Addr) (c6 : Nat) (acc : List Chg), acc = remS ys (pre.map Prod.snd) ∧ SlC V wl.heap.size V.heap.size A6 c6 acc ∧
      Blk V (w.heap.size + 1) 24 #[.slice A6 acc.length c6] ∧ Blk V w.heap.size 23 #[.slice A' ys.length c'] ∧ Turn w.heap.size w.heap.size w V ∧ wl.heap.size ≤ V.heap.size)
    (fun _ _ _ => False) ?hI (fun _ _ _ _ _ hs _ _ => hs) ?h0
    (fun x => { tmps := #[.slice A xs.length c, .slice A' ys.length c', undef, .pointer (some ⟨w.heap.size, 0, none⟩), .slice none 0 0, .pointer (some ⟨w.heap.size + 1, 0, none⟩), undef, .int .i64 x.2, undef, undef, undef, undef, undef, .slice A xs.length c, .slice A' ys.length c', .bool true, .bool false, .slice A xs.length c, .func (.func 87) #[] #[.pointer (some ⟨w.heap.size + 2, 0, none⟩)], .int .i64 (x.1 : Int), .int .i64 x.2, undef, undef, undef, undef, undef, undef, undef, undef, undef, undef, undef, undef, undef, undef, undef, undef, undef, undef, undef, undef, undef, undef, undef, undef, undef, undef, undef, undef, undef, undef, undef, undef, undef, undef, undef, undef], defers := [] }) ?assign ?body ?done ?stop
  case hI =>
    rintro pre W W' row ⟨A6, c6, acc, h1, h2, h3, h4, h5, h6⟩ hg hr
    exact ⟨A6, c6, acc, h1, h2.ownTop hg hr, h3.own hg hr, h4.own hg hr, h5.own hg hr (by omega), Nat.le_trans h6 hg.size⟩
  case h0 => exact ⟨none, 0, [], rfl, SlR.nil, BMK.out, BLK.out, Below.turn TK.out _ _, Nat.le_refl _⟩
  case assign =>
    intro l x W K hK
    clear hbx
    dsimp only [encB]
    gi_wp2
    exact hK
  case stop =>
    rintro D c pre W _ _ h _
    exact h.elim
  case body =>
    rintro l pre ⟨j, k⟩ V ⟨A6, c6, acc, hacc, ho, bm, bl, ht, hV⟩ hlt
    dsimp only
    have hpl : pre.length ≤ 10 := by omega
    have hal : acc.length ≤ 10 := by rw [hacc]; have := remS_len ys (pre.map Prod.snd); rw [List.length_map] at this; omega
    have bmc := bm.cell 0
    have blc := bl.cell 0
    have R' : RdI V B' A' ys := H'.out.belowLe (ht.below (Nat.le_refl _)) hB'
    have CT := Lib.hid (slicesContains (x := k) (c := c') ys rfl (by omega) R')
    have HSN := Lib.hid (show remS ys ((pre ++ [(j, k)]).map Prod.snd) = acc ++ if memB k ys then [] else [⟨0, k, -1⟩] from by rw [List.map_append, List.map_cons, List.map_nil, remS_snoc, hacc])
    cases hm : memB k ys
    case true =>
      rw [hm] at CT HSN
      have FIN := Lib.hid (show KeepsFrom wl.heap.size V V ∧ KeptBB (w.heap.size + 2) b V V ∧ ∃ (A6 : Option Addr) (c6 : Nat) (acc : List Chg), acc = remS ys ((pre ++ [(j, k)]).map Prod.snd) ∧ SlC V wl.heap.size V.heap.size A6 c6 acc ∧
          Blk V (w.heap.size + 1) 24 #[.slice A6 acc.length c6] ∧ Blk V w.heap.size 23 #[.slice A' ys.length c'] ∧ Turn w.heap.size w.heap.size w V ∧ wl.heap.size ≤ V.heap.size from
        ⟨KeepsFrom.refl _ _, ⟨KeptAt.refl _ _, KeptAt.refl _ _⟩, A6, c6, acc, by rw [HSN.out]; simp, ho, bm, bl, ht, hV⟩)
      clear hacc ho bm bl ht R' HSN hbx
      gi_wp2_with ((first | (refine ⟨trivial, ?_⟩; gi_at_call 61) | gi_at_call 61); refine (CallsIn.inRound l (callsIn_wide.2 CT.out)).mono ?_; rintro e w' ⟨rfl, rfl⟩)
      exact FIN.out
    case false =>
      rw [hm] at CT HSN
      have ARM := Lib.hid (show ∀ w7 : World, Turn wl.heap.size V.heap.size (V.alloc (.cells #[.int .i64 0, .int .i64 k, .int .i64 (-1)] 32)) w7 → w7.cell? ⟨w.heap.size + 1, 0, none⟩ = some (.slice A6 acc.length c6) ∧ w7.frozen? ⟨w.heap.size + 1, 0, none⟩ = false from fun w7 t7 => by
        have := t7.blk (bm.alloc _) (.inl (by omega))
        exact ⟨this.cell 0, this.frozen 0⟩)
      have FIN := Lib.hid (show ∀ A7 c7 lo7 hi7 w7, SlC w7 lo7 hi7 A7 c7 (acc ++ [⟨0, k, -1⟩]) → ((lo7 = wl.heap.size ∧ hi7 = V.heap.size) ∨ (lo7 = (V.alloc (.cells #[.int .i64 0, .int .i64 k, .int .i64 (-1)] 32)).heap.size ∧ hi7 = w7.heap.size)) → Turn wl.heap.size V.heap.size (V.alloc (.cells #[.int .i64 0, .int .i64 k, .int .i64 (-1)] 32)) w7 → KeepsOthers (V.alloc (.cells #[.int .i64 0, .int .i64 k, .int .i64 (-1)] 32)) w7 →
          KeepsFrom wl.heap.size V (w7.setCell ⟨w.heap.size + 1, 0, none⟩ (.slice A7 (acc.length + 1) c7)) ∧ KeptBB (w.heap.size + 2) b V (w7.setCell ⟨w.heap.size + 1, 0, none⟩ (.slice A7 (acc.length + 1) c7)) ∧
          ∃ (A8 : Option Addr) (c8 : Nat) (zs : List Chg), zs = remS ys ((pre ++ [(j, k)]).map Prod.snd) ∧ SlC (w7.setCell ⟨w.heap.size + 1, 0, none⟩ (.slice A7 (acc.length + 1) c7)) wl.heap.size (w7.setCell ⟨w.heap.size + 1, 0, none⟩ (.slice A7 (acc.length + 1) c7)).heap.size A8 c8 zs ∧
            Blk (w7.setCell ⟨w.heap.size + 1, 0, none⟩ (.slice A7 (acc.length + 1) c7)) (w.heap.size + 1) 24 #[.slice A8 zs.length c8] ∧ Blk (w7.setCell ⟨w.heap.size + 1, 0, none⟩ (.slice A7 (acc.length + 1) c7)) w.heap.size 23 #[.slice A' ys.length c'] ∧
            Turn w.heap.size w.heap.size w (w7.setCell ⟨w.heap.size + 1, 0, none⟩ (.slice A7 (acc.length + 1) c7)) ∧ wl.heap.size ≤ (w7.setCell ⟨w.heap.size + 1, 0, none⟩ (.slice A7 (acc.length + 1) c7)).heap.size from by
        intro A7 c7 lo7 hi7 w7 h7 d7 t7 k7
        have hz7 := t7.size
        rw [World.size_alloc] at hz7 d7
        have hs7 : (w7.setCell ⟨w.heap.size + 1, 0, none⟩ (.slice A7 (acc.length + 1) c7)).heap.size = w7.heap.size := by simp [World.setCell]
        have K8 : KeepsOthers V (w7.setCell ⟨w.heap.size + 1, 0, none⟩ (.slice A7 (acc.length + 1) c7)) := ((KeepsOthers.alloc V _).trans k7).trans (KeepsOthers.setCell _ _ _)
        have t8 : Turn (w.heap.size + 1) (w.heap.size + 2) w7 (w7.setCell ⟨w.heap.size + 1, 0, none⟩ (.slice A7 (acc.length + 1) c7)) := (Turn.refl _ _ _).setCell (p := ⟨w.heap.size + 1, 0, none⟩) (Nat.le_refl _) (.inl (Nat.lt_succ_self _)) _
        have kb : ∀ q, q < wl.heap.size → q ≠ w.heap.size + 1 → KeptAt q V (w7.setCell ⟨w.heap.size + 1, 0, none⟩ (.slice A7 (acc.length + 1) c7)) := fun q hq hn => (((KeptAt.refl q V).alloc (by omega) _).trans (KeptAt.of_turn t7 (by simp; omega) (.inl (by omega)))).setCell (p := ⟨w.heap.size + 1, 0, none⟩) hn _
        refine ⟨K8.from _, ⟨kb _ (by omega) (by omega), kb _ hbr (by omega)⟩, A7, c7, acc ++ [⟨0, k, -1⟩], ?_, ?_, ?_, ?_, ?_, ?_⟩
        · rw [HSN.out]; simp
        · rw [hs7]
          exact SlR.turn (h7.mono (lo' := wl.heap.size) (hi' := w7.heap.size) (by omega) (by omega)) t8 (.inr (by omega))
        · rw [List.length_append]; exact (t7.blk (bm.alloc _) (.inl (by omega))).set_ 0 (.slice A7 (acc.length + 1) c7)
        · exact t8.blk (t7.blk (bl.alloc _) (.inl (by omega))) (.inl (by omega))
        · exact ((ht.alloc _).new t7 (by omega)).setCell (p := ⟨w.heap.size + 1, 0, none⟩) (by show w.heap.size ≤ w.heap.size + 1; omega) (.inr (by show w.heap.size ≤ w.heap.size + 1; omega)) _
        · rw [hs7]; omega)
      have HO := Lib.hid ho
      clear hacc ho bm bl ht R' HSN hbx
      gi_wp2_with (first
        | ((first | (refine ⟨trivial, ?_⟩; gi_at_call 61) | gi_at_call 61); refine (CallsIn.inRound l (callsIn_wide.2 CT.out)).mono ?_; rintro e w' ⟨rfl, rfl⟩)
        | (gi_at_builtin; refine wpListIn_appCS (.tmp 25) (.tmp 28) rfl rfl acc ⟨0, k, -1⟩ rfl rfl (HO.out.alloc _) rfl (Blk.new _ _ _) (by omega) (by simp; omega) ?_; intro A7 c7 lo7 hi7 w7 h7 d7 t7 k7; obtain ⟨bm7, bf7⟩ := ARM.out w7 t7))
      exact FIN.out A7 c7 lo7 hi7 w7 h7 d7 t7 k7
  case done =>
    rintro D zs W hD hzs ⟨A6, c6, acc, hacc, ho, bm, bl, ht, hV⟩ hK
    subst hzs
    rw [hxm, remS_all] at hacc
    have hDl : D < W.heap.size := (Array.getElem?_eq_some_iff.1 hK).1
    have R : RdI W B A xs := H.out.belowLe (ht.below (Nat.le_refl _)) hB
    have R' : RdI W B' A' ys := H'.out.belowLe (ht.below (Nat.le_refl _)) hB'
    have hal : acc.length ≤ 10 := by rw [hacc]; unfold remF; have := missF_len xs ys; rw [List.length_map, List.length_reverse]; omega
    have ST := Lib.hid (implStays (c := c) (c' := c') xs ys rfl rfl (by omega) (by omega) R R' (by omega) (by omega))
    have hsl : (staysF xs ys).length ≤ ys.length := selF_len _ _ _ _ _
    have HSUB := Lib.hid (show ∀ k, memB k (staysF xs ys) = true → memB k xs = true from fun k hk => by
      unfold memB at hk ⊢
      rw [decide_eq_true_eq] at hk ⊢
      exact (staysF_before xs ys).subset hk)
    obtain ⟨st, hst⟩ : ∃ st, staysF xs ys = st := ⟨_, rfl⟩
    have HPF := Lib.hid (show patchF xs ys = acc ++ insG st xs (-1) ys from by rw [hacc, ← hst]; rfl)
    rw [hst] at ST HSUB hsl
    have BLF := Lib.hid (fun (V : World) (hb : Below W.heap.size W V) => (bl.below hb bl.lt).cell 0)
    have HK := Lib.hid hK
    have HO := Lib.hid ho
    have HT := Lib.hid ht
    have BM := Lib.hid bm
    have BL := Lib.hid bl
    have blc := bl.cell 0
    clear hacc hK ho ht bm bl R R' hst hbx hxe hxm hxl
    gi_wp2_with (refine ⟨trivial, ?_⟩; gi_at_call 64; refine (callsIn_wide.2 ST.out).mono ?_; rintro e w2 ⟨A3, c3, rfl, s3, b3⟩; have blc2 := BLF.out w2 b3)
    have z3 := b3.size
    have HD2 := Lib.hid (show w2.heap[D]? = some (.deferred (some [])) from (b3.block D hDl).trans HK.out)
    have SS := Lib.hid (show SlI w2 W.heap.size w2.heap.size A3 c3 st from s3)
    have SA := Lib.hid (HO.out.below b3 (Nat.le_refl _))
    have BM2 := Lib.hid (BM.out.below b3 (by omega))
    have BL2 := Lib.hid (BL.out.below b3 (by omega))
    have T2 := Lib.hid (show Turn w.heap.size w.heap.size w w2 from ⟨b3.os.trans HT.out.os, b3.tape.trans HT.out.tape, b3.output.trans HT.out.output, Nat.le_trans HT.out.size b3.size, fun k hk ho => (b3.block k (Nat.lt_of_lt_of_le hk HT.out.size)).trans (HT.out.block k hk ho)⟩)
    clear s3 b3 HK HO HT BM BL blc blc2 BLF ST
    gi_loopw [9, 35] (fun p i wr => ∃ (j : Nat) (A4 : Option Addr) (c4 lo4 hi4 : Nat) (out : List Chg), j ≤ ys.length ∧ i = .int .i64 j ∧ p = .int .i64 (lastP (-1) (ys.take j)) ∧ out = acc ++ insG st xs (-1) (ys.take j) ∧ SlC wr lo4 hi4 A4 c4 out ∧ ((wl.heap.size ≤ lo4 ∧ hi4 ≤ W.heap.size) ∨ (w2.heap.size ≤ lo4 ∧ hi4 ≤ wr.heap.size)) ∧ lo4 ≤ wr.heap.size ∧ Blk wr (w.heap.size + 1) 24 #[.slice A4 out.length c4] ∧ Blk wr w.heap.size 23 #[.slice A' ys.length c'] ∧ SlI wr W.heap.size w2.heap.size A3 c3 st ∧ Turn w.heap.size w.heap.size w wr ∧ w2.heap.size ≤ wr.heap.size ∧ wr.heap[D]? = some (.deferred (some []))) (fun _ i _ => ys.length - (intOf i).toNat)
    case atStart => exact ⟨0, A6, c6, wl.heap.size, W.heap.size, acc, Nat.zero_le _, rfl, rfl, by simp [insG], SA.out, .inl ⟨Nat.le_refl _, Nat.le_refl _⟩, by omega, BM2.out, BL2.out, SS.out, T2.out, Nat.le_refl _, HD2.out⟩
    case round =>
      clear SA BM2 BL2 SS T2 HD2
      obtain ⟨j, A4, c4, lo4, hi4, out, hj, rfl, rfl, hout, so, hloc, hlw, bm, bl, ss, ht, hzr, hd⟩ := hrel
      have hol : out.length ≤ 1048576 := by
        rw [hout, List.length_append]
        have := insG_len st xs (-1) (ys.take j)
        rw [List.length_take] at this
        omega
      have HOUT := Lib.hid hout
      have SO := Lib.hid so
      have R1 := Lib.hid (show RdI wr B A xs from H.out.belowLe (ht.below (Nat.le_refl _)) hB)
      have R2 := Lib.hid (show RdI wr B' A' ys from H'.out.belowLe (ht.below (Nat.le_refl _)) hB')
      have R3 := Lib.hid ss
      have HT := Lib.hid ht
      have HD := Lib.hid hd
      have BM := Lib.hid bm
      have BL := Lib.hid bl
      clear hout so ss ht hd
      by_cases hlt : j < ys.length
      · have HSN := Lib.hid (show insG st xs (-1) (ys.take (j + 1)) = insG st xs (-1) (ys.take j) ++ stepI st xs (lastP (-1) (ys.take j)) ys[j] from by rw [List.take_succ_eq_append_getElem hlt, insG_snoc])
        have HLS := Lib.hid (show lastP (-1) (ys.take (j + 1)) = ys[j] from by rw [List.take_succ_eq_append_getElem hlt, lastP_snoc])
        obtain ⟨adk, rfl, hab, hcc⟩ := R2.out.at_ hlt
        have ck := hcc j hlt
        have bmc := bm.cell 0
        obtain ⟨k, hk⟩ : ∃ k, ys[j] = k := ⟨_, rfl⟩
        obtain ⟨p, hp⟩ : ∃ p, lastP (-1) (ys.take j) = p := ⟨_, rfl⟩
        rw [hk] at ck HSN HLS
        rw [hp] at HSN ⊢
        have ARM := Lib.hid (fun (o : Obj) (w7 : World) (t7 : Turn lo4 hi4 (wr.alloc o) w7) => (show w7.cell? ⟨w.heap.size + 1, 0, none⟩ = some (.slice A4 out.length c4) ∧ w7.frozen? ⟨w.heap.size + 1, 0, none⟩ = false from by
          have := t7.blk (BM.out.alloc _) (.inl (by omega))
          exact ⟨this.cell 0, this.frozen 0⟩))
        have NEXT := Lib.hid (fun (o : Obj) (w7 : World) (A7 : Option Addr) (c7 lo7 hi7 kd : Nat) (h7 : SlC w7 lo7 hi7 A7 c7 (out ++ [⟨kd, k, p⟩])) (d7 : (lo7 = lo4 ∧ hi7 = hi4) ∨ (lo7 = (wr.alloc o).heap.size ∧ hi7 = w7.heap.size)) (t7 : Turn lo4 hi4 (wr.alloc o) w7) (k7 : KeepsOthers (wr.alloc o) w7) =>
          (show SlC (w7.setCell ⟨w.heap.size + 1, 0, none⟩ (.slice A7 (out.length + 1) c7)) lo7 hi7 A7 c7 (out ++ [⟨kd, k, p⟩]) ∧ ((wl.heap.size ≤ lo7 ∧ hi7 ≤ W.heap.size) ∨ (w2.heap.size ≤ lo7 ∧ hi7 ≤ (w7.setCell ⟨w.heap.size + 1, 0, none⟩ (.slice A7 (out.length + 1) c7)).heap.size)) ∧ lo7 ≤ (w7.setCell ⟨w.heap.size + 1, 0, none⟩ (.slice A7 (out.length + 1) c7)).heap.size ∧ Blk (w7.setCell ⟨w.heap.size + 1, 0, none⟩ (.slice A7 (out.length + 1) c7)) (w.heap.size + 1) 24 #[.slice A7 (out ++ [(⟨kd, k, p⟩ : Chg)]).length c7] ∧ Blk (w7.setCell ⟨w.heap.size + 1, 0, none⟩ (.slice A7 (out.length + 1) c7)) w.heap.size 23 #[.slice (some adk) ys.length c'] ∧ SlI (w7.setCell ⟨w.heap.size + 1, 0, none⟩ (.slice A7 (out.length + 1) c7)) W.heap.size w2.heap.size A3 c3 st ∧ Turn w.heap.size w.heap.size w (w7.setCell ⟨w.heap.size + 1, 0, none⟩ (.slice A7 (out.length + 1) c7)) ∧ w2.heap.size ≤ (w7.setCell ⟨w.heap.size + 1, 0, none⟩ (.slice A7 (out.length + 1) c7)).heap.size ∧ (w7.setCell ⟨w.heap.size + 1, 0, none⟩ (.slice A7 (out.length + 1) c7)).heap[D]? = some (.deferred (some [])) from by
          have hz7 := t7.size
          rw [World.size_alloc] at hz7 d7
          have hs7 : (w7.setCell ⟨w.heap.size + 1, 0, none⟩ (.slice A7 (out.length + 1) c7)).heap.size = w7.heap.size := by simp [World.setCell]
          have K8 : KeepsOthers wr (w7.setCell ⟨w.heap.size + 1, 0, none⟩ (.slice A7 (out.length + 1) c7)) := ((KeepsOthers.alloc wr _).trans k7).trans (KeepsOthers.setCell _ _ _)
          have t8 : Turn (w.heap.size + 1) (w.heap.size + 2) w7 (w7.setCell ⟨w.heap.size + 1, 0, none⟩ (.slice A7 (out.length + 1) c7)) := (Turn.refl _ _ _).setCell (p := ⟨w.heap.size + 1, 0, none⟩) (Nat.le_refl _) (.inl (Nat.lt_succ_self _)) _
          refine ⟨SlR.turn h7 t8 (.inr (by omega)), by rw [hs7]; omega, by rw [hs7]; omega, ?_, t8.blk (t7.blk (BL.out.alloc _) (.inl (by omega))) (.inl (by omega)), ((R3.out.alloc o).turn t7 (by omega)).turn t8 (.inr (by omega)), ((HT.out.alloc _).new t7 (by omega)).setCell (p := ⟨w.heap.size + 1, 0, none⟩) (by show w.heap.size ≤ w.heap.size + 1; omega) (.inr (by show w.heap.size ≤ w.heap.size + 1; omega)) _, by rw [hs7]; omega, K8.same _ _ HD.out rfl⟩
          rw [List.length_append]
          exact (t7.blk (BM.out.alloc _) (.inl (by omega))).set_ 0 (.slice A7 (out.length + 1) c7)))
        have P1 := Lib.hid (slicesContains (x := k) (c := c) (w := wr) xs rfl (by omega) R1.out)
        have P2 := Lib.hid (slicesContains (x := k) (c := c3) (w := wr) st rfl (by omega) R3.out.rd)
        have hsub := HSUB.out k
        clear hk hp hcc
        cases hm2 : memB k st
        case true =>
          have hm1 : memB k xs = true := hsub hm2
          rw [hm2] at P2
          have HST := Lib.hid (show stepI st xs p k = [] from by unfold stepI; rw [if_neg (by rw [hm1]; simp), if_neg (by rw [hm2]; simp)])
          clear hsub hm1 hm2 bm bl NEXT ARM
          gi_wp2_with ((first | (refine ⟨trivial, ?_⟩; gi_at_call 61) | gi_at_call 61); (with_reducible refine (callsIn_wide.2 P2.out).mono ?_); rintro e w' ⟨rfl, rfl⟩)
          go_roundw
          case rel => exact ⟨j + 1, A4, c4, lo4, hi4, out, by omega, by go_num, by rw [HLS.out], by rw [HSN.out, HST.out, HOUT.out]; simp, SO.out, hloc, hlw, BM.out, BL.out, R3.out, HT.out, hzr, HD.out⟩
          case measure => simp [intOf]; omega
        case false =>
          rw [hm2] at P2
          cases hm1 : memB k xs
          case false =>
            rw [hm1] at P1
            have HST := Lib.hid (show stepI st xs p k = [⟨1, k, p⟩] from by unfold stepI; rw [if_pos hm1])
            clear hsub hm1 hm2 bm bl
            gi_wp2_with (first
              | ((first | (refine ⟨trivial, ?_⟩; gi_at_call 61) | gi_at_call 61); (with_reducible refine (callsIn_wide.2 P2.out).mono ?_); rintro e w' ⟨rfl, rfl⟩)
              | ((first | (refine ⟨trivial, ?_⟩; gi_at_call 61) | gi_at_call 61); (with_reducible refine (callsIn_wide.2 P1.out).mono ?_); rintro e w' ⟨rfl, rfl⟩)
              | (gi_at_builtin; refine wpListIn_appCS (.tmp 46) (.tmp 51) rfl rfl out ⟨1, k, p⟩ rfl rfl (SO.out.alloc _) rfl (Blk.new _ _ _) (by omega) (by simp; omega) ?_; intro A7 c7 lo7 hi7 w7 h7 d7 t7 k7; obtain ⟨bm7, bf7⟩ := ARM.out _ w7 t7))
            obtain ⟨q1, q2, q3, q4, q5, q6, q7, q8, q9⟩ := NEXT.out _ _ _ _ _ _ 1 h7 d7 t7 k7
            clear t7 d7 k7
            go_roundw
            case rel => exact ⟨j + 1, A7, c7, lo7, hi7, out ++ [⟨1, k, p⟩], by omega, by go_num, by rw [HLS.out], by rw [HSN.out, HST.out, HOUT.out, List.append_assoc], q1, q2, q3, q4, q5, q6, q7, q8, q9⟩
            case measure => simp [intOf]; omega
          case true =>
            rw [hm1] at P1
            have HST := Lib.hid (show stepI st xs p k = [⟨2, k, p⟩] from by unfold stepI; rw [if_neg (by rw [hm1]; simp), if_pos hm2])
            clear hsub hm1 hm2 bm bl
            gi_wp2_with (first
              | ((first | (refine ⟨trivial, ?_⟩; gi_at_call 61) | gi_at_call 61); (with_reducible refine (callsIn_wide.2 P2.out).mono ?_); rintro e w' ⟨rfl, rfl⟩)
              | ((first | (refine ⟨trivial, ?_⟩; gi_at_call 61) | gi_at_call 61); (with_reducible refine (callsIn_wide.2 P1.out).mono ?_); rintro e w' ⟨rfl, rfl⟩)
              | (gi_at_builtin; refine wpListIn_appCS (.tmp 46) (.tmp 51) rfl rfl out ⟨2, k, p⟩ rfl rfl (SO.out.alloc _) rfl (Blk.new _ _ _) (by omega) (by simp; omega) ?_; intro A7 c7 lo7 hi7 w7 h7 d7 t7 k7; obtain ⟨bm7, bf7⟩ := ARM.out _ w7 t7))
            obtain ⟨q1, q2, q3, q4, q5, q6, q7, q8, q9⟩ := NEXT.out _ _ _ _ _ _ 2 h7 d7 t7 k7
            clear t7 d7 k7
            go_roundw
            case rel => exact ⟨j + 1, A7, c7, lo7, hi7, out ++ [⟨2, k, p⟩], by omega, by go_num, by rw [HLS.out], by rw [HSN.out, HST.out, HOUT.out, List.append_assoc], q1, q2, q3, q4, q5, q6, q7, q8, q9⟩
            case measure => simp [intOf]; omega
      · have hjl : ys.take j = ys := List.take_of_length_le (by omega)
        have HF := Lib.hid (show patchOfF xs ys = out from by rw [HPO.out, HOUT.out, HPF.out, hjl])
        have bmc := bm.cell 0
        have CLIP := Lib.hid (slicesClipC (c := c4) out rfl SO.out)
        clear hjl bm bl
        gi_wp2_with (refine ⟨trivial, ?_⟩; gi_at_call 65; refine (callsIn_wide.2 CLIP.out).mono ?_; rintro e w9 ⟨rfl, s9, rfl⟩)
        have g1 := grownBy_putObj' wr D (.deferred none)
        have r1 : ∀ r, some D = some r → w.heap.size ≤ r ∧ ∃ o : Obj, wr.heap[r]? = some o ∧ o.isCells = false := fun r e => by cases e; exact ⟨by omega, _, HD.out, rfl⟩
        refine ⟨by simp, .inl ⟨_, _, rfl, run_takeDeferred HD.out, ?_⟩⟩
        refine ⟨_, results_tmp rfl _ _ _, ?_⟩
        rw [HF.out]
        exact ⟨A4, out.length, rfl, SlC.ownTop (SlR.mono s9 (by omega) (by omega)) g1 r1, (HT.out.own g1 r1 (Nat.le_refl _)).below (Nat.le_refl _)⟩
end Go.Proofs.Ytmmegmefiihabaa
