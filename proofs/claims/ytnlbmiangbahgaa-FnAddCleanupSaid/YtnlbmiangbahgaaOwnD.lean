/-
  impl.copyOwners, openOf.
-/
import Derived.Test.YtnlbmiangbahgaaOwnC
namespace Go.Proofs.Ytnlbmiangbahgaa
open Go.RowKit

theorem twoA {w0 w1 w2 : World} {A1 A3 : Option Addr} {c1 c3 : Nat} {xs ys : List Int} (s1 : SlI w1 w0.heap.size w1.heap.size A1 c1 xs) (b1 : Below w0.heap.size w0 w1) (s2 : SlI w2 w1.heap.size w2.heap.size A3 c3 ys) (b2 : Below w1.heap.size w1 w2) :
    SlI w2 w0.heap.size w2.heap.size A1 c1 xs ∧ SlI w2 w0.heap.size w2.heap.size A3 c3 ys ∧ (∀ b ∈ live A1 c1, b ∉ live A3 c3) ∧ Below w0.heap.size w0 w2 :=
  ⟨(s1.below b2 (Nat.le_refl _)).mono (Nat.le_refl _) b2.size, s2.mono b1.size (Nat.le_refl _), fun b h1 h2 => by have := (Sl.live_in s1 b h1).2.1; have := (Sl.live_in s2 b h2).1; omega, b1.trans (b2.mono b1.size)⟩
theorem twoB {w0 w1 w2 : World} {A1 A3 : Option Addr} {c1 c3 : Nat} {xs ys : List Int} (s1 : SlI w1 w0.heap.size w1.heap.size A1 c1 xs) (b1 : Below w0.heap.size w0 w1) (s2 : SlI w2 w1.heap.size w2.heap.size A3 c3 ys) (b2 : Below w1.heap.size w1 w2) :
    SlI w2 w0.heap.size w2.heap.size A3 c3 ys ∧ SlI w2 w0.heap.size w2.heap.size A1 c1 xs ∧ (∀ b ∈ live A3 c3, b ∉ live A1 c1) ∧ Below w0.heap.size w0 w2 := by
  obtain ⟨h1, h2, h3, h4⟩ := twoA s1 b1 s2 b2
  exact ⟨h2, h1, fun b hb hb2 => h3 b hb2 hb, h4⟩

set_option maxRecDepth 100000 in
set_option maxHeartbeats 3200000 in
theorem implCopyOwners {A : Option Addr} {c n B : Nat} {w : World} (os : List Own) (ln : os.length = n) (hn : n ≤ 1048577) (hm : ∀ o ∈ os, o.cl.length ≤ 1099511627776 ∧ o.cx.length ≤ 1099511627776) (h : RdO w B A os) (hB : B ≤ w.heap.size) :
    Calls Try.prog 35 #[.slice A n c] w (MadeO w os) := by
  subst ln
  have hmk := run_makeO os.length (by omega) w
  have HM := Lib.hid hm; clear hm
  go_enter Try.func35, Try.ntmps35
  go_wp2_with fail
  clear hmk
  go_loopw [11] (fun i wr => ∃ (k : Nat) (ps : List (Own × Hd)), k ≤ os.length ∧ i = .int .i64 k ∧ ps.length = os.length ∧ (ps.take k).map Prod.fst = os.take k ∧ (∀ j, k ≤ j → j < os.length → ps[j]? = some zeroO) ∧ SlP wr w.heap.size wr.heap.size (some ⟨w.heap.size, 0, none⟩) os.length ps ∧ Below w.heap.size w wr) (fun i _ => os.length - (intOf i).toNat)
  case atStart => exact ⟨0, List.replicate os.length zeroO, Nat.zero_le _, rfl, by simp, by simp, fun j _ hj => by simp [hj], SlP.made (Blk.new _ _ _) (Nat.le_refl _) (by simp), (Below.refl _ _).alloc (Nat.le_refl _) _⟩
  case round =>
    obtain ⟨k, ps, hk, rfl, hps, htk, hzz, hs, hb⟩ := hrel
    have HPS := Lib.hid hps; clear hps
    have HTK := Lib.hid htk; clear htk
    have HZ := Lib.hid hzz; clear hzz
    have HS := Lib.hid hs; clear hs
    have HB := Lib.hid hb; clear hb
    by_cases hlt : k < os.length
    · obtain ⟨g, o, hd, rfl, had, ⟨c0, c1, c2, c3⟩, q1, q2, q3, q5⟩ := (h.belowLe HB.out hB).at_ hlt
      have hmk := HM.out os[k] (List.getElem_mem hlt)
      have HX := Lib.hid (show (os.take (k + 1)) = os.take k ++ [os[k]] from List.take_succ_eq_append_getElem hlt)
      obtain ⟨x, hx⟩ : ∃ x, os[k] = x := ⟨_, rfl⟩
      rw [hx] at c0 c1 c2 c3 q1 q2 q3 q5 hmk HX
      obtain ⟨p, op, cl, cx⟩ := x
      simp only at c0 c1 c2 c3 q1 q2 q3 q5 hmk
      obtain ⟨hm1, hm2⟩ := hmk
      have hz0 := HB.out.size
      have hgr : w.heap.size < wr.heap.size := by
        have := HS.out.cells (HZ.out k (Nat.le_refl _) hlt)
        obtain ⟨g', o', hA, _, _, h5, _⟩ := this
        simp only [Option.some.injEq, Addr.mk.injEq, and_true] at hA
        omega
      have hk0 : (0 : Int) ≤ (k : Int) := Int.natCast_nonneg _
      have hk1 : (k : Int) < (os.length : Int) := by omega
      -- what the two calls find, and what is as it was behind them
      have CL1 := Lib.hid (fun (W : World) (hW : Below wr.heap.size wr W) => cloneI (w := W) (c := hd.clC) cl rfl (by omega) (q1.belowLe hW (Nat.le_trans hB hz0)) (Nat.le_trans (Nat.le_trans hB hz0) hW.size))
      have CL2 := Lib.hid (fun (W : World) (hW : Below wr.heap.size wr W) => cloneI (w := W) (c := hd.cxC) cx rfl (by omega) (q2.belowLe hW (Nat.le_trans hB hz0)) (Nat.le_trans (Nat.le_trans hB hz0) hW.size))
      have KP := Lib.hid (fun (W : World) (hW : Below (wr.heap.size + 1) (wr.alloc (.cells #[.int .i64 p, .bool op, .slice hd.clA cl.length hd.clC, .slice hd.cxA cx.length hd.cxC] 32)) W) => (show
          (W.cell? ⟨wr.heap.size, 0, none⟩ = some (.int .i64 p) ∧ W.cell? ⟨wr.heap.size, 1, none⟩ = some (.bool op) ∧ W.cell? ⟨wr.heap.size, 2, none⟩ = some (.slice hd.clA cl.length hd.clC) ∧ W.cell? ⟨wr.heap.size, 3, none⟩ = some (.slice hd.cxA cx.length hd.cxC)) ∧
          (W.cell? ⟨w.heap.size, k * 4, none⟩ = some (.int .i64 0) ∧ W.cell? ⟨w.heap.size, k * 4 + 1, none⟩ = some (.bool false) ∧ W.cell? ⟨w.heap.size, k * 4 + 2, none⟩ = some (.slice none 0 0) ∧ W.cell? ⟨w.heap.size, k * 4 + 3, none⟩ = some (.slice none 0 0)) ∧
          (W.frozen? ⟨w.heap.size, k * 4, none⟩ = false ∧ W.frozen? ⟨w.heap.size, k * 4 + 1, none⟩ = false ∧ W.frozen? ⟨w.heap.size, k * 4 + 2, none⟩ = false ∧ W.frozen? ⟨w.heap.size, k * 4 + 3, none⟩ = false) from by
        have v := (Blk.new wr 32 #[.int .i64 p, .bool op, .slice hd.clA cl.length hd.clC, .slice hd.cxA cx.length hd.cxC]).below hW (Nat.lt_succ_self _)
        have s := (HS.out.alloc (.cells #[.int .i64 p, .bool op, .slice hd.clA cl.length hd.clC, .slice hd.cxA cx.length hd.cxC] 32)).below hW (Nat.le_succ _)
        have hzk := HZ.out k (Nat.le_refl _) hlt
        obtain ⟨g', o', hA, _, _, _, _, d1, d2, _⟩ := s.cells hzk
        simp only [Option.some.injEq, Addr.mk.injEq, and_true] at hA
        obtain ⟨rfl, rfl⟩ := hA
        have d10 := d1 k _ hzk 0 _ rfl
        have d11 := d1 k _ hzk 1 _ rfl
        have d12 := d1 k _ hzk 2 _ rfl
        have d13 := d1 k _ hzk 3 _ rfl
        have f0 := d2 (k * 4)
        have f1 := d2 (k * 4 + 1)
        have f2 := d2 (k * 4 + 2)
        have f3 := d2 (k * 4 + 3)
        simp only [Nat.zero_add, Nat.add_zero] at d10 d11 d12 d13 f0 f1 f2 f3
        exact ⟨v.four.1, ⟨d10, d11, d12, d13⟩, f0, f1, f2, f3⟩))
      have BX := Lib.hid (below1 wr (.cells #[.int .i64 p, .bool op, .slice hd.clA cl.length hd.clC, .slice hd.cxA cx.length hd.cxC] 32))
      clear h q1 q2 q3 q5 hx
      go_wp2_with fail
      have hwA : Below (wr.heap.size + 1) (wr.alloc (.cells #[.int .i64 p, .bool op, .slice hd.clA cl.length hd.clC, .slice hd.cxA cx.length hd.cxC] 32)) (wr.alloc (.cells #[.int .i64 p, .bool op, .slice hd.clA cl.length hd.clC, .slice hd.cxA cx.length hd.cxC] 32)).drew := (Below.refl _ _).drew
      have hne : ¬ wr.heap.size = w.heap.size := by omega
      have hne2 : ¬ w.heap.size = wr.heap.size := by omega
      go_region_held3 (fun W => (W.cell? ⟨wr.heap.size, 0, none⟩ = some (.int .i64 p) ∧ W.cell? ⟨wr.heap.size, 1, none⟩ = some (.bool op) ∧ W.cell? ⟨wr.heap.size, 2, none⟩ = some (.slice hd.clA cl.length hd.clC) ∧ W.cell? ⟨wr.heap.size, 3, none⟩ = some (.slice hd.cxA cx.length hd.cxC)))
        (first | exact (KP.out _ hwC).1 | exact (KP.out _ hwB).1 | exact (KP.out _ hwA).1 | (have hB4 := (KP.out _ hwC).1; go_keep))
        ((first
          | (go_at_call 50; (with_reducible refine (CL1.out _ (BX.out.1.trans ((hwA.mono (by omega))))).mono ?_); rintro e w1 ⟨A1, c1, rfl, s1, b1⟩; have hwB := hwA.trans (b1.mono (by simp)))
          | (go_at_call 50; (with_reducible refine (CL2.out _ (BX.out.1.trans ((hwA.mono (by omega))))).mono ?_); rintro e w1 ⟨A3, c3, rfl, s2, b1⟩; have hwB := hwA.trans (b1.mono (by simp)))
          | (go_at_call 50; (with_reducible refine (CL2.out _ (BX.out.1.trans ((hwB.mono (by omega))))).mono ?_); rintro e w2 ⟨A3, c3, rfl, s2, b2⟩; have hwC := hwB.trans (b2.mono (by have := hwB.size; simp at this; omega)); obtain ⟨_, ⟨d0, d1, d2, d3⟩, f0, f1, f2, f3⟩ := KP.out _ hwC)
          | (go_at_call 50; (with_reducible refine (CL1.out _ (BX.out.1.trans ((hwB.mono (by omega))))).mono ?_); rintro e w2 ⟨A1, c1, rfl, s1, b2⟩; have hwC := hwB.trans (b2.mono (by have := hwB.size; simp at this; omega)); obtain ⟨_, ⟨d0, d1, d2, d3⟩, f0, f1, f2, f3⟩ := KP.out _ hwC)))
      obtain ⟨T1, T2, T3, T4⟩ := twoA s1 b1 s2 b2
      have hzA : (wr.alloc (.cells #[.int .i64 p, .bool op, .slice hd.clA cl.length hd.clC, .slice hd.cxA cx.length hd.cxC] 32)).drew.heap.size = wr.heap.size + 1 := BX.out.2
      rw [hzA] at T1 T2
      have hz2 : wr.heap.size + 1 ≤ w2.heap.size := by have := hwC.size; rw [BX.out.2] at this; exact this
      have hs2 := (HS.out.alloc (.cells #[.int .i64 p, .bool op, .slice hd.clA cl.length hd.clC, .slice hd.cxA cx.length hd.cxC] 32)).below hwC (Nat.le_succ _)
      obtain ⟨p4, t4⟩ := hs2.putAll (hi' := w2.heap.size) (⟨p, op, cl, cx⟩, ⟨A1, c1, A3, c3⟩) (HZ.out k (Nat.le_refl _) hlt) (by omega) (T1.mono (by omega) (Nat.le_refl _)) (T2.mono (by omega) (Nat.le_refl _)) T3 (fun b hb => by
        unfold foot at hb
        rw [List.mem_append] at hb
        rcases hb with hb | hb
        · have := (Sl.live_in T1 b hb).1; omega
        · have := (Sl.live_in T2 b hb).1; omega) rfl
      simp only [Nat.zero_add, Nat.add_zero] at p4 t4
      have P4 := Lib.hid p4
      have B4 := Lib.hid ((HB.out.trans ((BX.out.1.trans (hwC.mono (by omega))).mono hz0)).trans ((t4.below (by omega)).mono (Nat.le_refl _)))
      clear p4 t4 hs2 T1 T2 T3 T4 hzA hz2 s1 s2 b1 b2 hwA hwB hwC d0 d1 d2 d3 f0 f1 f2 f3
      go_wp2_with fail
      go_roundw
      case rel =>
        refine ⟨k + 1, ps.set k (⟨p, op, cl, cx⟩, ⟨A1, c1, A3, c3⟩), by omega, by go_num, by rw [List.length_set]; exact HPS.out, ?_, ?_, ?_, B4.out⟩
        · have hkp : k < ps.length := by rw [HPS.out]; exact hlt
          rw [HX.out, List.take_succ_eq_append_getElem (by rw [List.length_set]; exact hkp), List.take_set_of_le (Nat.le_refl _), List.map_append, HTK.out]
          simp
        · intro j hj hj2
          rw [List.getElem?_set_ne (by omega)]
          exact HZ.out j (by omega) hj2
        · have := P4.out
          simpa [World.setCell] using this
      case measure => simp [intOf]; omega
    · have hkl : k = os.length := by omega
      have HK := Lib.hid hkl
      clear hkl h
      go_wp2_with fail
      go_ret
      refine ⟨_, _, rfl, ⟨ps, ?_, HS.out⟩, HB.out⟩
      have h1 := HTK.out
      rw [HK.out, List.take_length, List.take_of_length_le (by rw [HPS.out]; exact Nat.le_refl _)] at h1
      exact h1
end Go.Proofs.Ytnlbmiangbahgaa
