/-
  spec.goodKeys, spec.someKeys: drawn keys.
-/
import Derived.Test.YtmmegmefiihabaaReader
import Derived.Test.YtmmegmefiihabaaLists
namespace Go.Proofs.Ytmmegmefiihabaa
open Go.RowKit

set_option maxHeartbeats 800000 in
theorem goodKeys {N g m : Nat} {w : World} (hm : m ≤ 900000) (h : Rdr w N g m) :
    Calls Try.prog 94 #[.pointer (some ⟨g, 0, none⟩)] w (DrawI N g (m + 11) 10 w) := by
  have hg := h.lt
  have H0 := Lib.hid h; clear h
  go_enter Try.func94, Try.ntmps94
  go_wp2_with fail
  have o1 := SlI.newAt (lo := w.heap.size) (w := w.alloc (.cells #[] 3)) (w.heap.size + 1) (by simp) [5, 4, 6, 3, 8, 10, 1, 0] (by omega)
  have r1 := H0.out.below (((Below.refl w.heap.size w).alloc (Nat.le_refl _) (.cells #[] 3)).alloc (by simp) (.cells (ints [5, 4, 6, 3, 8, 10, 1, 0]).toArray 3)) hg
  have O1 := Lib.hid o1; clear o1
  have R1 := Lib.hid r1; clear r1
  refine (one (n := 8) [5, 4, 6, 3, 8, 10, 1, 0] rfl (by omega) (by omega) N g m (by omega) R1.out O1.out hg).mono ?_
  rintro e w1 ⟨q, hq, rfl, r2, t2⟩
  have hq2 : 0 ≤ q ∧ q ≤ 10 := by simp at hq; omega
  obtain ⟨hq0, hq1⟩ := hq2
  have t3 : Turn g (g + 1) w w1 := (((Turn.refl g (g + 1) w).alloc (.cells #[] 3)).alloc (.cells (ints [5, 4, 6, 3, 8, 10, 1, 0]).toArray 3)).trans t2
  have s0 : SlI w1 w.heap.size w1.heap.size (some ⟨w.heap.size, 0, none⟩) 0 [] :=
    (((SlI.new w [] (lo := w.heap.size) (Nat.le_refl _)).alloc (.cells (ints [5, 4, 6, 3, 8, 10, 1, 0]).toArray 3)).turn t2 (.inr (by omega))).mono (Nat.le_refl _) (by have := t2.size; simp at this; omega)
  have R2 := Lib.hid r2
  have T3 := Lib.hid t3
  have S0 := Lib.hid s0
  clear r2 t3 s0 t2 hq
  obtain ⟨q, rfl⟩ := Int.eq_ofNat_of_zero_le hq0
  go_wp2_with fail
  go_loopw [3, 4] (fun v i wr => ∃ (j m' : Nat) (A' : Option Addr) (c' : Nat) (xs : List Int), j ≤ 10 ∧ m' + j ≤ m + 11 ∧ i = .int .i64 j ∧ v = .slice A' xs.length c' ∧ xs.length + j ≤ 10 ∧ SlI wr w.heap.size wr.heap.size A' c' xs ∧ Rdr wr N g m' ∧ Turn g (g + 1) w wr) (fun _ i _ => (intOf i).toNat)
  case atStart => exact ⟨q, m + 1, _, 0, [], by omega, by omega, rfl, rfl, by simp; omega, S0.out, R2.out, T3.out⟩
  case round =>
    obtain ⟨j, m', A', c', xs, hj, hm', rfl, rfl, hl, hs, hr, ht⟩ := hrel
    have hz := ht.size
    have HS := Lib.hid hs; clear hs
    have HR := Lib.hid hr; clear hr
    have HT := Lib.hid ht; clear ht
    by_cases hj0 : 0 < j
    · go_wp2_with fail
      refine (pick _ N g m' _ (by omega) HR.out).mono ?_; rintro e w3 ⟨y, rfl, _, _, r3, t3⟩
      have s3 := (HS.out.turn t3 (.inr (by omega))).mono (Nat.le_refl _) t3.size
      have hz3 := t3.size
      have S3 := Lib.hid s3; clear s3
      have R3 := Lib.hid r3; clear r3
      have T3' := Lib.hid (HT.out.trans t3); clear t3
      go_wp2_with fail
      refine (placeIn xs rfl (by omega) S3.out.rd).mono ?_; rintro e w3' ⟨rfl, rfl⟩
      go_wp2_with (at_builtin; refine wpList_appI (.tmp 20) (.tmp 22) rfl rfl xs [y] rfl rfl (S3.out.alloc _) rfl rfl (SlI.new w3 [y] (lo := 0) (Nat.zero_le _)).rd (by omega) (by simp; omega) ?_; intro A4 c4 w4 h4 t4 _)
      · have s4 := h4.all t4 (by simp)
        have S4 := Lib.hid s4
        have R4 := Lib.hid ((R3.out.below ((Below.refl _ _).alloc (Nat.le_refl _) (.cells (ints [y]).toArray 3)) (by omega)).turn t4 (by omega))
        have T4 := Lib.hid ((T3'.out.alloc (.cells (ints [y]).toArray 3)).new t4 (Nat.le_refl _))
        clear h4 t4 s4
        go_wp2
        go_roundw
        case rel => exact ⟨j - 1, m' + 1, _, _, xs ++ [y], by omega, by omega, by go_num, by simp, by simp; omega, S4.out, R4.out, T4.out⟩
        case measure => simp [intOf]; omega
      · go_roundw
        case rel => exact ⟨j - 1, m' + 1, _, _, xs, by omega, by omega, by go_num, rfl, by omega, S3.out, R3.out, T3'.out⟩
        case measure => simp [intOf]; omega
    · go_wp2
      go_ret
      exact ⟨_, _, _, rfl, by omega, HS.out, HR.out.more (by omega), HT.out⟩

set_option maxHeartbeats 800000 in
theorem someKeys {N g m : Nat} {w : World} (hm : m ≤ 900000) (h : Rdr w N g m) :
    Calls Try.prog 78 #[.pointer (some ⟨g, 0, none⟩)] w (DrawI N g (m + 13) 11 w) := by
  have hg := h.lt
  have H0 := Lib.hid h; clear h
  go_enter Try.func78, Try.ntmps78
  go_wp2_with fail
  refine (goodKeys hm H0.out).mono ?_; rintro e w1 ⟨A1, c1, xs, rfl, hl, s1, r1, t1⟩
  have S1 := Lib.hid s1; clear s1
  have R1 := Lib.hid r1; clear r1
  have T1 := Lib.hid t1
  have hz1 := t1.size; clear t1
  by_cases hx : 0 < xs.length
  · go_wp2_with fail
    refine (pick _ N g (m + 11) _ (by omega) R1.out).mono ?_; rintro e w2 ⟨v, rfl, hv0, hv, r2, t2⟩
    have S2 := Lib.hid ((S1.out.turn t2 (.inr (by omega))).mono (Nat.le_refl _) t2.size)
    have R2 := Lib.hid r2; clear r2
    have T2 := Lib.hid (T1.out.trans t2)
    have hz2 := t2.size; clear t2
    have hg2 := R2.out.lt
    obtain ⟨g', o, hA, hg1, _, hcc, hff, hst⟩ := S2.out.at_ (k := 0) hx
    subst hA
    have hcell := hcc 0 hx
    have hfr := hff 0
    simp only [Nat.add_zero] at hcell hfr
    by_cases hv1 : v = 0
    · subst hv1
      clear hst hcc hff hv hv0
      obtain ⟨y, hy⟩ : ∃ y, xs[0] = y := ⟨_, rfl⟩
      rw [hy] at hcell
      clear hy
      go_wp2_with (at_builtin; refine wpList_appI (.tmp 13) (.tmp 17) rfl rfl xs [y] rfl rfl (S2.out.alloc _) rfl rfl (SlI.new w2 [y] (lo := 0) (Nat.zero_le _)).rd (by omega) (by simp; omega) ?_; intro A4 c4 w4 h4 t4 _)
      have S4 := Lib.hid (h4.all t4 (by simp))
      have R4 := Lib.hid ((R2.out.below ((Below.refl _ _).alloc (Nat.le_refl _) (.cells (ints [y]).toArray 3)) hg2).turn t4 (by omega))
      have T4 := Lib.hid ((T2.out.alloc (.cells (ints [y]).toArray 3)).new t4 (Nat.le_refl _))
      clear h4 t4
      go_wp2
      go_ret
      exact ⟨A4, c4, xs ++ [y], by simp, by simp; omega, S4.out, R4.out.more (by omega), T4.out⟩
    · have hv1' : (v == 0) = false := by rw [beq_eq_false_iff_ne]; exact hv1
      by_cases hv2 : v = 1
      · subst hv2
        clear hv hv0 hv1 hcc hff hcell hfr hst
        go_wp2_with fail
        have R3 := R2.out.below ((Below.refl w2.heap.size w2).alloc (Nat.le_refl _) (.cells (ints [-1, 31]).toArray 3)) hg2
        refine (one (n := 2) [-1, 31] rfl (by omega) (by omega) N g (m + 12) (by omega) R3 (SlI.new (lo := g + 1) w2 [-1, 31] (by omega)) (by omega)).mono ?_
        rintro e w3 ⟨y, _, rfl, r4, t4⟩
        have s4 := ((S2.out.alloc (.cells (ints [-1, 31]).toArray 3)).turn t4 (.inr (by omega)))
        obtain ⟨g'', o', hA, hg1', hg2', hcc, hff, hst⟩ := s4.at_ (k := 0) hx
        simp only [Option.some.injEq, Addr.mk.injEq, and_true] at hA
        obtain ⟨rfl, rfl⟩ := hA
        have hcell := hcc 0 hx
        have hfr := hff 0
        simp only [Nat.add_zero] at hcell hfr
        obtain ⟨h5, h6⟩ := hst 0 y hx
        simp only [Nat.add_zero] at h5 h6
        have hz4 := t4.size
        simp at hz4
        have S5 := Lib.hid h5
        have R5 := Lib.hid (r4.turn h6 (by omega))
        have T5 := Lib.hid (((T2.out.alloc (.cells (ints [-1, 31]).toArray 3)).trans t4).new h6 (Nat.le_refl _))
        obtain ⟨u, hu⟩ : ∃ u, xs[0] = u := ⟨_, rfl⟩
        rw [hu] at hcell
        clear hu hst hcc hff h5 h6 r4 t4 s4 R3
        go_wp2
        go_ret
        exact ⟨_, c1, xs.set 0 y, by simp, by simp; omega, S5.out.mono (Nat.le_refl _) (by simp [World.setCell]; omega), R5.out.more (by omega), T5.out⟩
      · have hv2' : (v == 1) = false := by rw [beq_eq_false_iff_ne]; exact hv2
        clear hst hcc hff hcell hfr hv hv0 hv1 hv2
        go_wp2
        go_ret
        exact ⟨_, c1, xs, rfl, by omega, S2.out, R2.out.more (by omega), T2.out⟩
  · go_wp2
    go_ret
    exact ⟨A1, c1, xs, rfl, by omega, S1.out, R1.out.more (by omega), T1.out⟩

end Go.Proofs.Ytmmegmefiihabaa
