/-
  Formulas as values: what came in; the laws' own functions on them.
-/
import Derived.Test.YtlinngohbghimaaForm
import Derived.Test.YtlinngohbghimaaRecP
namespace Go.Proofs.Ytlinngohbghimaa
open Go.RowKit

theorem blkAt {w : World} {g : Nat} {t : TypeId} {cs : Array Value} (hg : w.heap.size = g) : Blk (w.alloc (.cells cs t)) g t cs := hg ▸ Blk.new w t cs
/-- a formula that is new -/
def MadeF (w : World) (xs : List Prt) (e : Ending) (w' : World) : Prop :=
  ∃ A c, e = .returned (.agg #[.slice A xs.length c]) ∧ SlP w' w.heap.size w'.heap.size A c xs ∧ Below w.heap.size w w'
theorem MadeF.nil {w w' : World} (h : Below w.heap.size w w') : MadeF w [] (.returned (.agg #[.slice none 0 0])) w' := ⟨none, 0, rfl, SlR.nil, h⟩

theorem szF {A : Option Addr} {c n : Nat} {w : World} {l : Int} (hn : n ≤ 9223372036854775807) (h0 : 0 ≤ l) (h1 : l ≤ 1099511627776) :
    Calls Try.prog 10 #[.agg #[.slice A n c], .int .i64 l] w fun e w' => (∃ v : Int, e = .returned (.int .i64 v) ∧ ((0 ≤ v ∧ v = l - n) ∨ (v = -1 ∧ l < n))) ∧ Below w.heap.size w w' := by
  have B1 := Lib.hid (bel1P w (.cells #[.slice A n c] 24))
  go_enter Try.func10, Try.ntmps10
  go_wp2_with fail
  refine (szPS hn h0 h1).mono ?_; rintro e w2 ⟨⟨v, rfl, hv⟩, rfl⟩
  rcases hv with ⟨hv0, rfl⟩ | ⟨rfl, hv1⟩
  · go_wp2_with fail
    go_ret
    exact ⟨⟨l - n, rfl, .inl ⟨by omega, rfl⟩⟩, B1.out⟩
  · go_wp2_with fail
    go_ret
    exact ⟨⟨-1, rfl, .inr ⟨rfl, hv1⟩⟩, B1.out⟩

theorem eqF {A A' : Option Addr} {c c' n n' B B' : Nat} {w : World} (xs ys : List Prt) (ln : xs.length = n) (ln' : ys.length = n') (hn : n ≤ 9223372036854775807) (h : RdP w B A xs) (h' : RdP w B' A' ys) (hB : B ≤ w.heap.size) (hB' : B' ≤ w.heap.size) :
    Calls Try.prog 14 #[.agg #[.slice A n c], .agg #[.slice A' n' c']] w fun e w' => e = .returned (.bool (decide (xs = ys))) ∧ Below w.heap.size w w' := by
  have B2 := Lib.hid (bel2P w (.cells #[.slice A n c] 29) (.cells #[.slice A' n' c'] 29))
  have HX := Lib.hid (h.belowLe B2.out hB)
  have HY := Lib.hid (h'.belowLe B2.out hB')
  clear h h'
  go_enter Try.func14, Try.ntmps14
  go_wp2_with fail
  refine (eqPS xs ys ln ln' hn HX.out HY.out (by simp; omega) (by simp; omega)).mono ?_; rintro e w2 ⟨rfl, b2⟩
  have B3 := Lib.hid (B2.out.trans (b2.mono (by simp; omega))); clear b2
  cases hd : decide (xs = ys)
  · have HD := Lib.hid hd; clear hd
    go_wp2_with fail
    go_ret
    exact ⟨ret_bool HD.out.symm, B3.out⟩
  · have HD := Lib.hid hd; clear hd
    go_wp2_with fail
    go_ret
    exact ⟨ret_bool HD.out.symm, B3.out⟩

theorem markF {A : Option Addr} {c n lo hi : Nat} {w : World} {k : Int} (xs : List Prt) (ln : xs.length = n) (hn : n ≤ 1099511627776) (h0 : 0 ≤ k) (hk : k ≤ 1099511627776) (h : SlP w lo hi A c xs) :
    Calls Try.prog 22 #[.agg #[.slice A n c], .int .i64 k] w fun e w' => e = .returned (.int .i64 (k + (n : Int) * 5)) ∧ SlP w' lo hi A c (marksP k n) ∧ Turn lo hi w w' := by
  have S := Lib.hid (h.alloc (.cells #[.slice A n c] 29)); clear h
  have T := Lib.hid ((Turn.refl lo hi w).alloc (.cells #[.slice A n c] 29))
  go_enter Try.func22, Try.ntmps22
  go_wp2_with fail
  refine (markPS xs ln hn h0 hk S.out).mono ?_; rintro e w2 ⟨rfl, s2, t2, z2⟩
  have S2 := Lib.hid s2
  have T2 := Lib.hid (T.out.trans t2)
  clear s2 t2 z2
  go_wp2_with fail
  go_ret
  exact ⟨rfl, S2.out, T2.out⟩

theorem heldF {A : Option Addr} {c n B : Nat} {w : World} {k : Int} (hn : n ≤ 1099511627776) (h0 : 0 ≤ k) (hk : k ≤ 1099511627776) (h : RdP w B A (marksP k n)) (hB : B ≤ w.heap.size) :
    Calls Try.prog 26 #[.agg #[.slice A n c], .int .i64 k] w fun e w' => e = .returned (.int .i64 (k + (n : Int) * 5)) ∧ Below w.heap.size w w' := by
  have B1 := Lib.hid (bel1P w (.cells #[.slice A n c] 29))
  have S := Lib.hid (h.belowLe B1.out hB); clear h
  go_enter Try.func26, Try.ntmps26
  go_wp2_with fail
  refine (heldPS hn h0 hk S.out).mono ?_; rintro e w2 ⟨rfl, rfl⟩
  have hp : ¬ k + (n : Int) * 5 < 0 := by omega
  obtain ⟨q, hq⟩ : ∃ q, k + (n : Int) * 5 = q := ⟨_, rfl⟩
  rw [hq] at hp ⊢
  have HQ := Lib.hid hq
  clear hq
  go_wp2_with fail
  go_ret
  exact ⟨ret_int HQ.out.symm, B1.out⟩

set_option maxHeartbeats 800000 in
theorem toF {A : Option Addr} {c n B : Nat} {w : World} (xs : List Prt) (ln : xs.length = n) (hn : n ≤ 4294967296) (h : RdP w B A xs) (hB : B ≤ w.heap.size) :
    Calls Try.prog 12 #[.agg #[.slice A n c]] w (MadeF w xs) := by
  obtain ⟨W3, hW3⟩ : ∃ W3, W3 = ((w.alloc (.cells #[.slice A n c] 24)).alloc (.cells #[.slice none 0 0] 29)).alloc (.cells #[.slice none 0 0] 29) := ⟨_, rfl⟩
  have B3 := Lib.hid (show Below w.heap.size w W3 from by rw [hW3]; exact (bel2P w _ _).alloc (by simp; omega) _)
  have z3 : W3.heap.size = w.heap.size + 3 := by rw [hW3]; simp
  have HZ := Lib.hid z3
  have HX := Lib.hid (h.belowLe B3.out hB)
  have K1 := Lib.hid (show Blk W3 (w.heap.size + 1) 29 #[.slice none 0 0] from by rw [hW3]; exact (blkAt (by simp)).alloc _)
  have K2 := Lib.hid (show Blk W3 (w.heap.size + 2) 29 #[.slice none 0 0] from by rw [hW3]; exact blkAt (by simp))
  clear h z3
  subst hW3
  go_enter Try.func12, Try.ntmps12
  go_wp2_with fail
  refine (toPS xs ln hn HX.out (by rw [HZ.out]; omega)).mono ?_; rintro e w4 ⟨A4, c4, rfl, s4, b4⟩
  have z4 := b4.size
  rw [HZ.out] at z4
  have k1 := K1.out.below b4 (by rw [HZ.out]; omega)
  have k2 := K2.out.below b4 (by rw [HZ.out]; omega)
  have f1 := k1.frozen 0
  have f2 := k2.frozen 0
  have g1 := k1.cell 0
  have g2 := k2.cell 0
  have S4 := Lib.hid (s4.mono (show w.heap.size + 3 ≤ _ from by rw [HZ.out]; exact Nat.le_refl _) (Nat.le_refl _))
  have B4 := Lib.hid (B3.out.trans (b4.mono (by rw [HZ.out]; omega)))
  have E := Lib.hid (((k1.far (p := ⟨w.heap.size + 1 + 1, 0, none⟩) (by simp) (.slice A4 n c4)).set_ 0 (.slice A4 n c4)).cell 0)
  clear s4 b4 k1 k2
  go_wp2_with fail
  have HE := E.out
  simp at HE
  refine bodyPost_ret (v := .agg #[.slice A4 n c4]) (by simp [results, Try.results12, go_sem, HE]) rfl ⟨A4, c4, by rw [ln], (S4.out.turn ((Turn.refl 0 (w.heap.size + 3) w4).setCell (p := ⟨w.heap.size + 1 + 1, 0, none⟩) (Nat.zero_le _) (.inl (by simp)) _) (.inr (Nat.le_refl _))).turn ((Turn.refl 0 (w.heap.size + 3) _).setCell (p := ⟨w.heap.size + 1, 0, none⟩) (Nat.zero_le _) (.inl (by simp)) _) (.inr (Nat.le_refl _)) |>.mono (by omega) (by simp), ?_⟩
  exact (B4.out.setCell (by simp; omega) _).setCell (by simp) _
end Go.Proofs.Ytlinngohbghimaa
