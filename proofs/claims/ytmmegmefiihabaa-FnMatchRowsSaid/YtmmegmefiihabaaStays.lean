/-
  StaysOf, MovesOf: the reference's and the program's.
-/
import Derived.Test.YtmmegmefiihabaaImplStays
namespace Go.Proofs.Ytmmegmefiihabaa
open Go.RowKit

def IntB (w : World) (v : Int) (e : Ending) (w' : World) : Prop := e = .returned (.int .i64 v) ∧ Below w.heap.size w w'
def staysOfF (a b : List Int) : List Int := if vkB a && vkB b then staysF a b else []
def movesOfF (a b : List Int) : Int := if vkB a && vkB b then ((commF b a).length : Int) - (staysF a b).length else -1
theorem commF_sym {a b : List Int} (ha : a.Nodup) (hb : b.Nodup) : (commF a b).length = (commF b a).length := by
  unfold commF
  refine Nat.le_antisymm ?_ ?_
  · refine List.Nodup.length_le_of_subset (ha.filter _) fun x hx => ?_
    obtain ⟨h1, h2⟩ := List.mem_filter.1 hx
    exact List.mem_filter.2 ⟨by simpa [memB] using h2, by simpa [memB] using h1⟩
  · refine List.Nodup.length_le_of_subset (hb.filter _) fun x hx => ?_
    obtain ⟨h1, h2⟩ := List.mem_filter.1 hx
    exact List.mem_filter.2 ⟨by simpa [memB] using h2, by simpa [memB] using h1⟩
theorem staysF_len (a b : List Int) : (staysF a b).length ≤ b.length := selF_len _ _ _ _ _
theorem staysOfF_len (a b : List Int) (hb : b.length ≤ 1048576) : (staysOfF a b).length ≤ 1048576 := by
  unfold staysOfF
  split
  · exact Nat.le_trans (staysF_len a b) hb
  · simp

set_option maxHeartbeats 800000 in
theorem implCommon {A A' : Option Addr} {c n B c' n' B' : Nat} {w : World} (xs ys : List Int) (ln : xs.length = n) (ln' : ys.length = n') (hn : n ≤ 1048576) (hn' : n' ≤ 1048576) (h : RdI w B A xs) (h' : RdI w B' A' ys) (hB : B ≤ w.heap.size) (hB' : B' ≤ w.heap.size) :
    Calls Try.prog 70 #[.slice A n c, .slice A' n' c'] w (MadeI w (commF xs ys)) := by
  subst ln ln'
  have b0 : Below w.heap.size w (w.alloc (.cells #[.slice A' ys.length c'] 23)) := (Below.refl _ _).alloc (Nat.le_refl _) _
  have H := Lib.hid (h.belowLe b0 hB)
  have HC := Lib.hid (show Cap (w.alloc (.cells #[.slice A' ys.length c'] 23)) (w.heap.size + 1) w.heap.size ys from ⟨by omega, A', c', Blk.new _ _ _, (h'.belowLe b0 hB').more (by omega)⟩)
  have B0 := Lib.hid b0
  clear h h' b0
  go_enter Try.func70, Try.ntmps70
  go_wp2_with fail
  refine (slicesClone xs rfl (by omega) H.out (by simp; omega)).mono ?_; rintro e w1 ⟨A1, c1, rfl, s1, b1⟩
  have z1 := b1.size
  simp at z1
  have S1 := Lib.hid s1; clear s1
  have B1 := Lib.hid b1; clear b1
  have hz : (w.alloc (.cells #[.slice A' ys.length c'] 23)).heap.size = w.heap.size + 1 := by simp
  have S1' := Lib.hid (show SlI w1 (w.heap.size + 1) w1.heap.size A1 c1 xs by have h2 := S1.out; rwa [hz] at h2)
  clear hz
  go_wp2_with fail
  have hf : xs.filter (fun x => !(!memB x ys)) = commF xs ys := by unfold commF; congr 1; funext x; rw [Bool.not_not]
  refine (CommonDeleteFunc xs ys rfl (by omega) (by omega) S1'.out (by omega) (HC.out.below B1.out (by simp))).mono ?_; rw [hf]; rintro e w2 ⟨rfl, s2, t2, z2⟩
  have S2 := Lib.hid s2; clear s2
  have B2 := Lib.hid (Below.new B0.out ⟨B1.out.os, B1.out.tape, B1.out.output, B1.out.size, fun k hk ho => B1.out.block k (by simpa using hk)⟩ (lo' := w.heap.size + 1) (hi' := 0) (by omega) (Nat.le_refl _))
  have B3 := Lib.hid (Below.new B2.out t2 (by omega) (Nat.le_refl _))
  clear t2 hf
  have HF := Lib.hid (show MadeI w (commF xs ys) (.returned (.slice A1 (commF xs ys).length c1)) w2 from ⟨A1, _, rfl, S2.out.mono (by omega) (by omega), B3.out⟩)
  go_wp2_with fail
  go_ret
  exact HF.out




set_option maxHeartbeats 400000 in
theorem implMovesOf {A A' : Option Addr} {c n B c' n' B' : Nat} {w : World} (xs ys : List Int) (ln : xs.length = n) (ln' : ys.length = n') (hn : n ≤ 1048576) (hn' : n' ≤ 1048576) (hc : n ≤ c) (hc' : n' ≤ c') (h : RdI w B A xs) (h' : RdI w B' A' ys) (hB : B ≤ w.heap.size) (hB' : B' ≤ w.heap.size) :
    Calls Try.prog 35 #[.slice A n c, .slice A' n' c'] w (IntB w (movesOfF xs ys)) := by
  subst ln ln'
  have H := Lib.hid h; clear h
  have H' := Lib.hid h'; clear h'
  cases hv : (vkB xs && vkB ys)
  · have HV := Lib.hid hv; clear hv
    go_enter Try.func35, Try.ntmps35
    go_wp2_with fail
    refine (bothKeys xs ys rfl rfl (by omega) (by omega) hc hc' H.out H'.out).mono ?_; rw [HV.out]; rintro e w1 ⟨rfl, rfl⟩
    go_wp2_with fail
    go_ret
    exact ⟨by unfold movesOfF; rw [HV.out]; rfl, (Below.refl _ _)⟩
  · have HV := Lib.hid hv; clear hv
    go_enter Try.func35, Try.ntmps35
    go_wp2_with fail
    refine (bothKeys xs ys rfl rfl (by omega) (by omega) hc hc' H.out H'.out).mono ?_; rw [HV.out]; rintro e w2 ⟨rfl, rfl⟩
    have hvv := HV.out
    rw [Bool.and_eq_true] at hvv
    have HV1 := Lib.hid hvv.1
    have HV2 := Lib.hid hvv.2
    clear hvv
    have hx10 := (vkB_iff.1 HV1.out).2.2
    have hy10 := (vkB_iff.1 HV2.out).2.2
    have B2 := Lib.hid (Below.refl w.heap.size w)
    have s2 := Nat.le_refl w.heap.size
    have R := Lib.hid H.out
    have R' := Lib.hid H'.out
    go_wp2_with fail
    refine (implCommon xs ys rfl rfl (by omega) (by omega) R.out R'.out (by omega) (by omega)).mono ?_; rintro e w3 ⟨A3, c3, rfl, s3, b3⟩
    have z3 := b3.size
    have hl1 : (commF xs ys).length ≤ xs.length := commF_len xs ys
    have hl2 := staysF_len xs ys
    have B3 := Lib.hid (B2.out.trans (b3.mono s2))
    have Q := Lib.hid (R.out.belowLe b3 (by omega))
    have Q' := Lib.hid (R'.out.belowLe b3 (by omega))
    clear s3 b3
    go_wp2_with fail
    refine (implStays xs ys rfl rfl (by omega) (by omega) Q.out Q'.out (by omega) (by omega)).mono ?_; rintro e w4 ⟨A4, c4, rfl, s4, b4⟩
    have B4 := Lib.hid (B3.out.trans (b4.mono (by omega)))
    clear s4 b4
    have HF := Lib.hid (show movesOfF xs ys = ((commF xs ys).length : Int) - (staysF xs ys).length by unfold movesOfF; rw [HV.out, commF_sym (vkB_iff.1 HV1.out).1 (vkB_iff.1 HV2.out).1]; rfl)
    go_wp2_with fail
    go_ret
    exact ⟨ret_int HF.out.symm, B4.out⟩

end Go.Proofs.Ytmmegmefiihabaa
