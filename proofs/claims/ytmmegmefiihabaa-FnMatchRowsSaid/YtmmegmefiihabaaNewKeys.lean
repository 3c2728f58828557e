/-
  spec.NewKeys, impl.NewKeys: the keys that are new.
-/
import Derived.Test.YtmmegmefiihabaaDelete
import Derived.Test.YtmmegmefiihabaaKeys
namespace Go.Proofs.Ytmmegmefiihabaa
open Go.RowKit

def newF (a b : List Int) : List Int := if vkB a && vkB b then missF b a else []
theorem MadeI.nil (w : World) : MadeI w [] (.returned (.slice none 0 0)) w := ⟨none, 0, rfl, SlI.nil, Below.refl _ _⟩


set_option maxHeartbeats 400000 in
theorem implNewKeys {A A' : Option Addr} {c n B c' n' B' : Nat} {w : World} (xs ys : List Int) (ln : xs.length = n) (ln' : ys.length = n') (hn : n ≤ 1099511627776) (hn' : n' ≤ 1099511627776) (hc : n ≤ c) (hc' : n' ≤ c') (h : RdI w B A xs) (h' : RdI w B' A' ys) (hB : B ≤ w.heap.size) (hB' : B' ≤ w.heap.size) :
    Calls Try.prog 34 #[.slice A n c, .slice A' n' c'] w (MadeI w (newF xs ys)) := by
  subst ln ln'
  have b0 : Below w.heap.size w (w.alloc (.cells #[.slice A xs.length c] 23)) := (Below.refl _ _).alloc (Nat.le_refl _) _
  have H := Lib.hid (h.belowLe b0 hB)
  have H' := Lib.hid (h'.belowLe b0 hB')
  have HC := Lib.hid (show Cap (w.alloc (.cells #[.slice A xs.length c] 23)) (w.heap.size + 1) w.heap.size xs from ⟨by omega, A, c, Blk.new _ _ _, (h.belowLe b0 hB).more (by omega)⟩)
  have B0 := Lib.hid b0
  clear h h' b0
  cases hv : (vkB xs && vkB ys)
  · have HV := Lib.hid hv; clear hv
    go_enter Try.func34, Try.ntmps34
    go_wp2_with fail
    refine (bothKeys xs ys rfl rfl hn hn' hc hc' H.out H'.out).mono ?_; rw [HV.out]; rintro e w1 ⟨rfl, rfl⟩
    go_wp2_with fail
    go_ret
    exact ⟨none, 0, by unfold newF; rw [HV.out]; rfl, by unfold newF; rw [HV.out]; exact SlI.nil, B0.out⟩
  · have HV := Lib.hid hv; clear hv
    go_enter Try.func34, Try.ntmps34
    go_wp2_with fail
    refine (bothKeys xs ys rfl rfl hn hn' hc hc' H.out H'.out).mono ?_; rw [HV.out]; rintro e w1 ⟨rfl, rfl⟩
    go_wp2_with fail
    refine (slicesClone ys rfl (by omega) H'.out (by simp; omega)).mono ?_; rintro e w1 ⟨A1, c1, rfl, s1, b1⟩
    have z1 := b1.size
    simp at z1
    have S1 := Lib.hid s1; clear s1
    have B1 := Lib.hid b1; clear b1
    have hz : (w.alloc (.cells #[.slice A xs.length c] 23)).heap.size = w.heap.size + 1 := by simp
    have S1' := Lib.hid (show SlI w1 (w.heap.size + 1) w1.heap.size A1 c1 ys by have h2 := S1.out; rwa [hz] at h2)
    clear hz
    go_wp2_with fail
    refine (NewKeysDeleteFunc ys xs rfl hn' hn S1'.out (by omega) (HC.out.below B1.out (by simp))).mono ?_; rintro e w2 ⟨rfl, s2, t2, z2⟩
    have S2 := Lib.hid s2; clear s2
    have B2 := Lib.hid (Below.new B0.out ⟨B1.out.os, B1.out.tape, B1.out.output, B1.out.size, fun k hk ho => B1.out.block k (by simpa using hk)⟩ (lo' := w.heap.size + 1) (hi' := 0) (by omega) (Nat.le_refl _))
    have B3 := Lib.hid (Below.new B2.out t2 (by omega) (Nat.le_refl _))
    clear t2
    go_wp2_with fail
    refine (slicesClip _ rfl S2.out).mono ?_; rintro e w3 ⟨rfl, s3, rfl⟩
    have hf : newF xs ys = ys.filter (fun x => !memB x xs) := by unfold newF; rw [HV.out]; rfl
    have HF := Lib.hid (show MadeI w (newF xs ys) (.returned (.slice A1 (ys.filter fun x => !memB x xs).length (ys.filter fun x => !memB x xs).length)) w2 from ⟨A1, _, by rw [hf], by rw [hf]; exact s3.mono (by omega) (by omega), B3.out⟩)
    clear s3 hf
    go_wp2_with fail
    go_ret
    exact HF.out
end Go.Proofs.Ytmmegmefiihabaa
