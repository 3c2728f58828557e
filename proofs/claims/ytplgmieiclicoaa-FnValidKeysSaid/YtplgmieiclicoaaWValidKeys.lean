/-
  The walk of laws.FnValidKeys: keys can be left out.
-/
import Derived.Test.YtplgmieiclicoaaKeys
import Derived.Test.YtplgmieiclicoaaKeysDraw
import Derived.Deep.RegionHeld3
namespace Go.Proofs.Ytplgmieiclicoaa
open Go.RowKit

theorem vkB_leave {xs : List Int} (h : vkB xs = true) (i : Nat) : vkB (xs.take i ++ xs.drop (i + 1)) = true := by
  have h' := vkB_iff.1 h
  have hs : (xs.take i ++ xs.drop (i + 1)).Sublist xs := by
    conv => rhs; rw [← List.take_append_drop i xs]
    refine List.Sublist.append (List.Sublist.refl _) ?_
    have : xs.drop (i + 1) = (xs.drop i).drop 1 := by rw [List.drop_drop]
    rw [this]
    exact List.drop_sublist _ _
  exact vkB_iff.2 ⟨hs.nodup h'.1, fun x hx => h'.2.1 x (hs.subset hx), Nat.le_trans hs.length_le h'.2.2⟩
theorem RdI.drop {w : World} {B : Nat} {A : Option Addr} {xs : List Int} (h : RdI w B A xs) {k c : Nat} (hc : k < xs.length → c ≠ k) : RdI w B (if c = k then A else A.map (·.add k)) (xs.drop k) := by
  have := Rd.cut (size := 1) h (k := k) (cap := c) (by simpa using hc)
  unfold RdI
  simpa [ints, List.map_drop] using this

set_option maxRecDepth 100000 in
set_option maxHeartbeats 1600000 in
theorem walkFnValidKeys (A : Option Addr) (c : Nat) (bs : List Int) (w : World) (hr : Rd w w.heap.size A (bytes8 bs)) (hn : bs.length ≤ 9223372036854775807) (lc : bs.length ≤ c) (cm : c ≤ 9223372036854775807) (hx : ∀ x ∈ bs, (Lit.int .u8 x).wf = true) :
    Calls Try.prog 4 #[.slice A bs.length c] w fun e w' => e = .returned (.bool true) ∧ Below w.heap.size w w' := by
  by_cases hbig : bs.length ≤ 1048576
  · have HR := Lib.hid hr; clear hr
    have HX := Lib.hid hx; clear hx
    go_enter Try.func4, Try.ntmps4
    go_wp2_with fail
    refine (drawValidKeys bs rfl lc cm HX.out HR.out).mono ?_; rintro e w1 ⟨A1, c1, xs, rfl, hl, hlc, r1, b1⟩
    have R1 := Lib.hid r1; clear r1
    have B1 := Lib.hid b1; clear b1
    cases hv : vkB xs
    · go_wp2_with fail
      refine (implValidKeys xs rfl (by omega) hlc R1.out).mono ?_; rintro e w2 ⟨rfl, rfl⟩
      rw [hv]
      go_wp2_with fail
      refine (qb (specValidKeys xs rfl (by omega) hlc R1.out)).mono ?_; rintro e w2 ⟨rfl, b2⟩
      have B2 := Lib.hid b2; clear b2
      rw [hv]
      go_wp2_with fail
      refine (qb (specValidKeys xs rfl (by omega) hlc (R1.out.below B2.out))).mono ?_; rintro e w3 ⟨rfl, b3⟩
      have s1 := B1.out.size
      have s2 := B2.out.size
      have HF := Lib.hid (B1.out.trans ((B2.out.trans (b3.mono s2)).mono s1))
      clear b3
      rw [hv]
      go_wp2_with fail
      go_ret
      exact ⟨rfl, HF.out⟩
    · have HV := Lib.hid hv
      go_wp2_with fail
      refine (implValidKeys xs rfl (by omega) hlc R1.out).mono ?_; rintro e w2 ⟨rfl, rfl⟩
      rw [hv]
      go_wp2_with fail
      refine (qb (specValidKeys xs rfl (by omega) hlc R1.out)).mono ?_; rintro e w2 ⟨rfl, b2⟩
      have s1 := B1.out.size
      have R2 := Lib.hid (R1.out.below b2)
      have B2 := Lib.hid (B1.out.trans (b2.mono s1))
      have hs12 := b2.size
      clear b2
      rw [hv]
      clear hv
      go_wp2_with fail
      go_loopw [5] (fun i wr => ∃ k : Nat, k ≤ xs.length ∧ i = .int .i64 k ∧ Below w2.heap.size w2 wr) (fun i _ => xs.length - (intOf i).toNat)
      case atStart => exact ⟨0, Nat.zero_le _, rfl, Below.refl _ _⟩
      case round =>
        obtain ⟨k, hk, rfl, hb⟩ := hrel
        have hz := hb.size
        have HB := Lib.hid hb; clear hb
        by_cases hlt : k < xs.length
        · have R3 := R2.out.belowLe HB.out hs12
          obtain ⟨ad, rfl, _, _⟩ := R3.at_ hlt
          have hc0 : ¬ c1 = 0 := by omega
          have hkc : k ≤ c1 := by omega
          have hkc2 : k + 1 ≤ c1 := by omega
          have hk1 : (0 : Int) ≤ (k : Int) + 1 := by omega
          have hk2 : (k : Int) ≤ (c1 : Int) := by omega
          have hk3 : (k : Int) + 1 ≤ (xs.length : Int) := by omega
          have hwr : IntKind.i64.wrap ((k : Int) + 1) = (k : Int) + 1 := IntWalk.i64_in _ (by omega)
          have htn : ((k : Int) + 1).toNat = k + 1 := by omega
          have HR3 := Lib.hid R3; clear R3
          go_wp2_with fail
          have HLV := Lib.hid (vkB_leave HV.out k)
          have HRD := Lib.hid (HR3.out.drop (k := k + 1) (c := c1) (fun h => by omega))
          by_cases hck : c1 = k + 1
          · have hx1 : xs.length = k + 1 := by omega
            have hx2 : xs.drop (k + 1) = [] := List.drop_eq_nil_of_le (by omega)
            have HX2 := Lib.hid hx2
            have HX1 := Lib.hid hx1
            clear hx1 hx2
            subst hck
            have hkk : (k : Int) ≤ (k : Int) + 1 := by omega
            go_region_held3 (fun _ => True) (trivial)
              ((first
                | (go_at_call 16; refine (implValidKeys (xs.take k ++ xs.drop (k + 1)) (by simp only [List.length_append, take_len hk, List.length_drop]; try omega) (by omega) (by have h6 := h5.le; rw [List.length_append, take_len hk, List.length_drop] at h6;  omega) h5.rd).mono ?_; rw [HLV.out]; rintro e w6 ⟨rfl, rfl⟩)
                | (refine step_appI (.tmp 31) (.tmp 34) rfl rfl [] (xs.take k) rfl rfl (SlI.new wr.drew [] (lo := wr.heap.size) (Nat.le_refl _)) rfl (take_len hk) ((HR3.out.take k).belowLe ((Below.refl wr.heap.size wr).drew.alloc (Nat.le_refl _) _) (show _ ≤ wr.heap.size by omega)) (by omega) (by simp) ?_; intro A4 c4 w4 h4 t4 _)
                | (refine step_appI (.tmp 35) (.tmp 39) rfl rfl (xs.take k) (xs.drop (k + 1)) rfl (by rw [take_len hk]; simp) h4 rfl (by rw [HX2.out]; rfl) (by rw [HX2.out]; exact (Rd.nil (B := 0))) (by omega) (by have := t4.size; simp at this; omega) ?_; intro A5 c5 w5 h5 t5 _)))
            have S5 : Below wr.heap.size wr w5 := Below.new (Below.new ((Below.refl wr.heap.size wr).drew.alloc (Nat.le_refl _) (.cells #[] 3)) t4 (Nat.le_refl _) (Nat.le_refl _)) t5 (Nat.le_refl _) (Nat.le_refl _)
            have HS5 := Lib.hid (HB.out.trans (S5.mono hz))
            clear S5 h4 t4 h5 t5
            go_wp2_with fail
            go_roundw
            case rel => exact ⟨k + 1, by omega, by go_num, HS5.out⟩
            case measure => simp [intOf]; omega
          · have RD2 : RdI wr w1.heap.size (some (ad.add (k + 1))) (xs.drop (k + 1)) := by have h2 := HRD.out; rwa [if_neg hck] at h2
            have hck' : ¬ c1 = k + 1 := hck
            have HRD2 := Lib.hid RD2; clear RD2
            go_region_held3 (fun _ => True) (trivial)
              ((first
                | (go_at_call 16; refine (implValidKeys (xs.take k ++ xs.drop (k + 1)) (by simp only [List.length_append, take_len hk, List.length_drop]; try omega) (by omega) (by have h6 := h5.le; rw [List.length_append, take_len hk, List.length_drop] at h6;  omega) h5.rd).mono ?_; rw [HLV.out]; rintro e w6 ⟨rfl, rfl⟩)
                | (refine step_appI (.tmp 31) (.tmp 34) rfl rfl [] (xs.take k) rfl rfl (SlI.new wr.drew [] (lo := wr.heap.size) (Nat.le_refl _)) rfl (take_len hk) ((HR3.out.take k).belowLe ((Below.refl wr.heap.size wr).drew.alloc (Nat.le_refl _) _) (show _ ≤ wr.heap.size by omega)) (by omega) (by simp) ?_; intro A4 c4 w4 h4 t4 _)
                | (refine step_appI (.tmp 35) (.tmp 39) rfl rfl (xs.take k) (xs.drop (k + 1)) rfl (by rw [take_len hk]; simp) h4 rfl (by rw [List.length_drop]) (HRD2.out.belowLe (Below.new ((Below.refl wr.heap.size wr).drew.alloc (Nat.le_refl _) _) t4 (Nat.le_refl _) (by simp)) (show _ ≤ wr.heap.size by omega)) (by omega) (by have := t4.size; simp at this; omega) ?_; intro A5 c5 w5 h5 t5 _)))
            have S5 : Below wr.heap.size wr w5 := Below.new (Below.new ((Below.refl wr.heap.size wr).drew.alloc (Nat.le_refl _) (.cells #[] 3)) t4 (Nat.le_refl _) (Nat.le_refl _)) t5 (Nat.le_refl _) (Nat.le_refl _)
            have HS5 := Lib.hid (HB.out.trans (S5.mono hz))
            clear S5 h4 t4 h5 t5
            go_wp2_with fail
            go_roundw
            case rel => exact ⟨k + 1, by omega, by go_num, HS5.out⟩
            case measure => simp [intOf]; omega
        · go_wp2_with fail
          refine (noTwice xs rfl (by omega) (R2.out.belowLe HB.out hs12)).mono ?_; rintro e w3 ⟨rfl, rfl⟩
          have hnd : nodupB xs = true := decide_eq_true (vkB_iff.1 HV.out).1
          rw [hnd]
          go_wp2_with fail
          go_ret
          exact ⟨rfl, B2.out.trans (HB.out.mono (by omega))⟩
  · go_enter Try.func4, Try.ntmps4
    go_wp2
    go_ret
    exact ⟨rfl, Below.refl _ _⟩
end Go.Proofs.Ytplgmieiclicoaa
