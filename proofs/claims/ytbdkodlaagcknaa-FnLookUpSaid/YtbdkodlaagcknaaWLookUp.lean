/-
  The walk of laws.FnLookUp.
-/
import Derived.Test.YtbdkodlaagcknaaLookLaw
import Derived.Test.YtbdkodlaagcknaaDrawO
namespace Go.Proofs.Ytbdkodlaagcknaa
open Go.RowKit

set_option maxRecDepth 100000 in
set_option maxHeartbeats 3200000 in
theorem walkFnLookUp (A : Option Addr) (c : Nat) (bs : List Int) (w : World) (hr : Rd w w.heap.size A (bytes8 bs)) (hn : bs.length ≤ 9223372036854775807) (lc : bs.length ≤ c) (cm : c ≤ 9223372036854775807) (hx : ∀ x ∈ bs, (Lit.int .u8 x).wf = true) :
    Calls Try.prog 7 #[.slice A bs.length c] w fun e w' => e = .returned (.bool true) ∧ Below w.heap.size w w' := by
  by_cases hbig : bs.length ≤ 1048576
  case neg =>
    go_enter Try.func7, Try.ntmps7
    go_wp2
    go_ret
    exact ⟨rfl, Below.refl _ _⟩
  case pos =>
  have HR := Lib.hid hr; clear hr
  have HX := Lib.hid hx; clear hx
  go_enter Try.func7, Try.ntmps7
  go_wp2_with fail
  refine (drawLookUp bs rfl lc cm HX.out HR.out).mono ?_; rintro e w1 ⟨A1, c1, os, k, u, rfl, hk, hu, hsm, s1, b1⟩
  have hz1 := b1.size
  have hl12 := hsm.1.2
  have HM := Lib.hid (show ∀ o ∈ os, o.cl.length ≤ 1099511627776 ∧ o.cx.length ≤ 1099511627776 from fun o ho => by have := hsm.2 o ho; omega)
  have S1 := Lib.hid s1
  have B1 := Lib.hid b1
  clear s1 b1 HR HX hsm hk hu
  go_wp2_with fail
  refine (implLookUp (c := c1) k u os rfl (by omega) HM.out S1.out.rd (Nat.le_refl _)).mono ?_; rintro e w2 ⟨rfl, b2⟩
  have hz2 := b2.size
  obtain ⟨p, hp⟩ : ∃ p, lookF os k u = p := ⟨_, rfl⟩
  rw [hp]
  obtain ⟨x, fine⟩ := p
  have HQ := Lib.hid hp; clear hp
  have S2 := Lib.hid (S1.out.below b2 (Nat.le_refl _))
  have B2 := Lib.hid (B1.out.trans (b2.mono hz1))
  clear b2 S1 B1
  go_wp2_with fail
  refine (specLookUp (c := c1) k u os rfl (by omega) HM.out S2.out.rd (by omega)).mono ?_; rw [HQ.out]; rintro e w3 ⟨rfl, b3⟩
  have hz3 := b3.size
  have S3 := Lib.hid (S2.out.below b3 (by omega))
  have B3 := Lib.hid (B2.out.trans (b3.mono (by omega)))
  clear b3 S2 B2
  have hxx : (x != x) = false := by simp
  have hxe : (x == x) = true := by simp
  have hff : (fine != fine) = false := by simp
  have hfe : (fine == fine) = true := by simp
  have VO := Lib.hid (implValidOwners (w := w3) (c := c1) os rfl (by omega) HM.out S3.out.rd (by omega))
  go_wp2_with fail
  refine VO.out.mono ?_; rintro e w4 ⟨rfl, b4⟩
  have hz4 := b4.size
  have S4 := Lib.hid (S3.out.below b4 (by omega))
  have B4 := Lib.hid (B3.out.trans (b4.mono (by omega)))
  clear b4 S3 B3 VO
  by_cases hgood : voB os = true ∧ (0 ≤ k ∧ k < os.length) ∧ (0 ≤ u ∧ u < 3)
  case neg =>
    cases hv : voB os
    case false => 
      go_wp2_with fail
      go_ret
      exact ⟨rfl, B4.out⟩
    case true =>
    by_cases h1 : k < 0
    case pos => 
      go_wp2_with fail
      go_ret
      exact ⟨rfl, B4.out⟩
    by_cases h2 : (os.length : Int) ≤ k
    case pos => 
      go_wp2_with fail
      go_ret
      exact ⟨rfl, B4.out⟩
    by_cases h3 : u < 0
    case pos => 
      go_wp2_with fail
      go_ret
      exact ⟨rfl, B4.out⟩
    by_cases h4 : 3 ≤ u
    case pos => 
      go_wp2_with fail
      go_ret
      exact ⟨rfl, B4.out⟩
    exact absurd ⟨hv, ⟨by omega, by omega⟩, by omega, by omega⟩ hgood
  case pos =>
  obtain ⟨hv, ⟨hk0, hk1⟩, hu0, hu1⟩ := hgood
  obtain ⟨P, rfl⟩ := Int.eq_ofNat_of_zero_le hk0
  obtain ⟨K, rfl⟩ := Int.eq_ofNat_of_zero_le hu0
  obtain ⟨hne, hlk⟩ := look_way (P := P) (K := K) hv (by omega) (by omega)
  obtain ⟨_, _, l, hl, _, _, hw3, hw4⟩ := aboveOf_way hne
  have hk2 : ¬ ((os.length : Int) ≤ (P : Int)) := by omega
  have hu2 : ¬ ((3 : Int) ≤ (K : Int)) := by omega
  have HCX := Lib.hid (fun (i : Nat) (hi : i < os.length) => ((vo_lens hv).2 _ (List.getElem_mem hi)).2)
  rw [HQ.out] at hlk
  have AB := Lib.hid (implAboveOf (w := w4) (c := c1) (P : Int) os rfl (by omega) HM.out S4.out.rd (by omega))
  rw [hl] at AB hlk
  rw [hv]
  have HLK := Lib.hid hlk
  have HW3 := Lib.hid hw3
  clear hne hlk hl hw3 hv
  go_wp2_with fail
  refine AB.out.mono ?_; rintro e w5 ⟨A5, c5, rfl, s5, b5⟩
  obtain ⟨up, hup⟩ : ∃ up, ((P : Int) :: l) = up := ⟨_, rfl⟩
  have hul : up.length ≤ 13 := by rw [← hup]; simp; omega
  rw [hup] at s5 HLK HW3 ⊢
  have hz5 := b5.size
  have S5 := Lib.hid (S4.out.below b5 (by omega))
  have U5 := Lib.hid (show SlI w5 w4.heap.size w5.heap.size A5 c5 up from s5)
  have B5 := Lib.hid (B4.out.trans (b5.mono (by omega)))
  clear s5 b5 hup S4 B4 AB
  go_wp2_with fail
  go_loop [11] (fun i => ∃ j : Nat, j ≤ up.length ∧ i = .int .i64 j ∧ firstL os (K : Int) (up.drop j) = (x, fine)) (fun i => up.length - (intOf i).toNat)
  case atStart => exact ⟨0, Nat.zero_le _, rfl, by rw [List.drop_zero]; exact HLK.out.symm⟩
  case round =>
    obtain ⟨j, hj, rfl, hf⟩ := hrel
    by_cases hlt : j < up.length
    · obtain ⟨i, hi, hio⟩ := HW3.out up[j] (List.getElem_mem hlt)
      obtain ⟨adk, rfl⟩ : ∃ adk, A5 = some adk := by obtain ⟨adk, h, _⟩ := U5.out.rd.at_ hlt; exact ⟨adk, h⟩
      have ck := U5.out.cellAt hlt hi
      have hcl := HCX.out i hio
      obtain ⟨g, o, hd, rfl, _, ⟨_, _, _, c3⟩, _, q2, _⟩ := S5.out.rd.at_ hio
      obtain ⟨ac, ha, _, hcc⟩ := q2.at_ (k := K) (by omega)
      have cy := hcc K (by omega)
      have hct : ctxAt os (i : Int) (K : Int) = os[i].cx[K]'(by omega) := by
        rw [ctxAt_get (List.getElem?_eq_getElem hio), List.getD_eq_getElem?_getD, List.getElem?_eq_getElem (by omega)]; rfl
      rw [List.drop_eq_getElem_cons hlt, firstL, hi, hct] at hf
      obtain ⟨y, hy⟩ : ∃ y, os[i].cx[K]'(by omega) = y := ⟨_, rfl⟩
      rw [hy] at hf cy
      rw [ha, hcl] at c3
      have HF := Lib.hid hf
      have hij : (0 : Int) ≤ (i : Int) := Int.natCast_nonneg _
      have hK3 : K < 3 := by omega
      clear hf hct hy hcc q2 hi ha hcl
      by_cases hy0 : 0 ≤ y
      · have hf2 := HF.out
        rw [if_pos hy0] at hf2
        injection hf2 with e1 e2
        subst e1 e2
        clear hxx hff hfe HF
        go_wp2_with fail
        go_ret
        exact ⟨rfl, B5.out⟩
      · have HF2 := Lib.hid (show firstL os (K : Int) (up.drop (j + 1)) = (x, fine) from by have := HF.out; rwa [if_neg hy0] at this)
        clear HF
        go_wp2_with fail
        go_round
        case rel => exact ⟨j + 1, by omega, by go_num, HF2.out⟩
        case measure => simp [intOf]; omega
    · rw [List.drop_of_length_le (by omega)] at hf
      injection hf with e1 e2
      subst e1 e2
      go_wp2_with fail
      go_ret
      exact ⟨rfl, B5.out⟩
end Go.Proofs.Ytbdkodlaagcknaa
