/-
  The walk of laws.FnAddCleanup.
-/
import Derived.Test.YtnlbmiangbahgaaClearLaw
import Derived.Test.YtnlbmiangbahgaaDrawO
import Derived.Test.YtnlbmiangbahgaaEqO
import Derived.Test.YtnlbmiangbahgaaOwnJ
import Derived.Test.YtnlbmiangbahgaaJoin
import Derived.Deep.RegionHeld3
import Derived.Deep.DrawnRows
import Derived.Deep.DeepFit
import Derived.IntWalk
namespace Go.Proofs.Ytnlbmiangbahgaa
open Go.RowKit
attribute [local go_sem ↓] Go.wp_at_zero Go.wp_at_succ

theorem labF_le (os : List Own) (k : Int) : (labF os k).length ≤ tot os := by
  unfold labF rerunF
  split
  · exact (clearF_len os k).2.2
  · simp
set_option maxRecDepth 100000 in
set_option maxHeartbeats 6400000 in
theorem walkFnAddCleanup (A : Option Addr) (c : Nat) (bs : List Int) (w : World) (hr : Rd w w.heap.size A (bytes8 bs)) (hn : bs.length ≤ 9223372036854775807) (lc : bs.length ≤ c) (cm : c ≤ 9223372036854775807) (hx : ∀ x ∈ bs, (Lit.int .u8 x).wf = true) :
    Calls Try.prog 3 #[.slice A bs.length c] w fun e w' => e = .returned (.bool true) ∧ Below w.heap.size w w' := by
  by_cases hbig : bs.length ≤ 1048576
  case neg =>
    go_enter Try.func3, Try.ntmps3
    go_wp2
    go_ret
    exact ⟨rfl, Below.refl _ _⟩
  case pos =>
  have HR := Lib.hid hr; clear hr
  have HX := Lib.hid hx; clear hx
  go_enter Try.func3, Try.ntmps3
  go_wp2_with fail
  refine (drawAddCleanup bs rfl lc cm HX.out HR.out).mono ?_; rintro e w1 ⟨A1, c1, os, k, u, rfl, hk, hu, hsm, s1, b1⟩
  have hz1 := b1.size
  have hl12 := hsm.1.2
  have HM := Lib.hid (show ∀ o ∈ os, o.cl.length ≤ 1099511627776 ∧ o.cx.length ≤ 1099511627776 from fun o ho => by have := hsm.2 o ho; omega)
  have HT := Lib.hid (tot_small hsm)
  have S1 := Lib.hid s1
  have B1 := Lib.hid b1
  have Hk := Lib.hid hk
  have Hu := Lib.hid hu
  clear s1 b1 HR HX hsm hk hu
  go_wp2_with fail
  refine (implAddCleanup (c := c1) k u os rfl (by omega) HM.out S1.out.rd (Nat.le_refl _)).mono ?_; rintro e w2 ⟨A2, c2, rfl, s2, b2⟩
  have hz2 := b2.size
  have SP := Lib.hid (fun (W : World) (hb : Below w1.heap.size w1 W) => specAddCleanup (w := W) (c := c1) k u os rfl (by omega) HM.out (S1.out.below hb (Nat.le_refl _)).rd hb.size)
  obtain ⟨p, hp⟩ : ∃ p, addF os k u = p := ⟨_, rfl⟩
  rw [hp] at s2 SP ⊢
  have HQ := Lib.hid hp; clear hp
  obtain ⟨os2, ok⟩ := p
  have S1 := Lib.hid (S1.out.below b2 (Nat.le_refl _))
  have S2 := Lib.hid (show SlO w2 w1.heap.size w2.heap.size A2 c2 os2 from s2)
  have B2 := Lib.hid (B1.out.trans (b2.mono hz1))
  have SP2 := Lib.hid (SP.out w2 b2)
  clear s2 b2 SP
  go_wp2_with fail
  refine SP2.out.mono ?_; rintro e w3 ⟨A3, c3, rfl, s3, b3⟩
  have hz3 := b3.size
  have S1 := Lib.hid (S1.out.below b3 (by omega))
  have S2 := Lib.hid (S2.out.below b3 (Nat.le_refl _))
  have S3 := Lib.hid (show SlO w3 w2.heap.size w3.heap.size A3 c3 os2 from s3)
  have B3 := Lib.hid (B2.out.trans (b3.mono (by omega)))
  clear s3 b3 SP2 B1 B2
  cases ok
  case false =>
    have he : os2 = [] := by have := addF_no (congrArg Prod.snd HQ.out); rw [HQ.out] at this; exact this
    subst he
    go_wp2_with fail
    refine (sameOwners (c := c2) (c' := c3) [] rfl (by simp) (by simp) S2.out.rd S3.out.rd).mono ?_; rintro e w4 ⟨d, rfl, rfl⟩
    go_wp2_with fail
    refine (sameOwners (c := c2) (c' := c3) [] rfl (by simp) (by simp) (S2.out.drewN d).rd (S3.out.drewN d).rd).mono ?_; rintro e w4 ⟨d2, rfl, rfl⟩
    go_wp2_with fail
    go_ret
    exact ⟨rfl, below_drewN B3.out (d + d2)⟩
  case true =>
  obtain ⟨P, rfl, ⟨hP, hl2⟩, hvo, hvo2, hopB, x, X, hx, ha, hb⟩ := add_law HQ.out
  have HM2 := Lib.hid (vo_bd hvo2).1
  have hl22 : os2.length ≤ 12 := by omega
  have HV2 := Lib.hid hvo2
  have HT2 := Lib.hid (show tot os2 ≤ 96 from (vo_bd hvo2).2)
  have HXI := Lib.hid (show os[P] = x from by have := List.getElem?_eq_getElem hP; rw [hx] at this; injection this with this; exact this.symm)
  have hxa : X.length + x.cl.length ≤ 108 := by have := labF_le os (P : Int); rw [ha] at this; have h2 := HT.out; simp at this; omega
  have HLA := Lib.hid ha
  have HLB := Lib.hid hb
  clear hvo hvo2 hopB hx ha hb hl2
  go_wp2_with fail
  refine (sameOwners (c := c2) (c' := c3) os2 rfl (by omega) (fun o ho => by have := HM2.out o ho; omega) S2.out.rd S3.out.rd).mono ?_; rintro e w4 ⟨d, rfl, hw4⟩
  have z4 : w4.heap.size = w3.heap.size := by rw [hw4]; rfl
  have S1 := Lib.hid (show SlO w4 w.heap.size w1.heap.size A1 c1 os from by rw [hw4]; exact S1.out.drewN d)
  have S2 := Lib.hid (show SlO w4 w1.heap.size w2.heap.size A2 c2 os2 from by rw [hw4]; exact S2.out.drewN d)
  have B4 := Lib.hid (show Below w.heap.size w w4 from by rw [hw4]; exact below_drewN B3.out d)
  clear hw4 S3 B3
  have LA := Lib.hid (implLabelsOf (w := w4) (c := c1) (P : Int) os rfl (by omega) (by have := HT.out; omega) HM.out S1.out.rd (by omega))
  rw [HLA.out] at LA
  go_wp2_with fail
  refine LA.out.mono ?_; rintro e w5 ⟨A5, c5, rfl, s5, b5⟩
  have z5 := b5.size
  have S1 := Lib.hid (S1.out.below b5 (by omega))
  have S2 := Lib.hid (S2.out.below b5 (by omega))
  have SA := Lib.hid (show SlI w5 w4.heap.size w5.heap.size A5 c5 (X ++ x.cl.reverse) from s5)
  have B5 := Lib.hid (B4.out.trans (b5.mono (by omega)))
  have LB := Lib.hid (implLabelsOf (w := w5) (c := c2) (P : Int) os2 rfl (by omega) (by have := HT2.out; omega) HM2.out S2.out.rd (by omega))
  rw [HLB.out] at LB
  clear s5 b5 LA B4
  go_wp2_with fail
  refine LB.out.mono ?_; rintro e w6 ⟨A6, c6, rfl, s6, b6⟩
  have z6 := b6.size
  have S1 := Lib.hid (S1.out.below b6 (by omega))
  have S2 := Lib.hid (S2.out.below b6 (by omega))
  have SA := Lib.hid (SA.out.below b6 (by omega))
  have SB := Lib.hid (show SlI w6 w5.heap.size w6.heap.size A6 c6 (X ++ u :: x.cl.reverse) from s6)
  have BB := Lib.hid (B5.out.trans (b6.mono (by omega)))
  clear s6 b6 LB B5 HLA HLB
  obtain ⟨g, o, hd, rfl, _, ⟨_, _, k2, _⟩, _⟩ := S1.out.rd.at_ hP
  rw [HXI.out] at k2
  obtain ⟨xp, xop, cl, xcx⟩ := x
  simp only at k2 SA SB hxa
  have VOF := Lib.hid (fun (W : World) (hb : Below w6.heap.size w6 W) => implValidOwners (w := W) (c := c2) os2 rfl (by omega) HM2.out (S2.out.below hb (by omega)).rd (by have := hb.size; omega))
  rw [HV2.out] at VOF
  have hle : X.length + cl.length ≤ c5 := by have := SA.out.le; simpa using this
  have hX0 : (0 : Int) ≤ (X.length : Int) := Int.natCast_nonneg _
  have hX1 : (X.length : Int) ≤ (X.length : Int) + (cl.length : Int) := by omega
  have hX2 : (X.length : Int) ≤ (c5 : Int) := by omega
  have hX3 : (X.length : Int) + (cl.length : Int) ≤ (c5 : Int) := by omega
  have ew1 : IntKind.i64.wrap ((X.length : Int) + (cl.length : Int) - (cl.length : Int)) = (X.length : Int) := by rw [show (X.length : Int) + (cl.length : Int) - (cl.length : Int) = (X.length : Int) by omega]; exact IntWalk.i64_in _ (by omega)
  have ew2 : X.length + cl.length - X.length = cl.length := by omega
  have CUT1 := Lib.hid (fun (W : World) (hb : Below w6.heap.size w6 W) => (show SlI W w4.heap.size w5.heap.size A5 c5 X from by
    have := (SA.out.below hb (by omega)).take (h := X.length) (by simp)
    rwa [List.take_left'] at this
    rfl))
  have CUT2 := Lib.hid (fun (W : World) (hb : Below w6.heap.size w6 W) => (show SlI W w4.heap.size w5.heap.size (if c5 = X.length then A5 else A5.map (·.add X.length)) (c5 - X.length) cl.reverse from by
    have := (SA.out.below hb (by omega)).cut (l := X.length) (h := X.length + cl.length) (m := c5) (by omega) (by simp) (by omega) (Nat.le_refl _)
    rw [List.drop_left' rfl, Nat.add_sub_cancel_left, List.take_of_length_le (by simp)] at this
    exact this))
  have XBN := Lib.hid (fun (W : World) (hb : Below w6.heap.size w6 W) => (SB.out.below hb (Nat.le_refl _)))
  have hAc : c5 = X.length ∨ ∃ ad, A5 = some ad := by
    by_cases hc : c5 = X.length
    · exact .inl hc
    · right
      cases A5 with
      | none => have := Sl.noAddr SA.out rfl; omega
      | some ad => exact ⟨ad, rfl⟩
  have hw0 : w6.heap.size ≤ w6.heap.size := Nat.le_refl _
  clear HV2 HT2 HXI HM HM2 HT
  have LIFT := Lib.hid (fun (W W' : World) (o : Obj) (hb : Below w6.heap.size w6 W) (hb' : Below (W.alloc o).heap.size (W.alloc o) W') => (show Below w6.heap.size w6 W' from (hb.alloc hb.size o).trans (hb'.mono (by have := hb.size; simp; omega))))
  have J1 := Lib.hid (fun (W : World) (hb : Below w6.heap.size w6 W) => join (w := W.alloc (.cells (ints [u]).toArray 3)) (c := c5) (c' := 1) (n' := 1) X [u] rfl rfl (by omega) (by omega) ((CUT1.out W hb).alloc _).rd (SlI.newAt (w := W) W.heap.size rfl [u] (lo := 0) (Nat.zero_le _)).rd (by have := hb.size; simp; omega) (by simp))
  have hmx : Try.prog.follows .mixedOrders = true := by kernel_rfl
  have hall : X ++ [u] ++ cl.reverse = X ++ u :: cl.reverse := by simp
  have HALL := Lib.hid hall
  have EQ := Lib.hid (fun (W : World) (hb : Below w6.heap.size w6 W) (lo : Nat) (A9 : Option Addr) (c9 : Nat) (s9 : SlI W lo W.heap.size A9 c9 (X ++ [u] ++ cl.reverse)) (n9 : Nat) (hn9 : X.length + (cl.length + 1) = n9) => (show Calls Try.prog 15 #[.slice A6 (X.length + (cl.length + 1)) c6, .slice A9 n9 c9] W (fun e w' => e = .returned (.bool true) ∧ Below W.heap.size W w') from by
    have h := qb (equalInts (w := W) (c := c6) (c' := c9) (n := X.length + (cl.length + 1)) (n' := n9) (X ++ u :: cl.reverse) (X ++ u :: cl.reverse) (by simp) (by simpa using hn9) (by omega) (XBN.out W hb).rd (by rw [← HALL.out]; exact s9.rd))
    rwa [decide_eq_true (Eq.refl (X ++ u :: cl.reverse))] at h))
  clear hall
  rcases hAc with hc | ⟨ad, rfl⟩
  case inl =>
    subst hc
    obtain rfl : cl = [] := List.eq_nil_of_length_eq_zero (by omega)
    have J2 := Lib.hid (fun (W : World) (hb : Below w6.heap.size w6 W) (lo : Nat) (A8 : Option Addr) (c8 : Nat) (s8 : SlI W lo W.heap.size A8 c8 (X ++ [u])) => join (w := W) (A' := A5) (c := c8) (c' := 0) (n := X.length + 1) (n' := 0) (X ++ [u]) [].reverse (by simp) rfl (by omega) (by omega) s8.rd (B' := 0) RdI.nil (Nat.le_refl _) (Nat.zero_le _))
    clear CUT1 CUT2 XBN SA SB
    go_wp2_with fail
    go_region_held3 (fun w' => w'.heap.size = w'.heap.size)
      (rfl)
      (first
        | (go_at_call 14; refine (VOF.out _ (Below.refl w6.heap.size w6).drew).mono ?_; rintro e w7 ⟨rfl, b8⟩; have b7 := (Below.refl w6.heap.size w6).drew.trans b8; clear b8)
        | (go_at_call 16; go_fit (J1.out _ b7); rintro e w8 ⟨A8, c8, rfl, s8, b8⟩; have b7 := LIFT.out _ _ _ b7 b8; clear b8)
        | (go_at_call 16; go_fit (J2.out _ b7 _ _ _ s8); rintro e w9 ⟨A9, c9, rfl, s9, b8⟩; have b7 := b7.trans (b8.mono b7.size); clear b8)
        | (go_at_call 15; go_fit (EQ.out _ b7 _ _ _ s9 _ (by first | rfl | simp | (simp; omega))); rintro e w10 ⟨rfl, b8⟩; have b7 := b7.trans (b8.mono b7.size); clear b8))
    go_wp2_with fail
    go_ret
    exact ⟨rfl, BB.out.trans (b7.mono (by omega))⟩
  case inr =>
    by_cases hc : c5 = X.length
    · subst hc
      obtain rfl : cl = [] := List.eq_nil_of_length_eq_zero (by omega)
      have J2 := Lib.hid (fun (W : World) (hb : Below w6.heap.size w6 W) (lo : Nat) (A8 : Option Addr) (c8 : Nat) (s8 : SlI W lo W.heap.size A8 c8 (X ++ [u])) => join (w := W) (A' := some ad) (c := c8) (c' := 0) (n := X.length + 1) (n' := 0) (X ++ [u]) [].reverse (by simp) rfl (by omega) (by omega) s8.rd (B' := 0) RdI.nil (Nat.le_refl _) (Nat.zero_le _))
      clear CUT1 CUT2 XBN SA SB
      go_wp2_with fail
      go_region_held3 (fun w' => w'.heap.size = w'.heap.size)
        (rfl)
        (first
          | (go_at_call 14; refine (VOF.out _ (Below.refl w6.heap.size w6).drew).mono ?_; rintro e w7 ⟨rfl, b8⟩; have b7 := (Below.refl w6.heap.size w6).drew.trans b8; clear b8)
          | (go_at_call 16; go_fit (J1.out _ b7); rintro e w8 ⟨A8, c8, rfl, s8, b8⟩; have b7 := LIFT.out _ _ _ b7 b8; clear b8)
          | (go_at_call 16; go_fit (J2.out _ b7 _ _ _ s8); rintro e w9 ⟨A9, c9, rfl, s9, b8⟩; have b7 := b7.trans (b8.mono b7.size); clear b8)
          | (go_at_call 15; go_fit (EQ.out _ b7 _ _ _ s9 _ (by first | rfl | simp | (simp; omega))); rintro e w10 ⟨rfl, b8⟩; have b7 := b7.trans (b8.mono b7.size); clear b8))
      go_wp2_with fail
      go_ret
      exact ⟨rfl, BB.out.trans (b7.mono (by omega))⟩
    · have J2 := Lib.hid (fun (W : World) (hb : Below w6.heap.size w6 W) (lo : Nat) (A8 : Option Addr) (c8 : Nat) (s8 : SlI W lo W.heap.size A8 c8 (X ++ [u])) => join (w := W) (A' := some (ad.add X.length)) (c := c8) (c' := c5 - X.length) (n := X.length + 1) (n' := cl.length) (X ++ [u]) cl.reverse (by simp) (by simp) (by omega) (by omega) s8.rd (by have := (CUT2.out W hb).rd; rw [if_neg hc] at this; exact this) (Nat.le_refl _) (by have := hb.size; omega))
      clear CUT1 CUT2 XBN SA SB
      go_wp2_with fail
      go_region_held3 (fun w' => w'.heap.size = w'.heap.size)
        (rfl)
        (first
          | (go_at_call 14; refine (VOF.out _ (Below.refl w6.heap.size w6).drew).mono ?_; rintro e w7 ⟨rfl, b8⟩; have b7 := (Below.refl w6.heap.size w6).drew.trans b8; clear b8)
          | (go_at_call 16; go_fit (J1.out _ b7); rintro e w8 ⟨A8, c8, rfl, s8, b8⟩; have b7 := LIFT.out _ _ _ b7 b8; clear b8)
          | (go_at_call 16; go_fit (J2.out _ b7 _ _ _ s8); rintro e w9 ⟨A9, c9, rfl, s9, b8⟩; have b7 := b7.trans (b8.mono b7.size); clear b8)
          | (go_at_call 15; go_fit (EQ.out _ b7 _ _ _ s9 _ (by first | rfl | simp | (simp; omega))); rintro e w10 ⟨rfl, b8⟩; have b7 := b7.trans (b8.mono b7.size); clear b8))
      go_wp2_with fail
      go_ret
      exact ⟨rfl, BB.out.trans (b7.mono (by omega))⟩
end Go.Proofs.Ytnlbmiangbahgaa
