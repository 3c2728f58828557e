/-
  spec.goodOwners: drawn owners, which are valid.
-/
import Derived.Test.YtnlbmiangbahgaaVo
import Derived.Test.YtnlbmiangbahgaaReader
namespace Go.Proofs.Ytnlbmiangbahgaa
open Go.RowKit

/-- drawn owners, fresh and valid; the reader has gone on -/
def DrawO (N g m : Nat) (w : World) (e : Ending) (w' : World) : Prop :=
  ∃ (A : Option Addr) (c : Nat) (os : List Own), e = .returned (.slice A os.length c) ∧ voB os = true ∧ SlO w' w.heap.size w'.heap.size A c os ∧ Rdr w' N g m ∧ Turn g (g + 1) w w'

set_option maxRecDepth 100000 in
set_option maxHeartbeats 3200000 in
theorem goodOwners {N g m : Nat} {w : World} (hm : m ≤ 900000) (h : Rdr w N g m) :
    Calls Try.prog 57 #[.pointer (some ⟨g, 0, none⟩)] w (DrawO N g (m + 80) w) := by
  have hg := h.lt
  have H0 := Lib.hid h; clear h
  go_enter Try.func57, Try.ntmps57
  go_wp2_with fail
  refine (pick _ N g m _ (by omega) H0.out).mono ?_; rintro e w1 ⟨v, rfl, hv0, hvl, r1, t1⟩
  have hz1 := t1.size
  have HCX := Lib.hid (show ctxB [-1, v, -1] = true from ctxB_iff.2 ⟨rfl, fun u hu => by simp at hu; omega⟩)
  have RI := Lib.hid (show RdI (w1.alloc (.cells (ints [-1, v, -1]).toArray 3)) (w1.heap.size + 1) (some ⟨w1.heap.size, 0, none⟩) [-1, v, -1] from (SlI.newAt (w := w1) w1.heap.size rfl [-1, v, -1] (lo := 0) (Nat.zero_le _)).rd)
  have R1 := Lib.hid (r1.below ((Below.refl w1.heap.size w1).alloc (Nat.le_refl _) (.cells (ints [-1, v, -1]).toArray 3)) (by omega))
  have T1 := Lib.hid (t1.alloc (.cells (ints [-1, v, -1]).toArray 3))
  clear r1 t1 hv0 hvl H0
  go_wp2_with fail
  refine (specNewOwners (n := 3) [-1, v, -1] rfl (by omega) RI.out (by simp)).mono ?_; rintro e w2 ⟨A2, c2, rfl, s2, b2⟩
  obtain ⟨hnw, hnv⟩ := vo_new HCX.out
  obtain ⟨os, hos⟩ : ∃ os, newOF [-1, v, -1] = os := ⟨_, rfl⟩
  rw [hos] at s2 hnv ⊢
  have hz2 := b2.size
  rw [World.size_alloc] at hz2
  have R2 := Lib.hid (R1.out.below b2 (by simp; omega))
  have T2 := Lib.hid (T1.out.trans (Below.turn b2 g (g + 1)))
  have S2 := Lib.hid (show SlO w2 w.heap.size w2.heap.size A2 c2 os from s2.mono (by simp; omega) (Nat.le_refl _))
  have HV := Lib.hid hnv
  clear s2 b2 hnv hnw hos HCX RI R1 T1
  go_wp2_with fail
  have R3 := Lib.hid (R2.out.below ((Below.refl w2.heap.size w2).alloc (Nat.le_refl _) (.cells (ints [8, 10, 6, 14, 3, 0]).toArray 3)) (by omega))
  refine (one (n := 6) [8, 10, 6, 14, 3, 0] rfl (by omega) (by omega) N g (m + 1) (by omega) R3.out (SlI.newAt (lo := w.heap.size) (w := w2) w2.heap.size rfl [8, 10, 6, 14, 3, 0] (by omega)) hg).mono ?_
  rintro e w3 ⟨q, hq, rfl, r3, t3⟩
  have hq2 : 0 ≤ q ∧ q ≤ 14 := by simp at hq; omega
  obtain ⟨hq0, hq1⟩ := hq2
  obtain ⟨q, rfl⟩ := Int.eq_ofNat_of_zero_le hq0
  have hz3 := t3.size
  rw [World.size_alloc] at hz3
  have T3 := Lib.hid ((T2.out.alloc (.cells (ints [8, 10, 6, 14, 3, 0]).toArray 3)).trans t3)
  have S3 := Lib.hid (((S2.out.alloc (.cells (ints [8, 10, 6, 14, 3, 0]).toArray 3)).turn t3 (.inr (by omega))).mono (Nat.le_refl _) (by omega : w2.heap.size ≤ w3.heap.size))
  have R4 := Lib.hid r3
  clear r3 t3 hq R3 R2 T2 S2
  go_wp2_with fail
  go_loopw [3, 4] (fun v i wr => ∃ (j m' : Nat) (A' : Option Addr) (c' : Nat) (os : List Own), j ≤ 14 ∧ m' + 5 * j ≤ m + 72 ∧ i = .int .i64 j ∧ v = .slice A' os.length c' ∧ voB os = true ∧ SlO wr w.heap.size wr.heap.size A' c' os ∧ Rdr wr N g m' ∧ Turn g (g + 1) w wr) (fun _ i _ => (intOf i).toNat)
  case atStart => exact ⟨q, m + 1 + 1, A2, c2, os, by omega, by omega, rfl, rfl, HV.out, S3.out, R4.out, T3.out⟩
  case round =>
    clear S3 R4 T3 HV hz1 hz2 hz3 hq0 hq1
    obtain ⟨j, m', A', c', os, hj, hm', rfl, rfl, hv, hs, hr, ht⟩ := hrel
    have hz := ht.size
    have HV := Lib.hid hv
    have HS := Lib.hid hs; clear hs
    have HR := Lib.hid hr; clear hr
    have HT := Lib.hid ht; clear ht
    by_cases hj0 : 0 < j
    case neg =>
      go_wp2_with fail
      go_ret
      exact ⟨A', c', os, rfl, HV.out, HS.out, HR.out.more (by omega), HT.out⟩
    obtain ⟨⟨hl1, hl2⟩, _⟩ := vo_lens hv
    have HM := Lib.hid (vo_bd hv)
    clear hv
    go_wp2_with fail
    refine (pick _ N g m' _ (by omega) HR.out).mono ?_; rintro e w2 ⟨v, rfl, hv0, hvl, r2, t2⟩
    have hvl2 : v < (os.length : Int) := by omega
    clear hvl
    obtain ⟨Q, rfl⟩ := Int.eq_ofNat_of_zero_le hv0
    have hQ : Q < os.length := by omega
    have HS2 := Lib.hid ((HS.out.turn t2 (.inr (by omega))).mono (Nat.le_refl _) t2.size)
    have HT2 := Lib.hid (HT.out.trans t2)
    have HR2 := Lib.hid r2
    clear r2 t2 HS HT HR hz
    go_wp2_with fail
    refine (pick _ N g (m' + 1) _ (by omega) HR2.out).mono ?_; rintro e w3 ⟨s, rfl, hs0, hsl, r3, t3⟩
    have hz3 := (HT2.out.trans t3).size
    have S := Lib.hid ((HS2.out.turn t3 (.inr (by have := HT2.out.size; omega))).mono (Nat.le_refl _) t3.size)
    have T := Lib.hid (HT2.out.trans t3)
    have R := Lib.hid r3
    clear r3 t3 HS2 HT2 HR2 hv0
    have hs8 : s = 0 ∨ s = 1 ∨ s = 2 ∨ s = 3 ∨ s = 4 ∨ s = 5 ∨ s = 6 ∨ s = 7 := by omega
    clear hs0 hsl
    rcases hs8 with rfl | rfl | rfl | rfl | rfl | rfl | rfl | rfl
    · go_wp2_with fail
      refine (specOpenUnder (c := c') (Q : Int) os rfl (by omega) HM.out.1 S.out.rd (Nat.le_refl _)).mono ?_; rintro e w4 ⟨A4, c4, rfl, s4, b4⟩
      have hz4 := b4.size
      have hvo := vo_openF HV.out (o := (Q : Int)) 
      obtain ⟨p, hp⟩ : ∃ p, openF os (Q : Int) = p := ⟨_, rfl⟩
      rw [hp] at s4 hvo ⊢
      obtain ⟨os2, ok⟩ := p
      have T4 := Lib.hid (T.out.trans (Below.turn b4 g (g + 1)))
      have R4 := Lib.hid (R.out.below b4 (by omega))
      cases ok
      case false =>
        have S4 := Lib.hid (S.out.below b4 (Nat.le_refl _))
        clear s4 b4 hvo hp
        go_wp2_with fail
        go_roundw
        case rel => exact ⟨j - 1, _, A', c', os, by omega, by omega, by go_num, rfl, HV.out, S4.out.mono (Nat.le_refl _) hz4, R4.out, T4.out⟩
        case measure => simp [intOf]; omega
      case true =>
        have HV4 := Lib.hid (hvo rfl)
        have S4 := Lib.hid (show SlO w4 w.heap.size w4.heap.size A4 c4 os2 from s4.mono hz3 (Nat.le_refl _))
        clear s4 b4 hvo hp
        go_wp2_with fail
        go_roundw
        case rel => exact ⟨j - 1, _, A4, c4, os2, by omega, by omega, by go_num, rfl, HV4.out, S4.out, R4.out, T4.out⟩
        case measure => simp [intOf]; omega
    · go_wp2_with fail
      refine (specOpenUnder (c := c') (Q : Int) os rfl (by omega) HM.out.1 S.out.rd (Nat.le_refl _)).mono ?_; rintro e w4 ⟨A4, c4, rfl, s4, b4⟩
      have hz4 := b4.size
      have hvo := vo_openF HV.out (o := (Q : Int)) 
      obtain ⟨p, hp⟩ : ∃ p, openF os (Q : Int) = p := ⟨_, rfl⟩
      rw [hp] at s4 hvo ⊢
      obtain ⟨os2, ok⟩ := p
      have T4 := Lib.hid (T.out.trans (Below.turn b4 g (g + 1)))
      have R4 := Lib.hid (R.out.below b4 (by omega))
      cases ok
      case false =>
        have S4 := Lib.hid (S.out.below b4 (Nat.le_refl _))
        clear s4 b4 hvo hp
        go_wp2_with fail
        go_roundw
        case rel => exact ⟨j - 1, _, A', c', os, by omega, by omega, by go_num, rfl, HV.out, S4.out.mono (Nat.le_refl _) hz4, R4.out, T4.out⟩
        case measure => simp [intOf]; omega
      case true =>
        have HV4 := Lib.hid (hvo rfl)
        have S4 := Lib.hid (show SlO w4 w.heap.size w4.heap.size A4 c4 os2 from s4.mono hz3 (Nat.le_refl _))
        clear s4 b4 hvo hp
        go_wp2_with fail
        go_roundw
        case rel => exact ⟨j - 1, _, A4, c4, os2, by omega, by omega, by go_num, rfl, HV4.out, S4.out, R4.out, T4.out⟩
        case measure => simp [intOf]; omega
    · go_wp2_with fail
      refine (specOpenUnder (c := c') (Q : Int) os rfl (by omega) HM.out.1 S.out.rd (Nat.le_refl _)).mono ?_; rintro e w4 ⟨A4, c4, rfl, s4, b4⟩
      have hz4 := b4.size
      have hvo := vo_openF HV.out (o := (Q : Int)) 
      obtain ⟨p, hp⟩ : ∃ p, openF os (Q : Int) = p := ⟨_, rfl⟩
      rw [hp] at s4 hvo ⊢
      obtain ⟨os2, ok⟩ := p
      have T4 := Lib.hid (T.out.trans (Below.turn b4 g (g + 1)))
      have R4 := Lib.hid (R.out.below b4 (by omega))
      cases ok
      case false =>
        have S4 := Lib.hid (S.out.below b4 (Nat.le_refl _))
        clear s4 b4 hvo hp
        go_wp2_with fail
        go_roundw
        case rel => exact ⟨j - 1, _, A', c', os, by omega, by omega, by go_num, rfl, HV.out, S4.out.mono (Nat.le_refl _) hz4, R4.out, T4.out⟩
        case measure => simp [intOf]; omega
      case true =>
        have HV4 := Lib.hid (hvo rfl)
        have S4 := Lib.hid (show SlO w4 w.heap.size w4.heap.size A4 c4 os2 from s4.mono hz3 (Nat.le_refl _))
        clear s4 b4 hvo hp
        go_wp2_with fail
        go_roundw
        case rel => exact ⟨j - 1, _, A4, c4, os2, by omega, by omega, by go_num, rfl, HV4.out, S4.out, R4.out, T4.out⟩
        case measure => simp [intOf]; omega
    · go_wp2_with fail
      refine (pick _ N g (m' + 2) _ (by omega) R.out).mono ?_; rintro e wx ⟨x, rfl, hxa, hxb, rx, tx⟩
      have hz3 : w.heap.size ≤ wx.heap.size := Nat.le_trans hz3 tx.size
      have S := Lib.hid ((S.out.turn tx (.inr (by omega))).mono (Nat.le_refl _) tx.size)
      have T := Lib.hid (T.out.trans tx)
      have R := Lib.hid rx
      clear rx tx
      go_wp2_with fail
      refine (specAddCleanup (c := c') (Q : Int) x os rfl (by omega) HM.out.1 S.out.rd (Nat.le_refl _)).mono ?_; rintro e w4 ⟨A4, c4, rfl, s4, b4⟩
      have hz4 := b4.size
      have hvo := vo_addF HV.out (o := (Q : Int)) (l := x)
      obtain ⟨p, hp⟩ : ∃ p, addF os (Q : Int) x = p := ⟨_, rfl⟩
      rw [hp] at s4 hvo ⊢
      obtain ⟨os2, ok⟩ := p
      have T4 := Lib.hid (T.out.trans (Below.turn b4 g (g + 1)))
      have R4 := Lib.hid (R.out.below b4 (by omega))
      cases ok
      case false =>
        have S4 := Lib.hid (S.out.below b4 (Nat.le_refl _))
        clear s4 b4 hvo hp
        go_wp2_with fail
        go_roundw
        case rel => exact ⟨j - 1, _, A', c', os, by omega, by omega, by go_num, rfl, HV.out, S4.out.mono (Nat.le_refl _) hz4, R4.out, T4.out⟩
        case measure => simp [intOf]; omega
      case true =>
        have HV4 := Lib.hid (hvo rfl)
        have S4 := Lib.hid (show SlO w4 w.heap.size w4.heap.size A4 c4 os2 from s4.mono hz3 (Nat.le_refl _))
        clear s4 b4 hvo hp
        go_wp2_with fail
        go_roundw
        case rel => exact ⟨j - 1, _, A4, c4, os2, by omega, by omega, by go_num, rfl, HV4.out, S4.out, R4.out, T4.out⟩
        case measure => simp [intOf]; omega
    · go_wp2_with fail
      refine (pick _ N g (m' + 2) _ (by omega) R.out).mono ?_; rintro e wx ⟨x, rfl, hxa, hxb, rx, tx⟩
      have hz3 : w.heap.size ≤ wx.heap.size := Nat.le_trans hz3 tx.size
      have S := Lib.hid ((S.out.turn tx (.inr (by omega))).mono (Nat.le_refl _) tx.size)
      have T := Lib.hid (T.out.trans tx)
      have R := Lib.hid rx
      clear rx tx
      go_wp2_with fail
      refine (specAddCleanup (c := c') (Q : Int) x os rfl (by omega) HM.out.1 S.out.rd (Nat.le_refl _)).mono ?_; rintro e w4 ⟨A4, c4, rfl, s4, b4⟩
      have hz4 := b4.size
      have hvo := vo_addF HV.out (o := (Q : Int)) (l := x)
      obtain ⟨p, hp⟩ : ∃ p, addF os (Q : Int) x = p := ⟨_, rfl⟩
      rw [hp] at s4 hvo ⊢
      obtain ⟨os2, ok⟩ := p
      have T4 := Lib.hid (T.out.trans (Below.turn b4 g (g + 1)))
      have R4 := Lib.hid (R.out.below b4 (by omega))
      cases ok
      case false =>
        have S4 := Lib.hid (S.out.below b4 (Nat.le_refl _))
        clear s4 b4 hvo hp
        go_wp2_with fail
        go_roundw
        case rel => exact ⟨j - 1, _, A', c', os, by omega, by omega, by go_num, rfl, HV.out, S4.out.mono (Nat.le_refl _) hz4, R4.out, T4.out⟩
        case measure => simp [intOf]; omega
      case true =>
        have HV4 := Lib.hid (hvo rfl)
        have S4 := Lib.hid (show SlO w4 w.heap.size w4.heap.size A4 c4 os2 from s4.mono hz3 (Nat.le_refl _))
        clear s4 b4 hvo hp
        go_wp2_with fail
        go_roundw
        case rel => exact ⟨j - 1, _, A4, c4, os2, by omega, by omega, by go_num, rfl, HV4.out, S4.out, R4.out, T4.out⟩
        case measure => simp [intOf]; omega
    · go_wp2_with fail
      refine (pick _ N g (m' + 2) _ (by omega) R.out).mono ?_; rintro e wx ⟨x, rfl, hxa, hxb, rx, tx⟩
      have hz3 : w.heap.size ≤ wx.heap.size := Nat.le_trans hz3 tx.size
      have S := Lib.hid ((S.out.turn tx (.inr (by omega))).mono (Nat.le_refl _) tx.size)
      have T := Lib.hid (T.out.trans tx)
      have R := Lib.hid rx
      clear rx tx
      go_wp2_with fail
      refine (specAddCleanup (c := c') (Q : Int) x os rfl (by omega) HM.out.1 S.out.rd (Nat.le_refl _)).mono ?_; rintro e w4 ⟨A4, c4, rfl, s4, b4⟩
      have hz4 := b4.size
      have hvo := vo_addF HV.out (o := (Q : Int)) (l := x)
      obtain ⟨p, hp⟩ : ∃ p, addF os (Q : Int) x = p := ⟨_, rfl⟩
      rw [hp] at s4 hvo ⊢
      obtain ⟨os2, ok⟩ := p
      have T4 := Lib.hid (T.out.trans (Below.turn b4 g (g + 1)))
      have R4 := Lib.hid (R.out.below b4 (by omega))
      cases ok
      case false =>
        have S4 := Lib.hid (S.out.below b4 (Nat.le_refl _))
        clear s4 b4 hvo hp
        go_wp2_with fail
        go_roundw
        case rel => exact ⟨j - 1, _, A', c', os, by omega, by omega, by go_num, rfl, HV.out, S4.out.mono (Nat.le_refl _) hz4, R4.out, T4.out⟩
        case measure => simp [intOf]; omega
      case true =>
        have HV4 := Lib.hid (hvo rfl)
        have S4 := Lib.hid (show SlO w4 w.heap.size w4.heap.size A4 c4 os2 from s4.mono hz3 (Nat.le_refl _))
        clear s4 b4 hvo hp
        go_wp2_with fail
        go_roundw
        case rel => exact ⟨j - 1, _, A4, c4, os2, by omega, by omega, by go_num, rfl, HV4.out, S4.out, R4.out, T4.out⟩
        case measure => simp [intOf]; omega
    · go_wp2_with fail
      refine (pick _ N g (m' + 2) _ (by omega) R.out).mono ?_; rintro e wx ⟨x, rfl, hxa, hxb, rx, tx⟩
      have hz3 : w.heap.size ≤ wx.heap.size := Nat.le_trans hz3 tx.size
      have S := Lib.hid ((S.out.turn tx (.inr (by omega))).mono (Nat.le_refl _) tx.size)
      have T := Lib.hid (T.out.trans tx)
      have R := Lib.hid rx
      clear rx tx
      go_wp2_with fail
      refine (pick _ N g (m' + 3) _ (by omega) R.out).mono ?_; rintro e wy ⟨y, rfl, hya, hyb, ry, ty⟩
      have hz3 : w.heap.size ≤ wy.heap.size := Nat.le_trans hz3 ty.size
      have S := Lib.hid ((S.out.turn ty (.inr (by omega))).mono (Nat.le_refl _) ty.size)
      have T := Lib.hid (T.out.trans ty)
      have R := Lib.hid ry
      clear ry ty
      go_wp2_with fail
      refine (specSetContext (c := c') (Q : Int) x y os rfl (by omega) HM.out.1 S.out.rd (Nat.le_refl _)).mono ?_; rintro e w4 ⟨A4, c4, rfl, s4, b4⟩
      have hz4 := b4.size
      have hvo := vo_setF HV.out (o := (Q : Int)) (key := x) (v := y)
      obtain ⟨p, hp⟩ : ∃ p, setF os (Q : Int) x y = p := ⟨_, rfl⟩
      rw [hp] at s4 hvo ⊢
      obtain ⟨os2, ok⟩ := p
      have T4 := Lib.hid (T.out.trans (Below.turn b4 g (g + 1)))
      have R4 := Lib.hid (R.out.below b4 (by omega))
      cases ok
      case false =>
        have S4 := Lib.hid (S.out.below b4 (Nat.le_refl _))
        clear s4 b4 hvo hp
        go_wp2_with fail
        go_roundw
        case rel => exact ⟨j - 1, _, A', c', os, by omega, by omega, by go_num, rfl, HV.out, S4.out.mono (Nat.le_refl _) hz4, R4.out, T4.out⟩
        case measure => simp [intOf]; omega
      case true =>
        have HV4 := Lib.hid (hvo rfl)
        have S4 := Lib.hid (show SlO w4 w.heap.size w4.heap.size A4 c4 os2 from s4.mono hz3 (Nat.le_refl _))
        clear s4 b4 hvo hp
        go_wp2_with fail
        go_roundw
        case rel => exact ⟨j - 1, _, A4, c4, os2, by omega, by omega, by go_num, rfl, HV4.out, S4.out, R4.out, T4.out⟩
        case measure => simp [intOf]; omega
    · cases hio : isOpB os (Q : Int)
      case false =>
        go_wp2_with fail
        refine (isOpen (c := c') (Q : Int) os rfl (by omega) S.out.rd).mono ?_; rw [hio]; rintro e w' ⟨rfl, rfl⟩
        go_wp2_with fail
        go_roundw
        case rel => exact ⟨j - 1, _, A', c', os, by omega, by omega, by go_num, rfl, HV.out, S.out, R.out, T.out⟩
        case measure => simp [intOf]; omega
      case true =>
      have hop : opB os (Q : Int) = true := by rw [opB_eq, hio, HV.out]; rfl
      have HOP := Lib.hid hop; clear hop
      by_cases hq0 : 0 < Q
      case neg =>
        go_wp2_with fail
        refine (isOpen (c := c') (Q : Int) os rfl (by omega) S.out.rd).mono ?_; rw [hio]; rintro e w' ⟨rfl, rfl⟩
        go_wp2_with fail
        go_roundw
        case rel => exact ⟨j - 1, _, A', c', os, by omega, by omega, by go_num, rfl, HV.out, S.out, R.out, T.out⟩
        case measure => simp [intOf]; omega
      go_wp2_with fail
      refine (isOpen (c := c') (Q : Int) os rfl (by omega) S.out.rd).mono ?_; rw [hio]; rintro e w' ⟨rfl, rfl⟩
      go_wp2_with fail
      refine (pick _ N g (m' + 2) _ (by omega) R.out).mono ?_; rintro e wx ⟨x, rfl, hxa, hxb, rx, tx⟩
      have hz3 : w.heap.size ≤ wx.heap.size := Nat.le_trans hz3 tx.size
      have S := Lib.hid ((S.out.turn tx (.inr (by omega))).mono (Nat.le_refl _) tx.size)
      have T := Lib.hid (T.out.trans tx)
      have R := Lib.hid rx
      clear rx tx
      by_cases hx0 : x = 0
      case neg =>
        have hx0' : (x == 0) = false := by rw [beq_eq_false_iff_ne]; exact hx0
        clear hx0
        go_wp2_with fail
        go_roundw
        case rel => exact ⟨j - 1, _, A', c', os, by omega, by omega, by go_num, rfl, HV.out, S.out, R.out, T.out⟩
        case measure => simp [intOf]; omega
      subst hx0
      have HQ0 := Lib.hid hq0
      go_wp2_with fail
      refine (specDisposeOwner (c := c') (Q : Int) os rfl (by omega) (by have := HM.out.2; omega) HM.out.1 S.out.rd (Nat.le_refl _)).mono ?_; rintro e w4 ⟨A4, c4, A5, c5, mid, ⟨hm1, hm2⟩, rfl, s4, l4, b4⟩
      have hz4 := b4.size
      have hvo := vo_dispF HOP.out (by have := HQ0.out; omega)
      obtain ⟨p, hp⟩ : ∃ p, dispF os (Q : Int) = p := ⟨_, rfl⟩
      rw [hp] at s4 hvo ⊢
      obtain ⟨os2, ls⟩ := p
      have HV4 := Lib.hid hvo
      have T4 := Lib.hid (T.out.trans (Below.turn b4 g (g + 1)))
      have R4 := Lib.hid (R.out.below b4 (by omega))
      have S4 := Lib.hid (show SlO w4 w.heap.size w4.heap.size A4 c4 os2 from s4.mono hz3 hm2)
      clear s4 b4 l4 hvo hp
      go_wp2_with fail
      go_roundw
      case rel => exact ⟨j - 1, _, A4, c4, os2, by omega, by omega, by go_num, rfl, HV4.out, S4.out, R4.out, T4.out⟩
      case measure => simp [intOf]; omega
end Go.Proofs.Ytnlbmiangbahgaa
