/-
  spec.DrawApplyPatch.
-/
import Derived.Test.YtmmegmefiihabaaPatch
import Derived.Test.YtmmegmefiihabaaKeysOf
namespace Go.Proofs.Ytmmegmefiihabaa
open Go.RowKit

/-- drawn keys and a drawn list of changes -/
def DrawnIC (w : World) (e : Ending) (w' : World) : Prop :=
  ∃ (A : Option Addr) (c : Nat) (xs : List Int) (A' : Option Addr) (c' : Nat) (cs : List Chg), e = .returned (.tuple #[.slice A xs.length c, .slice A' cs.length c']) ∧ xs.length ≤ 11 ∧ cs.length ≤ 30 ∧ xs.length ≤ c ∧ cs.length ≤ c' ∧ RdI w' w'.heap.size A xs ∧ RdC w' w'.heap.size A' cs ∧ Below w.heap.size w w'
def CInv (w w1 : World) (N g m : Nat) (A1 : Option Addr) (c1 : Nat) (xs : List Int) (A : Option Addr) (c : Nat) (cs : List Chg) (wx : World) : Prop :=
  SlI wx w.heap.size w1.heap.size A1 c1 xs ∧ SlC wx w1.heap.size wx.heap.size A c cs ∧ Rdr wx N g m ∧ Turn g (g + 1) w wx ∧ w1.heap.size ≤ wx.heap.size
theorem RdC.dropAt {w : World} {B : Nat} {A : Option Addr} {xs : List Chg} (h : RdC w B A xs) {k c : Nat} (hc : k < xs.length → c ≠ k) : RdC w B (if c = k then A else A.map (·.add (k * 3))) (xs.drop k) := by
  have := Rd.cut (size := 3) h (k := k) (cap := c) (by intro h2; refine hc ?_; simp only [ints, List.length_map, rows_len kC] at h2; omega)
  show Rd w B _ (ints (rows cC (xs.drop k)))
  rw [← rows_drop kC]
  simpa [ints, List.map_drop] using this
section
variable {w w1 wx wy : World} {N g m m' : Nat} {A1 : Option Addr} {c1 : Nat} {xs : List Int} {A A' : Option Addr} {c c' : Nat} {ys zs : List Chg}
theorem CInv.pick (h : CInv w w1 N g m A1 c1 xs A c ys wx) (hg : g < w.heap.size) (hw : w.heap.size ≤ w1.heap.size) (r : Rdr wy N g m') (t : Turn g (g + 1) wx wy) : CInv w w1 N g m' A1 c1 xs A c ys wy := by
  have hz := t.size
  exact ⟨h.1.turn t (.inr (by omega)), (h.2.1.turn t (.inr (by omega))).mono (Nat.le_refl _) hz, r, h.2.2.2.1.trans t, Nat.le_trans h.2.2.2.2 hz⟩
theorem CInv.alloc (h : CInv w w1 N g m A1 c1 xs A c ys wx) (hg : g < w.heap.size) (hw : w.heap.size ≤ w1.heap.size) (o : Obj) : CInv w w1 N g m A1 c1 xs A c ys (wx.alloc o) := by
  have hz := h.2.2.2.2
  exact ⟨h.1.alloc o, (h.2.1.alloc o).mono (Nat.le_refl _) (by simp), h.2.2.1.below ((Below.refl _ _).alloc (Nat.le_refl _) o) (by omega), h.2.2.2.1.alloc o, by simp; omega⟩
theorem CInv.own (h : CInv w w1 N g m A1 c1 xs A c ys wx) (hg : g < w.heap.size) (hw : w.heap.size ≤ w1.heap.size) (s : SlC wy w1.heap.size wy.heap.size A' c' zs) (t : Turn w1.heap.size wx.heap.size wx wy) : CInv w w1 N g m A1 c1 xs A' c' zs wy := by
  have hz := h.2.2.2.2
  exact ⟨h.1.turn t (.inl (Nat.le_refl _)), s, h.2.2.1.turn t (by omega), h.2.2.2.1.new t hw, Nat.le_trans hz t.size⟩
theorem CInv.more (h : CInv w w1 N g m A1 c1 xs A c ys wx) (hm : m ≤ m') : CInv w w1 N g m' A1 c1 xs A c ys wx := ⟨h.1, h.2.1, h.2.2.1.more hm, h.2.2.2⟩
end

set_option maxRecDepth 100000 in
set_option maxHeartbeats 3200000 in
theorem drawApplyPatch {A : Option Addr} {c n : Nat} {w0 : World} (bs : List Int) (ln : bs.length = n) (hn : n ≤ c) (hc : c ≤ 9223372036854775807) (hx : ∀ x ∈ bs, (Lit.int .u8 x).wf = true) (hr : Rd w0 w0.heap.size A (bytes8 bs)) :
    Calls Try.prog 12 #[.slice A n c] w0 (DrawnIC w0) := by
  subst ln
  have HR := Lib.hid hr; clear hr
  have HX := Lib.hid hx; clear hx
  go_enter Try.func12, Try.ntmps12
  go_wp2_with fail
  refine (newReader bs rfl hn hc HX.out HR.out).mono ?_; rintro e w ⟨rfl, r1, b1, z1⟩
  have R1 := Lib.hid r1; clear r1
  have B1 := Lib.hid b1; clear b1
  obtain ⟨g, hg⟩ : ∃ g, w0.heap.size = g := ⟨_, rfl⟩
  have hgw : g < w.heap.size := by omega
  rw [hg] at R1 ⊢
  have hz1 : w.heap.size = g + 1 := by omega
  have HG := Lib.hid hg
  clear HR HX z1 hg
  go_wp2_with fail
  refine (keysOf (by omega) R1.out).mono ?_; rintro e w2 ⟨A1, c1, xs, A2, c2, ys, rfl, hl1, hl2, s2, s3, r2, t2⟩
  have hz2 := t2.size
  have hc1 := s2.le
  have hc2 := s3.le
  have X := Lib.hid s2
  have Y := Lib.hid s3
  have R := Lib.hid r2
  have T := Lib.hid t2
  clear s2 s3 r2 t2 R1
  have VX := Lib.hid (fun m => quiet_bool (n := m) (w := w2) (validKeys (c := c1) xs rfl (by omega) hc1 (X.out.rd.drewN m)))
  go_wp2_with fail
  refine (qb (validKeys xs rfl (by omega) hc1 X.out.rd)).mono ?_; rintro e w3 ⟨rfl, b3⟩
  cases hv1 : vkB xs
  case false =>
    have HF := Lib.hid (show DrawnIC w0 (.returned (.tuple #[.slice A1 xs.length c1, .slice (some ⟨w3.heap.size, 0, none⟩) 0 0])) (w3.alloc (.cells #[] 32)) from
      ⟨A1, c1, xs, _, 0, [], rfl, hl1, by simp, hc1, Nat.le_refl _, (((X.out.below b3 (Nat.le_refl _)).alloc _).rd).more (by have := b3.size; simp; omega), RdR.nil, (B1.out.trans ((T.out.below (by omega)).mono (by have := HG.out; omega))).trans ((b3.mono (by rw [HG.out]; omega)).alloc (by have := b3.size; rw [HG.out]; omega) _)⟩)
    clear b3 hv1
    go_wp2_with fail
    go_ret2
    exact HF.out
  case true =>
    have hz3 := b3.size
    have HV1 := Lib.hid hv1; clear hv1
    have X := Lib.hid (X.out.below b3 (Nat.le_refl _))
    have Y := Lib.hid (Y.out.below b3 (Nat.le_refl _))
    have R := Lib.hid (R.out.below b3 (by omega))
    have T := Lib.hid (T.out.trans (Below.turn b3 _ _))
    clear b3
    go_wp2_with fail
    refine (qb (validKeys ys rfl (by omega) hc2 Y.out.rd)).mono ?_; rintro e w4 ⟨rfl, b4⟩
    cases hv2 : vkB ys
    case false =>
      have HF := Lib.hid (show DrawnIC w0 (.returned (.tuple #[.slice A1 xs.length c1, .slice (some ⟨w4.heap.size, 0, none⟩) 0 0])) (w4.alloc (.cells #[] 32)) from
        ⟨A1, c1, xs, _, 0, [], rfl, hl1, by simp, hc1, Nat.le_refl _, (((X.out.below b4 (by omega)).alloc _).rd).more (by have := b4.size; simp; omega), RdR.nil, (B1.out.trans ((T.out.below (by omega)).mono (by have := HG.out; omega))).trans ((b4.mono (by rw [HG.out]; omega)).alloc (by have := b4.size; rw [HG.out]; omega) _)⟩)
      clear b4 hv2
      go_wp2_with fail
      go_ret2
      exact HF.out
    case true =>
      have hz4 := b4.size
      have HV2 := Lib.hid hv2; clear hv2
      have X := Lib.hid (X.out.below b4 (by omega))
      have Y := Lib.hid (Y.out.below b4 (by omega))
      have R := Lib.hid (R.out.below b4 (by omega))
      have T := Lib.hid (T.out.trans (Below.turn b4 _ _))
      clear b4
      go_wp2_with fail
      refine (specPatch xs ys rfl rfl (by omega) (by omega) X.out.rd Y.out.rd (by omega) (by omega)).mono ?_; rintro e w5 ⟨A5, c5, rfl, s5, b5⟩
      have hz5 := b5.size
      obtain ⟨cs0, hcs⟩ : ∃ cs0, cs0 = patchF xs ys := ⟨_, rfl⟩
      have hcl : cs0.length ≤ 22 := by rw [hcs]; have := patchF_len xs ys; omega
      rw [← hcs] at s5 ⊢
      have K := Lib.hid (show CInv w w2 g g 40 A1 c1 xs A5 c5 cs0 w5 from ⟨X.out.below b5 (by omega), s5.mono (by omega) (Nat.le_refl _), (R.out.below b5 (by omega)).more (by omega), T.out.trans (Below.turn b5 _ _), by omega⟩)
      clear hcs s5 b5 X Y R T HV1 HV2
      go_wp2_with fail
      refine (pick _ g g 40 _ (by omega) K.out.2.2.1).mono ?_; rintro e w6 ⟨q, rfl, hq0, hq, r6, t6⟩
      have K6 := Lib.hid (K.out.pick hgw hz2 r6 t6); clear r6 t6 K
      obtain ⟨q, rfl⟩ := Int.eq_ofNat_of_zero_le hq0
      have hq3 : q ≤ 3 := by omega
      clear hq0 hq
      go_wp2_with fail
      go_loopw [7, 8] (fun v i wr => ∃ (j m' : Nat) (A' : Option Addr) (c' : Nat) (cs : List Chg), j ≤ 3 ∧ m' + 4 * j ≤ 60 ∧ i = .int .i64 j ∧ v = .slice A' cs.length c' ∧ cs.length + j ≤ 25 ∧ CInv w w2 g g m' A1 c1 xs A' c' cs wr) (fun _ i _ => (intOf i).toNat)
      case atStart => exact ⟨q, 41, A5, c5, cs0, hq3, by omega, rfl, rfl, by omega, K6.out⟩
      case round =>
        obtain ⟨j, m', A', c', cs, hj, hm', rfl, rfl, hl, k7⟩ := hrel
        have K7 := Lib.hid k7; clear k7 K6
        by_cases hj0 : 0 < j
        · go_wp2_with fail
          have O1 := SlI.new (lo := g + 1) wr [2, 1, 0, 3] (by have := K7.out.2.2.2.2; omega)
          have K8 := Lib.hid (K7.out.alloc hgw hz2 (.cells (ints [2, 1, 0, 3]).toArray 3))
          refine (one (n := 4) [2, 1, 0, 3] rfl (by omega) (by omega) g g m' (by omega) K8.out.2.2.1 O1 (by omega)).mono ?_
          rintro e w8 ⟨kd, _, rfl, r8, t8⟩
          have K9 := Lib.hid (K8.out.pick hgw hz2 r8 t8); clear r8 t8 K8 O1 K7
          go_wp2_with fail
          refine (pick _ g g (m' + 1) _ (by omega) K9.out.2.2.1).mono ?_; rintro e w9 ⟨ky, rfl, _, _, r9, t9⟩
          have K10 := Lib.hid (K9.out.pick hgw hz2 r9 t9); clear r9 t9 K9
          go_wp2_with fail
          refine (pick _ g g (m' + 1 + 1) _ (by omega) K10.out.2.2.1).mono ?_; rintro e w10 ⟨a3, rfl, _, _, r10, t10⟩
          have K11 := Lib.hid (K10.out.pick hgw hz2 r10 t10); clear r10 t10 K10
          go_wp2_with fail
          have O2 := SlI.new (lo := g + 1) w10 [-1, a3, -2] (by have := K11.out.2.2.2.2; omega)
          have K12 := Lib.hid (K11.out.alloc hgw hz2 (.cells (ints [-1, a3, -2]).toArray 3))
          refine (one (n := 3) [-1, a3, -2] rfl (by omega) (by omega) g g (m' + 1 + 1 + 1) (by omega) K12.out.2.2.1 O2 (by omega)).mono ?_
          rintro e w11 ⟨aa, _, rfl, r11, t11⟩
          have K13 := Lib.hid (K12.out.pick hgw hz2 r11 t11); clear r11 t11 K12 O2 K11
          have hz11 := K13.out.2.2.2.2
          have K14 := Lib.hid (K13.out.alloc hgw hz2 (.cells #[.int .i64 kd, .int .i64 ky, .int .i64 aa] 32))
          go_wp2_with (at_builtin; refine wpList_appC (.tmp 35) (.tmp 47) rfl rfl cs ⟨kd, ky, aa⟩ rfl rfl K14.out.2.1 rfl (Blk.new _ _ _) (by omega) (by simp; omega) ?_; intro A15 c15 w15 h15 t15 _)
          have K15 := Lib.hid (K14.out.own hgw hz2 (SlC_all h15 t15 (Nat.le_refl _)) t15)
          clear h15 t15 K13 K14
          go_wp2
          go_roundw
          case rel => exact ⟨j - 1, m' + 1 + 1 + 1 + 1, A15, c15, cs ++ [⟨kd, ky, aa⟩], by omega, by omega, by go_num, by simp, by simp; omega, K15.out⟩
          case measure => simp [intOf]; omega
        · have FIN := Lib.hid (fun (wx : World) (m'' : Nat) (A' : Option Addr) (c' : Nat) (cs : List Chg) (hl : cs.length ≤ 30) (hc : cs.length ≤ c') (k : CInv w w2 g g m'' A1 c1 xs A' c' cs wx) (A'' : Option Addr) (c'' : Nat) (cs2 : List Chg) (hl2 : cs2.length ≤ 30) (hc2 : cs2.length ≤ c'') (r : RdC wx wx.heap.size A'' cs2) =>
            (show DrawnIC w0 (.returned (.tuple #[.slice A1 xs.length c1, .slice A'' cs2.length c''])) wx from
              ⟨A1, c1, xs, A'', c'', cs2, rfl, hl1, hl2, hc1, hc2, k.1.rd.more (by have := k.2.2.2.2; omega), r, B1.out.trans ((k.2.2.2.1.below (by omega)).mono (by rw [HG.out]; omega))⟩))
          have hcc := K7.out.2.1.le
          by_cases hcp : 0 < cs.length
          · go_wp2_with fail
            refine (pick _ g g m' _ (by omega) K7.out.2.2.1).mono ?_; rintro e w8 ⟨v, rfl, hv0, _, r8, t8⟩
            have K8 := Lib.hid (K7.out.pick hgw hz2 r8 t8); clear r8 t8 K7
            by_cases hv : v = 0
            · subst hv
              have HF := Lib.hid (FIN.out w8 _ A' c' cs (by omega) hcc K8.out (if c' = 1 then A' else A'.map (·.add 3)) (c' - 1) (cs.drop 1) (by simp; omega) (by simp; omega) (by simpa using RdC.dropAt (k := 1) (c := c') K8.out.2.1.rd (by omega)))
              rw [List.length_drop] at HF
              clear FIN K8
              by_cases hc1' : c' = 1
              · subst hc1'
                rw [if_pos rfl, show cs.length - 1 = 0 by omega] at HF
                go_wp2_with fail
                go_ret2
                exact HF.out
              · rw [if_neg hc1'] at HF
                go_wp2_with fail
                go_ret2
                exact HF.out
            · have hv' : (v == 0) = false := by rw [beq_eq_false_iff_ne]; exact hv
              have HF := Lib.hid (FIN.out w8 _ A' c' cs (by omega) hcc K8.out A' c' cs (by omega) hcc K8.out.2.1.rd)
              clear FIN K8
              go_wp2_with fail
              go_ret2
              exact HF.out
          · have HF := Lib.hid (FIN.out wr _ A' c' cs (by omega) hcc K7.out A' c' cs (by omega) hcc K7.out.2.1.rd)
            clear FIN K7
            go_wp2_with fail
            go_ret2
            exact HF.out
end Go.Proofs.Ytmmegmefiihabaa
