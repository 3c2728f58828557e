/-
  spec.DrawMatchRows.
-/
import Derived.Test.YtmmegmefiihabaaRecQ
import Derived.Test.YtmmegmefiihabaaKeysOf
namespace Go.Proofs.Ytmmegmefiihabaa
open Go.RowKit

/-- drawn rows, a number, drawn keys -/
def DrawnQ (w : World) (e : Ending) (w' : World) : Prop :=
  ∃ (A : Option Addr) (c : Nat) (rs : List Rwx) (nx : Int) (A' : Option Addr) (c' : Nat) (ks : List Int), e = .returned (.tuple #[.slice A rs.length c, .int .i64 nx, .slice A' ks.length c']) ∧ rs.length ≤ 11 ∧ ks.length ≤ 11 ∧ rs.length ≤ c ∧ ks.length ≤ c' ∧ RdQ w' w'.heap.size A rs ∧ RdI w' w'.heap.size A' ks ∧ Below w.heap.size w w'
def QInv (w w1 : World) (N g m : Nat) (A1 : Option Addr) (c1 : Nat) (xs : List Int) (A2 : Option Addr) (c2 : Nat) (ys : List Int) (A : Option Addr) (c : Nat) (rs : List Rwx) (wx : World) : Prop :=
  SlI wx w.heap.size w1.heap.size A1 c1 xs ∧ SlI wx w.heap.size w1.heap.size A2 c2 ys ∧ SlQ wx w1.heap.size wx.heap.size A c rs ∧ Rdr wx N g m ∧ Turn g (g + 1) w wx ∧ w1.heap.size ≤ wx.heap.size
section
variable {w w1 wx wy : World} {N g m m' : Nat} {A1 A2 : Option Addr} {c1 c2 : Nat} {xs ys : List Int} {A A' : Option Addr} {c c' : Nat} {rs zs : List Rwx}
theorem QInv.pick (h : QInv w w1 N g m A1 c1 xs A2 c2 ys A c rs wx) (hg : g < w.heap.size) (hw : w.heap.size ≤ w1.heap.size) (r : Rdr wy N g m') (t : Turn g (g + 1) wx wy) : QInv w w1 N g m' A1 c1 xs A2 c2 ys A c rs wy := by
  have hz := t.size
  exact ⟨h.1.turn t (.inr (by omega)), h.2.1.turn t (.inr (by omega)), (h.2.2.1.turn t (.inr (by omega))).mono (Nat.le_refl _) hz, r, h.2.2.2.2.1.trans t, Nat.le_trans h.2.2.2.2.2 hz⟩
theorem QInv.alloc (h : QInv w w1 N g m A1 c1 xs A2 c2 ys A c rs wx) (hg : g < w.heap.size) (hw : w.heap.size ≤ w1.heap.size) (o : Obj) : QInv w w1 N g m A1 c1 xs A2 c2 ys A c rs (wx.alloc o) := by
  have hz := h.2.2.2.2.2
  exact ⟨h.1.alloc o, h.2.1.alloc o, (h.2.2.1.alloc o).mono (Nat.le_refl _) (by simp), h.2.2.2.1.below ((Below.refl _ _).alloc (Nat.le_refl _) o) (by omega), h.2.2.2.2.1.alloc o, by simp; omega⟩
theorem QInv.own (h : QInv w w1 N g m A1 c1 xs A2 c2 ys A c rs wx) (hg : g < w.heap.size) (hw : w.heap.size ≤ w1.heap.size) (s : SlQ wy w1.heap.size wy.heap.size A' c' zs) (t : Turn w1.heap.size wx.heap.size wx wy) : QInv w w1 N g m A1 c1 xs A2 c2 ys A' c' zs wy := by
  have hz := h.2.2.2.2.2
  exact ⟨h.1.turn t (.inl (Nat.le_refl _)), h.2.1.turn t (.inl (Nat.le_refl _)), s, h.2.2.2.1.turn t (by omega), h.2.2.2.2.1.new t hw, Nat.le_trans hz t.size⟩
theorem QInv.more (h : QInv w w1 N g m A1 c1 xs A2 c2 ys A c rs wx) (hm : m ≤ m') : QInv w w1 N g m' A1 c1 xs A2 c2 ys A c rs wx := ⟨h.1, h.2.1, h.2.2.1, h.2.2.2.1.more hm, h.2.2.2.2⟩
end

set_option maxRecDepth 100000 in
set_option maxHeartbeats 3200000 in
theorem drawMatchRows {A : Option Addr} {c n : Nat} {w0 : World} (bs : List Int) (ln : bs.length = n) (hn : n ≤ c) (hc : c ≤ 9223372036854775807) (hx : ∀ x ∈ bs, (Lit.int .u8 x).wf = true) (hr : Rd w0 w0.heap.size A (bytes8 bs)) :
    Calls Try.prog 43 #[.slice A n c] w0 (DrawnQ w0) := by
  subst ln
  have HR := Lib.hid hr; clear hr
  have HX := Lib.hid hx; clear hx
  go_enter Try.func43, Try.ntmps43
  go_wp2_with fail
  refine (newReader bs rfl hn hc HX.out HR.out).mono ?_; rintro e w ⟨rfl, r1, b1, z1⟩
  have R1 := Lib.hid r1; clear r1
  have B1 := Lib.hid b1; clear b1
  obtain ⟨g, hg⟩ : ∃ g, w0.heap.size = g := ⟨_, rfl⟩
  have hgw : g < w.heap.size := by omega
  rw [hg] at R1 ⊢
  have hz1 : w.heap.size = g + 1 := by omega
  have HG := Lib.hid hg
  have hgl : g + 1 ≤ w.heap.size := by omega
  clear HR HX z1 hg hz1
  go_wp2_with fail
  refine (keysOf (by omega) R1.out).mono ?_; rintro e w2 ⟨A1, c1, xs, A2, c2, ys, rfl, hl1, hl2, s2, s3, r2, t2⟩
  have hz2 := t2.size
  have hc1 := s2.le
  have hc2 := s3.le
  have K := Lib.hid (show QInv w w2 g g 40 A1 c1 xs A2 c2 ys (some ⟨w2.heap.size, 0, none⟩) 0 [] (w2.alloc (.cells #[] 60)) from
    ⟨s2.alloc _, s3.alloc _, SlR.nil, (r2.below ((Below.refl _ _).alloc (Nat.le_refl _) _) (by omega)).more (by omega), t2.alloc _, by simp⟩)
  clear s2 s3 r2 t2 R1
  go_wp2_with fail
  go_loopw [8, 9] (fun v i wr => ∃ (j : Nat) (A' : Option Addr) (c' : Nat) (rs : List Rwx), j ≤ xs.length ∧ i = .int .i64 j ∧ rs.length = j ∧ v = .slice A' j c' ∧ QInv w w2 g g 40 A1 c1 xs A2 c2 ys A' c' rs wr) (fun _ i _ => xs.length - (intOf i).toNat)
  case atStart => exact ⟨0, _, 0, [], Nat.zero_le _, rfl, rfl, rfl, K.out⟩
  case round =>
    obtain ⟨j, A', c', rs, hj, rfl, hrl, rfl, k7⟩ := hrel
    have K7 := Lib.hid k7; clear k7 K
    have HRL := Lib.hid hrl; clear hrl
    have hzb := K7.out.2.2.2.2.2
    by_cases hlt : j < xs.length
    · obtain ⟨ad, hA', _, hc'⟩ := K7.out.1.rd.at_ hlt
      subst hA'
      have hcell := hc' j hlt
      obtain ⟨x, hx⟩ : ∃ x, xs[j] = x := ⟨_, rfl⟩
      rw [hx] at hcell
      have hjj0 : (0 : Int) ≤ (j : Int) := Int.natCast_nonneg _
      have hjj1 : (j : Int) < (xs.length : Int) := by omega
      have K8 := Lib.hid (K7.out.alloc hgw hz2 (.cells #[.int .i64 x, .int .i64 (2 * (j : Int))] 60))
      clear hc' hx
      go_wp2_with (at_builtin; refine wpList_appQ (.tmp 25) (.tmp 33) rfl rfl rs ⟨x, 2 * (j : Int)⟩ rfl HRL.out K8.out.2.2.1 rfl (Blk.new _ _ _) (by omega) (by simp; omega) ?_; intro A9 c9 w9 h9 t9 _)
      have K9 := Lib.hid (K8.out.own hgw hz2 (SlQ_all h9 t9 (Nat.le_refl _)) t9)
      clear h9 t9 K7 K8
      go_wp2
      go_roundw
      case rel => exact ⟨j + 1, A9, c9, rs ++ [⟨x, 2 * (j : Int)⟩], by omega, by go_num, by rw [List.length_append, HRL.out]; rfl, rfl, K9.out⟩
      case measure => simp [intOf]; omega
    · have hjl : j = xs.length := by omega
      subst hjl
      have hrl := HRL.out
      have FIN := Lib.hid (fun (wx : World) (m'' : Nat) (zs : List Rwx) (nx : Int) (hz : zs.length = xs.length) (k : QInv w w2 g g m'' A1 c1 xs A2 c2 ys A' c' zs wx) =>
        (show DrawnQ w0 (.returned (.tuple #[.slice A' xs.length c', .int .i64 nx, .slice A2 ys.length c2])) wx from
          ⟨A', c', zs, nx, A2, c2, ys, by rw [hz], by omega, hl2, k.2.2.1.le, hc2, k.2.2.1.rd, k.2.1.rd.more (by have := k.2.2.2.2.2; omega), B1.out.trans ((k.2.2.2.2.1.below (by omega)).mono (by rw [HG.out]; omega))⟩))
      clear hrl
      go_wp2_with fail
      refine (pick _ g g 40 _ (by omega) K7.out.2.2.2.1).mono ?_; rintro e w8 ⟨v, rfl, hv0, hv, r8, t8⟩
      have K8 := Lib.hid (K7.out.pick hgw hz2 r8 t8); clear r8 t8 K7
      have hv3 : v ≤ 3 := by omega
      go_wp2_with fail
      refine (pick _ g g (40 + 1) _ (by omega) K8.out.2.2.2.1).mono ?_; rintro e w9 ⟨q, rfl, hq0, hq, r9, t9⟩
      have K9 := Lib.hid (K8.out.pick hgw hz2 r9 t9); clear r9 t9 K8
      by_cases hq1 : q = 0
      · subst hq1
        clear hv hv0 hq hq0
        go_wp2_with fail
        have O1 := SlI.new (lo := g + 1) w9 [0, 100, 101] (by have := K9.out.2.2.2.2.2; omega)
        have K10 := Lib.hid (K9.out.alloc hgw hz2 (.cells (ints [0, 100, 101]).toArray 3))
        refine (one (n := 3) [0, 100, 101] rfl (by omega) (by omega) g g (40 + 1 + 1) (by omega) K10.out.2.2.2.1 O1 (by omega)).mono ?_
        rintro e w10 ⟨nx, _, rfl, r10, t10⟩
        have HF := Lib.hid (FIN.out w10 _ rs nx HRL.out (K10.out.pick hgw hz2 r10 t10)); clear r10 t10 K9 K10 O1 FIN
        go_wp2_with fail
        go_ret3
        exact HF.out
      · have hq1' : (q == 0) = false := by rw [beq_eq_false_iff_ne]; exact hq1
        by_cases hq2 : q = 1
        · subst hq2
          clear hq hq0 hq1 hq1'
          by_cases hr0 : 0 < xs.length
          · go_wp2_with fail
            have O1 := SlI.new (lo := g + 1) w9 [-1, 2 * (xs.length : Int) + v, 2] (by have := K9.out.2.2.2.2.2; omega)
            have K10 := Lib.hid (K9.out.alloc hgw hz2 (.cells (ints [-1, 2 * (xs.length : Int) + v, 2]).toArray 3))
            refine (one (n := 3) [-1, 2 * (xs.length : Int) + v, 2] rfl (by omega) (by omega) g g (40 + 1 + 1) (by omega) K10.out.2.2.2.1 O1 (by omega)).mono ?_
            rintro e w10 ⟨nx, _, rfl, r10, t10⟩
            have K11 := Lib.hid (K10.out.pick hgw hz2 r10 t10); clear r10 t10 K9 K10 O1
            have hr0' : 0 < rs.length := by rw [HRL.out]; exact hr0
            obtain ⟨g', o', hA', hg1, hg2, hg3, h4, h5, h6, _⟩ := SlR.at_ kQ K11.out.2.2.1 hr0'
            subst hA'
            obtain ⟨x, hx⟩ : ∃ x, rs[0] = x := ⟨_, rfl⟩
            obtain ⟨kx, no⟩ := x
            have hcell := h4 0 ⟨kx, no⟩ (by rw [List.getElem?_eq_getElem hr0', hx]) 1 no rfl
            have hfr := h5 1
            obtain ⟨s12, t12⟩ := h6 1 nx ⟨kx, nx⟩ (by decide) (by rw [hx]; rfl)
            simp only [Nat.zero_mul, Nat.zero_add] at hcell s12 t12
            have K12 := K11.out.own hgw hz2 (s12.mono (Nat.le_refl _) (by simp [World.setCell])) (t12.mono hg1 (by omega))
            have HF := Lib.hid (FIN.out _ _ (rs.set 0 ⟨kx, nx⟩) (2 * (xs.length : Int) + v) (by rw [List.length_set]; exact HRL.out) K12)
            clear s12 t12 h4 h5 h6 K12 hx K11 FIN
            go_wp2_with fail
            go_ret3
            exact HF.out
          · have HF := Lib.hid (FIN.out w9 _ rs (2 * (xs.length : Int) + v) HRL.out K9.out); clear K9 FIN
            go_wp2_with fail
            go_ret3
            exact HF.out
        · have hq2' : (q == 1) = false := by rw [beq_eq_false_iff_ne]; exact hq2
          have HF := Lib.hid (FIN.out w9 _ rs (2 * (xs.length : Int) + v) HRL.out K9.out); clear K9 FIN hq1 hq2
          go_wp2_with fail
          go_ret3
          exact HF.out
end Go.Proofs.Ytmmegmefiihabaa
