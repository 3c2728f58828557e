/-
  spec.reversed, spec.keysOf: two drawn lists of keys.
-/
import Derived.Test.YtmmegmefiihabaaKeysDraw
import Derived.Test.YtmmegmefiihabaaKeys
import Derived.Deep.RegionHeld3
import Derived.Deep.DeepCutAuto
import Derived.Deep.CutBlock
import Derived.Deep.CutRange
import Derived.Deep.LoopGhost
namespace Go.Proofs.Ytmmegmefiihabaa
open Go.RowKit

set_option maxHeartbeats 800000 in
theorem reversed {A : Option Addr} {c n B : Nat} {w : World} (xs : List Int) (ln : xs.length = n) (hn : n ≤ 1048576) (h : RdI w B A xs) (hB : B ≤ w.heap.size) :
    Calls Try.prog 79 #[.slice A n c] w (MadeI w xs.reverse) := by
  subst ln
  have H := Lib.hid h; clear h
  have P0 := Lib.hid (SlI.new w [] (lo := w.heap.size) (Nat.le_refl _))
  go_enter Try.func79, Try.ntmps79
  go_wp2_with fail
  go_loopw [3, 4] (fun v i wr => ∃ (k : Nat) (A2 : Option Addr) (c2 : Nat) (ys : List Int), k ≤ xs.length ∧ i = .int .i64 ((k : Int) - 1) ∧ ys.length + k = xs.length ∧ ys ++ (xs.take k).reverse = xs.reverse ∧ v = .slice A2 ys.length c2 ∧ SlI wr w.heap.size wr.heap.size A2 c2 ys ∧ Below w.heap.size w wr) (fun _ i _ => (intOf i + 1).toNat)
  case atStart => exact ⟨xs.length, _, 0, [], Nat.le_refl _, rfl, by simp, by simp, rfl, by simpa using P0.out, (Below.refl _ _).alloc (Nat.le_refl _) _⟩
  case round =>
    obtain ⟨k, A2, c2, ys, hk, rfl, hl, he, rfl, hs, hb⟩ := hrel
    have hz := hb.size
    have HS := Lib.hid hs; clear hs
    have HB := Lib.hid hb; clear hb
    have R1 := Lib.hid (H.out.belowLe HB.out hB)
    rcases Nat.eq_zero_or_pos k with h0 | hpos
    · have e : ys = xs.reverse := by rw [← he, h0]; simp
      have hlt : ¬ (0 : Int) ≤ (k : Int) - 1 := by omega
      have HE := Lib.hid e
      clear he e h0
      go_wp2_with fail
      go_ret
      exact ⟨A2, c2, by rw [← HE.out]; rfl, by rw [← HE.out]; exact HS.out, HB.out⟩
    · obtain ⟨i, rfl⟩ : ∃ i, k = i + 1 := ⟨k - 1, by omega⟩
      have ei : ((i + 1 : Nat) : Int) - 1 = (i : Int) := by omega
      rw [ei]
      have hi : i < xs.length := by omega
      obtain ⟨ad, rfl, _, hc⟩ := R1.out.at_ hi
      have hcell := hc i hi
      have HE := Lib.hid (show (ys ++ [xs[i]]) ++ (xs.take i).reverse = xs.reverse by rw [← he, List.take_succ_eq_append_getElem hi, List.reverse_append]; simp)
      obtain ⟨x, hx⟩ : ∃ x, xs[i] = x := ⟨_, rfl⟩
      rw [hx] at hcell HE
      clear hc he hx ei hpos
      go_wp2_with (at_builtin; refine wpList_appI (.tmp 13) (.tmp 18) rfl rfl ys [x] rfl rfl (HS.out.alloc _) rfl rfl (SlI.new wr [x] (lo := 0) (Nat.zero_le _)).rd (by omega) (by simp; omega) ?_; intro A3 c3 w3 h3 t3 _)
      have h4 := h3.all t3 (by simp)
      have HF := Lib.hid h4
      have HG := Lib.hid (Below.new (HB.out.alloc hz (.cells (ints [x]).toArray 3)) t3 (Nat.le_refl _) (Nat.le_refl _))
      clear h3 t3 h4
      go_roundw
      case rel => exact ⟨i, A3, c3, ys ++ [x], by omega, by go_num, by simp; omega, HE.out, by simp, HF.out, HG.out⟩
      case measure => simp [intOf]

/-- two drawn lists of ints, fresh, of at most L; the reader has gone on -/
def DrawII (N g m L : Nat) (w : World) (e : Ending) (w' : World) : Prop :=
  ∃ (A : Option Addr) (c : Nat) (xs : List Int) (A' : Option Addr) (c' : Nat) (ys : List Int), e = .returned (.tuple #[.slice A xs.length c, .slice A' ys.length c']) ∧ xs.length ≤ L ∧ ys.length ≤ L ∧ SlI w' w.heap.size w'.heap.size A c xs ∧ SlI w' w.heap.size w'.heap.size A' c' ys ∧ Rdr w' N g m ∧ Turn g (g + 1) w w'

/-- the first list, the second one above it, the reader -/
def KInv (w w1 : World) (N g m : Nat) (A1 : Option Addr) (c1 : Nat) (xs : List Int) (A : Option Addr) (c : Nat) (ys : List Int) (wx : World) : Prop :=
  SlI wx w.heap.size w1.heap.size A1 c1 xs ∧ SlI wx w1.heap.size wx.heap.size A c ys ∧ Rdr wx N g m ∧ Turn g (g + 1) w wx ∧ w1.heap.size ≤ wx.heap.size
theorem RdI.dropAt {w : World} {B : Nat} {A : Option Addr} {xs : List Int} (h : RdI w B A xs) {k c : Nat} (hc : k < xs.length → c ≠ k) : RdI w B (if c = k then A else A.map (·.add k)) (xs.drop k) := by
  have := Rd.cut (size := 1) h (k := k) (cap := c) (by simpa using hc)
  unfold RdI
  simpa [ints, List.map_drop] using this
section
variable {w w1 wx wy : World} {N g m m' : Nat} {A1 : Option Addr} {c1 : Nat} {xs : List Int} {A A' : Option Addr} {c c' : Nat} {ys zs : List Int}
theorem KInv.pick (h : KInv w w1 N g m A1 c1 xs A c ys wx) (hg : g < w.heap.size) (hw : w.heap.size ≤ w1.heap.size) (r : Rdr wy N g m') (t : Turn g (g + 1) wx wy) : KInv w w1 N g m' A1 c1 xs A c ys wy := by
  have hz := t.size
  exact ⟨h.1.turn t (.inr (by omega)), (h.2.1.turn t (.inr (by omega))).mono (Nat.le_refl _) hz, r, h.2.2.2.1.trans t, Nat.le_trans h.2.2.2.2 hz⟩
theorem KInv.fresh (h : KInv w w1 N g m A1 c1 xs A c ys wx) (hg : g < w.heap.size) (hw : w.heap.size ≤ w1.heap.size) (s : SlI wy wx.heap.size wy.heap.size A' c' zs) (b : Below wx.heap.size wx wy) : KInv w w1 N g m A1 c1 xs A' c' zs wy := by
  have hz := h.2.2.2.2
  exact ⟨h.1.below b hz, s.mono hz (Nat.le_refl _), h.2.2.1.below b (by omega), h.2.2.2.1.trans (Below.turn b _ _), Nat.le_trans hz b.size⟩
theorem KInv.own (h : KInv w w1 N g m A1 c1 xs A c ys wx) (hg : g < w.heap.size) (hw : w.heap.size ≤ w1.heap.size) (s : SlI wy w1.heap.size wy.heap.size A' c' zs) (t : Turn w1.heap.size wx.heap.size wx wy) : KInv w w1 N g m A1 c1 xs A' c' zs wy := by
  have hz := h.2.2.2.2
  exact ⟨h.1.turn t (.inl (Nat.le_refl _)), s, h.2.2.1.turn t (by omega), h.2.2.2.1.new t hw, Nat.le_trans hz t.size⟩
theorem KInv.more (h : KInv w w1 N g m A1 c1 xs A c ys wx) (hm : m ≤ m') : KInv w w1 N g m' A1 c1 xs A c ys wx := ⟨h.1, h.2.1, h.2.2.1.more hm, h.2.2.2⟩
end

set_option maxRecDepth 100000 in
set_option maxHeartbeats 6400000 in
theorem keysOf {N g m : Nat} {w : World} (hm : m ≤ 800000) (h : Rdr w N g m) :
    Calls Try.prog 47 #[.pointer (some ⟨g, 0, none⟩)] w (DrawII N g (m + 40) 11 w) := by
  have hg := h.lt
  have H0 := Lib.hid h; clear h
  go_enter Try.func47, Try.ntmps47
  go_wp2_with fail
  refine (someKeys (by omega) H0.out).mono ?_; rintro e w1 ⟨A1, c1, xs, rfl, hl, s1, r1, t1⟩
  have hz1 := t1.size
  have S1 := Lib.hid s1; clear s1
  have R1 := Lib.hid r1; clear r1
  have T1 := Lib.hid t1; clear t1
  go_wp2_with fail
  refine (copyInts xs rfl (by omega) S1.out.rd (Nat.le_refl _)).mono ?_; rintro e w2 ⟨A2, c2, rfl, s2, b2⟩
  have hz2 := b2.size
  have SA := Lib.hid (S1.out.below b2 (Nat.le_refl _)); clear S1
  have SB := Lib.hid s2; clear s2
  have R2 := Lib.hid (R1.out.below b2 (by omega)); clear R1
  have T2 := Lib.hid (T1.out.trans (Below.turn b2 _ _)); clear T1 b2
  go_wp2_with fail
  refine (pick _ N g (m + 13) _ (by omega) R2.out).mono ?_; rintro e w3 ⟨v, rfl, hv0, hv, r3, t3⟩
  have hz3 := t3.size
  have SA3 := Lib.hid (SA.out.turn t3 (.inr (by omega))); clear SA
  have SB3 := Lib.hid ((SB.out.turn t3 (.inr (by omega))).mono (Nat.le_refl _) hz3); clear SB
  have R3 := Lib.hid r3; clear r3 R2
  have T3 := Lib.hid (T2.out.trans t3); clear T2 t3
  have s3 : w1.heap.size ≤ w3.heap.size := by omega
  go_upto_block 0 with fail
  go_cut [5] (fun s5 wx => ∃ (A' : Option Addr) (c' : Nat) (ys : List Int), s5 = .slice A' ys.length c' ∧ ys.length ≤ 11 ∧ KInv w w1 N g (m + 27) A1 c1 xs A' c' ys wx)
  case first =>
    by_cases hv1 : v = 0
    · subst hv1
      go_wp2_with fail
      refine (someKeys (by omega) R3.out).mono ?_; rintro e w4 ⟨A4, c4, ys, rfl, hl4, s4, r4, t4⟩
      have HF := Lib.hid (show DrawII N g (m + 40) 11 w (.returned (.tuple #[.slice A1 xs.length c1, .slice A4 ys.length c4])) w4 from ⟨A1, c1, xs, A4, c4, ys, rfl, hl, hl4, (SA3.out.turn t4 (.inr (by omega))).mono (Nat.le_refl _) (by have := t4.size; omega), s4.mono (by omega) (Nat.le_refl _), r4.more (by omega), T3.out.trans t4⟩)
      clear s4 r4 t4
      go_wp2_with fail
      go_ret2
      exact HF.out
    · have hv1' : (v == 0) = false := by rw [beq_eq_false_iff_ne]; exact hv1
      by_cases hv2 : v = 1
      · subst hv2
        clear hv hv0 hv1 hv1'
        go_wp2_with fail
        refine (reversed xs rfl (by omega) SB3.out.rd (Nat.le_refl _)).mono ?_; rintro e w4 ⟨A4, c4, rfl, s4, b4⟩
        have HF := Lib.hid (show KInv w w1 N g (m + 27) A1 c1 xs A4 c4 xs.reverse w4 from ⟨SA3.out.below b4 s3, s4.mono s3 (Nat.le_refl _), (R3.out.below b4 (by omega)).more (by omega), T3.out.trans (Below.turn b4 _ _), Nat.le_trans s3 b4.size⟩)
        clear s4 b4
        go_wp2_with fail
        go_meet
        exact ⟨A4, c4, xs.reverse, by simp, by simp; omega, HF.out⟩
      · have hv2' : (v == 1) = false := by rw [beq_eq_false_iff_ne]; exact hv2
        clear hv hv0 hv1 hv2
        go_wp2_with fail
        go_meet
        exact ⟨A2, c2, xs, rfl, by omega, SA3.out, SB3.out, R3.out.more (by omega), T3.out, s3⟩
  case rest =>
  obtain ⟨A5, c5, ys5, rfl, hl5, k5⟩ := hcut
  have K5 := Lib.hid k5; clear k5 SA3 SB3 R3 T3 H0
  go_wp2_with fail
  refine (pick _ N g (m + 27) _ (by omega) K5.out.2.2.1).mono ?_; rintro e w6 ⟨q, rfl, hq0, hq, r6, t6⟩
  have K6 := Lib.hid (K5.out.pick hg hz1 r6 t6); clear r6 t6 K5
  obtain ⟨q, rfl⟩ := Int.eq_ofNat_of_zero_le hq0
  have hq4 : q ≤ 3 := by omega
  clear hq0 hq
  go_upto_block 1 with fail
  go_cut [5] (fun s5 wx => ∃ (A' : Option Addr) (c' : Nat) (ys : List Int), s5 = .slice A' ys.length c' ∧ ys.length ≤ 11 ∧ KInv w w1 N g (m + 34) A1 c1 xs A' c' ys wx)
  case first =>
    go_wp2_with fail
    go_loopg [5, 6] q (fun k s5 s6 wx => ∃ (A' : Option Addr) (c' : Nat) (ys : List Int), k ≤ 3 ∧ s6 = .int .i64 (k : Nat) ∧ s5 = .slice A' ys.length c' ∧ ys.length ≤ 11 ∧ KInv w w1 N g (m + 28 + 2 * (3 - k)) A1 c1 xs A' c' ys wx)
    case atStart => exact ⟨A5, c5, ys5, hq4, rfl, rfl, hl5, K6.out.more (by omega)⟩
    case round =>
      obtain ⟨A7, c7, ys, hk3, rfl, rfl, hl7, k7⟩ := hrel
      have K7 := Lib.hid k7; clear k7 K6
      by_cases hgo : 0 < gk ∧ 1 < ys.length
      · obtain ⟨h0, hy⟩ := hgo
        go_wp2_with fail
        refine (pick _ N g (m + 28 + 2 * (3 - gk)) _ (by omega) K7.out.2.2.1).mono ?_; rintro e w8 ⟨k, rfl, hp0, hp, r8, t8⟩
        have K8 := Lib.hid (K7.out.pick hg hz1 r8 t8); clear r8 t8 K7
        obtain ⟨k, rfl⟩ := Int.eq_ofNat_of_zero_le hp0
        have hk : k < ys.length := by omega
        clear hp0 hp
        obtain ⟨ad, rfl, _, hc⟩ := K8.out.2.1.rd.at_ hk
        have hcell := hc k hk
        obtain ⟨x, hx⟩ : ∃ x, ys[k] = x := ⟨_, rfl⟩
        rw [hx] at hcell
        have hc7 : ys.length ≤ c7 := K8.out.2.1.le
        have hz8 := K8.out.2.2.2.2
        clear hc hx
        have hzz : ys.length < 12 := by omega
        obtain ⟨ps, has⟩ : ∃ ps, ps = ys.take k := ⟨_, rfl⟩
        obtain ⟨bs, hbs⟩ : ∃ bs, bs = ys.drop (k + 1) := ⟨_, rfl⟩
        have HAL := Lib.hid (show ps.length = k by rw [has]; exact take_len (by omega))
        have HBL := Lib.hid (show bs.length = ys.length - (k + 1) by rw [hbs, List.length_drop])
        have RA := Lib.hid (show RdI w8.drew w8.heap.size (some ad) ps by rw [has]; exact K8.out.2.1.rd.take k)
        have RB := Lib.hid (show RdI w8.drew w8.heap.size (if c7 = k + 1 then some ad else some (ad.add (k + 1))) bs by rw [hbs]; exact K8.out.2.1.rd.dropAt (k := k + 1) (c := c7) (fun h => by omega))
        have hc0 : ¬ c7 = 0 := by omega
        have hkc : k ≤ c7 := by omega
        have hkc2 : k + 1 ≤ c7 := by omega
        have hk1 : (0 : Int) ≤ (k : Int) + 1 := by omega
        have hk2 : (k : Int) ≤ (c7 : Int) := by omega
        have hk3 : (k : Int) + 1 ≤ (ys.length : Int) := by omega
        have hwr : IntKind.i64.wrap ((k : Int) + 1) = (k : Int) + 1 := IntWalk.i64_in _ (by omega)
        have htn : ((k : Int) + 1).toNat = k + 1 := by omega
        clear has hbs
        go_upto_region 13 with fail
        go_cut [5] from 27 to 68 (fun s5 wx => ∃ (A' : Option Addr) (c' : Nat) (zs : List Int), s5 = .slice A' zs.length c' ∧ zs.length + 1 = ys.length ∧ KInv w w1 N g (m + 28 + 2 * (3 - gk) + 1) A1 c1 xs A' c' zs wx)
        case first =>
          by_cases hck : c7 = k + 1
          · have RB' := Lib.hid (show RdI w8.drew w8.heap.size (some ad) bs by have h2 := RB.out; rwa [if_pos hck] at h2)
            obtain rfl : bs = [] := List.eq_nil_of_length_eq_zero (by have := HBL.out; omega)
            subst hck
            have hkk : (k : Int) ≤ (k : Int) + 1 := by omega
            clear RB HBL
            go_region_held3 (fun _ => True) (trivial)
              ((first
                | (go_at_call 57; refine (copyInts ps HAL.out (by omega) RA.out (Nat.le_refl _)).mono ?_; rintro e w9 ⟨A9, c9, rfl, s9, b9⟩)
                | (refine step_appI (.tmp 47) (.tmp 51) rfl rfl ps [] rfl rfl s9 rfl rfl (RB'.out.belowLe b9 (Nat.le_refl _)) (by have := HAL.out; omega) b9.size ?_; intro A10 c10 w10 h10 t10 _)))
            have KF := Lib.hid (K8.out.fresh (wy := w10) hg hz1 (h10.all t10 (Nat.le_refl _)) (Below.new ((Below.refl w8.heap.size w8).drew.trans b9) t10 (Nat.le_refl _) (Nat.le_refl _)))
            clear s9 b9 h10 t10
            go_wp2_with fail
            go_meet
            exact ⟨A10, c10, ps ++ [], by simp, by have := HAL.out; simp; omega, KF.out⟩
          · have RB' := Lib.hid (show RdI w8.drew w8.heap.size (some (ad.add (k + 1))) bs by have h2 := RB.out; rwa [if_neg hck] at h2)
            clear RB
            go_region_held3 (fun _ => True) (trivial)
              ((first
                | (go_at_call 57; refine (copyInts ps HAL.out (by omega) RA.out (Nat.le_refl _)).mono ?_; rintro e w9 ⟨A9, c9, rfl, s9, b9⟩)
                | (refine step_appI (.tmp 47) (.tmp 51) rfl rfl ps bs rfl rfl s9 rfl HBL.out (RB'.out.belowLe b9 (Nat.le_refl _)) (by have := HAL.out; omega) b9.size ?_; intro A10 c10 w10 h10 t10 _)))
            have KF := Lib.hid (K8.out.fresh (wy := w10) hg hz1 (h10.all t10 (Nat.le_refl _)) (Below.new ((Below.refl w8.heap.size w8).drew.trans b9) t10 (Nat.le_refl _) (Nat.le_refl _)))
            clear s9 b9 h10 t10
            go_wp2_with fail
            go_meet
            exact ⟨A10, c10, ps ++ bs, by rw [List.length_append, HBL.out], by have := HAL.out; have := HBL.out; simp; omega, KF.out⟩
        case rest =>
        obtain ⟨A11, c11, zs, rfl, hzl, k11⟩ := hcut
        have K11 := Lib.hid k11
        clear k11 RA RB HAL HBL K8 hcell hc7 hz8 hc0 hkc hkc2 hk1 hk2 hk3 hwr htn
        have HZL := Lib.hid hzl
        have hzl2 : zs.length < 11 := by omega
        clear hzl
        go_wp2_with fail
        refine (pick _ N g (m + 28 + 2 * (3 - gk) + 1) _ (by omega) K11.out.2.2.1).mono ?_; rintro e w12 ⟨k2, rfl, hp0, hp, r12, t12⟩
        have K12 := Lib.hid (K11.out.pick hg hz1 r12 t12); clear r12 t12 K11
        obtain ⟨k2, rfl⟩ := Int.eq_ofNat_of_zero_le hp0
        have hk2 : k2 ≤ zs.length := by omega
        clear hp0 hp
        have hc11 : zs.length ≤ c11 := K12.out.2.1.le
        have hz12 := K12.out.2.2.2.2
        obtain ⟨ad2, rfl, _, _⟩ := K12.out.2.1.rd.at_ (k := 0) (by have := HZL.out; omega)
        obtain ⟨ps, has⟩ : ∃ ps, ps = zs.take k2 := ⟨_, rfl⟩
        obtain ⟨bs, hbs⟩ : ∃ bs, bs = zs.drop k2 := ⟨_, rfl⟩
        have HAL := Lib.hid (show ps.length = k2 by rw [has]; exact take_len (by omega))
        have HBL := Lib.hid (show bs.length = zs.length - k2 by rw [hbs, List.length_drop])
        have RA := Lib.hid (show RdI w12 w12.heap.size (some ad2) ps by rw [has]; exact K12.out.2.1.rd.take k2)
        have RB := Lib.hid (show RdI w12 w12.heap.size (if c11 = k2 then some ad2 else some (ad2.add k2)) bs by rw [hbs]; exact K12.out.2.1.rd.dropAt (k := k2) (c := c11) (fun h => by omega))
        have hc0 : ¬ c11 = 0 := by have := HZL.out; omega
        have hkc : k2 ≤ c11 := by omega
        have hk3 : (k2 : Int) ≤ (c11 : Int) := by omega
        have hk4 : (k2 : Int) ≤ (zs.length : Int) := by omega
        clear has hbs
        by_cases hck : c11 = k2
        · have RB' := Lib.hid (show RdI w12 w12.heap.size (some ad2) bs by have h2 := RB.out; rwa [if_pos hck] at h2)
          obtain rfl : bs = [] := List.eq_nil_of_length_eq_zero (by have := HBL.out; omega)
          subst hck
          clear RB HBL
          go_upto_region 15 with fail
          have RA2 := Lib.hid (show RdI (w12.drew.alloc (.cells (ints [x]).toArray 3)) w12.heap.size (some ad2) ps from RA.out.belowLe ((Below.refl w12.heap.size w12).drew.alloc (Nat.le_refl _) _) (Nat.le_refl _))
          have RX := Lib.hid (show RdI (w12.drew.alloc (.cells (ints [x]).toArray 3)) (w12.heap.size + 1) (some ⟨w12.heap.size, 0, none⟩) [x] from (SlI.new w12.drew [x] (lo := 0) (Nat.zero_le _)).rd)
          have hle2 : w12.heap.size ≤ (w12.drew.alloc (.cells (ints [x]).toArray 3)).heap.size := ((Below.refl w12.heap.size w12).drew.alloc (Nat.le_refl _) _).size
          have hle3 : w12.heap.size + 1 ≤ (w12.drew.alloc (.cells (ints [x]).toArray 3)).heap.size := by rw [World.size_alloc]; exact Nat.le_refl _
          go_region_held3 (fun _ => True) (trivial)
            ((first
              | (go_at_call 57; refine (copyInts (w := w12.drew) ps HAL.out (by omega) RA.out (Nat.le_refl _)).mono ?_; rintro e w13 ⟨A13, c13, rfl, s13, b13⟩)
              | (go_at_call 57; refine (copyInts (w := w12.drew.alloc (.cells (ints [x]).toArray 3)) ps HAL.out (by omega) RA2.out hle2).mono ?_; rintro e w13 ⟨A13, c13, rfl, s13, b13⟩)
              | (refine step_appI (.tmp 61) (.tmp 63) rfl rfl ps [x] rfl rfl (s13.alloc _) rfl rfl (SlI.new w13 [x] (lo := 0) (Nat.zero_le _)).rd (by have := HAL.out; simp; omega) (Nat.le_trans b13.size ((Below.refl w13.heap.size w13).alloc (Nat.le_refl _) _).size) ?_; intro A14 c14 w14 h14 t14 _)
              | (refine step_appI (.tmp 61) (.tmp 63) rfl rfl ps [x] rfl rfl s13 rfl rfl (RX.out.belowLe b13 hle3) (by have := HAL.out; simp; omega) b13.size ?_; intro A14 c14 w14 h14 t14 _)
              | (refine step_appI (.tmp 64) (.tmp 67) rfl rfl (ps ++ [x]) [] rfl (by simp) (h14.all t14 ((Below.refl w13.heap.size w13).alloc (Nat.le_refl _) _).size) rfl rfl (Rd.nil (B := 0)) (by have := HAL.out; simp; omega) (Nat.le_trans b13.size (Nat.le_trans ((Below.refl w13.heap.size w13).alloc (Nat.le_refl _) _).size t14.size)) ?_; intro A15 c15 w15 h15 t15 _)
              | (refine step_appI (.tmp 64) (.tmp 67) rfl rfl (ps ++ [x]) [] rfl (by simp) (h14.all t14 (Nat.le_refl _)) rfl rfl (Rd.nil (B := 0)) (by have := HAL.out; simp; omega) (Nat.le_trans b13.size t14.size) ?_; intro A15 c15 w15 h15 t15 _)))
          all_goals
            have KF : KInv w w1 N g (m + 28 + 2 * (3 - gk) + 2) A1 c1 xs A15 c15 (ps ++ [x] ++ []) w15 := by
              first
                | exact (K12.out.fresh (wy := w15) hg hz1 (h15.all t15 (Nat.le_refl _)) (Below.new (Below.new (((Below.refl w12.heap.size w12).drew.trans b13).alloc b13.size _) t14 (Nat.le_refl _) (Nat.le_refl _)) t15 (Nat.le_refl _) (Nat.le_refl _))).more (by omega)
                | exact (K12.out.fresh (wy := w15) hg hz1 ((h15.all t15 (Nat.le_refl _)).mono hle2 (Nat.le_refl _)) (Below.new (Below.new (((Below.refl w12.heap.size w12).drew.alloc (Nat.le_refl _) _).trans (b13.mono hle2)) t14 hle2 (Nat.le_refl _)) t15 hle2 (Nat.le_refl _))).more (by omega)
            have KF := Lib.hid KF
            clear s13 b13 h14 t14 h15 t15
            go_wp2_with fail
            go_roundg (gk - 1)
            case measure => omega
            case rel => exact ⟨A15, c15, ps ++ [x] ++ [], by omega, by go_num, by simp, by have := HAL.out; simp; omega, KF.out.more (by omega)⟩
        · have RB' := Lib.hid (show RdI w12 w12.heap.size (some (ad2.add k2)) bs by have h2 := RB.out; rwa [if_neg hck] at h2)
          clear RB
          go_upto_region 15 with fail
          have RA2 := Lib.hid (show RdI (w12.drew.alloc (.cells (ints [x]).toArray 3)) w12.heap.size (some ad2) ps from RA.out.belowLe ((Below.refl w12.heap.size w12).drew.alloc (Nat.le_refl _) _) (Nat.le_refl _))
          have RX := Lib.hid (show RdI (w12.drew.alloc (.cells (ints [x]).toArray 3)) (w12.heap.size + 1) (some ⟨w12.heap.size, 0, none⟩) [x] from (SlI.new w12.drew [x] (lo := 0) (Nat.zero_le _)).rd)
          have hle2 : w12.heap.size ≤ (w12.drew.alloc (.cells (ints [x]).toArray 3)).heap.size := ((Below.refl w12.heap.size w12).drew.alloc (Nat.le_refl _) _).size
          have hle3 : w12.heap.size + 1 ≤ (w12.drew.alloc (.cells (ints [x]).toArray 3)).heap.size := by rw [World.size_alloc]; exact Nat.le_refl _
          go_region_held3 (fun _ => True) (trivial)
            ((first
              | (go_at_call 57; refine (copyInts (w := w12.drew) ps HAL.out (by omega) RA.out (Nat.le_refl _)).mono ?_; rintro e w13 ⟨A13, c13, rfl, s13, b13⟩)
              | (go_at_call 57; refine (copyInts (w := w12.drew.alloc (.cells (ints [x]).toArray 3)) ps HAL.out (by omega) RA2.out hle2).mono ?_; rintro e w13 ⟨A13, c13, rfl, s13, b13⟩)
              | (refine step_appI (.tmp 61) (.tmp 63) rfl rfl ps [x] rfl rfl (s13.alloc _) rfl rfl (SlI.new w13 [x] (lo := 0) (Nat.zero_le _)).rd (by have := HAL.out; simp; omega) (Nat.le_trans b13.size ((Below.refl w13.heap.size w13).alloc (Nat.le_refl _) _).size) ?_; intro A14 c14 w14 h14 t14 _)
              | (refine step_appI (.tmp 61) (.tmp 63) rfl rfl ps [x] rfl rfl s13 rfl rfl (RX.out.belowLe b13 hle3) (by have := HAL.out; simp; omega) b13.size ?_; intro A14 c14 w14 h14 t14 _)
              | (refine step_appI (.tmp 64) (.tmp 67) rfl rfl (ps ++ [x]) bs rfl (by simp) (h14.all t14 ((Below.refl w13.heap.size w13).alloc (Nat.le_refl _) _).size) rfl HBL.out (RB'.out.belowLe (Below.new (((Below.refl w12.heap.size w12).drew.trans b13).alloc b13.size _) t14 (Nat.le_refl _) (Nat.le_refl _)) (Nat.le_refl _)) (by have := HAL.out; simp; omega) (Nat.le_trans b13.size (Nat.le_trans ((Below.refl w13.heap.size w13).alloc (Nat.le_refl _) _).size t14.size)) ?_; intro A15 c15 w15 h15 t15 _)
              | (refine step_appI (.tmp 64) (.tmp 67) rfl rfl (ps ++ [x]) bs rfl (by simp) (h14.all t14 (Nat.le_refl _)) rfl HBL.out (RB'.out.belowLe (Below.new (((Below.refl w12.heap.size w12).drew.alloc (Nat.le_refl _) _).trans (b13.mono hle2)) t14 hle2 (Nat.le_refl _)) (Nat.le_refl _)) (by have := HAL.out; simp; omega) (Nat.le_trans b13.size t14.size) ?_; intro A15 c15 w15 h15 t15 _)))
          all_goals
            have KF : KInv w w1 N g (m + 28 + 2 * (3 - gk) + 2) A1 c1 xs A15 c15 (ps ++ [x] ++ bs) w15 := by
              first
                | exact (K12.out.fresh (wy := w15) hg hz1 (h15.all t15 (Nat.le_refl _)) (Below.new (Below.new (((Below.refl w12.heap.size w12).drew.trans b13).alloc b13.size _) t14 (Nat.le_refl _) (Nat.le_refl _)) t15 (Nat.le_refl _) (Nat.le_refl _))).more (by omega)
                | exact (K12.out.fresh (wy := w15) hg hz1 ((h15.all t15 (Nat.le_refl _)).mono hle2 (Nat.le_refl _)) (Below.new (Below.new (((Below.refl w12.heap.size w12).drew.alloc (Nat.le_refl _) _).trans (b13.mono hle2)) t14 hle2 (Nat.le_refl _)) t15 hle2 (Nat.le_refl _))).more (by omega)
            have KF := Lib.hid KF
            clear s13 b13 h14 t14 h15 t15
            go_wp2_with fail
            go_roundg (gk - 1)
            case measure => omega
            case rel => exact ⟨A15, c15, ps ++ [x] ++ bs, by omega, by go_num, by rw [List.length_append, List.length_append, HBL.out]; rfl, by have := HAL.out; have := HBL.out; simp; omega, KF.out.more (by omega)⟩
      · have hd : ¬ 0 < gk ∨ ¬ 1 < ys.length := by omega
        rcases hd with hd | hd
        · go_wp2_with fail
          go_meet
          exact ⟨A7, c7, ys, rfl, hl7, K7.out.more (by omega)⟩
        · go_wp2_with fail
          all_goals (go_meet; exact ⟨A7, c7, ys, rfl, hl7, K7.out.more (by omega)⟩)
  case rest =>
  obtain ⟨A7, c7, ys, rfl, hl7, k7⟩ := hcut
  have K7 := Lib.hid k7; clear k7 K6
  have hzz : ys.length < 12 := by omega
  go_upto_region 16 with fail
  go_cut [76] (fun s76 wx => ∃ b : Bool, s76 = .bool b ∧ (b = true → 0 < ys.length) ∧ KInv w w1 N g (m + 35) A1 c1 xs A7 c7 ys wx)
  case first =>
    by_cases h0 : 0 < ys.length
    · go_wp2_with fail
      refine (pick _ N g (m + 34) _ (by omega) K7.out.2.2.1).mono ?_; rintro e w8 ⟨v8, rfl, hp0, hp, r8, t8⟩
      have K8 := Lib.hid (K7.out.pick hg hz1 r8 t8); clear r8 t8
      go_wp2_with fail
      go_meet
      exact ⟨_, rfl, fun _ => h0, K8.out⟩
    · go_wp2_with fail
      go_meet
      exact ⟨false, rfl, (fun h => by cases h), K7.out.more (by omega)⟩
  case rest =>
  obtain ⟨b, rfl, hb, k8⟩ := hcut
  have K8 := Lib.hid k8; clear k8 K7
  have HBB := Lib.hid hb; clear hb
  go_upto_if 76 with fail
  go_cut [5] (fun s5 wx => ∃ (A' : Option Addr) (c' : Nat) (zs : List Int), s5 = .slice A' zs.length c' ∧ zs.length ≤ 11 ∧ KInv w w1 N g (m + 35) A1 c1 xs A' c' zs wx)
  case first =>
    cases b
    · clear HBB
      go_wp2_with fail
      go_meet
      exact ⟨A7, c7, ys, rfl, hl7, K8.out⟩
    · have h0 : 0 < ys.length := HBB.out rfl
      clear HBB
      obtain ⟨g1, o1, rfl, _⟩ := K8.out.2.1.at_ h0
      have hc7 : ys.length ≤ c7 := K8.out.2.1.le
      have SD := K8.out.2.1.cut (l := 1) (h := ys.length) (m := c7) (by omega) (Nat.le_refl _) hc7 (Nat.le_refl _)
      obtain ⟨zs, hzs⟩ : ∃ zs, zs = (ys.drop 1).take (ys.length - 1) := ⟨_, rfl⟩
      rw [← hzs] at SD
      have HZ := Lib.hid (show zs.length = ys.length - 1 by rw [hzs, List.length_take, List.length_drop]; omega)
      have hc1 : 1 ≤ c7 := by omega
      have hc2 : (1 : Int) ≤ (c7 : Int) := by omega
      have hc3 : (1 : Int) ≤ (ys.length : Int) := by omega
      clear hzs
      by_cases hck : c7 = 1
      · rw [if_pos hck] at SD
        have HSD := Lib.hid SD; clear SD
        subst hck
        go_wp2_with fail
        go_meet
        exact ⟨some ⟨g1, o1, none⟩, 0, zs, by rw [HZ.out, show ys.length - 1 = 0 by omega], by have := HZ.out; omega, K8.out.1, HSD.out, K8.out.2.2⟩
      · rw [if_neg hck] at SD
        have HSD := Lib.hid SD; clear SD
        go_wp2_with fail
        go_meet
        exact ⟨some ((⟨g1, o1, none⟩ : Addr).add 1), c7 - 1, zs, by rw [HZ.out, add_lit], by have := HZ.out; omega, K8.out.1, HSD.out, K8.out.2.2⟩
  case rest =>
  obtain ⟨A9, c9, zs, rfl, hl9, k9⟩ := hcut
  have K9 := Lib.hid k9; clear k9 K8 HBB
  have hz9 := K9.out.2.2.2.2
  go_upto_region 18 with fail
  go_cut [91] (fun s91 wx => ∃ b : Bool, s91 = .bool b ∧ (b = true → zs.length < 10) ∧ KInv w w1 N g (m + 36) A1 c1 xs A9 c9 zs wx)
  case first =>
    by_cases hlt : zs.length < 10
    · go_wp2_with fail
      refine (placeIn zs rfl (by omega) K9.out.2.1.rd).mono ?_; rintro e w10 ⟨rfl, rfl⟩
      obtain ⟨p, hp⟩ : ∃ p, plc 20 zs = p := ⟨_, rfl⟩
      rw [hp]
      clear hp
      by_cases hneg : p < 0
      · go_wp2_with fail
        refine (pick _ N g (m + 35) _ (by omega) K9.out.2.2.1).mono ?_; rintro e w8 ⟨v8, rfl, hp0, hp, r8, t8⟩
        have K10 := Lib.hid (K9.out.pick hg hz1 r8 t8); clear r8 t8
        go_wp2_with fail
        go_meet
        exact ⟨_, rfl, fun _ => hlt, K10.out⟩
      · go_wp2_with fail
        go_meet
        exact ⟨false, rfl, (fun h => by cases h), K9.out.more (by omega)⟩
    · go_wp2_with fail
      go_meet
      exact ⟨false, rfl, (fun h => by cases h), K9.out.more (by omega)⟩
  case rest =>
  obtain ⟨b, rfl, hb, k11⟩ := hcut
  have K11 := Lib.hid k11; clear k11 K9
  have HBB := Lib.hid hb; clear hb
  have hz11 := K11.out.2.2.2.2
  cases b
  · clear HBB
    go_wp2_with fail
    go_ret2
    exact ⟨A1, c1, xs, A9, c9, zs, rfl, hl, hl9, K11.out.1.mono (Nat.le_refl _) hz11, K11.out.2.1.mono hz1 (Nat.le_refl _), K11.out.2.2.1.more (by omega), K11.out.2.2.2.1⟩
  · have h10 : zs.length < 10 := HBB.out rfl
    clear HBB
    go_wp2_with (at_builtin; refine wpList_appI (.tmp 92) (.tmp 93) rfl rfl zs [20] rfl rfl (K11.out.2.1.alloc _) rfl rfl (SlI.new wc [20] (lo := 0) (Nat.zero_le _)).rd (by omega) (by simp; omega) ?_; intro A12 c12 w12 h12 t12 _)
    have s12 := h12.all t12 (by simp)
    have ka : KInv w w1 N g (m + 36) A1 c1 xs A9 c9 zs (wc.alloc (.cells (ints [20]).toArray 3)) := ⟨K11.out.1.alloc _, (K11.out.2.1.alloc _).mono (Nat.le_refl _) (by simp), K11.out.2.2.1.below ((Below.refl _ _).alloc (Nat.le_refl _) _) (by omega), K11.out.2.2.2.1.alloc _, by simp; omega⟩
    have K12 := Lib.hid (ka.own hg hz1 s12 (t12.mono (Nat.le_refl _) (by simp)))
    have hz12 := K12.out.2.2.2.2
    clear h12 t12 s12 ka
    go_wp2_with fail
    go_ret2
    exact ⟨A1, c1, xs, A12, c12, zs ++ [20], by simp, hl, by simp; omega, K12.out.1.mono (Nat.le_refl _) hz12, K12.out.2.1.mono hz1 (Nat.le_refl _), K12.out.2.2.1.more (by omega), K12.out.2.2.2.1⟩
end Go.Proofs.Ytmmegmefiihabaa
