/-
  The walk of laws.FnApplyPatchMoves.
-/
import Derived.Test.YtmmegmefiihabaaDrawAp
import Derived.Test.YtmmegmefiihabaaApplyImpl
import Derived.Test.YtmmegmefiihabaaApplyLaw
import Derived.Test.YtmmegmefiihabaaCount
namespace Go.Proofs.Ytmmegmefiihabaa
open Go.RowKit

set_option maxRecDepth 100000 in
set_option maxHeartbeats 1600000 in
theorem walkFnApplyPatchMoves (A : Option Addr) (c : Nat) (bs : List Int) (w : World) (hr : Rd w w.heap.size A (bytes8 bs)) (hn : bs.length ≤ 9223372036854775807) (lc : bs.length ≤ c) (cm : c ≤ 9223372036854775807) (hx : ∀ x ∈ bs, (Lit.int .u8 x).wf = true) :
    Calls Try.prog 3 #[.slice A bs.length c] w fun e w' => e = .returned (.bool true) ∧ Below w.heap.size w w' := by
  by_cases hbig : bs.length ≤ 1048576
  · have HR := Lib.hid hr; clear hr
    have HX := Lib.hid hx; clear hx
    go_enter Try.func3, Try.ntmps3
    go_wp2_with fail
    refine (drawApplyPatch bs rfl lc cm HX.out HR.out).mono ?_; rintro e w1 ⟨A1, c1, xs, A2, c2, cs, rfl, hl1, hl2, hc1, hc2, r1, r2, b1⟩
    have z1 := b1.size
    have X := Lib.hid r1
    have Y := Lib.hid r2
    have B := Lib.hid b1
    clear r1 r2 b1 HR HX
    obtain ⟨os, ok, hp⟩ : ∃ os ok, applyF xs cs = (os, ok) := ⟨_, _, rfl⟩
    have hol : os.length ≤ 10 := by have := applyF_len xs cs; rw [hp] at this; exact this
    have HP := Lib.hid hp; clear hp
    go_wp2_with fail
    refine (implApplyPatch xs cs rfl rfl (by omega) (by omega) hc1 X.out Y.out (Nat.le_refl _) (Nat.le_refl _)).mono ?_; rw [HP.out]; rintro e w3 ⟨A3, c3, rfl, s3, b3⟩
    have z3 := b3.size
    have X := Lib.hid (X.out.below b3)
    have Y := Lib.hid (Y.out.below b3)
    have B := Lib.hid (B.out.trans (b3.mono z1))
    have O := Lib.hid s3
    clear s3 b3
    go_wp2_with fail
    refine (specApplyPatch xs cs rfl rfl (by omega) (by omega) hc1 X.out Y.out z3 z3).mono ?_; rw [HP.out]; rintro e w4 ⟨A4, c4, rfl, s4, b4⟩
    have z4 := b4.size
    have X := Lib.hid (X.out.belowLe b4 z3)
    have Y := Lib.hid (Y.out.belowLe b4 z3)
    have B := Lib.hid (B.out.trans (b4.mono (by omega)))
    have O := Lib.hid (O.out.below b4 (Nat.le_refl _))
    have W4 := Lib.hid s4
    clear s4 b4
    go_wp2_with fail
    refine (qb (equalInts os os rfl rfl (by omega) O.out.rd W4.out.rd)).mono ?_; rw [decide_eq_true (Eq.refl os)]; rintro e w5 ⟨rfl, b5⟩
    have z5 := b5.size
    have X := Lib.hid (X.out.belowLe b5 (by omega))
    have Y := Lib.hid (Y.out.belowLe b5 (by omega))
    have B := Lib.hid (B.out.trans (b5.mono (by omega)))
    have O := Lib.hid ((O.out.below b5 (by omega)).mono (Nat.le_refl _) (by omega : w3.heap.size ≤ w5.heap.size))
    have W4 := Lib.hid (W4.out.below b5 (Nat.le_refl _))
    clear b5
    cases ok
    case false =>
      go_wp2_with fail
      refine (qb (equalInts os os rfl rfl (by omega) O.out.rd W4.out.rd)).mono ?_; rw [decide_eq_true (Eq.refl os)]; rintro e w6 ⟨rfl, b6⟩
      have B := Lib.hid (B.out.trans (b6.mono (by omega)))
      clear b6
      go_wp2_with fail
      go_ret
      exact ⟨rfl, B.out⟩
    case true =>
      clear W4
      obtain ⟨hvx, hl40, hg, hvo⟩ := applyF_ok HP.out
      have hx10 := (vkB_iff.1 hvx).2.2
      obtain ⟨n2, hn2⟩ : ∃ n2, cntF 2 cs = n2 := ⟨_, rfl⟩
      have N2 := Lib.hid hn2
      have hk2 : n2 ≤ cs.length := by rw [← hn2]; exact List.length_filter_le _ _
      clear hvx hvo hn2
      by_cases hlt : n2 < cs.length
      · have hcnt := applyG_count hg
        obtain ⟨n0, hn0⟩ : ∃ n0, cntF 0 cs = n0 := ⟨_, rfl⟩
        obtain ⟨n1, hn1⟩ : ∃ n1, cntF 1 cs = n1 := ⟨_, rfl⟩
        have hk0 : n0 ≤ cs.length := by rw [← hn0]; exact List.length_filter_le _ _
        have hk1 : n1 ≤ cs.length := by rw [← hn1]; exact List.length_filter_le _ _
        rw [hn0, hn1] at hcnt
        have N0 := Lib.hid hn0
        have N1 := Lib.hid hn1
        have ht : ((os.length : Int) == (xs.length : Int) + (n1 : Int) - (n0 : Int)) = true := by simp; omega
        have HC := Lib.hid hcnt
        clear hn0 hn1 hcnt hg
        go_wp2_with fail
        refine (countChanges cs rfl (by omega) Y.out).mono ?_; rw [N2.out]; rintro e w6 ⟨rfl, rfl⟩
        go_wp2_with fail
        refine (countChanges cs rfl (by omega) Y.out).mono ?_; rw [N1.out]; rintro e w6 ⟨rfl, rfl⟩
        go_wp2_with fail
        refine (countChanges cs rfl (by omega) Y.out).mono ?_; rw [N0.out]; rintro e w6 ⟨rfl, rfl⟩
        go_wp2_with fail
        go_ret
        exact ⟨by first | rfl | exact ret_bool (by simp), B.out⟩
      · have hall := cntF_all (k := 2) (cs := cs) (by rw [N2.out]; exact hlt)
        obtain ⟨h1, h2, h3, h4⟩ := rest_rise HP.out hall
        have H1 := Lib.hid h1
        have H2 := Lib.hid h2
        have H3 := Lib.hid h3
        have H4 := Lib.hid h4
        clear h1 h2 h3 h4 hall hg
        go_wp2_with fail
        refine (countChanges cs rfl (by omega) Y.out).mono ?_; rw [N2.out]; rintro e w6 ⟨rfl, rfl⟩
        go_wp2_with fail
        go_loopw [9, 10] (fun v i wr => ∃ (k : Nat) (A' : Option Addr) (c' : Nat), k ≤ cs.length ∧ i = .int .i64 k ∧ v = .slice A' k c' ∧ SlI wr w5.heap.size wr.heap.size A' c' ((cs.take k).map (·.ky)) ∧ Below w5.heap.size w5 wr) (fun _ i _ => cs.length - (intOf i).toNat)
        case atStart => exact ⟨0, _, 0, Nat.zero_le _, rfl, rfl, by simp; exact SlI.nil, (Below.refl _ _).alloc (Nat.le_refl _) _⟩
        case round =>
          obtain ⟨k, A', c', hk, rfl, rfl, hs, hb⟩ := hrel
          have hzb := hb.size
          have S := Lib.hid hs
          have HB := Lib.hid hb
          have Yw := Lib.hid (Y.out.belowLe hb (by omega))
          clear hs hb
          by_cases hkc : k < cs.length
          · have htk : ((cs.take k).map (·.ky)).length = k := by simp; omega
            obtain ⟨g, o, hA2, hg, c0, c1', c2'⟩ := RdC_at Yw.out hkc
            subst hA2
            have HT := Lib.hid (show (cs.take (k + 1)).map (·.ky) = (cs.take k).map (·.ky) ++ [cs[k].ky] from by rw [List.take_succ_eq_append_getElem hkc, List.map_append]; rfl)
            obtain ⟨y, hy⟩ : ∃ y, cs[k] = y := ⟨_, rfl⟩
            rw [hy] at c0 c1' c2' HT
            obtain ⟨kd, ky, aa⟩ := y
            simp only at c0 c1' c2'
            have hk0 : (0 : Int) ≤ (k : Int) := Int.natCast_nonneg _
            have hk1 : (k : Int) < (cs.length : Int) := by omega
            clear hy
            go_wp2_with (at_builtin; refine wpList_appI (.tmp 79) (.tmp 85) rfl rfl ((cs.take k).map (·.ky)) [ky] rfl (by first | rfl | rw [htk]) (S.out.alloc _) rfl rfl (SlI.new wr [ky] (lo := 0) (Nat.zero_le _)).rd (by omega) (by simp; omega) ?_; intro A7 c7 w7 h7 t7 _)
            have S7 := Lib.hid (h7.all t7 (by simp))
            have HB7 := Lib.hid (Below.new (HB.out.alloc (by omega) (.cells (ints [ky]).toArray 3)) t7 (Nat.le_refl _) (Nat.le_refl _))
            clear h7 t7
            go_wp2
            go_roundw
            case rel => exact ⟨k + 1, A7, c7, by omega, by go_num, by first | rfl | simp, by rw [HT.out]; exact S7.out, HB7.out⟩
            case measure => simp [intOf]; omega
          · have hkl : k = cs.length := by omega
            subst hkl
            rw [List.take_length] at S
            have Xw := Lib.hid (X.out.belowLe HB.out (by omega))
            have Ow := Lib.hid (O.out.below HB.out (Nat.le_refl _))
            have Bw := Lib.hid (B.out.trans (HB.out.mono (by omega)))
            have hz1w : w1.heap.size ≤ wr.heap.size := by omega
            have hz5w : w5.heap.size ≤ wr.heap.size := hzb
            obtain ⟨mv, hmv⟩ : ∃ mv, cs.map (·.ky) = mv := ⟨_, rfl⟩
            have hml : mv.length = cs.length := by rw [← hmv]; simp
            rw [hmv] at S H1 H2
            have SM := Lib.hid (S.out.rd)
            have ISI := Lib.hid (fun (W : World) (x : Int) (b : Below wr.heap.size wr W) => isIn (x := x) (c := c') (w := W) mv hml (by omega) (SM.out.belowLe b (Nat.le_refl _)))
            clear hmv S HB Yw X Y B O N2 hzb hml
            obtain ⟨wq, hwq⟩ : ∃ wq, wq = wr := ⟨_, rfl⟩
            subst hwq
            go_wp2_with fail
            go_loopw [11, 12] (fun v i wx => ∃ (j : Nat) (A8 : Option Addr) (c8 : Nat), j ≤ xs.length ∧ i = .int .i64 j ∧ v = .slice A8 ((xs.take j).filter fun x => !memB x mv).length c8 ∧ SlI wx wq.heap.size wx.heap.size A8 c8 ((xs.take j).filter fun x => !memB x mv) ∧ Below wq.heap.size wq wx) (fun _ i _ => xs.length - (intOf i).toNat)
            case atStart => exact ⟨0, _, 0, Nat.zero_le _, rfl, rfl, by simp; exact SlI.nil, (Below.refl _ _).alloc (Nat.le_refl _) _⟩
            case round =>
              obtain ⟨j, A8, c8, hj, rfl, rfl, hs, hb⟩ := hrel
              have hzb := hb.size
              have HB := Lib.hid hb
              have hfl : ((xs.take j).filter fun x => !memB x mv).length ≤ xs.length := Nat.le_trans (List.length_filter_le _ _) (by rw [List.length_take]; omega)
              by_cases hjx : j < xs.length
              · obtain ⟨ad, rfl, _, hc⟩ := (Xw.out.belowLe hb (by omega)).at_ hjx
                have hcell := hc j hjx
                have HT := Lib.hid (show (xs.take (j + 1)).filter (fun x => !memB x mv) = (xs.take j).filter (fun x => !memB x mv) ++ if memB xs[j] mv then [] else [xs[j]] from by
                  rw [List.take_succ_eq_append_getElem hjx, List.filter_append]
                  congr 1
                  cases hm : memB xs[j] mv <;> simp [hm])
                obtain ⟨x, hxj⟩ : ∃ x, xs[j] = x := ⟨_, rfl⟩
                rw [hxj] at hcell HT
                obtain ⟨fs, hfs⟩ : ∃ fs, (xs.take j).filter (fun x => !memB x mv) = fs := ⟨_, rfl⟩
                rw [hfs] at HT hs hfl ⊢
                have S := Lib.hid hs
                have hjj0 : (0 : Int) ≤ (j : Int) := Int.natCast_nonneg _
                clear hc hxj hfs hs hb
                cases hm : memB x mv
                · rw [hm] at HT
                  have HM := Lib.hid hm; clear hm
                  go_wp2_with fail
                  refine (ISI.out _ x HB.out).mono ?_; rw [HM.out]; rintro e w9 ⟨rfl, rfl⟩
                  go_wp2_with (at_builtin; refine wpList_appI (.tmp 101) (.tmp 106) rfl rfl fs [x] rfl rfl (S.out.alloc _) rfl rfl (SlI.new _ [x] (lo := 0) (Nat.zero_le _)).rd (by omega) (by simp; omega) ?_; intro A9 c9 w9 h9 t9 _)
                  have S9 := Lib.hid (h9.all t9 (by simp))
                  have HB9 := Lib.hid (Below.new (HB.out.alloc (by omega) (.cells (ints [x]).toArray 3)) t9 (Nat.le_refl _) (Nat.le_refl _))
                  clear h9 t9
                  go_wp2
                  go_roundw
                  case rel => exact ⟨j + 1, A9, c9, by omega, by go_num, by rw [HT.out]; first | rfl | simp, by rw [HT.out]; exact S9.out, HB9.out⟩
                  case measure => simp [intOf]; omega
                · rw [hm] at HT
                  have HM := Lib.hid hm; clear hm
                  go_wp2_with fail
                  refine (ISI.out _ x HB.out).mono ?_; rw [HM.out]; rintro e w9 ⟨rfl, rfl⟩
                  go_wp2_with fail
                  go_roundw
                  case rel => exact ⟨j + 1, A8, c8, by omega, by go_num, by rw [HT.out]; simp, by rw [HT.out]; simpa using S.out, HB.out⟩
                  case measure => simp [intOf]; omega
              · have hjl : j = xs.length := by omega
                subst hjl
                rw [List.take_length] at hs hfl ⊢
                obtain ⟨rs, hrs⟩ : ∃ rs, xs.filter (fun x => !memB x mv) = rs := ⟨_, rfl⟩
                rw [hrs] at hs hfl H1 H2 ⊢
                have S := Lib.hid hs
                have Xz := Lib.hid (Xw.out.belowLe hb (by omega))
                have Oz := Lib.hid (Ow.out.below hb (by omega))
                have Bz := Lib.hid (Bw.out.trans (hb.mono (by omega)))
                clear hrs hs hb Xw Ow Bw HB ISI SM
                have PL := Lib.hid (fun (x : Int) => place (x := x) (c := c3) (w := wr) os rfl (by omega) Oz.out.rd)
                have WI := Lib.hid (within (c := c3) (c' := c1) (w := wr) os xs rfl rfl (by omega) (by omega) Oz.out.rd Xz.out)
                rw [H3.out] at WI
                go_wp2_with fail
                go_loopw [13, 14] (fun v i wz => wz = wr ∧ ∃ k : Nat, k ≤ rs.length ∧ i = .int .i64 k ∧ ∃ at_ : Int, v = .int .i64 at_ ∧ -1 ≤ at_ ∧ at_ ≤ 1048576 ∧ ∀ (hk : k < rs.length), at_ < plc rs[k] os) (fun _ i _ => rs.length - (intOf i).toNat)
                case atStart => exact ⟨rfl, 0, Nat.zero_le _, rfl, -1, rfl, by omega, by omega, fun hk => by have := H2.out _ (List.getElem_mem hk); omega⟩
                case round =>
                  obtain ⟨rfl, k, hk, rfl, at_, rfl, ha0, ha1, hlt2⟩ := hrel
                  have hk0 : (0 : Int) ≤ (k : Int) := Int.natCast_nonneg _
                  by_cases hkr : k < rs.length
                  · obtain ⟨ad, rfl, _, hc⟩ := S.out.rd.at_ hkr
                    have hcell := hc k hkr
                    have hgt := hlt2 hkr
                    have HN := Lib.hid (fun (hk2 : k + 1 < rs.length) => List.pairwise_iff_getElem.1 H1.out k (k + 1) hkr hk2 (by omega))
                    obtain ⟨x, hxk⟩ : ∃ x, rs[k] = x := ⟨_, rfl⟩
                    rw [hxk] at hcell hgt HN
                    have PX := Lib.hid (PL.out x)
                    obtain ⟨pv, hpv⟩ : ∃ pv, plc x os = pv := ⟨_, rfl⟩
                    rw [hpv] at hgt HN PX
                    have hpb : pv ≤ 1048576 := by
                      rw [← hpv]; unfold plc
                      split
                      · have := idx_le x os; omega
                      · omega
                    have hle : (decide (pv ≤ at_)) = false := decide_eq_false (by omega)
                    clear hc hxk hpv hlt2
                    go_wp2_with fail
                    refine PX.out.mono ?_; rintro e w9 ⟨rfl, rfl⟩
                    go_wp2_with fail
                    refine PX.out.mono ?_; rintro e w9 ⟨rfl, rfl⟩
                    go_wp2_with fail
                    go_roundw
                    case rel => exact ⟨trivial, k + 1, by omega, by go_num, pv, rfl, by omega, hpb, fun hk2 => HN.out hk2⟩
                    case measure => simp [intOf]; omega
                  · clear hlt2
                    have hbe : ((os.length : Int) == (xs.length : Int)) = true := by rw [H4.out]; simp
                    go_wp2_with fail
                    refine WI.out.mono ?_; rintro e w9 ⟨rfl, rfl⟩
                    go_wp2_with fail
                    go_ret
                    exact ⟨rfl, Bz.out⟩
  · go_enter Try.func3, Try.ntmps3
    go_wp2
    go_ret
    exact ⟨rfl, Below.refl _ _⟩
end Go.Proofs.Ytmmegmefiihabaa
