/-
  The walk of laws.FnMatchRows.
-/
import Derived.Test.YtmmegmefiihabaaDrawMr
import Derived.Test.YtmmegmefiihabaaMatchLaw
import Derived.Test.YtmmegmefiihabaaSameQ
namespace Go.Proofs.Ytmmegmefiihabaa
open Go.RowKit

set_option maxRecDepth 100000 in
set_option maxHeartbeats 1600000 in
theorem walkFnMatchRows (A : Option Addr) (c : Nat) (bs : List Int) (w : World) (hr : Rd w w.heap.size A (bytes8 bs)) (hn : bs.length ≤ 9223372036854775807) (lc : bs.length ≤ c) (cm : c ≤ 9223372036854775807) (hx : ∀ x ∈ bs, (Lit.int .u8 x).wf = true) :
    Calls Try.prog 10 #[.slice A bs.length c] w fun e w' => e = .returned (.bool true) ∧ Below w.heap.size w w' := by
  by_cases hbig : bs.length ≤ 1048576
  · have HR := Lib.hid hr; clear hr
    have HX := Lib.hid hx; clear hx
    go_enter Try.func10, Try.ntmps10
    go_wp2_with fail
    refine (drawMatchRows bs rfl lc cm HX.out HR.out).mono ?_; rintro e w1 ⟨A1, c1, rs, nx, A2, c2, ks, rfl, hl1, hl2, hc1, hc2, r1, r2, b1⟩
    have z1 := b1.size
    have X := Lib.hid r1
    have Y := Lib.hid r2
    have B := Lib.hid b1
    clear r1 r2 b1 HR HX
    obtain ⟨os, f, hp⟩ : ∃ os f, matchF rs nx ks = (os, f) := ⟨_, _, rfl⟩
    have hol : os.length ≤ 10 := by have := matchF_len rs nx ks; rw [hp] at this; exact this
    have HP := Lib.hid hp; clear hp
    go_wp2_with fail
    refine (implMatchRows rs nx ks rfl rfl (by omega) (by omega) hc2 X.out Y.out (Nat.le_refl _) (Nat.le_refl _)).mono ?_; rw [HP.out]; rintro e w3 ⟨A3, c3, rfl, s3, b3⟩
    have z3 := b3.size
    have X := Lib.hid (X.out.below b3)
    have Y := Lib.hid (Y.out.below b3)
    have B := Lib.hid (B.out.trans (b3.mono z1))
    have O := Lib.hid s3
    clear s3 b3
    go_wp2_with fail
    refine (specMatchRows rs nx ks rfl rfl (by omega) (by omega) hc2 X.out Y.out z3 z3).mono ?_; rw [HP.out]; rintro e w4 ⟨A4, c4, rfl, s4, b4⟩
    have z4 := b4.size
    have X := Lib.hid (X.out.belowLe b4 z3)
    have Y := Lib.hid (Y.out.belowLe b4 z3)
    have B := Lib.hid (B.out.trans (b4.mono (by omega)))
    have O := Lib.hid (O.out.below b4 (Nat.le_refl _))
    have W4 := Lib.hid s4
    clear s4 b4
    go_wp2_with fail
    refine (qb (sameQ os rfl rfl (by omega) O.out.rd W4.out.rd)).mono ?_; rintro e w5 ⟨rfl, b5⟩
    have z5 := b5.size
    have X := Lib.hid ((X.out.belowLe b5 (by omega)).more (by omega : w1.heap.size ≤ w5.heap.size))
    have Y := Lib.hid ((Y.out.belowLe b5 (by omega)).more (by omega : w1.heap.size ≤ w5.heap.size))
    have B := Lib.hid (B.out.trans (b5.mono (by omega)))
    have O := Lib.hid ((O.out.below b5 (by omega)).mono (Nat.le_refl _) (by omega : w3.heap.size ≤ w5.heap.size))
    have W4 := Lib.hid (W4.out.below b5 (Nat.le_refl _))
    clear b5
    have hff : (f != f) = false := by simp
    have hff2 : (f == f) = true := by simp
    by_cases hneg : f < 0
    · go_wp2_with fail
      refine (qb (sameQ os rfl rfl (by omega) O.out.rd W4.out.rd)).mono ?_; rintro e w6 ⟨rfl, b6⟩
      have B := Lib.hid (B.out.trans (b6.mono (by omega)))
      clear b6
      go_wp2_with fail
      go_ret
      exact ⟨rfl, B.out⟩
    · obtain ⟨e1, e2, e3, e4⟩ := match_ok HP.out hneg
      obtain ⟨m1, m2, m3, m4, m5⟩ := match_end HP.out hneg
      have hkl : os.length = ks.length := by rw [← m1, List.length_map]
      have hkl2 : (os.length : Int) = (ks.length : Int) := by rw [hkl]
      have hnx : 0 ≤ nx ∧ nx ≤ 100 := (rowsVB_iff.1 e1).2.2.2
      obtain ⟨hnx0, hnx1⟩ := hnx
      have HG := Lib.hid e3
      have HL := Lib.hid hkl
      have HND := Lib.hid m5
      have O' := Lib.hid O.out.rd
      clear W4 e1 e2 e3 e4 m1 m2 m3 m4 m5 hkl hkl2 O
      obtain ⟨n5, hn5⟩ : ∃ n5, os.length = n5 := ⟨_, rfl⟩
      have hn10 : n5 ≤ 10 := by omega
      have hkn : ks.length = n5 := by have := HL.out; omega
      have HN := Lib.hid hn5
      have HKN := Lib.hid hkn
      rw [hn5, hkn]
      clear hkn hn5 hol
      have S0 := Lib.hid (SlI.new w5 [] (lo := w5.heap.size) (Nat.le_refl _))
      go_wp2_with fail
      go_loopw [10, 11, 12] (fun v nv i wr => ∃ (j : Nat) (A6 : Option Addr) (c6 : Nat), j ≤ n5 ∧ i = .int .i64 j ∧ nv = .int .i64 (matchG rs nx (ks.take j)).2 ∧ v = .slice A6 j c6 ∧ SlI wr w5.heap.size wr.heap.size A6 c6 ((os.map (·.no)).take j) ∧ Below w5.heap.size w5 wr) (fun _ _ i _ => n5 - (intOf i).toNat)
      case atStart => exact ⟨0, _, 0, Nat.zero_le _, rfl, rfl, rfl, by simpa using S0.out, (Below.refl _ _).alloc (Nat.le_refl _) _⟩
      case round =>
        clear S0
        obtain ⟨j, A6, c6, hj, rfl, rfl, rfl, hs, hb⟩ := hrel
        have hzb := hb.size
        have S6 := Lib.hid hs
        have HB := Lib.hid hb
        clear hs hb
        have hml : ((os.map (·.no)).take j).length = j := by rw [List.length_take, List.length_map, HN.out]; omega
        have HML := Lib.hid hml
        clear hml
        by_cases hlt : j < n5
        · have hlo : j < os.length := by rw [HN.out]; exact hlt
          have hlk : j < ks.length := by rw [HKN.out]; exact hlt
          obtain ⟨me1, me2⟩ := match_at HP.out (by omega) hlk hlo
          obtain ⟨_, g1, g2⟩ := matchG_len rs nx ks j (by omega)
          have HT := Lib.hid (show (os.map (·.no)).take (j + 1) = (os.map (·.no)).take j ++ [os[j].no] from by rw [List.take_succ_eq_append_getElem (by rw [List.length_map]; exact hlo), List.getElem_map])
          obtain ⟨cur, hcur⟩ : ∃ cur, (matchG rs nx (ks.take j)).2 = cur := ⟨_, rfl⟩
          obtain ⟨nxt, hnxt⟩ : ∃ nxt, (matchG rs nx (ks.take (j + 1))).2 = nxt := ⟨_, rfl⟩
          rw [hcur] at me2 g1 g2 ⊢
          rw [hnxt] at me2
          obtain ⟨ad, hA2, _, hc2'⟩ := (Y.out.belowLe HB.out (Nat.le_refl _)).at_ hlk
          subst hA2
          have kc := hc2' j hlk
          obtain ⟨g, o, hA3, hg3, o0, o1⟩ := RdQ_at (O'.out.belowLe HB.out (Nat.le_refl _)) hlo
          subst hA3
          obtain ⟨x, hx⟩ : ∃ x, os[j] = x := ⟨_, rfl⟩
          rw [hx] at me1 me2 o0 o1 HT
          obtain ⟨kx, no⟩ := x
          simp only at me1 me2 o0 o1 HT
          rw [← me1] at kc me2
          have M2 := Lib.hid me2
          have MK := Lib.hid (show ∀ h : j < ks.length, ks[j] = kx from fun _ => me1.symm)
          have HX := Lib.hid (show ∀ h : j < os.length, os[j] = ⟨kx, no⟩ from fun _ => hx)
          have NXT := Lib.hid hnxt
          have hjj0 : (0 : Int) ≤ (j : Int) := Int.natCast_nonneg _
          have hjj1 : (j : Int) < (n5 : Int) := by omega
          clear hc2' hx hnxt hcur me1 me2 hlo hlk
          have HK := Lib.hid (fun (w9 : World) (t9 : Turn w5.heap.size wr.heap.size (wr.alloc (.cells (ints [no]).toArray 3)) w9) => (show Below w5.heap.size w5 w9 from
            (HB.out.alloc hzb _).trans (t9.below (by simp; omega))))
          have HC := Lib.hid (fun (w9 : World) (b9 : Below w5.heap.size w5 w9) => (show w9.cell? (ad.add j) = some (.int .i64 kx) ∧ w9.cell? ⟨g, o + j * 2, none⟩ = some (.int .i64 kx) ∧ w9.cell? ⟨g, o + j * 2 + 1, none⟩ = some (.int .i64 no) ∧ RdQ w9 w5.heap.size A1 rs from by
            have hlo : j < os.length := by rw [HN.out]; exact hlt
            have hlk : j < ks.length := by rw [HKN.out]; exact hlt
            obtain ⟨ad', hA', _, hc'⟩ := (Y.out.belowLe b9 (Nat.le_refl _)).at_ hlk
            injection hA' with hA'
            subst hA'
            obtain ⟨g', o', hA', _, p0, p1⟩ := RdQ_at (O'.out.belowLe b9 (Nat.le_refl _)) hlo
            simp only [Option.some.injEq, Addr.mk.injEq, and_true] at hA'
            obtain ⟨rfl, rfl⟩ := hA'
            have k9 := hc' j hlk
            rw [MK.out] at k9
            rw [HX.out] at p0 p1
            exact ⟨k9, p0, p1, X.out.belowLe b9 (Nat.le_refl _)⟩))
          clear kc hg3
          go_wp2_with (at_builtin; refine wpList_appI (.tmp 67) (.tmp 73) rfl rfl ((os.map (·.no)).take j) [no] rfl HML.out (S6.out.alloc _) rfl rfl (SlI.new _ [no] (lo := 0) (Nat.zero_le _)).rd (by omega) (by simp; omega) ?_; intro A9 c9 w9 h9 t9 _; have hb9 := HK.out w9 t9; obtain ⟨q0, q1, q2, q3⟩ := HC.out w9 hb9)
          have HB9 := Lib.hid hb9
          have S9 := Lib.hid (show SlI w9 w5.heap.size w9.heap.size A9 c9 ((os.map (·.no)).take (j + 1)) from by rw [HT.out]; exact h9.all t9 (by simp))
          have HXR := Lib.hid q3
          have hz9 := hb9.size
          clear hb9 h9 t9 q3 o0 o1 S6 HT
          go_loopw [13, 14] (fun v i wx => ∃ (q d : Nat), q ≤ rs.length ∧ i = .int .i64 q ∧ v = .int .i64 (lookL (rs.take q) kx) ∧ wx = w9.drewN d) (fun _ i _ => rs.length - (intOf i).toNat)
          case atStart => exact ⟨0, 0, Nat.zero_le _, rfl, rfl, rfl⟩
          case round =>
            obtain ⟨q, d, hq, rfl, rfl, rfl⟩ := hrel
            by_cases hqr : q < rs.length
            · obtain ⟨gx, ox, hAx, hgB, k0, k1⟩ := RdQ_at HXR.out hqr
              subst hAx
              have HL2 := Lib.hid (show lookL (rs.take (q + 1)) kx = if rs[q].ky == kx then rs[q].no else lookL (rs.take q) kx from by rw [List.take_succ_eq_append_getElem hqr, lookL_snoc])
              obtain ⟨y, hy⟩ : ∃ y, rs[q] = y := ⟨_, rfl⟩
              rw [hy] at k0 k1 HL2
              obtain ⟨ky, ny⟩ := y
              simp only at k0 k1 HL2
              have hqq0 : (0 : Int) ≤ (q : Int) := Int.natCast_nonneg _
              have hqq1 : (q : Int) < (rs.length : Int) := by omega
              clear hy
              cases he : ky == kx
              · rw [he] at HL2
                go_wp2_with fail
                go_quiet (fail)
                go_wp2_with fail
                go_roundw
                case rel => exact ⟨q + 1, _, by omega, by go_num, by rw [HL2.out]; rfl, rfl⟩
                case measure => simp [intOf]; omega
              · rw [he] at HL2
                go_wp2_with fail
                go_quiet (fail)
                go_wp2_with fail
                go_roundw
                case rel => exact ⟨q + 1, _, by omega, by go_num, by rw [HL2.out]; rfl, rfl⟩
                case measure => simp [intOf]; omega
            · have hqe : rs.take q = rs := List.take_of_length_le (by omega)
              rw [hqe]
              have FIN := Lib.hid (fun (d' : Nat) => (show SlI ((w9.drewN d).drewN d') w5.heap.size ((w9.drewN d).drewN d').heap.size A9 c9 ((os.map (·.no)).take (j + 1)) ∧ Below w5.heap.size w5 ((w9.drewN d).drewN d') from
                ⟨S9.out, ⟨HB9.out.os, HB9.out.tape, HB9.out.output, HB9.out.size, HB9.out.block⟩⟩))
              have u0 : (w9.drewN d).cell? (ad.add j) = some (.int .i64 kx) := q0
              have u1 : (w9.drewN d).cell? ⟨g, o + j * 2, none⟩ = some (.int .i64 kx) := q1
              have u2 : (w9.drewN d).cell? ⟨g, o + j * 2 + 1, none⟩ = some (.int .i64 no) := q2
              obtain ⟨W, hW⟩ : ∃ W, W = w9.drewN d := ⟨_, rfl⟩
              rw [← hW] at u0 u1 u2 FIN ⊢
              clear hW hqe q0 q1 q2
              have hkk : (kx != kx) = false := by simp
              have hnn : (no != no) = false := by simp
              rcases M2.out with ⟨hl, hc0, hn0⟩ | ⟨hl, hc0, hn0⟩
              · obtain ⟨id, hid⟩ : ∃ id, lookL rs kx = id := ⟨_, rfl⟩
                rw [hid] at hl ⊢
                subst hc0
                have HNX := Lib.hid (show (matchG rs nx (ks.take (j + 1))).2 = no + 1 from by rw [NXT.out]; exact hn0)
                clear hn0 hid M2
                go_wp2_with fail
                go_quiet (fail)
                go_wp2_with fail
                go_roundw
                case rel => exact ⟨j + 1, A9, c9, by omega, by go_num, by rw [HNX.out], rfl, (FIN.out _).1, (FIN.out _).2⟩
                case measure => simp [intOf]; omega
              · rw [← hc0] at hl ⊢
                subst hn0
                have HNX := Lib.hid NXT.out
                clear M2 hc0
                go_wp2_with fail
                go_quiet (fail)
                go_wp2_with fail
                go_roundw
                case rel => exact ⟨j + 1, A9, c9, by omega, by go_num, by rw [HNX.out], rfl, (FIN.out _).1, (FIN.out _).2⟩
                case measure => simp [intOf]; omega
        · have hje : j = n5 := by omega
          have hte : (os.map (·.no)).take j = os.map (·.no) := List.take_of_length_le (by rw [List.length_map, HN.out]; omega)
          have hke : ks.take j = ks := List.take_of_length_le (by rw [HKN.out]; omega)
          have HTE := Lib.hid hte
          rw [hke, HG.out]
          clear hte hke
          subst hje
          have hND : nodupB (os.map (·.no)) = true := by unfold nodupB; exact decide_eq_true HND.out
          have HND2 := Lib.hid hND
          have B := Lib.hid (B.out.trans (HB.out.mono (by omega)))
          have hlm : (os.map (·.no)).length = j := by rw [List.length_map, HN.out]
          have HLM := Lib.hid hlm
          clear hND hlm
          simp only
          have hjj : ((j : Int) == (j : Int)) = true := by simp
          go_wp2_with fail
          refine (noTwice (os.map (·.no)) HLM.out (by omega) (show RdI _ _ _ _ from by have := S6.out.rd; rw [HTE.out] at this; exact this)).mono ?_; rw [HND2.out]; rintro e w8 ⟨rfl, rfl⟩
          go_wp2_with fail
          go_ret
          exact ⟨rfl, B.out⟩
  · go_enter Try.func10, Try.ntmps10
    go_wp2
    go_ret
    exact ⟨rfl, Below.refl _ _⟩
end Go.Proofs.Ytmmegmefiihabaa
