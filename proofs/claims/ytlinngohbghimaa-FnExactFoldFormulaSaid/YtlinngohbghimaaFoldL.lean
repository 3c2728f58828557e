/-
  spec.folded whole; spec.FoldFormula.
-/
import Derived.Test.YtlinngohbghimaaFoldM
import Derived.Deep.RegionHeld3
namespace Go.Proofs.Ytlinngohbghimaa
open Go.RowKit
set_option linter.unusedVariables false

set_option maxRecDepth 1000000 in
set_option maxHeartbeats 4000000 in
theorem foldedLast {w W : World} {b q c5 los his M : Nat} {A5 : Option Addr} {qs : List (List Prt × Hs)} {p : Prt} {XS : List Prt} {s_0 s_1 s_2 s_3 s_6 s_8 s_9 s_10 s_11 s_12 s_13 s_14 s_15 s_16 s_17 s_18 s_19 s_20 s_21 s_22 s_23 s_24 s_25 s_26 s_27 s_28 s_29 s_30 s_31 s_32 s_33 s_34 s_35 s_36 s_37 s_38 s_39 s_40 s_41 s_42 s_43 s_44 s_45 s_46 s_47 s_48 s_49 s_50 s_51 s_52 s_53 s_54 s_55 s_56 s_57 s_58 s_59 s_60 s_61 s_62 s_63 s_64 s_65 s_66 s_67 s_68 s_69 s_70 s_71 s_72 s_73 s_74 s_75 s_76 s_77 s_78 s_79 s_80 s_81 s_82 s_83 s_84 s_85 s_86 s_87 s_88 s_89 s_90 s_91 s_92 s_93 s_94 s_95 s_96 s_97 s_98 s_99 s_100 s_101 s_102 s_103 s_104 s_105 s_106 s_107 s_108 s_109 s_110 s_111 s_112 s_113 s_114 s_115 s_116 s_117 s_118 s_119 s_120 s_121 s_122 s_123 s_124 s_125 s_126 s_127 s_128 s_129 s_130 s_131 s_132 s_133 s_134 s_135 s_136 s_137 s_138 s_139 s_140 s_141 s_142 s_143 s_144 s_145 s_146 s_147 s_148 s_149 s_150 s_151 s_152 s_153 s_154 s_155 s_156 s_157 s_158 s_159 s_160 s_161 s_162 s_163 s_164 s_165 s_166 s_167 s_168 s_169 s_170 s_171 s_172 s_173 s_174 s_175 s_176 s_177 : Value}
    (hq : qs.length = q) (hM : M ≤ 16777216) (OK : ∀ z ∈ qs, OkG M z.1) (SUB : SubI b W los his A5 c5 qs) (hb : w.heap.size + 3 ≤ b) (hwW : w.heap.size + 3 ≤ W.heap.size)
    (BR : Blk W (w.heap.size + 1) 29 #[.slice none 0 0]) (BP : Blk W (w.heap.size + 1 + 1) 50 (ints (cP p)).toArray) (HW : Below w.heap.size w W) (HF : XS = foldD p (qs.map Prod.fst))
    (hk : (p.kd = 8 ∧ q = 3) ∨ (¬ p.kd = 8 ∧ (2 ≤ p.kd ∧ p.kd ≤ 7) ∧ q = 2)) :
    Code.wp Try.prog (sRest 10) (bodyPost Try.prog Try.f55 (MadeF w XS)) ⟨#[s_0, s_1, s_2, s_3, .pointer (some ⟨w.heap.size + 1, 0, none⟩), .pointer (some ⟨w.heap.size + 1 + 1, 0, none⟩), s_6, .slice A5 q c5, s_8, s_9, s_10, s_11, s_12, s_13, s_14, s_15, s_16, s_17, s_18, s_19, s_20, s_21, s_22, s_23, s_24, s_25, s_26, s_27, s_28, s_29, s_30, s_31, s_32, s_33, s_34, s_35, s_36, s_37, s_38, s_39, s_40, s_41, s_42, s_43, s_44, s_45, s_46, s_47, s_48, s_49, s_50, s_51, s_52, s_53, s_54, s_55, s_56, s_57, s_58, s_59, s_60, s_61, s_62, s_63, s_64, s_65, s_66, s_67, s_68, s_69, s_70, s_71, s_72, s_73, s_74, s_75, s_76, s_77, s_78, s_79, s_80, s_81, s_82, s_83, s_84, s_85, s_86, s_87, s_88, s_89, s_90, s_91, s_92, s_93, s_94, s_95, s_96, s_97, s_98, s_99, s_100, s_101, s_102, s_103, s_104, s_105, s_106, s_107, s_108, s_109, s_110, s_111, s_112, s_113, s_114, s_115, s_116, s_117, s_118, s_119, s_120, s_121, s_122, s_123, s_124, s_125, s_126, s_127, s_128, s_129, s_130, s_131, s_132, s_133, s_134, s_135, s_136, s_137, s_138, s_139, s_140, s_141, s_142, s_143, s_144, s_145, s_146, s_147, s_148, s_149, s_150, s_151, s_152, s_153, s_154, s_155, s_156, s_157, s_158, s_159, s_160, s_161, s_162, s_163, s_164, s_165, s_166, s_167, s_168, s_169, s_170, s_171, s_172, s_173, s_174, s_175, s_176, s_177], []⟩ W := by
  have hq2 : 2 ≤ qs.length := by rw [hq]; rcases hk with ⟨_, e⟩ | ⟨_, _, e⟩ <;> omega
  obtain ⟨q0, q1, qr, rfl⟩ : ∃ q0 q1 qr, qs = q0 :: q1 :: qr := by
    match qs, hq2 with
    | a :: b :: r, _ => exact ⟨a, b, r, rfl⟩
  obtain ⟨g5, o5, hA5, hg5, x0, s0, l0, t0⟩ := SUB.hdr (i := 0) (q := q0) rfl
  subst hA5
  obtain ⟨g5', o5', hA5, _, x1, s1, l1, t1⟩ := SUB.hdr (i := 1) (q := q1) rfl
  simp only [Option.some.injEq, Addr.mk.injEq, and_true] at hA5
  obtain ⟨rfl, rfl⟩ := hA5
  have HOK := Lib.hid OK; have QL := Lib.hid hq; have HS := Lib.hid SUB; have HBR := Lib.hid BR; have HBP := Lib.hid BP; have HHW := Lib.hid HW; have HHF := Lib.hid HF; have HK := Lib.hid hk
  obtain ⟨y0, hd0⟩ := q0
  obtain ⟨y1, hd1⟩ := q1
  obtain ⟨ok00, ok01, ok02, ok03⟩ := OK (y0, hd0) (by simp)
  obtain ⟨ok10, ok11, ok12, ok13⟩ := OK (y1, hd1) (by simp)
  simp only at x0 s0 l0 t0 x1 s1 l1 t1 ok00 ok01 ok02 ok03 ok10 ok11 ok12 ok13
  obtain ⟨hl0, e0⟩ := lastP_at ok00
  obtain ⟨hl1, e1⟩ := lastP_at ok10
  obtain ⟨ga, oa, hAa, hga, a0, a1, a2, a3, a4⟩ := RdP_at s0.rd hl0
  obtain ⟨gb, ob, hAb, hgb, b0, b1, b2, b3, b4⟩ := RdP_at s1.rd hl1
  rw [← e0] at a0 a1 a2 a3 a4
  rw [← e1] at b0 b1 b2 b3 b4
  have hl0' : y0.length ≤ 16777216 := by omega
  have hl1' : y1.length ≤ 16777216 := by omega
  obtain ⟨z0, hz0⟩ : ∃ z, lastP y0 = z := ⟨_, rfl⟩
  obtain ⟨z1, hz1⟩ : ∃ z, lastP y1 = z := ⟨_, rfl⟩
  rw [hz0] at a0 a1 a2 a3 a4
  rw [hz1] at b0 b1 b2 b3 b4
  have LZ0 := Lib.hid hz0
  have LZ1 := Lib.hid hz1
  obtain ⟨kd0, pa0, pb0, pc0, nn0⟩ := z0
  obtain ⟨kd1, pa1, pb1, pc1, nn1⟩ := z1
  obtain ⟨k0, hk0⟩ : ∃ k, y0.length - 1 = k := ⟨_, rfl⟩
  obtain ⟨k1, hk1⟩ : ∃ k, y1.length - 1 = k := ⟨_, rfl⟩
  rw [hk0] at a0 a1 a2 a3 a4
  rw [hk1] at b0 b1 b2 b3 b4
  have hw0 : IntKind.i64.wrap ((y0.length : Int) - 1) = (k0 : Int) := by rw [show (y0.length : Int) - 1 = (k0 : Int) by omega]; exact IntWalk.i64_in _ (by omega)
  have hw1 : IntKind.i64.wrap ((y1.length : Int) - 1) = (k1 : Int) := by rw [show (y1.length : Int) - 1 = (k1 : Int) by omega]; exact IntWalk.i64_in _ (by omega)
  have hk00 : (0 : Int) ≤ (k0 : Int) := Int.natCast_nonneg _
  have hk10 : (0 : Int) ≤ (k1 : Int) := Int.natCast_nonneg _
  have hk01 : (k0 : Int) < (y0.length : Int) := by omega
  have hk11 : (k1 : Int) < (y1.length : Int) := by omega
  rw [hAa] at x0
  rw [hAb] at x1
  simp only [Nat.add_zero] at x0 a0 a1 a2 a3 a4 b0 b1 b2 b3 b4
  have hq20 : (0 : Int) < (q : Int) := by rw [← hq]; simp; omega
  have hq21 : (1 : Int) < (q : Int) := by rw [← hq]; simp; omega
  have hg5w : g5 < W.heap.size := World.block_lt_of_cell? W ⟨g5, o5, none⟩ x0
  have hgaw : ga < W.heap.size := World.block_lt_of_cell? W ⟨ga, _, none⟩ a0
  have hgbw : gb < W.heap.size := World.block_lt_of_cell? W ⟨gb, _, none⟩ b0
  have RDS := Lib.hid (fun (W' : World) (hb : Below W.heap.size W W') => (show (W'.cell? ⟨g5, o5, none⟩ = some (.slice (some ⟨ga, oa, none⟩) y0.length hd0.c) ∧ W'.cell? ⟨ga, oa + k0 * 5, none⟩ = some (.int .i64 kd0) ∧ W'.cell? ⟨ga, oa + k0 * 5 + 1, none⟩ = some (.int .i64 pa0) ∧ W'.cell? ⟨ga, oa + k0 * 5 + 2, none⟩ = some (.int .i64 pb0) ∧ W'.cell? ⟨ga, oa + k0 * 5 + 3, none⟩ = some (.int .i64 pc0) ∧ W'.cell? ⟨ga, oa + k0 * 5 + 4, none⟩ = some (.int .i64 nn0)) ∧
      (W'.cell? ⟨g5, o5 + 1, none⟩ = some (.slice (some ⟨gb, ob, none⟩) y1.length hd1.c) ∧ W'.cell? ⟨gb, ob + k1 * 5, none⟩ = some (.int .i64 kd1) ∧ W'.cell? ⟨gb, ob + k1 * 5 + 1, none⟩ = some (.int .i64 pa1) ∧ W'.cell? ⟨gb, ob + k1 * 5 + 2, none⟩ = some (.int .i64 pb1) ∧ W'.cell? ⟨gb, ob + k1 * 5 + 3, none⟩ = some (.int .i64 pc1) ∧ W'.cell? ⟨gb, ob + k1 * 5 + 4, none⟩ = some (.int .i64 nn1)) from
    ⟨⟨(hb.cell (p := ⟨g5, _, none⟩) hg5w).trans x0, (hb.cell (p := ⟨ga, _, none⟩) hgaw).trans a0, (hb.cell (p := ⟨ga, _, none⟩) hgaw).trans a1, (hb.cell (p := ⟨ga, _, none⟩) hgaw).trans a2, (hb.cell (p := ⟨ga, _, none⟩) hgaw).trans a3, (hb.cell (p := ⟨ga, _, none⟩) hgaw).trans a4⟩,
     ⟨(hb.cell (p := ⟨g5, _, none⟩) hg5w).trans x1, (hb.cell (p := ⟨gb, _, none⟩) hgbw).trans b0, (hb.cell (p := ⟨gb, _, none⟩) hgbw).trans b1, (hb.cell (p := ⟨gb, _, none⟩) hgbw).trans b2, (hb.cell (p := ⟨gb, _, none⟩) hgbw).trans b3, (hb.cell (p := ⟨gb, _, none⟩) hgbw).trans b4⟩⟩))
  obtain ⟨⟨u0, u1, u2, u3, u4, u5⟩, _⟩ := RDS.out (W.alloc (.cells #[.int .i64 0, .int .i64 0, .int .i64 0, .int .i64 0, .int .i64 0] 50)) ((Below.refl _ _).alloc (Nat.le_refl _) _)
  clear e0 e1 hl0 hl1 hz0 hz1 s0 s1 hk0 hk1 x1 b0 b1 b2 b3 b4 hg5w hgaw hgbw OK hq SUB BR BP HW HF hk hq2 l0 t0 l1 t1 hga hgb hg5 ok00 ok01 ok02 ok03 ok10 ok11 ok12 ok13
  conv => arg 2; whnf
  go_wp2_with fail
  go_region
  have HB7 := Lib.hid (show Below W.heap.size W (W.alloc (.cells #[.int .i64 kd0, .int .i64 pa0, .int .i64 pb0, .int .i64 pc0, .int .i64 nn0] 50)).drew from ((Below.refl _ _).alloc (Nat.le_refl _) _).drew)
  have BF7 := Lib.hid (show Blk (W.alloc (.cells #[.int .i64 kd0, .int .i64 pa0, .int .i64 pb0, .int .i64 pc0, .int .i64 nn0] 50)).drew W.heap.size 50 #[.int .i64 kd0, .int .i64 pa0, .int .i64 pb0, .int .i64 pc0, .int .i64 nn0] from Blk.new _ _ _)
  obtain ⟨W7, hW7⟩ : ∃ W', W' = (W.alloc (.cells #[.int .i64 kd0, .int .i64 pa0, .int .i64 pb0, .int .i64 pc0, .int .i64 nn0] 50)).drew := ⟨_, rfl⟩
  rw [← hW7] at HB7 BF7 ⊢
  clear hW7 u0 u1 u2 u3 u4 u5 x0 a0 a1 a2 a3 a4
  obtain ⟨_, ⟨v0, v1, v2, v3, v4, v5⟩⟩ := RDS.out _ HB7.out
  obtain ⟨_, ⟨u0, u1, u2, u3, u4, u5⟩⟩ := RDS.out (W7.alloc (.cells #[.int .i64 0, .int .i64 0, .int .i64 0, .int .i64 0, .int .i64 0] 50)) (HB7.out.alloc HB7.out.size _)
  go_wp2_with fail
  go_region
  have HB8 := (show Below W.heap.size W (W7.alloc (.cells #[.int .i64 kd1, .int .i64 pa1, .int .i64 pb1, .int .i64 pc1, .int .i64 nn1] 50)).drew from (HB7.out.alloc HB7.out.size _).drew)
  have BF8 := (show Blk (W7.alloc (.cells #[.int .i64 kd1, .int .i64 pa1, .int .i64 pb1, .int .i64 pc1, .int .i64 nn1] 50)).drew W.heap.size 50 #[.int .i64 kd0, .int .i64 pa0, .int .i64 pb0, .int .i64 pc0, .int .i64 nn0] from BF7.out.alloc _)
  have BG8 := (show Blk (W7.alloc (.cells #[.int .i64 kd1, .int .i64 pa1, .int .i64 pb1, .int .i64 pc1, .int .i64 nn1] 50)).drew W7.heap.size 50 #[.int .i64 kd1, .int .i64 pa1, .int .i64 pb1, .int .i64 pc1, .int .i64 nn1] from Blk.new _ _ _)
  try dsimp only [Exit.then]
  go_step
  obtain ⟨kd, pa, pb, pc, nn⟩ := p
  exact foldedMid QL.out hM HOK.out (HS.out.below HB8) hb (Nat.le_trans hwW HB8.size) (HBR.out.below HB8 HBR.out.lt) (HBP.out.below HB8 HBP.out.lt) BF8 BG8 (HHW.out.trans (HB8.mono (by omega))) LZ0.out LZ1.out HHF.out HK.out

set_option maxRecDepth 100000 in
set_option maxHeartbeats 3200000 in
theorem specFolded {ps : List Prt} (hd : Desc ps) (ha : ∀ i (h : i < ps.length), 0 ≤ ps[i].nn ∧ ps[i].nn ≤ 99) {A : Option Addr} {c n B : Nat} (ln : ps.length = n) (m : Nat) : ∀ (i : Nat) (w : World), i < m → i < n → m ≤ 12 → RdP w B A ps → B ≤ w.heap.size →
    Calls Try.prog 55 #[.agg #[.slice A n c], .int .i64 i] w (MadeF w (foldG ps m i)) := by
  induction m with
  | zero => intro i w hi; omega
  | succ m ih =>
    intro i w him hin hm h hB
    have hip : i < ps.length := by omega
    have IH := Lib.hid ih; clear ih
    have H := Lib.hid h
    have B2 := Lib.hid (show Below w.heap.size w ((w.alloc (.cells #[.slice A n c] 29)).alloc (.cells #[.slice none 0 0] 29)) from bel2P w _ _)
    obtain ⟨g, o, hA, hgB, c0, c1, c2, c3, c4⟩ := RdP_at (h.belowLe B2.out hB) hip
    subst hA
    have FG := Lib.hid (show foldG ps (m + 1) i = foldD ps[i] ((belowL ps[i]).map fun k => foldG ps m k.toNat) from by rw [foldG, getD_at hip])
    have HD := Lib.hid (hd i hip)
    have HNN := Lib.hid (ha i hip)
    have OKS := Lib.hid (fun (k : Nat) (hk : k < m) (hk2 : k < ps.length) => foldG_ok hd ha m k hk hk2)
    have KL := Lib.hid (belowL_len ps[i])
    have LK := Lib.hid (leaf_kd (p := ps[i]))
    have KK := Lib.hid (kids_kd (p := ps[i]))
    obtain ⟨x, hx⟩ : ∃ x, ps[i] = x := ⟨_, rfl⟩
    rw [hx] at c0 c1 c2 c3 c4 FG HD KL HNN LK KK
    have PB := Lib.hid (fun (W : World) => specBelow (w := W) x)
    obtain ⟨ks, hks⟩ : ∃ ks, belowL x = ks := ⟨_, rfl⟩
    rw [hks] at FG HD KL PB LK KK
    have hkl := KL.out
    have LN := Lib.hid ln
    obtain ⟨kd, pa, pb, pc, nn⟩ := x
    dsimp only [vP] at PB
    simp only at c0 c1 c2 c3 c4 HNN LK KK
    have hi0 : (0 : Int) ≤ (i : Int) := Int.natCast_nonneg _
    have hi1 : (i : Int) < (n : Int) := by omega
    have PW := pow12 (show m ≤ 12 by omega)
    have B3 := Lib.hid (B2.out.alloc (by simp; omega) (.cells #[.int .i64 kd, .int .i64 pa, .int .i64 pb, .int .i64 pc, .int .i64 nn] 50))
    have BX := Lib.hid (((Blk.new w 29 #[.slice (some ⟨g, o, none⟩) n c]).alloc (.cells #[.slice none 0 0] 29)).alloc (.cells #[.int .i64 kd, .int .i64 pa, .int .i64 pb, .int .i64 pc, .int .i64 nn] 50))
    have BR := Lib.hid (show Blk (((w.alloc (.cells #[.slice (some ⟨g, o, none⟩) n c] 29)).alloc (.cells #[.slice none 0 0] 29)).alloc (.cells #[.int .i64 kd, .int .i64 pa, .int .i64 pb, .int .i64 pc, .int .i64 nn] 50)) (w.heap.size + 1) 29 #[.slice none 0 0] from (blkAt (by simp)).alloc _)
    have BP := Lib.hid (show Blk (((w.alloc (.cells #[.slice (some ⟨g, o, none⟩) n c] 29)).alloc (.cells #[.slice none 0 0] 29)).alloc (.cells #[.int .i64 kd, .int .i64 pa, .int .i64 pb, .int .i64 pc, .int .i64 nn] 50)) (w.heap.size + 2) 50 (ints (cP ⟨kd, pa, pb, pc, nn⟩)).toArray from blkAt (by simp))
    clear h hx hks hgB ln
    go_enter Try.func55, Try.ntmps55
    go_wp2_with fail
    refine (PB.out _).mono ?_; rintro e w4 ⟨A3, c3', rfl, s3, b3⟩
    have hz4 := b3.size
    simp only [World.size_alloc] at hz4
    have K := Lib.hid (s3.mono (show w.heap.size + 3 ≤ _ from by simp) (Nat.le_refl _))
    have HB := Lib.hid (B3.out.trans (b3.mono (by simp; omega)))
    have BX4 := Lib.hid (BX.out.below b3 BX.out.lt)
    have BR4 := Lib.hid (BR.out.below b3 BR.out.lt)
    have BP4 := Lib.hid (BP.out.below b3 BP.out.lt)
    clear s3 b3 c0 c1 c2 c3 c4 BX BR BP B2 B3
    by_cases hk0 : ks.length = 0
    · obtain ⟨h8, h2⟩ := LK.out hk0
      have e0 : w4.cell? ⟨w.heap.size + 1 + 1, 0, none⟩ = some (.int .i64 kd) := BP4.out.cell 0
      have e1 : w4.cell? ⟨w.heap.size + 1 + 1, 1, none⟩ = some (.int .i64 pa) := BP4.out.cell 1
      have e2 : w4.cell? ⟨w.heap.size + 1 + 1, 2, none⟩ = some (.int .i64 pb) := BP4.out.cell 2
      have e3 : w4.cell? ⟨w.heap.size + 1 + 1, 3, none⟩ = some (.int .i64 pc) := BP4.out.cell 3
      have e4 : w4.cell? ⟨w.heap.size + 1 + 1, 4, none⟩ = some (.int .i64 nn) := BP4.out.cell 4
      have kr := BR4.out.alloc (.cells #[.int .i64 kd, .int .i64 pa, .int .i64 pb, .int .i64 pc, .int .i64 nn] 50)
      have f1 := kr.frozen 0
      have g1 := kr.cell 0
      have E := Lib.hid ((kr.set_ 0 (.slice (some ⟨w4.heap.size, 0, none⟩) 1 1)).cell 0)
      have HF := Lib.hid (show foldG ps (m + 1) i = [⟨kd, pa, pb, pc, nn⟩] from by rw [FG.out]; unfold foldD; simp only; rw [if_neg h8, if_neg h2])
      have S9 := Lib.hid (show SlP (w4.alloc (.cells #[.int .i64 kd, .int .i64 pa, .int .i64 pb, .int .i64 pc, .int .i64 nn] 50)) w4.heap.size (w4.heap.size + 1) (some ⟨w4.heap.size, 0, none⟩) 1 [⟨kd, pa, pb, pc, nn⟩] from SlR.newAt kP rfl [⟨kd, pa, pb, pc, nn⟩] (Nat.le_refl _))
      have hkk : ks = [] := List.eq_nil_of_length_eq_zero hk0
      subst hkk
      clear kr h8 h2 hk0
      go_wp2_with fail
      have HE := E.out
      simp at HE
      refine bodyPost_ret (v := .agg #[.slice (some ⟨w4.heap.size, 0, none⟩) 1 1]) (by simp [results, Try.results55, go_sem, HE]) rfl ?_
      rw [HF.out]
      refine ⟨_, _, rfl, (S9.out.turn ((Turn.refl 0 (w.heap.size + 2) _).setCell (p := ⟨w.heap.size + 1, 0, none⟩) (Nat.zero_le _) (.inl (by simp)) _) (.inr (by omega))).mono (by omega) (by simp), ?_⟩
      exact (HB.out.alloc (by omega) _).setCell (by simp) _
    · have KD := Lib.hid (KK.out hk0)
      have SUB0 := Lib.hid (show SubI w4.heap.size (w4.alloc (.cells #[] 29)) w4.heap.size (w4.heap.size + 1) (some ⟨w4.heap.size, 0, none⟩) 0 [] from SubI.nil (Nat.le_refl _) (by simp) (by simp))
      have hkp : 0 < ks.length := by omega
      have hkn : ((ks.length : Int) == 0) = false := by rw [beq_eq_false_iff_ne]; omega
      clear hk0 LK KK
      go_wp2_with fail
      go_loopw [7, 8] (fun v j wr => ∃ (q los his : Nat) (A5 : Option Addr) (c5 : Nat) (qs : List (List Prt × Hs)), q ≤ ks.length ∧ j = .int .i64 q ∧ v = .slice A5 q c5 ∧ qs.map Prod.fst = (ks.take q).map (fun k => foldG ps m k.toNat) ∧ SubI w4.heap.size wr los his A5 c5 qs ∧ Below w4.heap.size w4 wr) (fun _ j _ => ks.length - (intOf j).toNat)
      case atStart => exact ⟨0, _, _, _, 0, [], Nat.zero_le _, rfl, rfl, by simp, SUB0.out, (Below.refl _ _).alloc (Nat.le_refl _) _⟩
      case round =>
        obtain ⟨q, los, his, A5, c5, qs, hq, rfl, rfl, hqs, hsub, hb⟩ := hrel
        have hzb := hb.size
        have QS := Lib.hid hqs
        have SUB := Lib.hid hsub
        have HBr := Lib.hid hb
        have hql : qs.length = q := by
          have := congrArg List.length hqs
          rw [List.length_map, List.length_map, List.length_take] at this
          omega
        have QL := Lib.hid hql
        clear hqs hsub hb hql SUB0
        by_cases hqk : q < ks.length
        · obtain ⟨ad, hA3, _, hc⟩ := (K.out.below HBr.out (Nat.le_refl _)).rd.at_ hqk
          subst hA3
          have kc := hc q hqk
          have bx : wr.cell? ⟨w.heap.size, 0, none⟩ = some (.slice (some ⟨g, o, none⟩) n c) := (BX4.out.below HBr.out BX4.out.lt).cell 0
          obtain ⟨hk0, hk1⟩ := HD.out _ (List.getElem_mem hqk)
          have QT := Lib.hid (show (ks.take (q + 1)).map (fun k => foldG ps m k.toNat) = (ks.take q).map (fun k => foldG ps m k.toNat) ++ [foldG ps m (ks[q]).toNat] from by rw [List.take_succ_eq_append_getElem hqk, List.map_append]; rfl)
          obtain ⟨k, hk⟩ : ∃ k, ks[q] = k := ⟨_, rfl⟩
          have HK := Lib.hid (show ∀ h : q < ks.length, ks[q] = k from fun _ => hk)
          rw [hk] at kc hk0 hk1 QT
          obtain ⟨kn, rfl⟩ := Int.eq_ofNat_of_zero_le hk0
          simp only [Int.toNat_natCast] at QT
          have hq0 : (0 : Int) ≤ (q : Int) := Int.natCast_nonneg _
          have hq1 : (q : Int) < (ks.length : Int) := by omega
          have OK := Lib.hid (OKS.out kn (by omega) (by rw [LN.out]; omega))
          have CI := Lib.hid (fun (W : World) (hw : Below wr.heap.size wr W) => IH.out kn W (by omega) (by omega) (by omega) (H.out.belowLe ((HB.out.trans (HBr.out.mono (by omega))).trans (hw.mono (by omega))) hB) (by have := hw.size; omega))
          obtain ⟨xs, hxs⟩ : ∃ xs, foldG ps m kn = xs := ⟨_, rfl⟩
          rw [hxs] at CI OK QT
          have hxl : xs.length ≤ 16777216 := by have := OK.out.2.1; omega
          have KX := Lib.hid (fun (W : World) (hw : Below w4.heap.size w4 W) => (show W.cell? ⟨w.heap.size, 0, none⟩ = some (.slice (some ⟨g, o, none⟩) n c) ∧ W.cell? (ad.add q) = some (.int .i64 (kn : Int)) from
            ⟨(BX4.out.below hw BX4.out.lt).cell 0, by
              obtain ⟨ad', hA', _, hc'⟩ := (K.out.below hw (Nat.le_refl _)).rd.at_ hqk
              injection hA' with hA'
              subst hA'
              rw [hc' q hqk, HK.out hqk]⟩))
          have HRF := Lib.hid (Below.refl wr.heap.size wr).drew
          have HR4 := Lib.hid (HBr.out.trans (HRF.out.mono hzb))
          have SUBD := Lib.hid SUB.out.drew
          clear hc hk hk0 hxs
          go_wp2_with fail
          go_region_held3 (fun w' => w'.cell? ⟨w.heap.size, 0, none⟩ = some (.slice (some ⟨g, o, none⟩) n c) ∧ w'.cell? (ad.add q) = some (.int .i64 (kn : Int)))
            (first | go_keep | exact KX.out _ hb9 | exact KX.out _ hb7 | exact KX.out _ HR4.out)
            ((first
              | (go_at_call 55; refine (CI.out _ HRF.out).mono ?_; rintro e w7 ⟨A7, c7, rfl, s7, b7⟩; have hb7 := HR4.out.trans (b7.mono HR4.out.size); have sub7 := SUBD.out.below b7)
              | (refine step_appF (.tmp 36) (.tmp 43) rfl rfl (qs.map valS) rfl (by have := (sub7.alloc (.cells #[.slice A7 xs.length c7] 29)).1; rw [QL.out] at this; exact this) rfl (Blk.new _ _ _) (by omega) ?_; intro A9 c9 lo9 hi9 w9 h9 d9 t9; have sub9 := sub7.push (hd := ⟨A7, c7, _, _⟩) s7 SUBD.out.2.2.2.1 (by exact HR4.out.size) (Nat.le_refl _) rfl (by rw [QL.out]; exact h9) d9 t9; have hb9 := Below.new ((hb7.alloc hb7.size (.cells #[.slice A7 xs.length c7] 29))) t9 sub7.2.2.1 (Nat.le_refl _))))
          have SUB9 := Lib.hid sub9
          have HB9 := Lib.hid hb9
          have QS9 := Lib.hid (show (qs ++ [(xs, (⟨A7, c7, wr.drew.heap.size, w7.heap.size⟩ : Hs))]).map Prod.fst = (ks.take (q + 1)).map (fun k => foldG ps m k.toNat) from by rw [QT.out, List.map_append, QS.out]; rfl)
          clear s7 b7 hb7 sub7 h9 d9 t9 sub9 hb9 kc bx CI KX HRF HR4 SUBD OK
          go_wp2_with fail
          go_roundw
          case rel => exact ⟨q + 1, lo9, hi9, A9, c9, _, by omega, by go_num, rfl, QS9.out, SUB9.out, HB9.out⟩
          case measure => simp [intOf]; omega
        · have hke : ks.take q = ks := List.take_of_length_le (by omega)
          have hqe : q = ks.length := by omega
          rw [hke] at QS
          have OKQ := Lib.hid (show ∀ q ∈ qs, OkG (4 ^ m) q.1 from fun q hq => by
            have h1 : q.1 ∈ qs.map Prod.fst := List.mem_map.2 ⟨q, hq, rfl⟩
            rw [QS.out] at h1
            obtain ⟨k, hk, e⟩ := List.mem_map.1 h1
            have := HD.out k hk
            rw [← e]
            exact OKS.out _ (by omega) (by rw [LN.out]; omega))
          have HK := Lib.hid (show (kd = 8 ∧ q = 3) ∨ (¬ kd = 8 ∧ (2 ≤ kd ∧ kd ≤ 7) ∧ q = 2) from by rw [hqe]; exact KD.out)
          have HF := Lib.hid (show foldG ps (m + 1) i = foldD ⟨kd, pa, pb, pc, nn⟩ (qs.map Prod.fst) from by rw [FG.out, QS.out])
          have HWW := Lib.hid (HB.out.trans (HBr.out.mono (by omega)))
          have BRr := Lib.hid (BR4.out.below HBr.out BR4.out.lt)
          have BPr := Lib.hid (BP4.out.below HBr.out BP4.out.lt)
          have hw3 : w.heap.size + 3 ≤ w4.heap.size := by omega
          have hwr3 : w.heap.size + 3 ≤ wr.heap.size := by omega
          have hM4 : 4 ^ m ≤ 16777216 := PW
          clear hke hqe
          go_upto_if 33 with fail
          go_step
          go_step
          dsimp only [Exit.then]
          go_step
          dsimp only [Exit.then]
          go_step
          go_step
          exact foldedLast QL.out hM4 OKQ.out SUB.out hw3 hwr3 BRr.out BPr.out HWW.out HF.out HK.out

set_option maxRecDepth 100000 in
set_option maxHeartbeats 1600000 in
theorem specFoldFormula {A : Option Addr} {c n B : Nat} {w : World} (ps : List Prt) (ln : ps.length = n) (hn : n ≤ 1099511627776) (h : RdP w B A ps) (hB : B ≤ w.heap.size) :
    Calls Try.prog 30 #[.agg #[.slice A n c]] w (MadeF w (foldF ps)) := by
  have B2 := Lib.hid (show Below w.heap.size w ((w.alloc (.cells #[.slice A n c] 29)).alloc (.cells #[.slice none 0 0] 29)) from bel2P w _ _)
  have K0 := Lib.hid (show Blk ((w.alloc (.cells #[.slice A n c] 29)).alloc (.cells #[.slice none 0 0] 29)) w.heap.size 29 #[.slice A n c] from (Blk.new w _ _).alloc _)
  have K1 := Lib.hid (show Blk ((w.alloc (.cells #[.slice A n c] 29)).alloc (.cells #[.slice none 0 0] 29)) (w.heap.size + 1) 29 #[.slice none 0 0] from blkAt (by simp))
  have H := Lib.hid (h.belowLe B2.out hB)
  have LN := Lib.hid ln
  clear h
  cases hv : validF ps
  case false =>
    have HV := Lib.hid hv
    have HF := Lib.hid (show foldF ps = [] from by unfold foldF; rw [hv]; rfl)
    clear hv
    go_enter Try.func30, Try.ntmps30
    go_wp2_with fail
    refine (specValid0 ps LN.out hn H.out (by simp; omega)).mono ?_; rw [HV.out]; rintro e w3 ⟨rfl, b3⟩
    have k1 := K1.out.below b3 K1.out.lt
    have f1 := k1.frozen 0
    have g1 := k1.cell 0
    have B3 := Lib.hid (B2.out.trans (b3.mono (by simp; omega)))
    have E := Lib.hid ((k1.set_ 0 (.slice none 0 0)).cell 0)
    clear b3 k1
    go_wp2_with fail
    have HE := E.out
    simp at HE
    refine bodyPost_ret (v := .agg #[.slice none 0 0]) (by simp [results, Try.results30, go_sem, HE]) rfl ?_
    rw [HF.out]
    exact MadeF.nil (B3.out.setCell (by simp) _)
  case true =>
    obtain ⟨hl1, hl2⟩ := validF_len hv
    rw [ln] at hl1 hl2
    have HD := Lib.hid (validF_desc hv)
    have HV := Lib.hid hv
    have HN := Lib.hid (valid_nn hv)
    have HF := Lib.hid (show foldF ps = foldG ps n (n - 1) from by unfold foldF; rw [hv, ln]; rfl)
    obtain ⟨n1, hn1⟩ : ∃ n1, n - 1 = n1 := ⟨_, rfl⟩
    rw [hn1] at HF
    have hw1 : IntKind.i64.wrap ((n : Int) - 1) = (n1 : Int) := by rw [show (n : Int) - 1 = (n1 : Int) by omega]; exact IntWalk.i64_in _ (by omega)
    have HN1 := Lib.hid hn1
    clear hv hn1
    go_enter Try.func30, Try.ntmps30
    go_wp2_with fail
    refine (specValid0 ps LN.out hn H.out (by simp; omega)).mono ?_; rw [HV.out]; rintro e w3 ⟨rfl, b3⟩
    have z3 := b3.size
    simp only [World.size_alloc] at z3
    have B3 := Lib.hid (B2.out.trans (b3.mono (by simp; omega)))
    have k0 := (K0.out.below b3 K0.out.lt).cell 0
    have K13 := Lib.hid (K1.out.below b3 K1.out.lt)
    have hn1n : n1 < n := by have := HN1.out; omega
    have OC := Lib.hid (specFolded (c := c) HD.out HN.out LN.out n n1 w3 hn1n hn1n hl2 (H.out.belowLe b3 (by simp; omega)) (by omega))
    clear hn1n
    clear b3
    go_wp2_with fail
    refine OC.out.mono ?_; rintro e w4 ⟨A4, c4, rfl, s4, b4⟩
    have z4 := b4.size
    have k1 := K13.out.below b4 K13.out.lt
    have f1 := k1.frozen 0
    have g1 := k1.cell 0
    have B4 := Lib.hid (B3.out.trans (b4.mono (by omega)))
    have S4 := Lib.hid s4
    have E := Lib.hid ((k1.set_ 0 (.slice A4 (foldG ps n n1).length c4)).cell 0)
    clear s4 b4 k1 k0 OC
    go_wp2_with fail
    have HE := E.out
    simp at HE
    refine bodyPost_ret (v := .agg #[.slice A4 (foldG ps n n1).length c4]) (by simp [results, Try.results30, go_sem, HE]) rfl ?_
    rw [HF.out]
    refine ⟨A4, c4, rfl, (S4.out.turn ((Turn.refl 0 (w.heap.size + 2) _).setCell (p := ⟨w.heap.size + 1, 0, none⟩) (Nat.zero_le _) (.inl (by simp)) _) (.inr (by omega))).mono (by omega) (by simp), ?_⟩
    exact B4.out.setCell (by simp) _
end Go.Proofs.Ytlinngohbghimaa
