/-
  impl.fold whole; impl.FoldFormula.
-/
import Derived.Test.YtlinngohbghimaaIFoldM
import Derived.Test.YtlinngohbghimaaRename
namespace Go.Proofs.Ytlinngohbghimaa
open Go.RowKit
set_option linter.unusedVariables false

set_option maxRecDepth 1000000 in
set_option maxHeartbeats 4000000 in
theorem ifoldMid {w W : World} {b q c5 los his M : Nat} {A5 : Option Addr} {qs : List (List Prt × Hs)} {p : Prt} {XS : List Prt} {s_0 s_1 s_2 s_3 s_7 s_8 s_9 s_10 s_11 s_12 s_13 s_14 s_15 s_16 s_17 s_18 s_19 s_20 s_21 s_22 s_23 s_24 s_25 s_26 s_27 s_28 s_29 s_30 s_31 s_32 s_33 s_34 s_35 s_36 s_37 s_38 s_39 s_40 s_41 s_42 s_43 s_44 s_45 s_46 s_47 s_48 s_49 s_50 s_51 s_52 s_53 s_54 s_55 s_56 s_57 s_58 s_59 s_60 s_61 s_62 s_63 s_64 s_65 s_66 s_67 s_68 s_69 s_70 s_71 s_72 s_73 s_74 s_75 s_76 s_77 s_78 s_79 s_80 s_81 s_82 s_83 s_84 s_85 s_86 s_87 s_88 s_89 s_90 s_91 s_92 s_93 s_94 s_95 s_96 s_97 s_98 s_99 s_100 s_101 s_102 s_103 s_104 s_105 s_106 s_107 s_108 s_109 s_110 s_111 s_112 s_113 s_114 s_115 s_116 s_117 s_118 s_119 s_120 s_121 s_122 s_123 s_124 s_125 s_126 s_127 s_128 s_129 s_130 s_131 s_132 s_133 s_134 s_135 s_136 s_137 s_138 s_139 s_140 s_141 s_142 s_143 s_144 s_145 s_146 s_147 s_148 s_149 s_150 s_151 s_152 s_153 s_154 s_155 s_156 s_157 s_158 s_159 s_160 s_161 s_162 s_163 s_164 s_165 s_166 s_167 : Value}
    (hq : qs.length = q) (hM : M ≤ 16777216) (OK : ∀ z ∈ qs, OkG M z.1) (SUB : SubI b W los his A5 c5 qs) (hb : w.heap.size + 3 ≤ b) (hwW : w.heap.size + 3 ≤ W.heap.size)
    (BR : Blk W (w.heap.size + 1) 29 #[.slice none 0 0]) (BP : Blk W (w.heap.size + 1 + 1) 50 (ints (cP p)).toArray) (HW : Below w.heap.size w W) (HF : XS = foldD p (qs.map Prod.fst))
    (hk : (p.kd = 8 ∧ q = 3) ∨ (¬ p.kd = 8 ∧ (2 ≤ p.kd ∧ p.kd ≤ 7) ∧ q = 2) ∨ (¬ p.kd = 8 ∧ ¬ (2 ≤ p.kd ∧ p.kd ≤ 7) ∧ q = 0)) :
    Code.wp Try.prog (iRest 8) (bodyPost Try.prog Try.f56 (MadeF w XS)) ⟨#[s_0, s_1, s_2, s_3, .pointer (some ⟨w.heap.size + 1, 0, none⟩), .pointer (some ⟨w.heap.size + 1 + 1, 0, none⟩), .slice A5 q c5, s_7, s_8, s_9, s_10, s_11, s_12, s_13, s_14, s_15, s_16, s_17, s_18, s_19, s_20, s_21, s_22, s_23, s_24, s_25, s_26, s_27, s_28, s_29, s_30, s_31, s_32, s_33, s_34, s_35, s_36, s_37, s_38, s_39, s_40, s_41, s_42, s_43, s_44, s_45, s_46, s_47, s_48, s_49, s_50, s_51, s_52, s_53, s_54, s_55, s_56, s_57, s_58, s_59, s_60, s_61, s_62, s_63, s_64, s_65, s_66, s_67, s_68, s_69, s_70, s_71, s_72, s_73, s_74, s_75, s_76, s_77, s_78, s_79, s_80, s_81, s_82, s_83, s_84, s_85, s_86, s_87, s_88, s_89, s_90, s_91, s_92, s_93, s_94, s_95, s_96, s_97, s_98, s_99, s_100, s_101, s_102, s_103, s_104, s_105, s_106, s_107, s_108, s_109, s_110, s_111, s_112, s_113, s_114, s_115, s_116, s_117, s_118, s_119, s_120, s_121, s_122, s_123, s_124, s_125, s_126, s_127, s_128, s_129, s_130, s_131, s_132, s_133, s_134, s_135, s_136, s_137, s_138, s_139, s_140, s_141, s_142, s_143, s_144, s_145, s_146, s_147, s_148, s_149, s_150, s_151, s_152, s_153, s_154, s_155, s_156, s_157, s_158, s_159, s_160, s_161, s_162, s_163, s_164, s_165, s_166, s_167], []⟩ W := by
  obtain ⟨kd, pa, pb, pc, nn⟩ := p
  simp only at hk
  by_cases hq0 : q = 0
  · obtain rfl : qs = [] := List.eq_nil_of_length_eq_zero (by omega)
    rcases hk with ⟨_, h⟩ | ⟨_, _, h⟩ | ⟨hk, hk2, _⟩
    · omega
    · omega
    · exact ifoldLeaf hq hM OK SUB hb hwW BR BP HW HF hk hk2
  · have hq2 : 2 ≤ qs.length := by rw [hq]; omega
    obtain ⟨q0, q1, qr, rfl⟩ : ∃ q0 q1 qr, qs = q0 :: q1 :: qr := by
      match qs, hq2 with
      | a :: b :: r, _ => exact ⟨a, b, r, rfl⟩
    obtain ⟨⟨kd0, pa0, pb0, pc0, nn0⟩, L0⟩ : ∃ z, lastP q0.1 = z := ⟨_, rfl⟩
    obtain ⟨⟨kd1, pa1, pb1, pc1, nn1⟩, L1⟩ : ∃ z, lastP q1.1 = z := ⟨_, rfl⟩
    rcases hk with ⟨hk, hq3⟩ | ⟨hk, hkd, hq2⟩ | ⟨_, _, h⟩
    · by_cases hf : kd0 = 0
      · by_cases hn : nn0 = 0
        · exact ifoldZero hq hM OK SUB hb hwW BR BP HW HF L0 L1 hk hf hn hq3
        · exact ifoldOne hq hM OK SUB hb hwW BR BP HW HF L0 L1 hk hf hn
      · exact ifoldIf hq hM OK SUB hb hwW BR BP HW HF L0 L1 hk hf hq3
    · by_cases hf : kd0 = 0
      · by_cases hs : kd1 = 0
        · by_cases hj : joinF kd nn0 nn1 ≤ 99
          · exact ifoldNum hq hM OK SUB hb hwW BR BP HW HF L0 L1 hk hkd hq2 hf hs hj
          · exact ifoldGreat hq hM OK SUB hb hwW BR BP HW HF L0 L1 hk hkd hq2 hf hs hj
        · exact ifoldSecond hq hM OK SUB hb hwW BR BP HW HF L0 L1 hk hkd hq2 hf hs
      · exact ifoldFirst hq hM OK SUB hb hwW BR BP HW HF L0 L1 hk hkd hq2 hf
    · omega

set_option maxRecDepth 100000 in
set_option maxHeartbeats 3200000 in
theorem implFold {ps : List Prt} (hd : Desc ps) (ha : ∀ i (h : i < ps.length), 0 ≤ ps[i].nn ∧ ps[i].nn ≤ 99) {A : Option Addr} {c n B : Nat} (ln : ps.length = n) (m : Nat) : ∀ (i : Nat) (w : World), i < m → i < n → m ≤ 12 → RdP w B A ps → B ≤ w.heap.size →
    Calls Try.prog 56 #[.agg #[.slice A n c], .int .i64 i] w (MadeF w (foldG ps m i)) := by
  induction m with
  | zero => intro i w hi; omega
  | succ m ih =>
    intro i w him hin hm h hB
    have hip : i < ps.length := by omega
    have IH := Lib.hid ih; clear ih
    have H := Lib.hid h
    have B2 := Lib.hid (show Below w.heap.size w ((w.alloc (.cells #[.slice A n c] 29)).alloc (.cells #[.slice none 0 0] 29)) from bel2P w _ _)
    obtain ⟨g, o, hA, hgB, c0, c1, c2, c3, c4⟩ := RdP_at (h.belowLe B2.out hB) hip
    subst hA
    have FG := Lib.hid (show foldG ps (m + 1) i = foldD ps[i] ((belowL ps[i]).map fun k => foldG ps m k.toNat) from by rw [foldG, getD_at hip])
    have HD := Lib.hid (hd i hip)
    have HNN := Lib.hid (ha i hip)
    have OKS := Lib.hid (fun (k : Nat) (hk : k < m) (hk2 : k < ps.length) => foldG_ok hd ha m k hk hk2)
    have KL := Lib.hid (belowL_len ps[i])
    have HK0 := Lib.hid (show ∀ q, q = (belowL ps[i]).length → (ps[i].kd = 8 ∧ q = 3) ∨ (¬ ps[i].kd = 8 ∧ (2 ≤ ps[i].kd ∧ ps[i].kd ≤ 7) ∧ q = 2) ∨ (¬ ps[i].kd = 8 ∧ ¬ (2 ≤ ps[i].kd ∧ ps[i].kd ≤ 7) ∧ q = 0) from fun q e => by
      by_cases h0 : (belowL ps[i]).length = 0
      · obtain ⟨l1, l2⟩ := leaf_kd h0; exact .inr (.inr ⟨l1, l2, by omega⟩)
      · rcases kids_kd h0 with ⟨l1, l2⟩ | ⟨l1, l2, l3⟩
        · exact .inl ⟨l1, by omega⟩
        · exact .inr (.inl ⟨l1, l2, by omega⟩))
    obtain ⟨x, hx⟩ : ∃ x, ps[i] = x := ⟨_, rfl⟩
    rw [hx] at c0 c1 c2 c3 c4 FG HD KL HNN HK0
    have PB := Lib.hid (fun (W : World) => partBelow (w := W) x)
    obtain ⟨ks, hks⟩ : ∃ ks, belowL x = ks := ⟨_, rfl⟩
    rw [hks] at FG HD KL PB HK0
    have hkl := KL.out
    have LN := Lib.hid ln
    obtain ⟨kd, pa, pb, pc, nn⟩ := x
    dsimp only [vP] at PB
    simp only at c0 c1 c2 c3 c4 HNN HK0
    have hi0 : (0 : Int) ≤ (i : Int) := Int.natCast_nonneg _
    have hi1 : (i : Int) < (n : Int) := by omega
    have PW := pow12 (show m ≤ 12 by omega)
    have B3 := Lib.hid (B2.out.alloc (by simp; omega) (.cells #[.int .i64 kd, .int .i64 pa, .int .i64 pb, .int .i64 pc, .int .i64 nn] 50))
    have BX := Lib.hid (((Blk.new w 29 #[.slice (some ⟨g, o, none⟩) n c]).alloc (.cells #[.slice none 0 0] 29)).alloc (.cells #[.int .i64 kd, .int .i64 pa, .int .i64 pb, .int .i64 pc, .int .i64 nn] 50))
    have BR := Lib.hid (show Blk (((w.alloc (.cells #[.slice (some ⟨g, o, none⟩) n c] 29)).alloc (.cells #[.slice none 0 0] 29)).alloc (.cells #[.int .i64 kd, .int .i64 pa, .int .i64 pb, .int .i64 pc, .int .i64 nn] 50)) (w.heap.size + 1) 29 #[.slice none 0 0] from (blkAt (by simp)).alloc _)
    have BP := Lib.hid (show Blk (((w.alloc (.cells #[.slice (some ⟨g, o, none⟩) n c] 29)).alloc (.cells #[.slice none 0 0] 29)).alloc (.cells #[.int .i64 kd, .int .i64 pa, .int .i64 pb, .int .i64 pc, .int .i64 nn] 50)) (w.heap.size + 2) 50 (ints (cP ⟨kd, pa, pb, pc, nn⟩)).toArray from blkAt (by simp))
    clear h hx hks hgB ln
    go_enter Try.func56, Try.ntmps56
    go_wp2_with fail
    refine (PB.out _).mono ?_; rintro e w4 ⟨A3, c3', rfl, s3, b3⟩
    have hz4 := b3.size
    simp only [World.size_alloc] at hz4
    have K := Lib.hid (s3.mono (show w.heap.size + 3 ≤ _ from by simp) (Nat.le_refl _))
    have HB := Lib.hid (B3.out.trans (b3.mono (by simp; omega)))
    have BX4 := Lib.hid (BX.out.below b3 BX.out.lt)
    have BR4 := Lib.hid (BR.out.below b3 BR.out.lt)
    have BP4 := Lib.hid (BP.out.below b3 BP.out.lt)
    clear s3 b3 c0 c1 c2 c3 c4 BX BR BP B2 B3
    have SUB0 := Lib.hid (show SubI w4.heap.size w4 w4.heap.size w4.heap.size none 0 [] from SubI.nil (Nat.le_refl _) (Nat.le_refl _) (Nat.le_refl _))
    have hw3 : w.heap.size + 3 ≤ w4.heap.size := by omega
    go_wp2_with fail
    go_loopw [6, 34] (fun v j wr => ∃ (q los his : Nat) (A5 : Option Addr) (c5 : Nat) (qs : List (List Prt × Hs)), q ≤ ks.length ∧ j = .int .i64 q ∧ v = .slice A5 q c5 ∧ qs.map Prod.fst = (ks.take q).map (fun k => foldG ps m k.toNat) ∧ SubI w4.heap.size wr los his A5 c5 qs ∧ Below w4.heap.size w4 wr) (fun _ j _ => ks.length - (intOf j).toNat)
    case atStart => exact ⟨0, _, _, _, 0, [], Nat.zero_le _, rfl, rfl, by simp, SUB0.out, Below.refl _ _⟩
    case round =>
      obtain ⟨q, los, his, A5, c5, qs, hq, rfl, rfl, hqs, hsub, hb⟩ := hrel
      have hzb := hb.size
      have QS := Lib.hid hqs
      have SUB := Lib.hid hsub
      have HBr := Lib.hid hb
      have hql : qs.length = q := by
        have := congrArg List.length hqs
        rw [List.length_map, List.length_map, List.length_take] at this
        omega
      have QL := Lib.hid hql
      clear hqs hsub hb hql SUB0
      by_cases hqk : q < ks.length
      · obtain ⟨ad, hA3, _, hc⟩ := (K.out.below HBr.out (Nat.le_refl _)).rd.at_ hqk
        subst hA3
        have kc := hc q hqk
        have bx : wr.cell? ⟨w.heap.size, 0, none⟩ = some (.slice (some ⟨g, o, none⟩) n c) := (BX4.out.below HBr.out BX4.out.lt).cell 0
        obtain ⟨hk0, hk1⟩ := HD.out _ (List.getElem_mem hqk)
        have QT := Lib.hid (show (ks.take (q + 1)).map (fun k => foldG ps m k.toNat) = (ks.take q).map (fun k => foldG ps m k.toNat) ++ [foldG ps m (ks[q]).toNat] from by rw [List.take_succ_eq_append_getElem hqk, List.map_append]; rfl)
        obtain ⟨k, hk⟩ : ∃ k, ks[q] = k := ⟨_, rfl⟩
        rw [hk] at kc hk0 hk1 QT
        obtain ⟨kn, rfl⟩ := Int.eq_ofNat_of_zero_le hk0
        simp only [Int.toNat_natCast] at QT
        have hq0 : (0 : Int) ≤ (q : Int) := Int.natCast_nonneg _
        have hq1 : (q : Int) < (ks.length : Int) := by omega
        have OK := Lib.hid (OKS.out kn (by omega) (by rw [LN.out]; omega))
        have CI := Lib.hid (IH.out kn wr (by omega) (by omega) (by omega) (H.out.belowLe (HB.out.trans (HBr.out.mono (by omega))) hB) (by omega))
        obtain ⟨xs, hxs⟩ : ∃ xs, foldG ps m kn = xs := ⟨_, rfl⟩
        rw [hxs] at CI OK QT
        have hxl : xs.length ≤ 16777216 := by have := OK.out.2.1; omega
        have hq13 : q ≤ 1099511627776 := by omega
        clear hc hk hk0 hxs
        go_wp2_with fail
        refine CI.out.mono ?_; rintro e w7 ⟨A7, c7, rfl, s7, b7⟩
        have SUB7 := Lib.hid (SUB.out.below b7)
        have HB7 := Lib.hid (HBr.out.trans (b7.mono hzb))
        have hz7 := b7.size
        have S7 := Lib.hid s7
        have hsl := Lib.hid (show Sl (w7.alloc (.cells #[.slice A7 xs.length c7] 29)) los his 29 1 A5 q c5 (qs.map valS) from by have := (SUB7.out.alloc (.cells #[.slice A7 xs.length c7] 29)).1; rw [QL.out] at this; exact this)
        clear b7 s7 CI kc bx
        go_wp2_with (at_builtin; refine wpList_appF (.tmp 38) (.tmp 42) rfl rfl (qs.map valS) rfl hsl.out rfl (Blk.new _ _ _) hq13 ?_; intro A9 c9 lo9 hi9 w9 h9 d9 t9)
        have SUB9 := Lib.hid (SUB7.out.push (hd := ⟨A7, c7, _, _⟩) S7.out SUB.out.2.2.2.1 hzb (Nat.le_refl _) rfl (by rw [QL.out]; exact h9) d9 t9)
        have HB9 := Lib.hid (Below.new (HB7.out.alloc (by omega) (.cells #[.slice A7 xs.length c7] 29)) t9 SUB7.out.2.2.1 (Nat.le_refl _))
        have QS9 := Lib.hid (show (qs ++ [(xs, (⟨A7, c7, wr.heap.size, w7.heap.size⟩ : Hs))]).map Prod.fst = (ks.take (q + 1)).map (fun k => foldG ps m k.toNat) from by rw [QT.out, List.map_append, QS.out]; rfl)
        clear h9 d9 t9 hsl S7 SUB7 HB7 OK
        go_wp2
        go_roundw
        case rel => exact ⟨q + 1, lo9, hi9, A9, c9, _, by omega, by go_num, rfl, QS9.out, SUB9.out, HB9.out⟩
        case measure => simp [intOf]; omega
      · have hke : ks.take q = ks := List.take_of_length_le (by omega)
        have hqe : q = ks.length := by omega
        rw [hke] at QS
        have OKQ := Lib.hid (show ∀ q ∈ qs, OkG (4 ^ m) q.1 from fun q hq => by
          have h1 : q.1 ∈ qs.map Prod.fst := List.mem_map.2 ⟨q, hq, rfl⟩
          rw [QS.out] at h1
          obtain ⟨k, hk, e⟩ := List.mem_map.1 h1
          have := HD.out k hk
          rw [← e]
          exact OKS.out _ (by omega) (by rw [LN.out]; omega))
        have HK := Lib.hid (HK0.out q hqe)
        have HF := Lib.hid (show foldG ps (m + 1) i = foldD ⟨kd, pa, pb, pc, nn⟩ (qs.map Prod.fst) from by rw [FG.out, QS.out])
        have HWW := Lib.hid (HB.out.trans (HBr.out.mono (by omega)))
        have BRr := Lib.hid (BR4.out.below HBr.out BR4.out.lt)
        have BPr := Lib.hid (BP4.out.below HBr.out BP4.out.lt)
        have hwr3 : w.heap.size + 3 ≤ wr.heap.size := by omega
        have hM4 : 4 ^ m ≤ 16777216 := PW
        clear hke hqe
        go_upto_if 35 with fail
        repeat (first | exact ifoldMid QL.out hM4 OKQ.out SUB.out hw3 hwr3 BRr.out BPr.out HWW.out HF.out HK.out | go_step | go_skip | (dsimp only [Exit.then, Exit.inBlock]))

theorem runFieldF (W : World) (A : Option Addr) (n c : Nat) : (Instr.field 29 (.agg #[.slice A n c]) 0).run Try.prog W = .ok (.slice A n c) W := by kernel_rfl
set_option maxRecDepth 100000 in
set_option maxHeartbeats 1600000 in
theorem implFoldFormula {A : Option Addr} {c n B : Nat} {w : World} (ps : List Prt) (ln : ps.length = n) (hn : n ≤ 9223372036854775807) (h : RdP w B A ps) (hB : B ≤ w.heap.size) :
    Calls Try.prog 31 #[.agg #[.slice A n c]] w (MadeF w (foldF ps)) := by
  have B2 := Lib.hid (show Below w.heap.size w ((w.alloc (.cells #[.slice A n c] 29)).alloc (.cells #[.slice none 0 0] 29)) from bel2P w _ _)
  have K0 := Lib.hid (show Blk ((w.alloc (.cells #[.slice A n c] 29)).alloc (.cells #[.slice none 0 0] 29)) w.heap.size 29 #[.slice A n c] from (Blk.new w _ _).alloc _)
  have K1 := Lib.hid (show Blk ((w.alloc (.cells #[.slice A n c] 29)).alloc (.cells #[.slice none 0 0] 29)) (w.heap.size + 1) 29 #[.slice none 0 0] from blkAt (by simp))
  have H := Lib.hid (h.belowLe B2.out hB)
  have LN := Lib.hid ln
  clear h
  cases hv : validF ps
  case false =>
    have HV := Lib.hid hv
    have HF := Lib.hid (show foldF ps = [] from by unfold foldF; rw [hv]; rfl)
    clear hv
    go_enter Try.func31, Try.ntmps31
    go_wp2_with fail
    refine (implValid ps LN.out hn H.out (by simp; omega)).mono ?_; rw [HV.out]; rintro e w3 ⟨rfl, b3⟩
    have k1 := K1.out.below b3 K1.out.lt
    have f1 := k1.frozen 0
    have g1 := k1.cell 0
    have B3 := Lib.hid (B2.out.trans (b3.mono (by simp; omega)))
    have E := Lib.hid ((k1.set_ 0 (.slice none 0 0)).cell 0)
    clear b3 k1
    go_wp2_with fail
    have HE := E.out
    simp at HE
    refine bodyPost_ret (v := .agg #[.slice none 0 0]) (by simp [results, Try.results31, go_sem, HE]) rfl ?_
    rw [HF.out]
    exact MadeF.nil (B3.out.setCell (by simp) _)
  case true =>
    obtain ⟨hl1, hl2⟩ := validF_len hv
    rw [ln] at hl1 hl2
    have HD := Lib.hid (validF_desc hv)
    have HV := Lib.hid hv
    have HN := Lib.hid (valid_nn hv)
    have HOK := Lib.hid (foldG_ok (validF_desc hv) (valid_nn hv) n (n - 1) (by omega) (by omega))
    have HF := Lib.hid (show foldF ps = foldG ps n (n - 1) from by unfold foldF; rw [hv, ln]; rfl)
    clear hv
    go_enter Try.func31, Try.ntmps31
    go_wp2_with fail
    refine (implValid ps LN.out hn H.out (by simp; omega)).mono ?_; rw [HV.out]; rintro e w3 ⟨rfl, b3⟩
    have z3 := b3.size
    simp only [World.size_alloc] at z3
    have B3 := Lib.hid (B2.out.trans (b3.mono (by simp; omega)))
    have K03 := Lib.hid (K0.out.below b3 K0.out.lt)
    have K13 := Lib.hid (K1.out.below b3 K1.out.lt)
    have H3 := Lib.hid (H.out.belowLe b3 (by simp; omega))
    have hp := pow12 hl2
    have KX := Lib.hid (fun (W : World) (hb : Below w3.heap.size w3 W) => (show W.cell? ⟨w.heap.size, 0, none⟩ = some (.slice A n c) from (K03.out.below hb K03.out.lt).cell 0))
    have LA := Lib.hid (fun (W : World) => partLast (A := A) (c := c) (w := W) hl1 (by omega))
    have PT := Lib.hid (fun (W : World) (hb : Below w3.heap.size w3 W) => implFold (c := c) HD.out HN.out LN.out n (n - 1) W (by omega) (by omega) hl2 (H3.out.belowLe hb (by omega)) (by have := hb.size; omega))
    clear b3
    obtain ⟨n1, hn1⟩ : ∃ n1, n - 1 = n1 := ⟨_, rfl⟩
    rw [hn1] at HF PT LA HOK
    clear hn1
    obtain ⟨xs, hxs⟩ : ∃ xs, foldG ps n n1 = xs := ⟨_, rfl⟩
    rw [hxs] at HF PT HOK
    have hxl : xs.length ≤ 1099511627776 := by have := HOK.out.2.1; omega
    clear hxs
    have hRF := (Below.refl w3.heap.size w3).drew
    have k0 := K03.out.cell 0
    have hfd := runFieldF
    go_wp2_with fail
    go_region_held3 (fun w' => w'.cell? ⟨w.heap.size, 0, none⟩ = some (.slice A n c))
      (first | go_keep | exact KX.out _ hb9 | exact KX.out _ hb8 | exact KX.out _ hb7 | exact KX.out _ hRF)
      ((first
        | (go_at_call 41; refine (LA.out _).mono ?_; rintro e w7 ⟨rfl, b7⟩; have hb7 := hRF.trans (b7.mono hRF.size))
        | (go_at_call 56; refine (PT.out _ hb7).mono ?_; rintro e w8 ⟨A4, c4, rfl, s4, b8⟩; have hb8 := hb7.trans (b8.mono hb7.size))
        | (go_at_call 54; refine (cloneP (c := c4) xs rfl hxl s4.rd (Nat.le_refl _)).mono ?_; rintro e w9 ⟨A5, c5, rfl, s5, b9⟩; have hb9 := hb8.trans (b9.mono hb8.size); have k1 := K13.out.below hb9 K13.out.lt; have f1 := k1.frozen 0; have g1 := k1.cell 0)))
    have z7 := hb7.size
    have z8 := hb8.size
    have z9 := hb9.size
    have B8 := Lib.hid (B3.out.trans (hb9.mono (by omega)))
    have S5 := Lib.hid s5
    have E := Lib.hid ((k1.set_ 0 (.slice A5 xs.length c5)).cell 0)
    clear s4 b8 hb8 s5 b7 hb7 b9 hb9 hRF k0 k1 f1 g1 hp hfd
    go_wp2_with fail
    have HE := E.out
    simp at HE
    refine bodyPost_ret (v := .agg #[.slice A5 xs.length c5]) (by simp [results, Try.results31, go_sem, HE]) rfl ?_
    rw [HF.out]
    refine ⟨A5, c5, rfl, (S5.out.turn ((Turn.refl 0 (w.heap.size + 2) _).setCell (p := ⟨w.heap.size + 1, 0, none⟩) (Nat.zero_le _) (.inl (by simp)) _) (.inr (by omega))).mono (by omega) (by simp), ?_⟩
    exact B8.out.setCell (by simp) _
end Go.Proofs.Ytlinngohbghimaa
