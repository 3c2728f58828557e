/-
  impl.fold behind its first loop: what is handed back.
-/
import Derived.Test.YtlinngohbghimaaIFold
namespace Go.Proofs.Ytlinngohbghimaa
open Go.RowKit
set_option linter.unusedVariables false

set_option maxRecDepth 1000000 in
set_option maxHeartbeats 4000000 in
theorem ifoldZero {w W : World} {b q c5 los his M : Nat} {A5 : Option Addr} {q0 q1 : List Prt × Hs} {qr : List (List Prt × Hs)} {kd0 pa0 pb0 pc0 nn0 kd1 pa1 pb1 pc1 nn1 : Int} {kd pa pb pc nn : Int} {XS : List Prt} {s_0 s_1 s_2 s_3 s_7 s_8 s_9 s_10 s_11 s_12 s_13 s_14 s_15 s_16 s_17 s_18 s_19 s_20 s_21 s_22 s_23 s_24 s_25 s_26 s_27 s_28 s_29 s_30 s_31 s_32 s_33 s_34 s_35 s_36 s_37 s_38 s_39 s_40 s_41 s_42 s_43 s_44 s_45 s_46 s_47 s_48 s_49 s_50 s_51 s_52 s_53 s_54 s_55 s_56 s_57 s_58 s_59 s_60 s_61 s_62 s_63 s_64 s_65 s_66 s_67 s_68 s_69 s_70 s_71 s_72 s_73 s_74 s_75 s_76 s_77 s_78 s_79 s_80 s_81 s_82 s_83 s_84 s_85 s_86 s_87 s_88 s_89 s_90 s_91 s_92 s_93 s_94 s_95 s_96 s_97 s_98 s_99 s_100 s_101 s_102 s_103 s_104 s_105 s_106 s_107 s_108 s_109 s_110 s_111 s_112 s_113 s_114 s_115 s_116 s_117 s_118 s_119 s_120 s_121 s_122 s_123 s_124 s_125 s_126 s_127 s_128 s_129 s_130 s_131 s_132 s_133 s_134 s_135 s_136 s_137 s_138 s_139 s_140 s_141 s_142 s_143 s_144 s_145 s_146 s_147 s_148 s_149 s_150 s_151 s_152 s_153 s_154 s_155 s_156 s_157 s_158 s_159 s_160 s_161 s_162 s_163 s_164 s_165 s_166 s_167 : Value}
    (hq : (q0 :: q1 :: qr).length = q) (hM : M ≤ 16777216) (OK : ∀ z ∈ (q0 :: q1 :: qr), OkG M z.1) (SUB : SubI b W los his A5 c5 (q0 :: q1 :: qr)) (hb : w.heap.size + 3 ≤ b) (hwW : w.heap.size + 3 ≤ W.heap.size)
    (BR : Blk W (w.heap.size + 1) 29 #[.slice none 0 0]) (BP : Blk W (w.heap.size + 1 + 1) 50 (ints (cP ⟨kd, pa, pb, pc, nn⟩)).toArray)
    (HW : Below w.heap.size w W) (HF : XS = foldD ⟨kd, pa, pb, pc, nn⟩ (q0.1 :: q1.1 :: qr.map Prod.fst)) (L0 : lastP q0.1 = ⟨kd0, pa0, pb0, pc0, nn0⟩) (L1 : lastP q1.1 = ⟨kd1, pa1, pb1, pc1, nn1⟩)
    (hk : kd = 8) (hf : kd0 = 0) (hn : nn0 = 0) (hq3 : q = 3) :
    Code.wp Try.prog (iRest 8) (bodyPost Try.prog Try.f56 (MadeF w XS)) ⟨#[s_0, s_1, s_2, s_3, .pointer (some ⟨w.heap.size + 1, 0, none⟩), .pointer (some ⟨w.heap.size + 1 + 1, 0, none⟩), .slice A5 q c5, s_7, s_8, s_9, s_10, s_11, s_12, s_13, s_14, s_15, s_16, s_17, s_18, s_19, s_20, s_21, s_22, s_23, s_24, s_25, s_26, s_27, s_28, s_29, s_30, s_31, s_32, s_33, s_34, s_35, s_36, s_37, s_38, s_39, s_40, s_41, s_42, s_43, s_44, s_45, s_46, s_47, s_48, s_49, s_50, s_51, s_52, s_53, s_54, s_55, s_56, s_57, s_58, s_59, s_60, s_61, s_62, s_63, s_64, s_65, s_66, s_67, s_68, s_69, s_70, s_71, s_72, s_73, s_74, s_75, s_76, s_77, s_78, s_79, s_80, s_81, s_82, s_83, s_84, s_85, s_86, s_87, s_88, s_89, s_90, s_91, s_92, s_93, s_94, s_95, s_96, s_97, s_98, s_99, s_100, s_101, s_102, s_103, s_104, s_105, s_106, s_107, s_108, s_109, s_110, s_111, s_112, s_113, s_114, s_115, s_116, s_117, s_118, s_119, s_120, s_121, s_122, s_123, s_124, s_125, s_126, s_127, s_128, s_129, s_130, s_131, s_132, s_133, s_134, s_135, s_136, s_137, s_138, s_139, s_140, s_141, s_142, s_143, s_144, s_145, s_146, s_147, s_148, s_149, s_150, s_151, s_152, s_153, s_154, s_155, s_156, s_157, s_158, s_159, s_160, s_161, s_162, s_163, s_164, s_165, s_166, s_167], []⟩ W := by
  obtain ⟨q2, rfl⟩ : ∃ z, qr = [z] := List.length_eq_one_iff.1 (by rw [← hq] at hq3; simpa using hq3)
  obtain ⟨y, hd⟩ := q2
  have HF2 := Lib.hid (show XS = y from by rw [HF, foldD_if hk, L0, if_pos hf, if_pos hn]; rfl)
  have HI := Lib.hid (show (q0 :: q1 :: [(y, hd)])[2]? = some (y, hd) from rfl)
  have hq2 : (2 : Int) < (q : Int) := by omega
  have ok0 := OK q0 (by simp)
  have NC0 := Lib.hid (fun (W' : World) (hb : Below W.heap.size W W') => (show Calls Try.prog 74 #[.agg #[.slice q0.2.A q0.1.length q0.2.c]] W' (fun e w' => e = .returned (.tuple #[.int .i64 0, .bool true]) ∧ Below W'.heap.size W' w') from by
    obtain ⟨_, _, _, _, _, si, _, ti⟩ := (SUB.below hb).hdr (i := 0) (q := q0) rfl
    have := foldNum (c := q0.2.c) (w := W') q0.1 rfl ok0.1 (by have := ok0.2.1; omega) si.rd ti
    rw [L0] at this
    simpa [hf, hn] using this))
  obtain ⟨g5, o5, hA5, _, x0, _, _, _⟩ := SUB.hdr (i := 0) (q := q0) rfl
  subst hA5
  simp only [Nat.add_zero] at x0
  have hg5w : g5 < W.heap.size := World.block_lt_of_cell? W ⟨g5, o5, none⟩ x0
  have hq20 : (0 : Int) < (q : Int) := by rw [← hq, List.length_cons, List.length_cons]; omega
  have hq21 : (1 : Int) < (q : Int) := by rw [← hq, List.length_cons, List.length_cons]; omega
  subst hk
  have p0 : W.cell? ⟨w.heap.size + 1 + 1, 0, none⟩ = some (.int .i64 8) := BP.cell 0
  have p1 : W.cell? ⟨w.heap.size + 1 + 1, 1, none⟩ = some (.int .i64 pa) := BP.cell 1
  have p2 : W.cell? ⟨w.heap.size + 1 + 1, 2, none⟩ = some (.int .i64 pb) := BP.cell 2
  have p3 : W.cell? ⟨w.heap.size + 1 + 1, 3, none⟩ = some (.int .i64 pc) := BP.cell 3
  have p4 : W.cell? ⟨w.heap.size + 1 + 1, 4, none⟩ = some (.int .i64 nn) := BP.cell 4
  have HS := Lib.hid SUB; have HBR := Lib.hid BR; have HBP := Lib.hid BP; have HHW := Lib.hid HW; have HOK := Lib.hid OK; have QL := Lib.hid hq
  clear SUB BR BP HW OK hq HF L0 L1 ok0 hq3
  have HBW := Lib.hid (Below.refl W.heap.size W)
  conv => arg 2; whnf
  go_wp2_with fail
  refine (NC0.out _ HBW.out).mono ?_; rintro e W2 ⟨rfl, b_W2⟩
  have HBW2 := Lib.hid (HBW.out.trans (b_W2.mono HBW.out.size))
  have HS := Lib.hid (HS.out.below b_W2); have HBR := Lib.hid (HBR.out.below b_W2 HBR.out.lt); have HBP := Lib.hid (HBP.out.below b_W2 HBP.out.lt); have HHW := Lib.hid (HHW.out.trans (b_W2.mono (by omega)))
  have hz_W2 := b_W2.size
  clear b_W2 NC0 x0 p0 p1 p2 p3 p4
  have fr := HBR.out.frozen 0; have gr := HBR.out.cell 0
  obtain ⟨gi, oi, hAi, _, xi, si, li, ti⟩ := HS.out.hdr (i := 2) (q := (y, hd)) HI.out
  simp only [Option.some.injEq, Addr.mk.injEq, and_true] at hAi
  obtain ⟨rfl, rfl⟩ := hAi
  obtain ⟨A, c, lo, hi⟩ := hd
  simp only at xi si li ti
  have E := Lib.hid ((HBR.out.set_ 0 (.slice A y.length c)).cell 0)
  have SI := Lib.hid si
  clear si HS HBR HBP HOK QL
  go_wp2_with fail
  have HE := E.out
  simp at HE
  refine bodyPost_ret (v := .agg #[.slice A y.length c]) (by simp [results, Try.results56, go_sem, HE]) rfl ?_
  rw [HF2.out]
  exact ⟨A, c, rfl, (SI.out.turn ((Turn.refl 0 (w.heap.size + 2) _).setCell (p := ⟨w.heap.size + 1, 0, none⟩) (Nat.zero_le _) (.inl (by simp)) _) (.inr (by omega))).mono (by omega) (by simp; omega), HHW.out.setCell (by simp) _⟩
  
set_option maxRecDepth 1000000 in
set_option maxHeartbeats 4000000 in
theorem ifoldOne {w W : World} {b q c5 los his M : Nat} {A5 : Option Addr} {q0 q1 : List Prt × Hs} {qr : List (List Prt × Hs)} {kd0 pa0 pb0 pc0 nn0 kd1 pa1 pb1 pc1 nn1 : Int} {kd pa pb pc nn : Int} {XS : List Prt} {s_0 s_1 s_2 s_3 s_7 s_8 s_9 s_10 s_11 s_12 s_13 s_14 s_15 s_16 s_17 s_18 s_19 s_20 s_21 s_22 s_23 s_24 s_25 s_26 s_27 s_28 s_29 s_30 s_31 s_32 s_33 s_34 s_35 s_36 s_37 s_38 s_39 s_40 s_41 s_42 s_43 s_44 s_45 s_46 s_47 s_48 s_49 s_50 s_51 s_52 s_53 s_54 s_55 s_56 s_57 s_58 s_59 s_60 s_61 s_62 s_63 s_64 s_65 s_66 s_67 s_68 s_69 s_70 s_71 s_72 s_73 s_74 s_75 s_76 s_77 s_78 s_79 s_80 s_81 s_82 s_83 s_84 s_85 s_86 s_87 s_88 s_89 s_90 s_91 s_92 s_93 s_94 s_95 s_96 s_97 s_98 s_99 s_100 s_101 s_102 s_103 s_104 s_105 s_106 s_107 s_108 s_109 s_110 s_111 s_112 s_113 s_114 s_115 s_116 s_117 s_118 s_119 s_120 s_121 s_122 s_123 s_124 s_125 s_126 s_127 s_128 s_129 s_130 s_131 s_132 s_133 s_134 s_135 s_136 s_137 s_138 s_139 s_140 s_141 s_142 s_143 s_144 s_145 s_146 s_147 s_148 s_149 s_150 s_151 s_152 s_153 s_154 s_155 s_156 s_157 s_158 s_159 s_160 s_161 s_162 s_163 s_164 s_165 s_166 s_167 : Value}
    (hq : (q0 :: q1 :: qr).length = q) (hM : M ≤ 16777216) (OK : ∀ z ∈ (q0 :: q1 :: qr), OkG M z.1) (SUB : SubI b W los his A5 c5 (q0 :: q1 :: qr)) (hb : w.heap.size + 3 ≤ b) (hwW : w.heap.size + 3 ≤ W.heap.size)
    (BR : Blk W (w.heap.size + 1) 29 #[.slice none 0 0]) (BP : Blk W (w.heap.size + 1 + 1) 50 (ints (cP ⟨kd, pa, pb, pc, nn⟩)).toArray)
    (HW : Below w.heap.size w W) (HF : XS = foldD ⟨kd, pa, pb, pc, nn⟩ (q0.1 :: q1.1 :: qr.map Prod.fst)) (L0 : lastP q0.1 = ⟨kd0, pa0, pb0, pc0, nn0⟩) (L1 : lastP q1.1 = ⟨kd1, pa1, pb1, pc1, nn1⟩)
    (hk : kd = 8) (hf : kd0 = 0) (hn : nn0 ≠ 0) :
    Code.wp Try.prog (iRest 8) (bodyPost Try.prog Try.f56 (MadeF w XS)) ⟨#[s_0, s_1, s_2, s_3, .pointer (some ⟨w.heap.size + 1, 0, none⟩), .pointer (some ⟨w.heap.size + 1 + 1, 0, none⟩), .slice A5 q c5, s_7, s_8, s_9, s_10, s_11, s_12, s_13, s_14, s_15, s_16, s_17, s_18, s_19, s_20, s_21, s_22, s_23, s_24, s_25, s_26, s_27, s_28, s_29, s_30, s_31, s_32, s_33, s_34, s_35, s_36, s_37, s_38, s_39, s_40, s_41, s_42, s_43, s_44, s_45, s_46, s_47, s_48, s_49, s_50, s_51, s_52, s_53, s_54, s_55, s_56, s_57, s_58, s_59, s_60, s_61, s_62, s_63, s_64, s_65, s_66, s_67, s_68, s_69, s_70, s_71, s_72, s_73, s_74, s_75, s_76, s_77, s_78, s_79, s_80, s_81, s_82, s_83, s_84, s_85, s_86, s_87, s_88, s_89, s_90, s_91, s_92, s_93, s_94, s_95, s_96, s_97, s_98, s_99, s_100, s_101, s_102, s_103, s_104, s_105, s_106, s_107, s_108, s_109, s_110, s_111, s_112, s_113, s_114, s_115, s_116, s_117, s_118, s_119, s_120, s_121, s_122, s_123, s_124, s_125, s_126, s_127, s_128, s_129, s_130, s_131, s_132, s_133, s_134, s_135, s_136, s_137, s_138, s_139, s_140, s_141, s_142, s_143, s_144, s_145, s_146, s_147, s_148, s_149, s_150, s_151, s_152, s_153, s_154, s_155, s_156, s_157, s_158, s_159, s_160, s_161, s_162, s_163, s_164, s_165, s_166, s_167], []⟩ W := by
  obtain ⟨y, hd⟩ := q1
  have HF2 := Lib.hid (show XS = y from by rw [HF, foldD_if hk, L0, if_pos hf, if_neg hn])
  have HI := Lib.hid (show (q0 :: (y, hd) :: qr)[1]? = some (y, hd) from rfl)
  have hnb : (nn0 != 0) = true := by simp [hn]
  have ok0 := OK q0 (by simp)
  have NC0 := Lib.hid (fun (W' : World) (hb : Below W.heap.size W W') => (show Calls Try.prog 74 #[.agg #[.slice q0.2.A q0.1.length q0.2.c]] W' (fun e w' => e = .returned (.tuple #[.int .i64 nn0, .bool true]) ∧ Below W'.heap.size W' w') from by
    obtain ⟨_, _, _, _, _, si, _, ti⟩ := (SUB.below hb).hdr (i := 0) (q := q0) rfl
    have := foldNum (c := q0.2.c) (w := W') q0.1 rfl ok0.1 (by have := ok0.2.1; omega) si.rd ti
    rw [L0] at this
    simpa [hf] using this))
  obtain ⟨g5, o5, hA5, _, x0, _, _, _⟩ := SUB.hdr (i := 0) (q := q0) rfl
  subst hA5
  simp only [Nat.add_zero] at x0
  have hg5w : g5 < W.heap.size := World.block_lt_of_cell? W ⟨g5, o5, none⟩ x0
  have hq20 : (0 : Int) < (q : Int) := by rw [← hq, List.length_cons, List.length_cons]; omega
  have hq21 : (1 : Int) < (q : Int) := by rw [← hq, List.length_cons, List.length_cons]; omega
  subst hk
  have p0 : W.cell? ⟨w.heap.size + 1 + 1, 0, none⟩ = some (.int .i64 8) := BP.cell 0
  have p1 : W.cell? ⟨w.heap.size + 1 + 1, 1, none⟩ = some (.int .i64 pa) := BP.cell 1
  have p2 : W.cell? ⟨w.heap.size + 1 + 1, 2, none⟩ = some (.int .i64 pb) := BP.cell 2
  have p3 : W.cell? ⟨w.heap.size + 1 + 1, 3, none⟩ = some (.int .i64 pc) := BP.cell 3
  have p4 : W.cell? ⟨w.heap.size + 1 + 1, 4, none⟩ = some (.int .i64 nn) := BP.cell 4
  have HS := Lib.hid SUB; have HBR := Lib.hid BR; have HBP := Lib.hid BP; have HHW := Lib.hid HW; have HOK := Lib.hid OK; have QL := Lib.hid hq
  clear SUB BR BP HW OK hq HF L0 L1 ok0 hn
  have HBW := Lib.hid (Below.refl W.heap.size W)
  conv => arg 2; whnf
  go_wp2_with fail
  refine (NC0.out _ HBW.out).mono ?_; rintro e W2 ⟨rfl, b_W2⟩
  have HBW2 := Lib.hid (HBW.out.trans (b_W2.mono HBW.out.size))
  have HS := Lib.hid (HS.out.below b_W2); have HBR := Lib.hid (HBR.out.below b_W2 HBR.out.lt); have HBP := Lib.hid (HBP.out.below b_W2 HBP.out.lt); have HHW := Lib.hid (HHW.out.trans (b_W2.mono (by omega)))
  have hz_W2 := b_W2.size
  clear b_W2 NC0 x0 p0 p1 p2 p3 p4
  have fr := HBR.out.frozen 0; have gr := HBR.out.cell 0
  obtain ⟨gi, oi, hAi, _, xi, si, li, ti⟩ := HS.out.hdr (i := 1) (q := (y, hd)) HI.out
  simp only [Option.some.injEq, Addr.mk.injEq, and_true] at hAi
  obtain ⟨rfl, rfl⟩ := hAi
  obtain ⟨A, c, lo, hi⟩ := hd
  simp only at xi si li ti
  have E := Lib.hid ((HBR.out.set_ 0 (.slice A y.length c)).cell 0)
  have SI := Lib.hid si
  clear si HS HBR HBP HOK QL
  go_wp2_with fail
  have HE := E.out
  simp at HE
  refine bodyPost_ret (v := .agg #[.slice A y.length c]) (by simp [results, Try.results56, go_sem, HE]) rfl ?_
  rw [HF2.out]
  exact ⟨A, c, rfl, (SI.out.turn ((Turn.refl 0 (w.heap.size + 2) _).setCell (p := ⟨w.heap.size + 1, 0, none⟩) (Nat.zero_le _) (.inl (by simp)) _) (.inr (by omega))).mono (by omega) (by simp; omega), HHW.out.setCell (by simp) _⟩
  
set_option maxRecDepth 1000000 in
set_option maxHeartbeats 4000000 in
theorem ifoldIf {w W : World} {b q c5 los his M : Nat} {A5 : Option Addr} {q0 q1 : List Prt × Hs} {qr : List (List Prt × Hs)} {kd0 pa0 pb0 pc0 nn0 kd1 pa1 pb1 pc1 nn1 : Int} {kd pa pb pc nn : Int} {XS : List Prt} {s_0 s_1 s_2 s_3 s_7 s_8 s_9 s_10 s_11 s_12 s_13 s_14 s_15 s_16 s_17 s_18 s_19 s_20 s_21 s_22 s_23 s_24 s_25 s_26 s_27 s_28 s_29 s_30 s_31 s_32 s_33 s_34 s_35 s_36 s_37 s_38 s_39 s_40 s_41 s_42 s_43 s_44 s_45 s_46 s_47 s_48 s_49 s_50 s_51 s_52 s_53 s_54 s_55 s_56 s_57 s_58 s_59 s_60 s_61 s_62 s_63 s_64 s_65 s_66 s_67 s_68 s_69 s_70 s_71 s_72 s_73 s_74 s_75 s_76 s_77 s_78 s_79 s_80 s_81 s_82 s_83 s_84 s_85 s_86 s_87 s_88 s_89 s_90 s_91 s_92 s_93 s_94 s_95 s_96 s_97 s_98 s_99 s_100 s_101 s_102 s_103 s_104 s_105 s_106 s_107 s_108 s_109 s_110 s_111 s_112 s_113 s_114 s_115 s_116 s_117 s_118 s_119 s_120 s_121 s_122 s_123 s_124 s_125 s_126 s_127 s_128 s_129 s_130 s_131 s_132 s_133 s_134 s_135 s_136 s_137 s_138 s_139 s_140 s_141 s_142 s_143 s_144 s_145 s_146 s_147 s_148 s_149 s_150 s_151 s_152 s_153 s_154 s_155 s_156 s_157 s_158 s_159 s_160 s_161 s_162 s_163 s_164 s_165 s_166 s_167 : Value}
    (hq : (q0 :: q1 :: qr).length = q) (hM : M ≤ 16777216) (OK : ∀ z ∈ (q0 :: q1 :: qr), OkG M z.1) (SUB : SubI b W los his A5 c5 (q0 :: q1 :: qr)) (hb : w.heap.size + 3 ≤ b) (hwW : w.heap.size + 3 ≤ W.heap.size)
    (BR : Blk W (w.heap.size + 1) 29 #[.slice none 0 0]) (BP : Blk W (w.heap.size + 1 + 1) 50 (ints (cP ⟨kd, pa, pb, pc, nn⟩)).toArray)
    (HW : Below w.heap.size w W) (HF : XS = foldD ⟨kd, pa, pb, pc, nn⟩ (q0.1 :: q1.1 :: qr.map Prod.fst)) (L0 : lastP q0.1 = ⟨kd0, pa0, pb0, pc0, nn0⟩) (L1 : lastP q1.1 = ⟨kd1, pa1, pb1, pc1, nn1⟩)
    (hk : kd = 8) (hf : kd0 ≠ 0) (hq3 : q = 3) :
    Code.wp Try.prog (iRest 8) (bodyPost Try.prog Try.f56 (MadeF w XS)) ⟨#[s_0, s_1, s_2, s_3, .pointer (some ⟨w.heap.size + 1, 0, none⟩), .pointer (some ⟨w.heap.size + 1 + 1, 0, none⟩), .slice A5 q c5, s_7, s_8, s_9, s_10, s_11, s_12, s_13, s_14, s_15, s_16, s_17, s_18, s_19, s_20, s_21, s_22, s_23, s_24, s_25, s_26, s_27, s_28, s_29, s_30, s_31, s_32, s_33, s_34, s_35, s_36, s_37, s_38, s_39, s_40, s_41, s_42, s_43, s_44, s_45, s_46, s_47, s_48, s_49, s_50, s_51, s_52, s_53, s_54, s_55, s_56, s_57, s_58, s_59, s_60, s_61, s_62, s_63, s_64, s_65, s_66, s_67, s_68, s_69, s_70, s_71, s_72, s_73, s_74, s_75, s_76, s_77, s_78, s_79, s_80, s_81, s_82, s_83, s_84, s_85, s_86, s_87, s_88, s_89, s_90, s_91, s_92, s_93, s_94, s_95, s_96, s_97, s_98, s_99, s_100, s_101, s_102, s_103, s_104, s_105, s_106, s_107, s_108, s_109, s_110, s_111, s_112, s_113, s_114, s_115, s_116, s_117, s_118, s_119, s_120, s_121, s_122, s_123, s_124, s_125, s_126, s_127, s_128, s_129, s_130, s_131, s_132, s_133, s_134, s_135, s_136, s_137, s_138, s_139, s_140, s_141, s_142, s_143, s_144, s_145, s_146, s_147, s_148, s_149, s_150, s_151, s_152, s_153, s_154, s_155, s_156, s_157, s_158, s_159, s_160, s_161, s_162, s_163, s_164, s_165, s_166, s_167], []⟩ W := by
  have HG : XS = gluedP ⟨kd, pa, pb, pc, nn⟩ (q0.1 :: q1.1 :: qr.map Prod.fst) := by rw [HF, foldD_if hk, L0, if_neg hf]
  have HTL := Lib.hid HG
  have ok0 := OK q0 (by simp)
  have NC0 := Lib.hid (fun (W' : World) (hb : Below W.heap.size W W') => (show Calls Try.prog 74 #[.agg #[.slice q0.2.A q0.1.length q0.2.c]] W' (fun e w' => e = .returned (.tuple #[.int .i64 nn0, .bool false]) ∧ Below W'.heap.size W' w') from by
    obtain ⟨_, _, _, _, _, si, _, ti⟩ := (SUB.below hb).hdr (i := 0) (q := q0) rfl
    have := foldNum (c := q0.2.c) (w := W') q0.1 rfl ok0.1 (by have := ok0.2.1; omega) si.rd ti
    rw [L0] at this
    simpa [hf] using this))
  obtain ⟨g5, o5, hA5, _, x0, _, _, _⟩ := SUB.hdr (i := 0) (q := q0) rfl
  subst hA5
  simp only [Nat.add_zero] at x0
  have hg5w : g5 < W.heap.size := World.block_lt_of_cell? W ⟨g5, o5, none⟩ x0
  have hq20 : (0 : Int) < (q : Int) := by rw [← hq, List.length_cons, List.length_cons]; omega
  have hq21 : (1 : Int) < (q : Int) := by rw [← hq, List.length_cons, List.length_cons]; omega
  have Q3 := Lib.hid (show q ≤ 3 by omega)
  have hkb : (kd == 8) = true := by simp [hk]
  have p0 : W.cell? ⟨w.heap.size + 1 + 1, 0, none⟩ = some (.int .i64 kd) := BP.cell 0
  have p1 : W.cell? ⟨w.heap.size + 1 + 1, 1, none⟩ = some (.int .i64 pa) := BP.cell 1
  have p2 : W.cell? ⟨w.heap.size + 1 + 1, 2, none⟩ = some (.int .i64 pb) := BP.cell 2
  have p3 : W.cell? ⟨w.heap.size + 1 + 1, 3, none⟩ = some (.int .i64 pc) := BP.cell 3
  have p4 : W.cell? ⟨w.heap.size + 1 + 1, 4, none⟩ = some (.int .i64 nn) := BP.cell 4
  have HS := Lib.hid SUB; have HBR := Lib.hid BR; have HBP := Lib.hid BP; have HHW := Lib.hid HW; have HOK := Lib.hid OK; have QL := Lib.hid hq
  clear SUB BR BP HW OK hq HF L0 L1 ok0 hq3 hk hf HG
  have HBW := Lib.hid (Below.refl W.heap.size W)
  conv => arg 2; whnf
  go_wp2_with fail
  refine (NC0.out _ HBW.out).mono ?_; rintro e W2 ⟨rfl, b_W2⟩
  have HBW2 := Lib.hid (HBW.out.trans (b_W2.mono HBW.out.size))
  have HS := Lib.hid (HS.out.below b_W2); have HBR := Lib.hid (HBR.out.below b_W2 HBR.out.lt); have HBP := Lib.hid (HBP.out.below b_W2 HBP.out.lt); have HHW := Lib.hid (HHW.out.trans (b_W2.mono (by omega)))
  have hz_W2 := b_W2.size
  clear b_W2 NC0 x0 p0 p1 p2 p3 p4
  go_upto_if 57 with fail
  repeat (first | exact foldTail QL.out Q3.out hM rfl HOK.out HS.out hb (by omega) HBR.out HBP.out HHW.out HTL.out | go_step | go_skip | (dsimp only [Exit.then, Exit.inBlock]))
  
set_option maxRecDepth 1000000 in
set_option maxHeartbeats 4000000 in
theorem ifoldLeaf {w W : World} {b q c5 los his M : Nat} {A5 : Option Addr} {kd pa pb pc nn : Int} {XS : List Prt} {s_0 s_1 s_2 s_3 s_7 s_8 s_9 s_10 s_11 s_12 s_13 s_14 s_15 s_16 s_17 s_18 s_19 s_20 s_21 s_22 s_23 s_24 s_25 s_26 s_27 s_28 s_29 s_30 s_31 s_32 s_33 s_34 s_35 s_36 s_37 s_38 s_39 s_40 s_41 s_42 s_43 s_44 s_45 s_46 s_47 s_48 s_49 s_50 s_51 s_52 s_53 s_54 s_55 s_56 s_57 s_58 s_59 s_60 s_61 s_62 s_63 s_64 s_65 s_66 s_67 s_68 s_69 s_70 s_71 s_72 s_73 s_74 s_75 s_76 s_77 s_78 s_79 s_80 s_81 s_82 s_83 s_84 s_85 s_86 s_87 s_88 s_89 s_90 s_91 s_92 s_93 s_94 s_95 s_96 s_97 s_98 s_99 s_100 s_101 s_102 s_103 s_104 s_105 s_106 s_107 s_108 s_109 s_110 s_111 s_112 s_113 s_114 s_115 s_116 s_117 s_118 s_119 s_120 s_121 s_122 s_123 s_124 s_125 s_126 s_127 s_128 s_129 s_130 s_131 s_132 s_133 s_134 s_135 s_136 s_137 s_138 s_139 s_140 s_141 s_142 s_143 s_144 s_145 s_146 s_147 s_148 s_149 s_150 s_151 s_152 s_153 s_154 s_155 s_156 s_157 s_158 s_159 s_160 s_161 s_162 s_163 s_164 s_165 s_166 s_167 : Value}
    (hq : ([] : List (List Prt × Hs)).length = q) (hM : M ≤ 16777216) (OK : ∀ z ∈ ([] : List (List Prt × Hs)), OkG M z.1) (SUB : SubI b W los his A5 c5 ([] : List (List Prt × Hs))) (hb : w.heap.size + 3 ≤ b) (hwW : w.heap.size + 3 ≤ W.heap.size)
    (BR : Blk W (w.heap.size + 1) 29 #[.slice none 0 0]) (BP : Blk W (w.heap.size + 1 + 1) 50 (ints (cP ⟨kd, pa, pb, pc, nn⟩)).toArray)
    (HW : Below w.heap.size w W) (HF : XS = foldD ⟨kd, pa, pb, pc, nn⟩ [])
    (hk : kd ≠ 8) (hk2 : ¬ (2 ≤ kd ∧ kd ≤ 7)) :
    Code.wp Try.prog (iRest 8) (bodyPost Try.prog Try.f56 (MadeF w XS)) ⟨#[s_0, s_1, s_2, s_3, .pointer (some ⟨w.heap.size + 1, 0, none⟩), .pointer (some ⟨w.heap.size + 1 + 1, 0, none⟩), .slice A5 q c5, s_7, s_8, s_9, s_10, s_11, s_12, s_13, s_14, s_15, s_16, s_17, s_18, s_19, s_20, s_21, s_22, s_23, s_24, s_25, s_26, s_27, s_28, s_29, s_30, s_31, s_32, s_33, s_34, s_35, s_36, s_37, s_38, s_39, s_40, s_41, s_42, s_43, s_44, s_45, s_46, s_47, s_48, s_49, s_50, s_51, s_52, s_53, s_54, s_55, s_56, s_57, s_58, s_59, s_60, s_61, s_62, s_63, s_64, s_65, s_66, s_67, s_68, s_69, s_70, s_71, s_72, s_73, s_74, s_75, s_76, s_77, s_78, s_79, s_80, s_81, s_82, s_83, s_84, s_85, s_86, s_87, s_88, s_89, s_90, s_91, s_92, s_93, s_94, s_95, s_96, s_97, s_98, s_99, s_100, s_101, s_102, s_103, s_104, s_105, s_106, s_107, s_108, s_109, s_110, s_111, s_112, s_113, s_114, s_115, s_116, s_117, s_118, s_119, s_120, s_121, s_122, s_123, s_124, s_125, s_126, s_127, s_128, s_129, s_130, s_131, s_132, s_133, s_134, s_135, s_136, s_137, s_138, s_139, s_140, s_141, s_142, s_143, s_144, s_145, s_146, s_147, s_148, s_149, s_150, s_151, s_152, s_153, s_154, s_155, s_156, s_157, s_158, s_159, s_160, s_161, s_162, s_163, s_164, s_165, s_166, s_167], []⟩ W := by
  have HG : XS = gluedP ⟨kd, pa, pb, pc, nn⟩ (([] : List (List Prt × Hs)).map Prod.fst) := by rw [HF]; unfold foldD; rw [if_neg hk, if_neg hk2]; rfl
  have HTL := Lib.hid HG
  have hq0 : q = 0 := by rw [← hq]; rfl
  subst hq0
  have Q3 := Lib.hid (show 0 ≤ 3 by omega)
  have hkb : (kd == 8) = false := by simp [hk]
  have p0 : W.cell? ⟨w.heap.size + 1 + 1, 0, none⟩ = some (.int .i64 kd) := BP.cell 0
  have p1 : W.cell? ⟨w.heap.size + 1 + 1, 1, none⟩ = some (.int .i64 pa) := BP.cell 1
  have p2 : W.cell? ⟨w.heap.size + 1 + 1, 2, none⟩ = some (.int .i64 pb) := BP.cell 2
  have p3 : W.cell? ⟨w.heap.size + 1 + 1, 3, none⟩ = some (.int .i64 pc) := BP.cell 3
  have p4 : W.cell? ⟨w.heap.size + 1 + 1, 4, none⟩ = some (.int .i64 nn) := BP.cell 4
  have HS := Lib.hid SUB; have HBR := Lib.hid BR; have HBP := Lib.hid BP; have HHW := Lib.hid HW; have HOK := Lib.hid OK; have QL := Lib.hid hq
  clear SUB BR BP HW OK hq HF HG hk hk2
  conv => arg 2; whnf
  go_upto_if 66 with fail
  repeat (first | exact foldTail QL.out Q3.out hM rfl HOK.out HS.out hb (by omega) HBR.out HBP.out HHW.out HTL.out | go_step | go_skip | (dsimp only [Exit.then, Exit.inBlock]))
  
set_option maxRecDepth 1000000 in
set_option maxHeartbeats 4000000 in
theorem ifoldNum {w W : World} {b q c5 los his M : Nat} {A5 : Option Addr} {q0 q1 : List Prt × Hs} {qr : List (List Prt × Hs)} {kd0 pa0 pb0 pc0 nn0 kd1 pa1 pb1 pc1 nn1 : Int} {kd pa pb pc nn : Int} {XS : List Prt} {s_0 s_1 s_2 s_3 s_7 s_8 s_9 s_10 s_11 s_12 s_13 s_14 s_15 s_16 s_17 s_18 s_19 s_20 s_21 s_22 s_23 s_24 s_25 s_26 s_27 s_28 s_29 s_30 s_31 s_32 s_33 s_34 s_35 s_36 s_37 s_38 s_39 s_40 s_41 s_42 s_43 s_44 s_45 s_46 s_47 s_48 s_49 s_50 s_51 s_52 s_53 s_54 s_55 s_56 s_57 s_58 s_59 s_60 s_61 s_62 s_63 s_64 s_65 s_66 s_67 s_68 s_69 s_70 s_71 s_72 s_73 s_74 s_75 s_76 s_77 s_78 s_79 s_80 s_81 s_82 s_83 s_84 s_85 s_86 s_87 s_88 s_89 s_90 s_91 s_92 s_93 s_94 s_95 s_96 s_97 s_98 s_99 s_100 s_101 s_102 s_103 s_104 s_105 s_106 s_107 s_108 s_109 s_110 s_111 s_112 s_113 s_114 s_115 s_116 s_117 s_118 s_119 s_120 s_121 s_122 s_123 s_124 s_125 s_126 s_127 s_128 s_129 s_130 s_131 s_132 s_133 s_134 s_135 s_136 s_137 s_138 s_139 s_140 s_141 s_142 s_143 s_144 s_145 s_146 s_147 s_148 s_149 s_150 s_151 s_152 s_153 s_154 s_155 s_156 s_157 s_158 s_159 s_160 s_161 s_162 s_163 s_164 s_165 s_166 s_167 : Value}
    (hq : (q0 :: q1 :: qr).length = q) (hM : M ≤ 16777216) (OK : ∀ z ∈ (q0 :: q1 :: qr), OkG M z.1) (SUB : SubI b W los his A5 c5 (q0 :: q1 :: qr)) (hb : w.heap.size + 3 ≤ b) (hwW : w.heap.size + 3 ≤ W.heap.size)
    (BR : Blk W (w.heap.size + 1) 29 #[.slice none 0 0]) (BP : Blk W (w.heap.size + 1 + 1) 50 (ints (cP ⟨kd, pa, pb, pc, nn⟩)).toArray)
    (HW : Below w.heap.size w W) (HF : XS = foldD ⟨kd, pa, pb, pc, nn⟩ (q0.1 :: q1.1 :: qr.map Prod.fst)) (L0 : lastP q0.1 = ⟨kd0, pa0, pb0, pc0, nn0⟩) (L1 : lastP q1.1 = ⟨kd1, pa1, pb1, pc1, nn1⟩)
    (hk : kd ≠ 8) (hkd : 2 ≤ kd ∧ kd ≤ 7) (hq2 : q = 2) (hf : kd0 = 0) (hs : kd1 = 0) (hj : joinF kd nn0 nn1 ≤ 99) :
    Code.wp Try.prog (iRest 8) (bodyPost Try.prog Try.f56 (MadeF w XS)) ⟨#[s_0, s_1, s_2, s_3, .pointer (some ⟨w.heap.size + 1, 0, none⟩), .pointer (some ⟨w.heap.size + 1 + 1, 0, none⟩), .slice A5 q c5, s_7, s_8, s_9, s_10, s_11, s_12, s_13, s_14, s_15, s_16, s_17, s_18, s_19, s_20, s_21, s_22, s_23, s_24, s_25, s_26, s_27, s_28, s_29, s_30, s_31, s_32, s_33, s_34, s_35, s_36, s_37, s_38, s_39, s_40, s_41, s_42, s_43, s_44, s_45, s_46, s_47, s_48, s_49, s_50, s_51, s_52, s_53, s_54, s_55, s_56, s_57, s_58, s_59, s_60, s_61, s_62, s_63, s_64, s_65, s_66, s_67, s_68, s_69, s_70, s_71, s_72, s_73, s_74, s_75, s_76, s_77, s_78, s_79, s_80, s_81, s_82, s_83, s_84, s_85, s_86, s_87, s_88, s_89, s_90, s_91, s_92, s_93, s_94, s_95, s_96, s_97, s_98, s_99, s_100, s_101, s_102, s_103, s_104, s_105, s_106, s_107, s_108, s_109, s_110, s_111, s_112, s_113, s_114, s_115, s_116, s_117, s_118, s_119, s_120, s_121, s_122, s_123, s_124, s_125, s_126, s_127, s_128, s_129, s_130, s_131, s_132, s_133, s_134, s_135, s_136, s_137, s_138, s_139, s_140, s_141, s_142, s_143, s_144, s_145, s_146, s_147, s_148, s_149, s_150, s_151, s_152, s_153, s_154, s_155, s_156, s_157, s_158, s_159, s_160, s_161, s_162, s_163, s_164, s_165, s_166, s_167], []⟩ W := by
  have HF2 := Lib.hid (show XS = [numP (joinF kd nn0 nn1)] from by rw [HF, foldD_two hk hkd, L0, L1, if_pos ⟨hf, hs, hj⟩])
  have ok0' := (OK q0 (by simp)).2.2; have ok1' := (OK q1 (by simp)).2.2
  rw [L0] at ok0'; rw [L1] at ok1'
  simp only at ok0' ok1'
  have JC := Lib.hid (fun (W : World) => implJoin (w := W) (kd := kd) ok0'.1 ok0'.2 ok1'.1 ok1'.2)
  have hcap : (⟨kd, pa, pb, pc, nn⟩ : Prt).kd = kd := rfl
  have ok0 := OK q0 (by simp)
  have NC0 := Lib.hid (fun (W' : World) (hb : Below W.heap.size W W') => (show Calls Try.prog 74 #[.agg #[.slice q0.2.A q0.1.length q0.2.c]] W' (fun e w' => e = .returned (.tuple #[.int .i64 nn0, .bool true]) ∧ Below W'.heap.size W' w') from by
    obtain ⟨_, _, _, _, _, si, _, ti⟩ := (SUB.below hb).hdr (i := 0) (q := q0) rfl
    have := foldNum (c := q0.2.c) (w := W') q0.1 rfl ok0.1 (by have := ok0.2.1; omega) si.rd ti
    rw [L0] at this
    simpa [hf] using this))
  have ok1 := OK q1 (by simp)
  have NC1 := Lib.hid (fun (W' : World) (hb : Below W.heap.size W W') => (show Calls Try.prog 74 #[.agg #[.slice q1.2.A q1.1.length q1.2.c]] W' (fun e w' => e = .returned (.tuple #[.int .i64 nn1, .bool true]) ∧ Below W'.heap.size W' w') from by
    obtain ⟨_, _, _, _, _, si, _, ti⟩ := (SUB.below hb).hdr (i := 1) (q := q1) rfl
    have := foldNum (c := q1.2.c) (w := W') q1.1 rfl ok1.1 (by have := ok1.2.1; omega) si.rd ti
    rw [L1] at this
    simpa [hs] using this))
  obtain ⟨g5, o5, hA5, _, x0, _, _, _⟩ := SUB.hdr (i := 0) (q := q0) rfl
  subst hA5
  simp only [Nat.add_zero] at x0
  have hg5w : g5 < W.heap.size := World.block_lt_of_cell? W ⟨g5, o5, none⟩ x0
  have hq20 : (0 : Int) < (q : Int) := by rw [← hq, List.length_cons, List.length_cons]; omega
  have hq21 : (1 : Int) < (q : Int) := by rw [← hq, List.length_cons, List.length_cons]; omega
  obtain ⟨_, _, hA5, _, x1, _, _, _⟩ := SUB.hdr (i := 1) (q := q1) rfl
  simp only [Option.some.injEq, Addr.mk.injEq, and_true] at hA5
  obtain ⟨rfl, rfl⟩ := hA5
  have XX := Lib.hid (fun (W' : World) (hb : Below W.heap.size W W') => (show W'.cell? ⟨g5, o5 + 1, none⟩ = some (.slice q1.2.A q1.1.length q1.2.c) from (hb.cell (p := ⟨g5, _, none⟩) hg5w).trans x1))
  have Q3 := Lib.hid (show q ≤ 3 by omega)
  have hkb : (kd == 8) = false := by simp [hk]
  obtain ⟨jv, hjv⟩ : ∃ jv, joinF kd nn0 nn1 = jv := ⟨_, rfl⟩
  rw [hjv] at JC hj HF2
  subst hq2
  have p0 : W.cell? ⟨w.heap.size + 1 + 1, 0, none⟩ = some (.int .i64 kd) := BP.cell 0
  have p1 : W.cell? ⟨w.heap.size + 1 + 1, 1, none⟩ = some (.int .i64 pa) := BP.cell 1
  have p2 : W.cell? ⟨w.heap.size + 1 + 1, 2, none⟩ = some (.int .i64 pb) := BP.cell 2
  have p3 : W.cell? ⟨w.heap.size + 1 + 1, 3, none⟩ = some (.int .i64 pc) := BP.cell 3
  have p4 : W.cell? ⟨w.heap.size + 1 + 1, 4, none⟩ = some (.int .i64 nn) := BP.cell 4
  have HS := Lib.hid SUB; have HBR := Lib.hid BR; have HBP := Lib.hid BP; have HHW := Lib.hid HW; have HOK := Lib.hid OK; have QL := Lib.hid hq
  clear SUB BR BP HW OK hq HF L0 L1 ok0 ok1 ok0' ok1' hk hkd hjv hcap
  have HBW := Lib.hid (Below.refl W.heap.size W)
  conv => arg 2; whnf
  go_wp2_with fail
  refine (NC0.out _ HBW.out).mono ?_; rintro e W2 ⟨rfl, b_W2⟩
  have HBW2 := Lib.hid (HBW.out.trans (b_W2.mono HBW.out.size))
  have HS := Lib.hid (HS.out.below b_W2); have HBR := Lib.hid (HBR.out.below b_W2 HBR.out.lt); have HBP := Lib.hid (HBP.out.below b_W2 HBP.out.lt); have HHW := Lib.hid (HHW.out.trans (b_W2.mono (by omega)))
  have hz_W2 := b_W2.size
  have x2 := XX.out _ HBW2.out
  clear b_W2 x0 p0 p1 p2 p3 p4
  go_wp2_with fail
  refine (NC1.out _ HBW2.out).mono ?_; rintro e W3 ⟨rfl, b_W3⟩
  have HBW3 := Lib.hid (HBW2.out.trans (b_W3.mono HBW2.out.size))
  have HS := Lib.hid (HS.out.below b_W3); have HBR := Lib.hid (HBR.out.below b_W3 HBR.out.lt); have HBP := Lib.hid (HBP.out.below b_W3 HBP.out.lt); have HHW := Lib.hid (HHW.out.trans (b_W3.mono (by omega)))
  have hz_W3 := b_W3.size
  have p0 : W3.cell? ⟨w.heap.size + 1 + 1, 0, none⟩ = some (.int .i64 kd) := HBP.out.cell 0
  have p1 : W3.cell? ⟨w.heap.size + 1 + 1, 1, none⟩ = some (.int .i64 pa) := HBP.out.cell 1
  have p2 : W3.cell? ⟨w.heap.size + 1 + 1, 2, none⟩ = some (.int .i64 pb) := HBP.out.cell 2
  have p3 : W3.cell? ⟨w.heap.size + 1 + 1, 3, none⟩ = some (.int .i64 pc) := HBP.out.cell 3
  have p4 : W3.cell? ⟨w.heap.size + 1 + 1, 4, none⟩ = some (.int .i64 nn) := HBP.out.cell 4
  clear b_W3 x2 NC0 NC1
  go_wp2_with fail
  refine (JC.out _).mono ?_; rintro e w9' ⟨rfl, rfl⟩
  have kr := HBR.out.alloc (.cells #[.int .i64 0, .int .i64 (-1), .int .i64 (-1), .int .i64 (-1), .int .i64 jv] 50)
  have fr : (W3.alloc (.cells #[.int .i64 0, .int .i64 (-1), .int .i64 (-1), .int .i64 (-1), .int .i64 jv] 50)).frozen? ⟨w.heap.size + 1, 0, none⟩ = false := kr.frozen 0
  have gr : (W3.alloc (.cells #[.int .i64 0, .int .i64 (-1), .int .i64 (-1), .int .i64 (-1), .int .i64 jv] 50)).cell? ⟨w.heap.size + 1, 0, none⟩ = some (.slice none 0 0) := kr.cell 0
  have E := Lib.hid ((kr.set_ 0 (.slice (some ⟨W3.heap.size, 0, none⟩) 1 1)).cell 0)
  have S9 := Lib.hid (show SlP (W3.alloc (.cells #[.int .i64 0, .int .i64 (-1), .int .i64 (-1), .int .i64 (-1), .int .i64 jv] 50)) W3.heap.size (W3.heap.size + 1) (some ⟨W3.heap.size, 0, none⟩) 1 [numP jv] from SlR.newAt kP rfl [numP jv] (Nat.le_refl _))
  have HB9 := Lib.hid (HHW.out.alloc HHW.out.size (.cells #[.int .i64 0, .int .i64 (-1), .int .i64 (-1), .int .i64 (-1), .int .i64 jv] 50))
  have hne1 : ¬ w.heap.size + 1 = W3.heap.size := by omega
  have hne2 : ¬ W3.heap.size = w.heap.size + 1 := by omega
  clear kr p0 p1 p2 p3 p4 HS HBP HOK QL JC HBW HBW2 HBW3 XX
  go_wp2_with fail
  have HE := E.out
  simp at HE
  refine bodyPost_ret (v := .agg #[.slice (some ⟨W3.heap.size, 0, none⟩) 1 1]) (by simp [results, Try.results56, go_sem, HE]) rfl ?_
  rw [HF2.out]
  exact ⟨_, _, rfl, (S9.out.turn ((Turn.refl 0 (w.heap.size + 2) _).setCell (p := ⟨w.heap.size + 1, 0, none⟩) (Nat.zero_le _) (.inl (by simp)) _) (.inr (by omega))).mono (by omega) (by simp), HB9.out.setCell (by simp) _⟩
  
set_option maxRecDepth 1000000 in
set_option maxHeartbeats 4000000 in
theorem ifoldFirst {w W : World} {b q c5 los his M : Nat} {A5 : Option Addr} {q0 q1 : List Prt × Hs} {qr : List (List Prt × Hs)} {kd0 pa0 pb0 pc0 nn0 kd1 pa1 pb1 pc1 nn1 : Int} {kd pa pb pc nn : Int} {XS : List Prt} {s_0 s_1 s_2 s_3 s_7 s_8 s_9 s_10 s_11 s_12 s_13 s_14 s_15 s_16 s_17 s_18 s_19 s_20 s_21 s_22 s_23 s_24 s_25 s_26 s_27 s_28 s_29 s_30 s_31 s_32 s_33 s_34 s_35 s_36 s_37 s_38 s_39 s_40 s_41 s_42 s_43 s_44 s_45 s_46 s_47 s_48 s_49 s_50 s_51 s_52 s_53 s_54 s_55 s_56 s_57 s_58 s_59 s_60 s_61 s_62 s_63 s_64 s_65 s_66 s_67 s_68 s_69 s_70 s_71 s_72 s_73 s_74 s_75 s_76 s_77 s_78 s_79 s_80 s_81 s_82 s_83 s_84 s_85 s_86 s_87 s_88 s_89 s_90 s_91 s_92 s_93 s_94 s_95 s_96 s_97 s_98 s_99 s_100 s_101 s_102 s_103 s_104 s_105 s_106 s_107 s_108 s_109 s_110 s_111 s_112 s_113 s_114 s_115 s_116 s_117 s_118 s_119 s_120 s_121 s_122 s_123 s_124 s_125 s_126 s_127 s_128 s_129 s_130 s_131 s_132 s_133 s_134 s_135 s_136 s_137 s_138 s_139 s_140 s_141 s_142 s_143 s_144 s_145 s_146 s_147 s_148 s_149 s_150 s_151 s_152 s_153 s_154 s_155 s_156 s_157 s_158 s_159 s_160 s_161 s_162 s_163 s_164 s_165 s_166 s_167 : Value}
    (hq : (q0 :: q1 :: qr).length = q) (hM : M ≤ 16777216) (OK : ∀ z ∈ (q0 :: q1 :: qr), OkG M z.1) (SUB : SubI b W los his A5 c5 (q0 :: q1 :: qr)) (hb : w.heap.size + 3 ≤ b) (hwW : w.heap.size + 3 ≤ W.heap.size)
    (BR : Blk W (w.heap.size + 1) 29 #[.slice none 0 0]) (BP : Blk W (w.heap.size + 1 + 1) 50 (ints (cP ⟨kd, pa, pb, pc, nn⟩)).toArray)
    (HW : Below w.heap.size w W) (HF : XS = foldD ⟨kd, pa, pb, pc, nn⟩ (q0.1 :: q1.1 :: qr.map Prod.fst)) (L0 : lastP q0.1 = ⟨kd0, pa0, pb0, pc0, nn0⟩) (L1 : lastP q1.1 = ⟨kd1, pa1, pb1, pc1, nn1⟩)
    (hk : kd ≠ 8) (hkd : 2 ≤ kd ∧ kd ≤ 7) (hq2 : q = 2) (hf : kd0 ≠ 0) :
    Code.wp Try.prog (iRest 8) (bodyPost Try.prog Try.f56 (MadeF w XS)) ⟨#[s_0, s_1, s_2, s_3, .pointer (some ⟨w.heap.size + 1, 0, none⟩), .pointer (some ⟨w.heap.size + 1 + 1, 0, none⟩), .slice A5 q c5, s_7, s_8, s_9, s_10, s_11, s_12, s_13, s_14, s_15, s_16, s_17, s_18, s_19, s_20, s_21, s_22, s_23, s_24, s_25, s_26, s_27, s_28, s_29, s_30, s_31, s_32, s_33, s_34, s_35, s_36, s_37, s_38, s_39, s_40, s_41, s_42, s_43, s_44, s_45, s_46, s_47, s_48, s_49, s_50, s_51, s_52, s_53, s_54, s_55, s_56, s_57, s_58, s_59, s_60, s_61, s_62, s_63, s_64, s_65, s_66, s_67, s_68, s_69, s_70, s_71, s_72, s_73, s_74, s_75, s_76, s_77, s_78, s_79, s_80, s_81, s_82, s_83, s_84, s_85, s_86, s_87, s_88, s_89, s_90, s_91, s_92, s_93, s_94, s_95, s_96, s_97, s_98, s_99, s_100, s_101, s_102, s_103, s_104, s_105, s_106, s_107, s_108, s_109, s_110, s_111, s_112, s_113, s_114, s_115, s_116, s_117, s_118, s_119, s_120, s_121, s_122, s_123, s_124, s_125, s_126, s_127, s_128, s_129, s_130, s_131, s_132, s_133, s_134, s_135, s_136, s_137, s_138, s_139, s_140, s_141, s_142, s_143, s_144, s_145, s_146, s_147, s_148, s_149, s_150, s_151, s_152, s_153, s_154, s_155, s_156, s_157, s_158, s_159, s_160, s_161, s_162, s_163, s_164, s_165, s_166, s_167], []⟩ W := by
  have HG : XS = gluedP ⟨kd, pa, pb, pc, nn⟩ (q0.1 :: q1.1 :: qr.map Prod.fst) := by rw [HF, foldD_two hk hkd, L0, L1, if_neg (fun h => hf h.1)]
  have HTL := Lib.hid HG
  have ok0' := (OK q0 (by simp)).2.2; have ok1' := (OK q1 (by simp)).2.2
  rw [L0] at ok0'; rw [L1] at ok1'
  simp only at ok0' ok1'
  have JC := Lib.hid (fun (W : World) => implJoin (w := W) (kd := kd) ok0'.1 ok0'.2 ok1'.1 ok1'.2)
  have hcap : (⟨kd, pa, pb, pc, nn⟩ : Prt).kd = kd := rfl
  have ok0 := OK q0 (by simp)
  have NC0 := Lib.hid (fun (W' : World) (hb : Below W.heap.size W W') => (show Calls Try.prog 74 #[.agg #[.slice q0.2.A q0.1.length q0.2.c]] W' (fun e w' => e = .returned (.tuple #[.int .i64 nn0, .bool false]) ∧ Below W'.heap.size W' w') from by
    obtain ⟨_, _, _, _, _, si, _, ti⟩ := (SUB.below hb).hdr (i := 0) (q := q0) rfl
    have := foldNum (c := q0.2.c) (w := W') q0.1 rfl ok0.1 (by have := ok0.2.1; omega) si.rd ti
    rw [L0] at this
    simpa [hf] using this))
  have ok1 := OK q1 (by simp)
  have NC1 := Lib.hid (fun (W' : World) (hb : Below W.heap.size W W') => (show Calls Try.prog 74 #[.agg #[.slice q1.2.A q1.1.length q1.2.c]] W' (fun e w' => e = .returned (.tuple #[.int .i64 nn1, .bool (decide (kd1 = 0))]) ∧ Below W'.heap.size W' w') from by
    obtain ⟨_, _, _, _, _, si, _, ti⟩ := (SUB.below hb).hdr (i := 1) (q := q1) rfl
    have := foldNum (c := q1.2.c) (w := W') q1.1 rfl ok1.1 (by have := ok1.2.1; omega) si.rd ti
    rw [L1] at this
    exact this))
  obtain ⟨g5, o5, hA5, _, x0, _, _, _⟩ := SUB.hdr (i := 0) (q := q0) rfl
  subst hA5
  simp only [Nat.add_zero] at x0
  have hg5w : g5 < W.heap.size := World.block_lt_of_cell? W ⟨g5, o5, none⟩ x0
  have hq20 : (0 : Int) < (q : Int) := by rw [← hq, List.length_cons, List.length_cons]; omega
  have hq21 : (1 : Int) < (q : Int) := by rw [← hq, List.length_cons, List.length_cons]; omega
  obtain ⟨_, _, hA5, _, x1, _, _, _⟩ := SUB.hdr (i := 1) (q := q1) rfl
  simp only [Option.some.injEq, Addr.mk.injEq, and_true] at hA5
  obtain ⟨rfl, rfl⟩ := hA5
  have XX := Lib.hid (fun (W' : World) (hb : Below W.heap.size W W') => (show W'.cell? ⟨g5, o5 + 1, none⟩ = some (.slice q1.2.A q1.1.length q1.2.c) from (hb.cell (p := ⟨g5, _, none⟩) hg5w).trans x1))
  have Q3 := Lib.hid (show q ≤ 3 by omega)
  have hkb : (kd == 8) = false := by simp [hk]
  obtain ⟨jv, hjv⟩ : ∃ jv, joinF kd nn0 nn1 = jv := ⟨_, rfl⟩
  rw [hjv] at JC
  subst hq2
  have p0 : W.cell? ⟨w.heap.size + 1 + 1, 0, none⟩ = some (.int .i64 kd) := BP.cell 0
  have p1 : W.cell? ⟨w.heap.size + 1 + 1, 1, none⟩ = some (.int .i64 pa) := BP.cell 1
  have p2 : W.cell? ⟨w.heap.size + 1 + 1, 2, none⟩ = some (.int .i64 pb) := BP.cell 2
  have p3 : W.cell? ⟨w.heap.size + 1 + 1, 3, none⟩ = some (.int .i64 pc) := BP.cell 3
  have p4 : W.cell? ⟨w.heap.size + 1 + 1, 4, none⟩ = some (.int .i64 nn) := BP.cell 4
  have HS := Lib.hid SUB; have HBR := Lib.hid BR; have HBP := Lib.hid BP; have HHW := Lib.hid HW; have HOK := Lib.hid OK; have QL := Lib.hid hq
  clear SUB BR BP HW OK hq HF L0 L1 ok0 ok1 ok0' ok1' hk hkd hjv hcap HG
  have HBW := Lib.hid (Below.refl W.heap.size W)
  conv => arg 2; whnf
  go_wp2_with fail
  refine (NC0.out _ HBW.out).mono ?_; rintro e W2 ⟨rfl, b_W2⟩
  have HBW2 := Lib.hid (HBW.out.trans (b_W2.mono HBW.out.size))
  have HS := Lib.hid (HS.out.below b_W2); have HBR := Lib.hid (HBR.out.below b_W2 HBR.out.lt); have HBP := Lib.hid (HBP.out.below b_W2 HBP.out.lt); have HHW := Lib.hid (HHW.out.trans (b_W2.mono (by omega)))
  have hz_W2 := b_W2.size
  have x2 := XX.out _ HBW2.out
  clear b_W2 x0 p0 p1 p2 p3 p4
  go_wp2_with fail
  refine (NC1.out _ HBW2.out).mono ?_; rintro e W3 ⟨rfl, b_W3⟩
  have HBW3 := Lib.hid (HBW2.out.trans (b_W3.mono HBW2.out.size))
  have HS := Lib.hid (HS.out.below b_W3); have HBR := Lib.hid (HBR.out.below b_W3 HBR.out.lt); have HBP := Lib.hid (HBP.out.below b_W3 HBP.out.lt); have HHW := Lib.hid (HHW.out.trans (b_W3.mono (by omega)))
  have hz_W3 := b_W3.size
  have p0 : W3.cell? ⟨w.heap.size + 1 + 1, 0, none⟩ = some (.int .i64 kd) := HBP.out.cell 0
  have p1 : W3.cell? ⟨w.heap.size + 1 + 1, 1, none⟩ = some (.int .i64 pa) := HBP.out.cell 1
  have p2 : W3.cell? ⟨w.heap.size + 1 + 1, 2, none⟩ = some (.int .i64 pb) := HBP.out.cell 2
  have p3 : W3.cell? ⟨w.heap.size + 1 + 1, 3, none⟩ = some (.int .i64 pc) := HBP.out.cell 3
  have p4 : W3.cell? ⟨w.heap.size + 1 + 1, 4, none⟩ = some (.int .i64 nn) := HBP.out.cell 4
  clear b_W3 x2 NC0 NC1
  go_wp2_with fail
  refine (JC.out _).mono ?_; rintro e w9' ⟨rfl, rfl⟩
  clear p0 p1 p2 p3 p4
  go_upto_if 98 with fail
  repeat (first | exact foldTail QL.out Q3.out hM rfl HOK.out HS.out hb (by omega) HBR.out HBP.out HHW.out HTL.out | go_step | go_skip | (dsimp only [Exit.then, Exit.inBlock]))
  
set_option maxRecDepth 1000000 in
set_option maxHeartbeats 4000000 in
theorem ifoldSecond {w W : World} {b q c5 los his M : Nat} {A5 : Option Addr} {q0 q1 : List Prt × Hs} {qr : List (List Prt × Hs)} {kd0 pa0 pb0 pc0 nn0 kd1 pa1 pb1 pc1 nn1 : Int} {kd pa pb pc nn : Int} {XS : List Prt} {s_0 s_1 s_2 s_3 s_7 s_8 s_9 s_10 s_11 s_12 s_13 s_14 s_15 s_16 s_17 s_18 s_19 s_20 s_21 s_22 s_23 s_24 s_25 s_26 s_27 s_28 s_29 s_30 s_31 s_32 s_33 s_34 s_35 s_36 s_37 s_38 s_39 s_40 s_41 s_42 s_43 s_44 s_45 s_46 s_47 s_48 s_49 s_50 s_51 s_52 s_53 s_54 s_55 s_56 s_57 s_58 s_59 s_60 s_61 s_62 s_63 s_64 s_65 s_66 s_67 s_68 s_69 s_70 s_71 s_72 s_73 s_74 s_75 s_76 s_77 s_78 s_79 s_80 s_81 s_82 s_83 s_84 s_85 s_86 s_87 s_88 s_89 s_90 s_91 s_92 s_93 s_94 s_95 s_96 s_97 s_98 s_99 s_100 s_101 s_102 s_103 s_104 s_105 s_106 s_107 s_108 s_109 s_110 s_111 s_112 s_113 s_114 s_115 s_116 s_117 s_118 s_119 s_120 s_121 s_122 s_123 s_124 s_125 s_126 s_127 s_128 s_129 s_130 s_131 s_132 s_133 s_134 s_135 s_136 s_137 s_138 s_139 s_140 s_141 s_142 s_143 s_144 s_145 s_146 s_147 s_148 s_149 s_150 s_151 s_152 s_153 s_154 s_155 s_156 s_157 s_158 s_159 s_160 s_161 s_162 s_163 s_164 s_165 s_166 s_167 : Value}
    (hq : (q0 :: q1 :: qr).length = q) (hM : M ≤ 16777216) (OK : ∀ z ∈ (q0 :: q1 :: qr), OkG M z.1) (SUB : SubI b W los his A5 c5 (q0 :: q1 :: qr)) (hb : w.heap.size + 3 ≤ b) (hwW : w.heap.size + 3 ≤ W.heap.size)
    (BR : Blk W (w.heap.size + 1) 29 #[.slice none 0 0]) (BP : Blk W (w.heap.size + 1 + 1) 50 (ints (cP ⟨kd, pa, pb, pc, nn⟩)).toArray)
    (HW : Below w.heap.size w W) (HF : XS = foldD ⟨kd, pa, pb, pc, nn⟩ (q0.1 :: q1.1 :: qr.map Prod.fst)) (L0 : lastP q0.1 = ⟨kd0, pa0, pb0, pc0, nn0⟩) (L1 : lastP q1.1 = ⟨kd1, pa1, pb1, pc1, nn1⟩)
    (hk : kd ≠ 8) (hkd : 2 ≤ kd ∧ kd ≤ 7) (hq2 : q = 2) (hf : kd0 = 0) (hs : kd1 ≠ 0) :
    Code.wp Try.prog (iRest 8) (bodyPost Try.prog Try.f56 (MadeF w XS)) ⟨#[s_0, s_1, s_2, s_3, .pointer (some ⟨w.heap.size + 1, 0, none⟩), .pointer (some ⟨w.heap.size + 1 + 1, 0, none⟩), .slice A5 q c5, s_7, s_8, s_9, s_10, s_11, s_12, s_13, s_14, s_15, s_16, s_17, s_18, s_19, s_20, s_21, s_22, s_23, s_24, s_25, s_26, s_27, s_28, s_29, s_30, s_31, s_32, s_33, s_34, s_35, s_36, s_37, s_38, s_39, s_40, s_41, s_42, s_43, s_44, s_45, s_46, s_47, s_48, s_49, s_50, s_51, s_52, s_53, s_54, s_55, s_56, s_57, s_58, s_59, s_60, s_61, s_62, s_63, s_64, s_65, s_66, s_67, s_68, s_69, s_70, s_71, s_72, s_73, s_74, s_75, s_76, s_77, s_78, s_79, s_80, s_81, s_82, s_83, s_84, s_85, s_86, s_87, s_88, s_89, s_90, s_91, s_92, s_93, s_94, s_95, s_96, s_97, s_98, s_99, s_100, s_101, s_102, s_103, s_104, s_105, s_106, s_107, s_108, s_109, s_110, s_111, s_112, s_113, s_114, s_115, s_116, s_117, s_118, s_119, s_120, s_121, s_122, s_123, s_124, s_125, s_126, s_127, s_128, s_129, s_130, s_131, s_132, s_133, s_134, s_135, s_136, s_137, s_138, s_139, s_140, s_141, s_142, s_143, s_144, s_145, s_146, s_147, s_148, s_149, s_150, s_151, s_152, s_153, s_154, s_155, s_156, s_157, s_158, s_159, s_160, s_161, s_162, s_163, s_164, s_165, s_166, s_167], []⟩ W := by
  have HG : XS = gluedP ⟨kd, pa, pb, pc, nn⟩ (q0.1 :: q1.1 :: qr.map Prod.fst) := by rw [HF, foldD_two hk hkd, L0, L1, if_neg (fun h => hs h.2.1)]
  have HTL := Lib.hid HG
  have ok0' := (OK q0 (by simp)).2.2; have ok1' := (OK q1 (by simp)).2.2
  rw [L0] at ok0'; rw [L1] at ok1'
  simp only at ok0' ok1'
  have JC := Lib.hid (fun (W : World) => implJoin (w := W) (kd := kd) ok0'.1 ok0'.2 ok1'.1 ok1'.2)
  have hcap : (⟨kd, pa, pb, pc, nn⟩ : Prt).kd = kd := rfl
  have ok0 := OK q0 (by simp)
  have NC0 := Lib.hid (fun (W' : World) (hb : Below W.heap.size W W') => (show Calls Try.prog 74 #[.agg #[.slice q0.2.A q0.1.length q0.2.c]] W' (fun e w' => e = .returned (.tuple #[.int .i64 nn0, .bool true]) ∧ Below W'.heap.size W' w') from by
    obtain ⟨_, _, _, _, _, si, _, ti⟩ := (SUB.below hb).hdr (i := 0) (q := q0) rfl
    have := foldNum (c := q0.2.c) (w := W') q0.1 rfl ok0.1 (by have := ok0.2.1; omega) si.rd ti
    rw [L0] at this
    simpa [hf] using this))
  have ok1 := OK q1 (by simp)
  have NC1 := Lib.hid (fun (W' : World) (hb : Below W.heap.size W W') => (show Calls Try.prog 74 #[.agg #[.slice q1.2.A q1.1.length q1.2.c]] W' (fun e w' => e = .returned (.tuple #[.int .i64 nn1, .bool false]) ∧ Below W'.heap.size W' w') from by
    obtain ⟨_, _, _, _, _, si, _, ti⟩ := (SUB.below hb).hdr (i := 1) (q := q1) rfl
    have := foldNum (c := q1.2.c) (w := W') q1.1 rfl ok1.1 (by have := ok1.2.1; omega) si.rd ti
    rw [L1] at this
    simpa [hs] using this))
  obtain ⟨g5, o5, hA5, _, x0, _, _, _⟩ := SUB.hdr (i := 0) (q := q0) rfl
  subst hA5
  simp only [Nat.add_zero] at x0
  have hg5w : g5 < W.heap.size := World.block_lt_of_cell? W ⟨g5, o5, none⟩ x0
  have hq20 : (0 : Int) < (q : Int) := by rw [← hq, List.length_cons, List.length_cons]; omega
  have hq21 : (1 : Int) < (q : Int) := by rw [← hq, List.length_cons, List.length_cons]; omega
  obtain ⟨_, _, hA5, _, x1, _, _, _⟩ := SUB.hdr (i := 1) (q := q1) rfl
  simp only [Option.some.injEq, Addr.mk.injEq, and_true] at hA5
  obtain ⟨rfl, rfl⟩ := hA5
  have XX := Lib.hid (fun (W' : World) (hb : Below W.heap.size W W') => (show W'.cell? ⟨g5, o5 + 1, none⟩ = some (.slice q1.2.A q1.1.length q1.2.c) from (hb.cell (p := ⟨g5, _, none⟩) hg5w).trans x1))
  have Q3 := Lib.hid (show q ≤ 3 by omega)
  have hkb : (kd == 8) = false := by simp [hk]
  obtain ⟨jv, hjv⟩ : ∃ jv, joinF kd nn0 nn1 = jv := ⟨_, rfl⟩
  rw [hjv] at JC
  subst hq2
  have p0 : W.cell? ⟨w.heap.size + 1 + 1, 0, none⟩ = some (.int .i64 kd) := BP.cell 0
  have p1 : W.cell? ⟨w.heap.size + 1 + 1, 1, none⟩ = some (.int .i64 pa) := BP.cell 1
  have p2 : W.cell? ⟨w.heap.size + 1 + 1, 2, none⟩ = some (.int .i64 pb) := BP.cell 2
  have p3 : W.cell? ⟨w.heap.size + 1 + 1, 3, none⟩ = some (.int .i64 pc) := BP.cell 3
  have p4 : W.cell? ⟨w.heap.size + 1 + 1, 4, none⟩ = some (.int .i64 nn) := BP.cell 4
  have HS := Lib.hid SUB; have HBR := Lib.hid BR; have HBP := Lib.hid BP; have HHW := Lib.hid HW; have HOK := Lib.hid OK; have QL := Lib.hid hq
  clear SUB BR BP HW OK hq HF L0 L1 ok0 ok1 ok0' ok1' hk hkd hjv hcap HG
  have HBW := Lib.hid (Below.refl W.heap.size W)
  conv => arg 2; whnf
  go_wp2_with fail
  refine (NC0.out _ HBW.out).mono ?_; rintro e W2 ⟨rfl, b_W2⟩
  have HBW2 := Lib.hid (HBW.out.trans (b_W2.mono HBW.out.size))
  have HS := Lib.hid (HS.out.below b_W2); have HBR := Lib.hid (HBR.out.below b_W2 HBR.out.lt); have HBP := Lib.hid (HBP.out.below b_W2 HBP.out.lt); have HHW := Lib.hid (HHW.out.trans (b_W2.mono (by omega)))
  have hz_W2 := b_W2.size
  have x2 := XX.out _ HBW2.out
  clear b_W2 x0 p0 p1 p2 p3 p4
  go_wp2_with fail
  refine (NC1.out _ HBW2.out).mono ?_; rintro e W3 ⟨rfl, b_W3⟩
  have HBW3 := Lib.hid (HBW2.out.trans (b_W3.mono HBW2.out.size))
  have HS := Lib.hid (HS.out.below b_W3); have HBR := Lib.hid (HBR.out.below b_W3 HBR.out.lt); have HBP := Lib.hid (HBP.out.below b_W3 HBP.out.lt); have HHW := Lib.hid (HHW.out.trans (b_W3.mono (by omega)))
  have hz_W3 := b_W3.size
  have p0 : W3.cell? ⟨w.heap.size + 1 + 1, 0, none⟩ = some (.int .i64 kd) := HBP.out.cell 0
  have p1 : W3.cell? ⟨w.heap.size + 1 + 1, 1, none⟩ = some (.int .i64 pa) := HBP.out.cell 1
  have p2 : W3.cell? ⟨w.heap.size + 1 + 1, 2, none⟩ = some (.int .i64 pb) := HBP.out.cell 2
  have p3 : W3.cell? ⟨w.heap.size + 1 + 1, 3, none⟩ = some (.int .i64 pc) := HBP.out.cell 3
  have p4 : W3.cell? ⟨w.heap.size + 1 + 1, 4, none⟩ = some (.int .i64 nn) := HBP.out.cell 4
  clear b_W3 x2 NC0 NC1
  go_wp2_with fail
  refine (JC.out _).mono ?_; rintro e w9' ⟨rfl, rfl⟩
  clear p0 p1 p2 p3 p4
  go_upto_if 98 with fail
  repeat (first | exact foldTail QL.out Q3.out hM rfl HOK.out HS.out hb (by omega) HBR.out HBP.out HHW.out HTL.out | go_step | go_skip | (dsimp only [Exit.then, Exit.inBlock]))
  
set_option maxRecDepth 1000000 in
set_option maxHeartbeats 4000000 in
theorem ifoldGreat {w W : World} {b q c5 los his M : Nat} {A5 : Option Addr} {q0 q1 : List Prt × Hs} {qr : List (List Prt × Hs)} {kd0 pa0 pb0 pc0 nn0 kd1 pa1 pb1 pc1 nn1 : Int} {kd pa pb pc nn : Int} {XS : List Prt} {s_0 s_1 s_2 s_3 s_7 s_8 s_9 s_10 s_11 s_12 s_13 s_14 s_15 s_16 s_17 s_18 s_19 s_20 s_21 s_22 s_23 s_24 s_25 s_26 s_27 s_28 s_29 s_30 s_31 s_32 s_33 s_34 s_35 s_36 s_37 s_38 s_39 s_40 s_41 s_42 s_43 s_44 s_45 s_46 s_47 s_48 s_49 s_50 s_51 s_52 s_53 s_54 s_55 s_56 s_57 s_58 s_59 s_60 s_61 s_62 s_63 s_64 s_65 s_66 s_67 s_68 s_69 s_70 s_71 s_72 s_73 s_74 s_75 s_76 s_77 s_78 s_79 s_80 s_81 s_82 s_83 s_84 s_85 s_86 s_87 s_88 s_89 s_90 s_91 s_92 s_93 s_94 s_95 s_96 s_97 s_98 s_99 s_100 s_101 s_102 s_103 s_104 s_105 s_106 s_107 s_108 s_109 s_110 s_111 s_112 s_113 s_114 s_115 s_116 s_117 s_118 s_119 s_120 s_121 s_122 s_123 s_124 s_125 s_126 s_127 s_128 s_129 s_130 s_131 s_132 s_133 s_134 s_135 s_136 s_137 s_138 s_139 s_140 s_141 s_142 s_143 s_144 s_145 s_146 s_147 s_148 s_149 s_150 s_151 s_152 s_153 s_154 s_155 s_156 s_157 s_158 s_159 s_160 s_161 s_162 s_163 s_164 s_165 s_166 s_167 : Value}
    (hq : (q0 :: q1 :: qr).length = q) (hM : M ≤ 16777216) (OK : ∀ z ∈ (q0 :: q1 :: qr), OkG M z.1) (SUB : SubI b W los his A5 c5 (q0 :: q1 :: qr)) (hb : w.heap.size + 3 ≤ b) (hwW : w.heap.size + 3 ≤ W.heap.size)
    (BR : Blk W (w.heap.size + 1) 29 #[.slice none 0 0]) (BP : Blk W (w.heap.size + 1 + 1) 50 (ints (cP ⟨kd, pa, pb, pc, nn⟩)).toArray)
    (HW : Below w.heap.size w W) (HF : XS = foldD ⟨kd, pa, pb, pc, nn⟩ (q0.1 :: q1.1 :: qr.map Prod.fst)) (L0 : lastP q0.1 = ⟨kd0, pa0, pb0, pc0, nn0⟩) (L1 : lastP q1.1 = ⟨kd1, pa1, pb1, pc1, nn1⟩)
    (hk : kd ≠ 8) (hkd : 2 ≤ kd ∧ kd ≤ 7) (hq2 : q = 2) (hf : kd0 = 0) (hs : kd1 = 0) (hj : ¬ joinF kd nn0 nn1 ≤ 99) :
    Code.wp Try.prog (iRest 8) (bodyPost Try.prog Try.f56 (MadeF w XS)) ⟨#[s_0, s_1, s_2, s_3, .pointer (some ⟨w.heap.size + 1, 0, none⟩), .pointer (some ⟨w.heap.size + 1 + 1, 0, none⟩), .slice A5 q c5, s_7, s_8, s_9, s_10, s_11, s_12, s_13, s_14, s_15, s_16, s_17, s_18, s_19, s_20, s_21, s_22, s_23, s_24, s_25, s_26, s_27, s_28, s_29, s_30, s_31, s_32, s_33, s_34, s_35, s_36, s_37, s_38, s_39, s_40, s_41, s_42, s_43, s_44, s_45, s_46, s_47, s_48, s_49, s_50, s_51, s_52, s_53, s_54, s_55, s_56, s_57, s_58, s_59, s_60, s_61, s_62, s_63, s_64, s_65, s_66, s_67, s_68, s_69, s_70, s_71, s_72, s_73, s_74, s_75, s_76, s_77, s_78, s_79, s_80, s_81, s_82, s_83, s_84, s_85, s_86, s_87, s_88, s_89, s_90, s_91, s_92, s_93, s_94, s_95, s_96, s_97, s_98, s_99, s_100, s_101, s_102, s_103, s_104, s_105, s_106, s_107, s_108, s_109, s_110, s_111, s_112, s_113, s_114, s_115, s_116, s_117, s_118, s_119, s_120, s_121, s_122, s_123, s_124, s_125, s_126, s_127, s_128, s_129, s_130, s_131, s_132, s_133, s_134, s_135, s_136, s_137, s_138, s_139, s_140, s_141, s_142, s_143, s_144, s_145, s_146, s_147, s_148, s_149, s_150, s_151, s_152, s_153, s_154, s_155, s_156, s_157, s_158, s_159, s_160, s_161, s_162, s_163, s_164, s_165, s_166, s_167], []⟩ W := by
  have HG : XS = gluedP ⟨kd, pa, pb, pc, nn⟩ (q0.1 :: q1.1 :: qr.map Prod.fst) := by rw [HF, foldD_two hk hkd, L0, L1, if_neg (fun h => hj h.2.2)]
  have HTL := Lib.hid HG
  have ok0' := (OK q0 (by simp)).2.2; have ok1' := (OK q1 (by simp)).2.2
  rw [L0] at ok0'; rw [L1] at ok1'
  simp only at ok0' ok1'
  have JC := Lib.hid (fun (W : World) => implJoin (w := W) (kd := kd) ok0'.1 ok0'.2 ok1'.1 ok1'.2)
  have hcap : (⟨kd, pa, pb, pc, nn⟩ : Prt).kd = kd := rfl
  have ok0 := OK q0 (by simp)
  have NC0 := Lib.hid (fun (W' : World) (hb : Below W.heap.size W W') => (show Calls Try.prog 74 #[.agg #[.slice q0.2.A q0.1.length q0.2.c]] W' (fun e w' => e = .returned (.tuple #[.int .i64 nn0, .bool true]) ∧ Below W'.heap.size W' w') from by
    obtain ⟨_, _, _, _, _, si, _, ti⟩ := (SUB.below hb).hdr (i := 0) (q := q0) rfl
    have := foldNum (c := q0.2.c) (w := W') q0.1 rfl ok0.1 (by have := ok0.2.1; omega) si.rd ti
    rw [L0] at this
    simpa [hf] using this))
  have ok1 := OK q1 (by simp)
  have NC1 := Lib.hid (fun (W' : World) (hb : Below W.heap.size W W') => (show Calls Try.prog 74 #[.agg #[.slice q1.2.A q1.1.length q1.2.c]] W' (fun e w' => e = .returned (.tuple #[.int .i64 nn1, .bool true]) ∧ Below W'.heap.size W' w') from by
    obtain ⟨_, _, _, _, _, si, _, ti⟩ := (SUB.below hb).hdr (i := 1) (q := q1) rfl
    have := foldNum (c := q1.2.c) (w := W') q1.1 rfl ok1.1 (by have := ok1.2.1; omega) si.rd ti
    rw [L1] at this
    simpa [hs] using this))
  obtain ⟨g5, o5, hA5, _, x0, _, _, _⟩ := SUB.hdr (i := 0) (q := q0) rfl
  subst hA5
  simp only [Nat.add_zero] at x0
  have hg5w : g5 < W.heap.size := World.block_lt_of_cell? W ⟨g5, o5, none⟩ x0
  have hq20 : (0 : Int) < (q : Int) := by rw [← hq, List.length_cons, List.length_cons]; omega
  have hq21 : (1 : Int) < (q : Int) := by rw [← hq, List.length_cons, List.length_cons]; omega
  obtain ⟨_, _, hA5, _, x1, _, _, _⟩ := SUB.hdr (i := 1) (q := q1) rfl
  simp only [Option.some.injEq, Addr.mk.injEq, and_true] at hA5
  obtain ⟨rfl, rfl⟩ := hA5
  have XX := Lib.hid (fun (W' : World) (hb : Below W.heap.size W W') => (show W'.cell? ⟨g5, o5 + 1, none⟩ = some (.slice q1.2.A q1.1.length q1.2.c) from (hb.cell (p := ⟨g5, _, none⟩) hg5w).trans x1))
  have Q3 := Lib.hid (show q ≤ 3 by omega)
  have hkb : (kd == 8) = false := by simp [hk]
  obtain ⟨jv, hjv⟩ : ∃ jv, joinF kd nn0 nn1 = jv := ⟨_, rfl⟩
  rw [hjv] at JC hj
  subst hq2
  have p0 : W.cell? ⟨w.heap.size + 1 + 1, 0, none⟩ = some (.int .i64 kd) := BP.cell 0
  have p1 : W.cell? ⟨w.heap.size + 1 + 1, 1, none⟩ = some (.int .i64 pa) := BP.cell 1
  have p2 : W.cell? ⟨w.heap.size + 1 + 1, 2, none⟩ = some (.int .i64 pb) := BP.cell 2
  have p3 : W.cell? ⟨w.heap.size + 1 + 1, 3, none⟩ = some (.int .i64 pc) := BP.cell 3
  have p4 : W.cell? ⟨w.heap.size + 1 + 1, 4, none⟩ = some (.int .i64 nn) := BP.cell 4
  have HS := Lib.hid SUB; have HBR := Lib.hid BR; have HBP := Lib.hid BP; have HHW := Lib.hid HW; have HOK := Lib.hid OK; have QL := Lib.hid hq
  clear SUB BR BP HW OK hq HF L0 L1 ok0 ok1 ok0' ok1' hk hkd hjv hcap HG
  have HBW := Lib.hid (Below.refl W.heap.size W)
  conv => arg 2; whnf
  go_wp2_with fail
  refine (NC0.out _ HBW.out).mono ?_; rintro e W2 ⟨rfl, b_W2⟩
  have HBW2 := Lib.hid (HBW.out.trans (b_W2.mono HBW.out.size))
  have HS := Lib.hid (HS.out.below b_W2); have HBR := Lib.hid (HBR.out.below b_W2 HBR.out.lt); have HBP := Lib.hid (HBP.out.below b_W2 HBP.out.lt); have HHW := Lib.hid (HHW.out.trans (b_W2.mono (by omega)))
  have hz_W2 := b_W2.size
  have x2 := XX.out _ HBW2.out
  clear b_W2 x0 p0 p1 p2 p3 p4
  go_wp2_with fail
  refine (NC1.out _ HBW2.out).mono ?_; rintro e W3 ⟨rfl, b_W3⟩
  have HBW3 := Lib.hid (HBW2.out.trans (b_W3.mono HBW2.out.size))
  have HS := Lib.hid (HS.out.below b_W3); have HBR := Lib.hid (HBR.out.below b_W3 HBR.out.lt); have HBP := Lib.hid (HBP.out.below b_W3 HBP.out.lt); have HHW := Lib.hid (HHW.out.trans (b_W3.mono (by omega)))
  have hz_W3 := b_W3.size
  have p0 : W3.cell? ⟨w.heap.size + 1 + 1, 0, none⟩ = some (.int .i64 kd) := HBP.out.cell 0
  have p1 : W3.cell? ⟨w.heap.size + 1 + 1, 1, none⟩ = some (.int .i64 pa) := HBP.out.cell 1
  have p2 : W3.cell? ⟨w.heap.size + 1 + 1, 2, none⟩ = some (.int .i64 pb) := HBP.out.cell 2
  have p3 : W3.cell? ⟨w.heap.size + 1 + 1, 3, none⟩ = some (.int .i64 pc) := HBP.out.cell 3
  have p4 : W3.cell? ⟨w.heap.size + 1 + 1, 4, none⟩ = some (.int .i64 nn) := HBP.out.cell 4
  clear b_W3 x2 NC0 NC1
  go_wp2_with fail
  refine (JC.out _).mono ?_; rintro e w9' ⟨rfl, rfl⟩
  clear p0 p1 p2 p3 p4
  go_upto_if 98 with fail
  repeat (first | exact foldTail QL.out Q3.out hM rfl HOK.out HS.out hb (by omega) HBR.out HBP.out HHW.out HTL.out | go_step | go_skip | (dsimp only [Exit.then, Exit.inBlock]))
  
end Go.Proofs.Ytlinngohbghimaa
