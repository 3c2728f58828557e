/-
  spec.folded from its two last parts on: what is handed back.
-/
import Derived.Test.YtlinngohbghimaaFoldT
namespace Go.Proofs.Ytlinngohbghimaa
open Go.RowKit
set_option linter.unusedVariables false

set_option maxRecDepth 1000000 in
set_option maxHeartbeats 4000000 in
theorem foldedZero {w W : World} {b g5 o5 q c5 los his M fb sb : Nat} {q0 q1 : List Prt × Hs} {qr : List (List Prt × Hs)} {kd pa pb pc nn kd0 pa0 pb0 pc0 nn0 kd1 pa1 pb1 pc1 nn1 : Int} {XS : List Prt} {s_0 s_1 s_2 s_3 s_6 s_8 s_11 s_12 s_13 s_14 s_15 s_16 s_17 s_18 s_19 s_20 s_21 s_22 s_23 s_24 s_25 s_26 s_27 s_28 s_29 s_30 s_31 s_32 s_33 s_34 s_35 s_36 s_37 s_38 s_39 s_40 s_41 s_42 s_43 s_44 s_45 s_46 s_47 s_48 s_49 s_50 s_51 s_52 s_53 s_54 s_55 s_56 s_57 s_58 s_59 s_60 s_61 s_62 s_63 s_64 s_65 s_66 s_67 s_68 s_69 s_70 s_71 s_72 s_73 s_74 s_75 s_76 s_77 s_78 s_79 s_80 s_81 s_82 s_83 s_84 s_85 s_86 s_87 s_88 s_89 s_90 s_91 s_92 s_93 s_94 s_95 s_96 s_97 s_98 s_99 s_100 s_101 s_102 s_103 s_104 s_105 s_106 s_107 s_108 s_109 s_110 s_111 s_112 s_113 s_114 s_115 s_116 s_117 s_118 s_119 s_120 s_121 s_122 s_123 s_124 s_125 s_126 s_127 s_128 s_129 s_130 s_131 s_132 s_133 s_134 s_135 s_136 s_137 s_138 s_139 s_140 s_141 s_142 s_143 s_144 s_145 s_146 s_147 s_148 s_149 s_150 s_151 s_152 s_153 s_154 s_155 s_156 s_157 s_158 s_159 s_160 s_161 s_162 s_163 s_164 s_165 s_166 s_167 s_168 s_169 s_170 s_171 s_172 s_173 s_174 s_175 s_176 s_177 : Value}
    (hq : (q0 :: q1 :: qr).length = q) (hM : M ≤ 16777216) (OK : ∀ z ∈ q0 :: q1 :: qr, OkG M z.1) (SUB : SubI b W los his (some ⟨g5, o5, none⟩) c5 (q0 :: q1 :: qr)) (hb : w.heap.size + 3 ≤ b) (hwW : w.heap.size + 3 ≤ W.heap.size)
    (BR : Blk W (w.heap.size + 1) 29 #[.slice none 0 0]) (BP : Blk W (w.heap.size + 1 + 1) 50 (ints (cP ⟨kd, pa, pb, pc, nn⟩)).toArray) (BF : Blk W fb 50 (ints (cP ⟨kd0, pa0, pb0, pc0, nn0⟩)).toArray) (BS : Blk W sb 50 (ints (cP ⟨kd1, pa1, pb1, pc1, nn1⟩)).toArray)
    (HW : Below w.heap.size w W) (L0 : lastP q0.1 = ⟨kd0, pa0, pb0, pc0, nn0⟩) (L1 : lastP q1.1 = ⟨kd1, pa1, pb1, pc1, nn1⟩) (HF : XS = foldD ⟨kd, pa, pb, pc, nn⟩ (q0.1 :: q1.1 :: qr.map Prod.fst))
    (hk : kd = 8) (hf : kd0 = 0) (hn : nn0 = 0) (hq3 : q = 3) :
    Code.wp Try.prog (sRest 12) (bodyPost Try.prog Try.f55 (MadeF w XS)) ⟨#[s_0, s_1, s_2, s_3, .pointer (some ⟨w.heap.size + 1, 0, none⟩), .pointer (some ⟨w.heap.size + 1 + 1, 0, none⟩), s_6, .slice (some ⟨g5, o5, none⟩) q c5, s_8, .pointer (some ⟨fb, 0, none⟩), .pointer (some ⟨sb, 0, none⟩), s_11, s_12, s_13, s_14, s_15, s_16, s_17, s_18, s_19, s_20, s_21, s_22, s_23, s_24, s_25, s_26, s_27, s_28, s_29, s_30, s_31, s_32, s_33, s_34, s_35, s_36, s_37, s_38, s_39, s_40, s_41, s_42, s_43, s_44, s_45, s_46, s_47, s_48, s_49, s_50, s_51, s_52, s_53, s_54, s_55, s_56, s_57, s_58, s_59, s_60, s_61, s_62, s_63, s_64, s_65, s_66, s_67, s_68, s_69, s_70, s_71, s_72, s_73, s_74, s_75, s_76, s_77, s_78, s_79, s_80, s_81, s_82, s_83, s_84, s_85, s_86, s_87, s_88, s_89, s_90, s_91, s_92, s_93, s_94, s_95, s_96, s_97, s_98, s_99, s_100, s_101, s_102, s_103, s_104, s_105, s_106, s_107, s_108, s_109, s_110, s_111, s_112, s_113, s_114, s_115, s_116, s_117, s_118, s_119, s_120, s_121, s_122, s_123, s_124, s_125, s_126, s_127, s_128, s_129, s_130, s_131, s_132, s_133, s_134, s_135, s_136, s_137, s_138, s_139, s_140, s_141, s_142, s_143, s_144, s_145, s_146, s_147, s_148, s_149, s_150, s_151, s_152, s_153, s_154, s_155, s_156, s_157, s_158, s_159, s_160, s_161, s_162, s_163, s_164, s_165, s_166, s_167, s_168, s_169, s_170, s_171, s_172, s_173, s_174, s_175, s_176, s_177], []⟩ W := by
  obtain ⟨q2, rfl⟩ : ∃ z, qr = [z] := List.length_eq_one_iff.1 (by rw [← hq] at hq3; simpa using hq3)
  obtain ⟨y, hd⟩ := q2
  subst hk; subst hf; subst hn
  have HF2 := Lib.hid (show XS = y from by rw [HF, foldD_if rfl, L0, if_pos rfl, if_pos rfl]; rfl)
  have HI := Lib.hid (show (q0 :: q1 :: [(y, hd)])[2]? = some (y, hd) from rfl)
  have hq2 : (2 : Int) < (q : Int) := by omega
  have HS := Lib.hid SUB; have HBR := Lib.hid BR; have HBP := Lib.hid BP; have HHW := Lib.hid HW; have HOK := Lib.hid OK; have QL := Lib.hid hq
  have p0 : W.cell? ⟨w.heap.size + 1 + 1, 0, none⟩ = some (.int .i64 8) := BP.cell 0
  have p1 : W.cell? ⟨w.heap.size + 1 + 1, 1, none⟩ = some (.int .i64 pa) := BP.cell 1
  have p2 : W.cell? ⟨w.heap.size + 1 + 1, 2, none⟩ = some (.int .i64 pb) := BP.cell 2
  have p3 : W.cell? ⟨w.heap.size + 1 + 1, 3, none⟩ = some (.int .i64 pc) := BP.cell 3
  have p4 : W.cell? ⟨w.heap.size + 1 + 1, 4, none⟩ = some (.int .i64 nn) := BP.cell 4
  have f0 : W.cell? ⟨fb, 0, none⟩ = some (.int .i64 0) := BF.cell 0
  have f4 : W.cell? ⟨fb, 4, none⟩ = some (.int .i64 0) := BF.cell 4
  have s0 : W.cell? ⟨sb, 0, none⟩ = some (.int .i64 kd1) := BS.cell 0
  have s4 : W.cell? ⟨sb, 4, none⟩ = some (.int .i64 nn1) := BS.cell 4
  clear SUB BR BP HW OK BF BS hq HF L0 L1 hq3
  have fr := HBR.out.frozen 0; have gr := HBR.out.cell 0
  obtain ⟨gi, oi, hAi, _, xi, si, li, ti⟩ := HS.out.hdr (i := 2) (q := (y, hd)) HI.out
  simp only [Option.some.injEq, Addr.mk.injEq, and_true] at hAi
  obtain ⟨rfl, rfl⟩ := hAi
  simp only at xi si
  obtain ⟨A, c, lo, hi⟩ := hd
  simp only at xi si li ti
  have E := Lib.hid ((HBR.out.set_ 0 (.slice A y.length c)).cell 0)
  have SI := Lib.hid si
  have hq1 : (1 : Int) < (q : Int) := by have := QL.out; simp at this; omega
  clear si HS HBR HBP HOK QL
  conv => arg 2; whnf
  go_wp2_with fail
  have HE := E.out
  simp at HE
  refine bodyPost_ret (v := .agg #[.slice A y.length c]) (by simp [results, Try.results55, go_sem, HE]) rfl ?_
  rw [HF2.out]
  exact ⟨A, c, rfl, (SI.out.turn ((Turn.refl 0 (w.heap.size + 2) _).setCell (p := ⟨w.heap.size + 1, 0, none⟩) (Nat.zero_le _) (.inl (by simp)) _) (.inr (by omega))).mono (by omega) (by simp; omega), HHW.out.setCell (by simp) _⟩
  
set_option maxRecDepth 1000000 in
set_option maxHeartbeats 4000000 in
theorem foldedOne {w W : World} {b g5 o5 q c5 los his M fb sb : Nat} {q0 q1 : List Prt × Hs} {qr : List (List Prt × Hs)} {kd pa pb pc nn kd0 pa0 pb0 pc0 nn0 kd1 pa1 pb1 pc1 nn1 : Int} {XS : List Prt} {s_0 s_1 s_2 s_3 s_6 s_8 s_11 s_12 s_13 s_14 s_15 s_16 s_17 s_18 s_19 s_20 s_21 s_22 s_23 s_24 s_25 s_26 s_27 s_28 s_29 s_30 s_31 s_32 s_33 s_34 s_35 s_36 s_37 s_38 s_39 s_40 s_41 s_42 s_43 s_44 s_45 s_46 s_47 s_48 s_49 s_50 s_51 s_52 s_53 s_54 s_55 s_56 s_57 s_58 s_59 s_60 s_61 s_62 s_63 s_64 s_65 s_66 s_67 s_68 s_69 s_70 s_71 s_72 s_73 s_74 s_75 s_76 s_77 s_78 s_79 s_80 s_81 s_82 s_83 s_84 s_85 s_86 s_87 s_88 s_89 s_90 s_91 s_92 s_93 s_94 s_95 s_96 s_97 s_98 s_99 s_100 s_101 s_102 s_103 s_104 s_105 s_106 s_107 s_108 s_109 s_110 s_111 s_112 s_113 s_114 s_115 s_116 s_117 s_118 s_119 s_120 s_121 s_122 s_123 s_124 s_125 s_126 s_127 s_128 s_129 s_130 s_131 s_132 s_133 s_134 s_135 s_136 s_137 s_138 s_139 s_140 s_141 s_142 s_143 s_144 s_145 s_146 s_147 s_148 s_149 s_150 s_151 s_152 s_153 s_154 s_155 s_156 s_157 s_158 s_159 s_160 s_161 s_162 s_163 s_164 s_165 s_166 s_167 s_168 s_169 s_170 s_171 s_172 s_173 s_174 s_175 s_176 s_177 : Value}
    (hq : (q0 :: q1 :: qr).length = q) (hM : M ≤ 16777216) (OK : ∀ z ∈ q0 :: q1 :: qr, OkG M z.1) (SUB : SubI b W los his (some ⟨g5, o5, none⟩) c5 (q0 :: q1 :: qr)) (hb : w.heap.size + 3 ≤ b) (hwW : w.heap.size + 3 ≤ W.heap.size)
    (BR : Blk W (w.heap.size + 1) 29 #[.slice none 0 0]) (BP : Blk W (w.heap.size + 1 + 1) 50 (ints (cP ⟨kd, pa, pb, pc, nn⟩)).toArray) (BF : Blk W fb 50 (ints (cP ⟨kd0, pa0, pb0, pc0, nn0⟩)).toArray) (BS : Blk W sb 50 (ints (cP ⟨kd1, pa1, pb1, pc1, nn1⟩)).toArray)
    (HW : Below w.heap.size w W) (L0 : lastP q0.1 = ⟨kd0, pa0, pb0, pc0, nn0⟩) (L1 : lastP q1.1 = ⟨kd1, pa1, pb1, pc1, nn1⟩) (HF : XS = foldD ⟨kd, pa, pb, pc, nn⟩ (q0.1 :: q1.1 :: qr.map Prod.fst))
    (hk : kd = 8) (hf : kd0 = 0) (hn : nn0 ≠ 0) :
    Code.wp Try.prog (sRest 12) (bodyPost Try.prog Try.f55 (MadeF w XS)) ⟨#[s_0, s_1, s_2, s_3, .pointer (some ⟨w.heap.size + 1, 0, none⟩), .pointer (some ⟨w.heap.size + 1 + 1, 0, none⟩), s_6, .slice (some ⟨g5, o5, none⟩) q c5, s_8, .pointer (some ⟨fb, 0, none⟩), .pointer (some ⟨sb, 0, none⟩), s_11, s_12, s_13, s_14, s_15, s_16, s_17, s_18, s_19, s_20, s_21, s_22, s_23, s_24, s_25, s_26, s_27, s_28, s_29, s_30, s_31, s_32, s_33, s_34, s_35, s_36, s_37, s_38, s_39, s_40, s_41, s_42, s_43, s_44, s_45, s_46, s_47, s_48, s_49, s_50, s_51, s_52, s_53, s_54, s_55, s_56, s_57, s_58, s_59, s_60, s_61, s_62, s_63, s_64, s_65, s_66, s_67, s_68, s_69, s_70, s_71, s_72, s_73, s_74, s_75, s_76, s_77, s_78, s_79, s_80, s_81, s_82, s_83, s_84, s_85, s_86, s_87, s_88, s_89, s_90, s_91, s_92, s_93, s_94, s_95, s_96, s_97, s_98, s_99, s_100, s_101, s_102, s_103, s_104, s_105, s_106, s_107, s_108, s_109, s_110, s_111, s_112, s_113, s_114, s_115, s_116, s_117, s_118, s_119, s_120, s_121, s_122, s_123, s_124, s_125, s_126, s_127, s_128, s_129, s_130, s_131, s_132, s_133, s_134, s_135, s_136, s_137, s_138, s_139, s_140, s_141, s_142, s_143, s_144, s_145, s_146, s_147, s_148, s_149, s_150, s_151, s_152, s_153, s_154, s_155, s_156, s_157, s_158, s_159, s_160, s_161, s_162, s_163, s_164, s_165, s_166, s_167, s_168, s_169, s_170, s_171, s_172, s_173, s_174, s_175, s_176, s_177], []⟩ W := by
  obtain ⟨y, hd⟩ := q1
  subst hk; subst hf
  have HF2 := Lib.hid (show XS = y from by rw [HF, foldD_if rfl, L0, if_pos rfl, if_neg hn])
  have HI := Lib.hid (show (q0 :: (y, hd) :: qr)[1]? = some (y, hd) from rfl)
  have hnb : (nn0 != 0) = true := by simp [hn]
  have HS := Lib.hid SUB; have HBR := Lib.hid BR; have HBP := Lib.hid BP; have HHW := Lib.hid HW; have HOK := Lib.hid OK; have QL := Lib.hid hq
  have p0 : W.cell? ⟨w.heap.size + 1 + 1, 0, none⟩ = some (.int .i64 8) := BP.cell 0
  have p1 : W.cell? ⟨w.heap.size + 1 + 1, 1, none⟩ = some (.int .i64 pa) := BP.cell 1
  have p2 : W.cell? ⟨w.heap.size + 1 + 1, 2, none⟩ = some (.int .i64 pb) := BP.cell 2
  have p3 : W.cell? ⟨w.heap.size + 1 + 1, 3, none⟩ = some (.int .i64 pc) := BP.cell 3
  have p4 : W.cell? ⟨w.heap.size + 1 + 1, 4, none⟩ = some (.int .i64 nn) := BP.cell 4
  have f0 : W.cell? ⟨fb, 0, none⟩ = some (.int .i64 0) := BF.cell 0
  have f4 : W.cell? ⟨fb, 4, none⟩ = some (.int .i64 nn0) := BF.cell 4
  have s0 : W.cell? ⟨sb, 0, none⟩ = some (.int .i64 kd1) := BS.cell 0
  have s4 : W.cell? ⟨sb, 4, none⟩ = some (.int .i64 nn1) := BS.cell 4
  clear SUB BR BP HW OK BF BS hq HF L0 L1 hn
  have fr := HBR.out.frozen 0; have gr := HBR.out.cell 0
  obtain ⟨gi, oi, hAi, _, xi, si, li, ti⟩ := HS.out.hdr (i := 1) (q := (y, hd)) HI.out
  simp only [Option.some.injEq, Addr.mk.injEq, and_true] at hAi
  obtain ⟨rfl, rfl⟩ := hAi
  simp only at xi si
  obtain ⟨A, c, lo, hi⟩ := hd
  simp only at xi si li ti
  have E := Lib.hid ((HBR.out.set_ 0 (.slice A y.length c)).cell 0)
  have SI := Lib.hid si
  have hq1 : (1 : Int) < (q : Int) := by have := QL.out; simp at this; omega
  clear si HS HBR HBP HOK QL
  conv => arg 2; whnf
  go_wp2_with fail
  have HE := E.out
  simp at HE
  refine bodyPost_ret (v := .agg #[.slice A y.length c]) (by simp [results, Try.results55, go_sem, HE]) rfl ?_
  rw [HF2.out]
  exact ⟨A, c, rfl, (SI.out.turn ((Turn.refl 0 (w.heap.size + 2) _).setCell (p := ⟨w.heap.size + 1, 0, none⟩) (Nat.zero_le _) (.inl (by simp)) _) (.inr (by omega))).mono (by omega) (by simp; omega), HHW.out.setCell (by simp) _⟩
  
set_option maxRecDepth 1000000 in
set_option maxHeartbeats 4000000 in
theorem foldedNum {w W : World} {b g5 o5 q c5 los his M fb sb : Nat} {q0 q1 : List Prt × Hs} {qr : List (List Prt × Hs)} {kd pa pb pc nn kd0 pa0 pb0 pc0 nn0 kd1 pa1 pb1 pc1 nn1 : Int} {XS : List Prt} {s_0 s_1 s_2 s_3 s_6 s_8 s_11 s_12 s_13 s_14 s_15 s_16 s_17 s_18 s_19 s_20 s_21 s_22 s_23 s_24 s_25 s_26 s_27 s_28 s_29 s_30 s_31 s_32 s_33 s_34 s_35 s_36 s_37 s_38 s_39 s_40 s_41 s_42 s_43 s_44 s_45 s_46 s_47 s_48 s_49 s_50 s_51 s_52 s_53 s_54 s_55 s_56 s_57 s_58 s_59 s_60 s_61 s_62 s_63 s_64 s_65 s_66 s_67 s_68 s_69 s_70 s_71 s_72 s_73 s_74 s_75 s_76 s_77 s_78 s_79 s_80 s_81 s_82 s_83 s_84 s_85 s_86 s_87 s_88 s_89 s_90 s_91 s_92 s_93 s_94 s_95 s_96 s_97 s_98 s_99 s_100 s_101 s_102 s_103 s_104 s_105 s_106 s_107 s_108 s_109 s_110 s_111 s_112 s_113 s_114 s_115 s_116 s_117 s_118 s_119 s_120 s_121 s_122 s_123 s_124 s_125 s_126 s_127 s_128 s_129 s_130 s_131 s_132 s_133 s_134 s_135 s_136 s_137 s_138 s_139 s_140 s_141 s_142 s_143 s_144 s_145 s_146 s_147 s_148 s_149 s_150 s_151 s_152 s_153 s_154 s_155 s_156 s_157 s_158 s_159 s_160 s_161 s_162 s_163 s_164 s_165 s_166 s_167 s_168 s_169 s_170 s_171 s_172 s_173 s_174 s_175 s_176 s_177 : Value}
    (hq : (q0 :: q1 :: qr).length = q) (hM : M ≤ 16777216) (OK : ∀ z ∈ q0 :: q1 :: qr, OkG M z.1) (SUB : SubI b W los his (some ⟨g5, o5, none⟩) c5 (q0 :: q1 :: qr)) (hb : w.heap.size + 3 ≤ b) (hwW : w.heap.size + 3 ≤ W.heap.size)
    (BR : Blk W (w.heap.size + 1) 29 #[.slice none 0 0]) (BP : Blk W (w.heap.size + 1 + 1) 50 (ints (cP ⟨kd, pa, pb, pc, nn⟩)).toArray) (BF : Blk W fb 50 (ints (cP ⟨kd0, pa0, pb0, pc0, nn0⟩)).toArray) (BS : Blk W sb 50 (ints (cP ⟨kd1, pa1, pb1, pc1, nn1⟩)).toArray)
    (HW : Below w.heap.size w W) (L0 : lastP q0.1 = ⟨kd0, pa0, pb0, pc0, nn0⟩) (L1 : lastP q1.1 = ⟨kd1, pa1, pb1, pc1, nn1⟩) (HF : XS = foldD ⟨kd, pa, pb, pc, nn⟩ (q0.1 :: q1.1 :: qr.map Prod.fst))
    (hk : kd ≠ 8) (hkd : 2 ≤ kd ∧ kd ≤ 7) (hf : kd0 = 0) (hs : kd1 = 0) (hj : joinF kd nn0 nn1 ≤ 99) :
    Code.wp Try.prog (sRest 12) (bodyPost Try.prog Try.f55 (MadeF w XS)) ⟨#[s_0, s_1, s_2, s_3, .pointer (some ⟨w.heap.size + 1, 0, none⟩), .pointer (some ⟨w.heap.size + 1 + 1, 0, none⟩), s_6, .slice (some ⟨g5, o5, none⟩) q c5, s_8, .pointer (some ⟨fb, 0, none⟩), .pointer (some ⟨sb, 0, none⟩), s_11, s_12, s_13, s_14, s_15, s_16, s_17, s_18, s_19, s_20, s_21, s_22, s_23, s_24, s_25, s_26, s_27, s_28, s_29, s_30, s_31, s_32, s_33, s_34, s_35, s_36, s_37, s_38, s_39, s_40, s_41, s_42, s_43, s_44, s_45, s_46, s_47, s_48, s_49, s_50, s_51, s_52, s_53, s_54, s_55, s_56, s_57, s_58, s_59, s_60, s_61, s_62, s_63, s_64, s_65, s_66, s_67, s_68, s_69, s_70, s_71, s_72, s_73, s_74, s_75, s_76, s_77, s_78, s_79, s_80, s_81, s_82, s_83, s_84, s_85, s_86, s_87, s_88, s_89, s_90, s_91, s_92, s_93, s_94, s_95, s_96, s_97, s_98, s_99, s_100, s_101, s_102, s_103, s_104, s_105, s_106, s_107, s_108, s_109, s_110, s_111, s_112, s_113, s_114, s_115, s_116, s_117, s_118, s_119, s_120, s_121, s_122, s_123, s_124, s_125, s_126, s_127, s_128, s_129, s_130, s_131, s_132, s_133, s_134, s_135, s_136, s_137, s_138, s_139, s_140, s_141, s_142, s_143, s_144, s_145, s_146, s_147, s_148, s_149, s_150, s_151, s_152, s_153, s_154, s_155, s_156, s_157, s_158, s_159, s_160, s_161, s_162, s_163, s_164, s_165, s_166, s_167, s_168, s_169, s_170, s_171, s_172, s_173, s_174, s_175, s_176, s_177], []⟩ W := by
  subst hf; subst hs
  have HF2 := Lib.hid (show XS = [numP (joinF kd nn0 nn1)] from by rw [HF, foldD_two hk hkd, L0, L1, if_pos ⟨rfl, rfl, hj⟩])
  have ok0 := (OK q0 (by simp)).2.2; have ok1 := (OK q1 (by simp)).2.2
  rw [L0] at ok0; rw [L1] at ok1
  simp only at ok0 ok1
  have JC := Lib.hid (fun (W : World) => specJoined (w := W) (kd := kd) ok0.1 ok0.2 ok1.1 ok1.2)
  have hkb : (kd == 8) = false := by simp [hk]
  have hkb2 : (kd != 8) = true := by simp [hk]
  obtain ⟨jv, hjv⟩ : ∃ jv, joinF kd nn0 nn1 = jv := ⟨_, rfl⟩
  rw [hjv] at JC hj HF2
  have HS := Lib.hid SUB; have HBR := Lib.hid BR; have HBP := Lib.hid BP; have HHW := Lib.hid HW; have HOK := Lib.hid OK; have QL := Lib.hid hq
  have p0 : W.cell? ⟨w.heap.size + 1 + 1, 0, none⟩ = some (.int .i64 kd) := BP.cell 0
  have p1 : W.cell? ⟨w.heap.size + 1 + 1, 1, none⟩ = some (.int .i64 pa) := BP.cell 1
  have p2 : W.cell? ⟨w.heap.size + 1 + 1, 2, none⟩ = some (.int .i64 pb) := BP.cell 2
  have p3 : W.cell? ⟨w.heap.size + 1 + 1, 3, none⟩ = some (.int .i64 pc) := BP.cell 3
  have p4 : W.cell? ⟨w.heap.size + 1 + 1, 4, none⟩ = some (.int .i64 nn) := BP.cell 4
  have f0 : W.cell? ⟨fb, 0, none⟩ = some (.int .i64 0) := BF.cell 0
  have f4 : W.cell? ⟨fb, 4, none⟩ = some (.int .i64 nn0) := BF.cell 4
  have s0 : W.cell? ⟨sb, 0, none⟩ = some (.int .i64 0) := BS.cell 0
  have s4 : W.cell? ⟨sb, 4, none⟩ = some (.int .i64 nn1) := BS.cell 4
  clear SUB BR BP HW OK BF BS hq HF L0 L1 hjv hk hkd ok0 ok1
  conv => arg 2; whnf
  go_wp2_with fail
  refine (JC.out _).mono ?_; rintro e w9' ⟨rfl, rfl⟩
  go_wp2_with fail
  refine (JC.out _).mono ?_; rintro e w9' ⟨rfl, rfl⟩
  go_wp2_with fail
  refine (show Calls Try.prog 65 #[.int .i64 jv] W (fun e w' => e = .returned (.agg #[.int .i64 0, .int .i64 (-1), .int .i64 (-1), .int .i64 (-1), .int .i64 jv]) ∧ Below W.heap.size W w') from numberPart jv).mono ?_; rintro e w9 ⟨rfl, b9⟩
  have hz9 := b9.size
  have kr := (HBR.out.below b9 HBR.out.lt).alloc (.cells #[.int .i64 0, .int .i64 (-1), .int .i64 (-1), .int .i64 (-1), .int .i64 jv] 50)
  have fr : (w9.alloc (.cells #[.int .i64 0, .int .i64 (-1), .int .i64 (-1), .int .i64 (-1), .int .i64 jv] 50)).frozen? ⟨w.heap.size + 1, 0, none⟩ = false := kr.frozen 0
  have gr : (w9.alloc (.cells #[.int .i64 0, .int .i64 (-1), .int .i64 (-1), .int .i64 (-1), .int .i64 jv] 50)).cell? ⟨w.heap.size + 1, 0, none⟩ = some (.slice none 0 0) := kr.cell 0
  have E := Lib.hid ((kr.set_ 0 (.slice (some ⟨w9.heap.size, 0, none⟩) 1 1)).cell 0)
  have S9 := Lib.hid (show SlP (w9.alloc (.cells #[.int .i64 0, .int .i64 (-1), .int .i64 (-1), .int .i64 (-1), .int .i64 jv] 50)) w9.heap.size (w9.heap.size + 1) (some ⟨w9.heap.size, 0, none⟩) 1 [numP jv] from SlR.newAt kP rfl [numP jv] (Nat.le_refl _))
  have HB9 := Lib.hid ((HHW.out.trans (b9.mono (HHW.out.size))).alloc (by have := HHW.out.size; omega) (.cells #[.int .i64 0, .int .i64 (-1), .int .i64 (-1), .int .i64 (-1), .int .i64 jv] 50))
  have hne1 : ¬ w.heap.size + 1 = w9.heap.size := by omega
  have hne2 : ¬ w9.heap.size = w.heap.size + 1 := by omega
  clear b9 kr p0 p1 p2 p3 p4 f0 f4 s0 s4 hj hkb hkb2 JC HS HBP HOK QL
  go_wp2_with fail
  have HE := E.out
  simp at HE
  refine bodyPost_ret (v := .agg #[.slice (some ⟨w9.heap.size, 0, none⟩) 1 1]) (by simp [results, Try.results55, go_sem, HE]) rfl ?_
  rw [HF2.out]
  exact ⟨_, _, rfl, (S9.out.turn ((Turn.refl 0 (w.heap.size + 2) _).setCell (p := ⟨w.heap.size + 1, 0, none⟩) (Nat.zero_le _) (.inl (by simp)) _) (.inr (by omega))).mono (by omega) (by simp), HB9.out.setCell (by simp) _⟩
  
set_option maxRecDepth 1000000 in
set_option maxHeartbeats 4000000 in
theorem foldedIf {w W : World} {b g5 o5 q c5 los his M fb sb : Nat} {q0 q1 : List Prt × Hs} {qr : List (List Prt × Hs)} {kd pa pb pc nn kd0 pa0 pb0 pc0 nn0 kd1 pa1 pb1 pc1 nn1 : Int} {XS : List Prt} {s_0 s_1 s_2 s_3 s_6 s_8 s_11 s_12 s_13 s_14 s_15 s_16 s_17 s_18 s_19 s_20 s_21 s_22 s_23 s_24 s_25 s_26 s_27 s_28 s_29 s_30 s_31 s_32 s_33 s_34 s_35 s_36 s_37 s_38 s_39 s_40 s_41 s_42 s_43 s_44 s_45 s_46 s_47 s_48 s_49 s_50 s_51 s_52 s_53 s_54 s_55 s_56 s_57 s_58 s_59 s_60 s_61 s_62 s_63 s_64 s_65 s_66 s_67 s_68 s_69 s_70 s_71 s_72 s_73 s_74 s_75 s_76 s_77 s_78 s_79 s_80 s_81 s_82 s_83 s_84 s_85 s_86 s_87 s_88 s_89 s_90 s_91 s_92 s_93 s_94 s_95 s_96 s_97 s_98 s_99 s_100 s_101 s_102 s_103 s_104 s_105 s_106 s_107 s_108 s_109 s_110 s_111 s_112 s_113 s_114 s_115 s_116 s_117 s_118 s_119 s_120 s_121 s_122 s_123 s_124 s_125 s_126 s_127 s_128 s_129 s_130 s_131 s_132 s_133 s_134 s_135 s_136 s_137 s_138 s_139 s_140 s_141 s_142 s_143 s_144 s_145 s_146 s_147 s_148 s_149 s_150 s_151 s_152 s_153 s_154 s_155 s_156 s_157 s_158 s_159 s_160 s_161 s_162 s_163 s_164 s_165 s_166 s_167 s_168 s_169 s_170 s_171 s_172 s_173 s_174 s_175 s_176 s_177 : Value}
    (hq : (q0 :: q1 :: qr).length = q) (hM : M ≤ 16777216) (OK : ∀ z ∈ q0 :: q1 :: qr, OkG M z.1) (SUB : SubI b W los his (some ⟨g5, o5, none⟩) c5 (q0 :: q1 :: qr)) (hb : w.heap.size + 3 ≤ b) (hwW : w.heap.size + 3 ≤ W.heap.size)
    (BR : Blk W (w.heap.size + 1) 29 #[.slice none 0 0]) (BP : Blk W (w.heap.size + 1 + 1) 50 (ints (cP ⟨kd, pa, pb, pc, nn⟩)).toArray) (BF : Blk W fb 50 (ints (cP ⟨kd0, pa0, pb0, pc0, nn0⟩)).toArray) (BS : Blk W sb 50 (ints (cP ⟨kd1, pa1, pb1, pc1, nn1⟩)).toArray)
    (HW : Below w.heap.size w W) (L0 : lastP q0.1 = ⟨kd0, pa0, pb0, pc0, nn0⟩) (L1 : lastP q1.1 = ⟨kd1, pa1, pb1, pc1, nn1⟩) (HF : XS = foldD ⟨kd, pa, pb, pc, nn⟩ (q0.1 :: q1.1 :: qr.map Prod.fst))
    (hk : kd = 8) (hf : kd0 ≠ 0) (hq3 : q = 3) :
    Code.wp Try.prog (sRest 12) (bodyPost Try.prog Try.f55 (MadeF w XS)) ⟨#[s_0, s_1, s_2, s_3, .pointer (some ⟨w.heap.size + 1, 0, none⟩), .pointer (some ⟨w.heap.size + 1 + 1, 0, none⟩), s_6, .slice (some ⟨g5, o5, none⟩) q c5, s_8, .pointer (some ⟨fb, 0, none⟩), .pointer (some ⟨sb, 0, none⟩), s_11, s_12, s_13, s_14, s_15, s_16, s_17, s_18, s_19, s_20, s_21, s_22, s_23, s_24, s_25, s_26, s_27, s_28, s_29, s_30, s_31, s_32, s_33, s_34, s_35, s_36, s_37, s_38, s_39, s_40, s_41, s_42, s_43, s_44, s_45, s_46, s_47, s_48, s_49, s_50, s_51, s_52, s_53, s_54, s_55, s_56, s_57, s_58, s_59, s_60, s_61, s_62, s_63, s_64, s_65, s_66, s_67, s_68, s_69, s_70, s_71, s_72, s_73, s_74, s_75, s_76, s_77, s_78, s_79, s_80, s_81, s_82, s_83, s_84, s_85, s_86, s_87, s_88, s_89, s_90, s_91, s_92, s_93, s_94, s_95, s_96, s_97, s_98, s_99, s_100, s_101, s_102, s_103, s_104, s_105, s_106, s_107, s_108, s_109, s_110, s_111, s_112, s_113, s_114, s_115, s_116, s_117, s_118, s_119, s_120, s_121, s_122, s_123, s_124, s_125, s_126, s_127, s_128, s_129, s_130, s_131, s_132, s_133, s_134, s_135, s_136, s_137, s_138, s_139, s_140, s_141, s_142, s_143, s_144, s_145, s_146, s_147, s_148, s_149, s_150, s_151, s_152, s_153, s_154, s_155, s_156, s_157, s_158, s_159, s_160, s_161, s_162, s_163, s_164, s_165, s_166, s_167, s_168, s_169, s_170, s_171, s_172, s_173, s_174, s_175, s_176, s_177], []⟩ W := by
  subst hk
  have HG : XS = gluedP ⟨8, pa, pb, pc, nn⟩ (q0.1 :: q1.1 :: qr.map Prod.fst) := by rw [HF, foldD_if rfl, L0, if_neg hf]
  have HQ3 : q = 2 ∨ q = 3 := .inr hq3
  have HTL := Lib.hid HG
  have hfb : (kd0 == 0) = false := by simp [hf]
  have SUB' := Lib.hid SUB; have OK' := Lib.hid OK; have BR' := Lib.hid BR; have BP' := Lib.hid BP; have HW' := Lib.hid HW; have QL := Lib.hid hq; have Q3 := Lib.hid HQ3
  have p0 : W.cell? ⟨w.heap.size + 1 + 1, 0, none⟩ = some (.int .i64 8) := BP.cell 0
  have p1 : W.cell? ⟨w.heap.size + 1 + 1, 1, none⟩ = some (.int .i64 pa) := BP.cell 1
  have p2 : W.cell? ⟨w.heap.size + 1 + 1, 2, none⟩ = some (.int .i64 pb) := BP.cell 2
  have p3 : W.cell? ⟨w.heap.size + 1 + 1, 3, none⟩ = some (.int .i64 pc) := BP.cell 3
  have p4 : W.cell? ⟨w.heap.size + 1 + 1, 4, none⟩ = some (.int .i64 nn) := BP.cell 4
  have f0 : W.cell? ⟨fb, 0, none⟩ = some (.int .i64 kd0) := BF.cell 0
  have f4 : W.cell? ⟨fb, 4, none⟩ = some (.int .i64 nn0) := BF.cell 4
  have s0 : W.cell? ⟨sb, 0, none⟩ = some (.int .i64 kd1) := BS.cell 0
  have s4 : W.cell? ⟨sb, 4, none⟩ = some (.int .i64 nn1) := BS.cell 4
  clear SUB BR BP HW OK BF BS hq HG HQ3 HF L0 L1 hf hq3
  conv => arg 2; whnf
  go_upto_if 108 with fail
  go_step
  refine wp_skip ?_
  dsimp only [Exit.then]
  go_step
  exact foldedTail QL.out Q3.out hM rfl OK'.out SUB'.out hwW BR'.out BP'.out HW'.out HTL.out
  
set_option maxRecDepth 1000000 in
set_option maxHeartbeats 4000000 in
theorem foldedFirst {w W : World} {b g5 o5 q c5 los his M fb sb : Nat} {q0 q1 : List Prt × Hs} {qr : List (List Prt × Hs)} {kd pa pb pc nn kd0 pa0 pb0 pc0 nn0 kd1 pa1 pb1 pc1 nn1 : Int} {XS : List Prt} {s_0 s_1 s_2 s_3 s_6 s_8 s_11 s_12 s_13 s_14 s_15 s_16 s_17 s_18 s_19 s_20 s_21 s_22 s_23 s_24 s_25 s_26 s_27 s_28 s_29 s_30 s_31 s_32 s_33 s_34 s_35 s_36 s_37 s_38 s_39 s_40 s_41 s_42 s_43 s_44 s_45 s_46 s_47 s_48 s_49 s_50 s_51 s_52 s_53 s_54 s_55 s_56 s_57 s_58 s_59 s_60 s_61 s_62 s_63 s_64 s_65 s_66 s_67 s_68 s_69 s_70 s_71 s_72 s_73 s_74 s_75 s_76 s_77 s_78 s_79 s_80 s_81 s_82 s_83 s_84 s_85 s_86 s_87 s_88 s_89 s_90 s_91 s_92 s_93 s_94 s_95 s_96 s_97 s_98 s_99 s_100 s_101 s_102 s_103 s_104 s_105 s_106 s_107 s_108 s_109 s_110 s_111 s_112 s_113 s_114 s_115 s_116 s_117 s_118 s_119 s_120 s_121 s_122 s_123 s_124 s_125 s_126 s_127 s_128 s_129 s_130 s_131 s_132 s_133 s_134 s_135 s_136 s_137 s_138 s_139 s_140 s_141 s_142 s_143 s_144 s_145 s_146 s_147 s_148 s_149 s_150 s_151 s_152 s_153 s_154 s_155 s_156 s_157 s_158 s_159 s_160 s_161 s_162 s_163 s_164 s_165 s_166 s_167 s_168 s_169 s_170 s_171 s_172 s_173 s_174 s_175 s_176 s_177 : Value}
    (hq : (q0 :: q1 :: qr).length = q) (hM : M ≤ 16777216) (OK : ∀ z ∈ q0 :: q1 :: qr, OkG M z.1) (SUB : SubI b W los his (some ⟨g5, o5, none⟩) c5 (q0 :: q1 :: qr)) (hb : w.heap.size + 3 ≤ b) (hwW : w.heap.size + 3 ≤ W.heap.size)
    (BR : Blk W (w.heap.size + 1) 29 #[.slice none 0 0]) (BP : Blk W (w.heap.size + 1 + 1) 50 (ints (cP ⟨kd, pa, pb, pc, nn⟩)).toArray) (BF : Blk W fb 50 (ints (cP ⟨kd0, pa0, pb0, pc0, nn0⟩)).toArray) (BS : Blk W sb 50 (ints (cP ⟨kd1, pa1, pb1, pc1, nn1⟩)).toArray)
    (HW : Below w.heap.size w W) (L0 : lastP q0.1 = ⟨kd0, pa0, pb0, pc0, nn0⟩) (L1 : lastP q1.1 = ⟨kd1, pa1, pb1, pc1, nn1⟩) (HF : XS = foldD ⟨kd, pa, pb, pc, nn⟩ (q0.1 :: q1.1 :: qr.map Prod.fst))
    (hk : kd ≠ 8) (hkd : 2 ≤ kd ∧ kd ≤ 7) (hq2 : q = 2) (hf : kd0 ≠ 0) :
    Code.wp Try.prog (sRest 12) (bodyPost Try.prog Try.f55 (MadeF w XS)) ⟨#[s_0, s_1, s_2, s_3, .pointer (some ⟨w.heap.size + 1, 0, none⟩), .pointer (some ⟨w.heap.size + 1 + 1, 0, none⟩), s_6, .slice (some ⟨g5, o5, none⟩) q c5, s_8, .pointer (some ⟨fb, 0, none⟩), .pointer (some ⟨sb, 0, none⟩), s_11, s_12, s_13, s_14, s_15, s_16, s_17, s_18, s_19, s_20, s_21, s_22, s_23, s_24, s_25, s_26, s_27, s_28, s_29, s_30, s_31, s_32, s_33, s_34, s_35, s_36, s_37, s_38, s_39, s_40, s_41, s_42, s_43, s_44, s_45, s_46, s_47, s_48, s_49, s_50, s_51, s_52, s_53, s_54, s_55, s_56, s_57, s_58, s_59, s_60, s_61, s_62, s_63, s_64, s_65, s_66, s_67, s_68, s_69, s_70, s_71, s_72, s_73, s_74, s_75, s_76, s_77, s_78, s_79, s_80, s_81, s_82, s_83, s_84, s_85, s_86, s_87, s_88, s_89, s_90, s_91, s_92, s_93, s_94, s_95, s_96, s_97, s_98, s_99, s_100, s_101, s_102, s_103, s_104, s_105, s_106, s_107, s_108, s_109, s_110, s_111, s_112, s_113, s_114, s_115, s_116, s_117, s_118, s_119, s_120, s_121, s_122, s_123, s_124, s_125, s_126, s_127, s_128, s_129, s_130, s_131, s_132, s_133, s_134, s_135, s_136, s_137, s_138, s_139, s_140, s_141, s_142, s_143, s_144, s_145, s_146, s_147, s_148, s_149, s_150, s_151, s_152, s_153, s_154, s_155, s_156, s_157, s_158, s_159, s_160, s_161, s_162, s_163, s_164, s_165, s_166, s_167, s_168, s_169, s_170, s_171, s_172, s_173, s_174, s_175, s_176, s_177], []⟩ W := by
  have HG : XS = gluedP ⟨kd, pa, pb, pc, nn⟩ (q0.1 :: q1.1 :: qr.map Prod.fst) := by rw [HF, foldD_two hk hkd, L0, L1, if_neg (fun h => hf h.1)]
  have HQ3 : q = 2 ∨ q = 3 := .inl hq2
  have HTL := Lib.hid HG
  have hkb : (kd == 8) = false := by simp [hk]
  have hkb2 : (kd != 8) = true := by simp [hk]
  have hfb : (kd0 == 0) = false := by simp [hf]
  have SUB' := Lib.hid SUB; have OK' := Lib.hid OK; have BR' := Lib.hid BR; have BP' := Lib.hid BP; have HW' := Lib.hid HW; have QL := Lib.hid hq; have Q3 := Lib.hid HQ3
  have p0 : W.cell? ⟨w.heap.size + 1 + 1, 0, none⟩ = some (.int .i64 kd) := BP.cell 0
  have p1 : W.cell? ⟨w.heap.size + 1 + 1, 1, none⟩ = some (.int .i64 pa) := BP.cell 1
  have p2 : W.cell? ⟨w.heap.size + 1 + 1, 2, none⟩ = some (.int .i64 pb) := BP.cell 2
  have p3 : W.cell? ⟨w.heap.size + 1 + 1, 3, none⟩ = some (.int .i64 pc) := BP.cell 3
  have p4 : W.cell? ⟨w.heap.size + 1 + 1, 4, none⟩ = some (.int .i64 nn) := BP.cell 4
  have f0 : W.cell? ⟨fb, 0, none⟩ = some (.int .i64 kd0) := BF.cell 0
  have f4 : W.cell? ⟨fb, 4, none⟩ = some (.int .i64 nn0) := BF.cell 4
  have s0 : W.cell? ⟨sb, 0, none⟩ = some (.int .i64 kd1) := BS.cell 0
  have s4 : W.cell? ⟨sb, 4, none⟩ = some (.int .i64 nn1) := BS.cell 4
  clear SUB BR BP HW OK BF BS hq HG HQ3 HF L0 L1 hk hkd hf hq2
  conv => arg 2; whnf
  go_upto_if 108 with fail
  go_step
  refine wp_skip ?_
  dsimp only [Exit.then]
  go_step
  exact foldedTail QL.out Q3.out hM rfl OK'.out SUB'.out hwW BR'.out BP'.out HW'.out HTL.out
  
set_option maxRecDepth 1000000 in
set_option maxHeartbeats 4000000 in
theorem foldedSecond {w W : World} {b g5 o5 q c5 los his M fb sb : Nat} {q0 q1 : List Prt × Hs} {qr : List (List Prt × Hs)} {kd pa pb pc nn kd0 pa0 pb0 pc0 nn0 kd1 pa1 pb1 pc1 nn1 : Int} {XS : List Prt} {s_0 s_1 s_2 s_3 s_6 s_8 s_11 s_12 s_13 s_14 s_15 s_16 s_17 s_18 s_19 s_20 s_21 s_22 s_23 s_24 s_25 s_26 s_27 s_28 s_29 s_30 s_31 s_32 s_33 s_34 s_35 s_36 s_37 s_38 s_39 s_40 s_41 s_42 s_43 s_44 s_45 s_46 s_47 s_48 s_49 s_50 s_51 s_52 s_53 s_54 s_55 s_56 s_57 s_58 s_59 s_60 s_61 s_62 s_63 s_64 s_65 s_66 s_67 s_68 s_69 s_70 s_71 s_72 s_73 s_74 s_75 s_76 s_77 s_78 s_79 s_80 s_81 s_82 s_83 s_84 s_85 s_86 s_87 s_88 s_89 s_90 s_91 s_92 s_93 s_94 s_95 s_96 s_97 s_98 s_99 s_100 s_101 s_102 s_103 s_104 s_105 s_106 s_107 s_108 s_109 s_110 s_111 s_112 s_113 s_114 s_115 s_116 s_117 s_118 s_119 s_120 s_121 s_122 s_123 s_124 s_125 s_126 s_127 s_128 s_129 s_130 s_131 s_132 s_133 s_134 s_135 s_136 s_137 s_138 s_139 s_140 s_141 s_142 s_143 s_144 s_145 s_146 s_147 s_148 s_149 s_150 s_151 s_152 s_153 s_154 s_155 s_156 s_157 s_158 s_159 s_160 s_161 s_162 s_163 s_164 s_165 s_166 s_167 s_168 s_169 s_170 s_171 s_172 s_173 s_174 s_175 s_176 s_177 : Value}
    (hq : (q0 :: q1 :: qr).length = q) (hM : M ≤ 16777216) (OK : ∀ z ∈ q0 :: q1 :: qr, OkG M z.1) (SUB : SubI b W los his (some ⟨g5, o5, none⟩) c5 (q0 :: q1 :: qr)) (hb : w.heap.size + 3 ≤ b) (hwW : w.heap.size + 3 ≤ W.heap.size)
    (BR : Blk W (w.heap.size + 1) 29 #[.slice none 0 0]) (BP : Blk W (w.heap.size + 1 + 1) 50 (ints (cP ⟨kd, pa, pb, pc, nn⟩)).toArray) (BF : Blk W fb 50 (ints (cP ⟨kd0, pa0, pb0, pc0, nn0⟩)).toArray) (BS : Blk W sb 50 (ints (cP ⟨kd1, pa1, pb1, pc1, nn1⟩)).toArray)
    (HW : Below w.heap.size w W) (L0 : lastP q0.1 = ⟨kd0, pa0, pb0, pc0, nn0⟩) (L1 : lastP q1.1 = ⟨kd1, pa1, pb1, pc1, nn1⟩) (HF : XS = foldD ⟨kd, pa, pb, pc, nn⟩ (q0.1 :: q1.1 :: qr.map Prod.fst))
    (hk : kd ≠ 8) (hkd : 2 ≤ kd ∧ kd ≤ 7) (hq2 : q = 2) (hf : kd0 = 0) (hs : kd1 ≠ 0) :
    Code.wp Try.prog (sRest 12) (bodyPost Try.prog Try.f55 (MadeF w XS)) ⟨#[s_0, s_1, s_2, s_3, .pointer (some ⟨w.heap.size + 1, 0, none⟩), .pointer (some ⟨w.heap.size + 1 + 1, 0, none⟩), s_6, .slice (some ⟨g5, o5, none⟩) q c5, s_8, .pointer (some ⟨fb, 0, none⟩), .pointer (some ⟨sb, 0, none⟩), s_11, s_12, s_13, s_14, s_15, s_16, s_17, s_18, s_19, s_20, s_21, s_22, s_23, s_24, s_25, s_26, s_27, s_28, s_29, s_30, s_31, s_32, s_33, s_34, s_35, s_36, s_37, s_38, s_39, s_40, s_41, s_42, s_43, s_44, s_45, s_46, s_47, s_48, s_49, s_50, s_51, s_52, s_53, s_54, s_55, s_56, s_57, s_58, s_59, s_60, s_61, s_62, s_63, s_64, s_65, s_66, s_67, s_68, s_69, s_70, s_71, s_72, s_73, s_74, s_75, s_76, s_77, s_78, s_79, s_80, s_81, s_82, s_83, s_84, s_85, s_86, s_87, s_88, s_89, s_90, s_91, s_92, s_93, s_94, s_95, s_96, s_97, s_98, s_99, s_100, s_101, s_102, s_103, s_104, s_105, s_106, s_107, s_108, s_109, s_110, s_111, s_112, s_113, s_114, s_115, s_116, s_117, s_118, s_119, s_120, s_121, s_122, s_123, s_124, s_125, s_126, s_127, s_128, s_129, s_130, s_131, s_132, s_133, s_134, s_135, s_136, s_137, s_138, s_139, s_140, s_141, s_142, s_143, s_144, s_145, s_146, s_147, s_148, s_149, s_150, s_151, s_152, s_153, s_154, s_155, s_156, s_157, s_158, s_159, s_160, s_161, s_162, s_163, s_164, s_165, s_166, s_167, s_168, s_169, s_170, s_171, s_172, s_173, s_174, s_175, s_176, s_177], []⟩ W := by
  subst hf
  have HG : XS = gluedP ⟨kd, pa, pb, pc, nn⟩ (q0.1 :: q1.1 :: qr.map Prod.fst) := by rw [HF, foldD_two hk hkd, L0, L1, if_neg (fun h => hs h.2.1)]
  have HQ3 : q = 2 ∨ q = 3 := .inl hq2
  have HTL := Lib.hid HG
  have hkb : (kd == 8) = false := by simp [hk]
  have hkb2 : (kd != 8) = true := by simp [hk]
  have hsb : (kd1 == 0) = false := by simp [hs]
  have SUB' := Lib.hid SUB; have OK' := Lib.hid OK; have BR' := Lib.hid BR; have BP' := Lib.hid BP; have HW' := Lib.hid HW; have QL := Lib.hid hq; have Q3 := Lib.hid HQ3
  have p0 : W.cell? ⟨w.heap.size + 1 + 1, 0, none⟩ = some (.int .i64 kd) := BP.cell 0
  have p1 : W.cell? ⟨w.heap.size + 1 + 1, 1, none⟩ = some (.int .i64 pa) := BP.cell 1
  have p2 : W.cell? ⟨w.heap.size + 1 + 1, 2, none⟩ = some (.int .i64 pb) := BP.cell 2
  have p3 : W.cell? ⟨w.heap.size + 1 + 1, 3, none⟩ = some (.int .i64 pc) := BP.cell 3
  have p4 : W.cell? ⟨w.heap.size + 1 + 1, 4, none⟩ = some (.int .i64 nn) := BP.cell 4
  have f0 : W.cell? ⟨fb, 0, none⟩ = some (.int .i64 0) := BF.cell 0
  have f4 : W.cell? ⟨fb, 4, none⟩ = some (.int .i64 nn0) := BF.cell 4
  have s0 : W.cell? ⟨sb, 0, none⟩ = some (.int .i64 kd1) := BS.cell 0
  have s4 : W.cell? ⟨sb, 4, none⟩ = some (.int .i64 nn1) := BS.cell 4
  clear SUB BR BP HW OK BF BS hq HG HQ3 HF L0 L1 hk hkd hs hq2
  conv => arg 2; whnf
  go_upto_if 108 with fail
  go_step
  refine wp_skip ?_
  dsimp only [Exit.then]
  go_step
  exact foldedTail QL.out Q3.out hM rfl OK'.out SUB'.out hwW BR'.out BP'.out HW'.out HTL.out
  
set_option maxRecDepth 1000000 in
set_option maxHeartbeats 4000000 in
theorem foldedGreat {w W : World} {b g5 o5 q c5 los his M fb sb : Nat} {q0 q1 : List Prt × Hs} {qr : List (List Prt × Hs)} {kd pa pb pc nn kd0 pa0 pb0 pc0 nn0 kd1 pa1 pb1 pc1 nn1 : Int} {XS : List Prt} {s_0 s_1 s_2 s_3 s_6 s_8 s_11 s_12 s_13 s_14 s_15 s_16 s_17 s_18 s_19 s_20 s_21 s_22 s_23 s_24 s_25 s_26 s_27 s_28 s_29 s_30 s_31 s_32 s_33 s_34 s_35 s_36 s_37 s_38 s_39 s_40 s_41 s_42 s_43 s_44 s_45 s_46 s_47 s_48 s_49 s_50 s_51 s_52 s_53 s_54 s_55 s_56 s_57 s_58 s_59 s_60 s_61 s_62 s_63 s_64 s_65 s_66 s_67 s_68 s_69 s_70 s_71 s_72 s_73 s_74 s_75 s_76 s_77 s_78 s_79 s_80 s_81 s_82 s_83 s_84 s_85 s_86 s_87 s_88 s_89 s_90 s_91 s_92 s_93 s_94 s_95 s_96 s_97 s_98 s_99 s_100 s_101 s_102 s_103 s_104 s_105 s_106 s_107 s_108 s_109 s_110 s_111 s_112 s_113 s_114 s_115 s_116 s_117 s_118 s_119 s_120 s_121 s_122 s_123 s_124 s_125 s_126 s_127 s_128 s_129 s_130 s_131 s_132 s_133 s_134 s_135 s_136 s_137 s_138 s_139 s_140 s_141 s_142 s_143 s_144 s_145 s_146 s_147 s_148 s_149 s_150 s_151 s_152 s_153 s_154 s_155 s_156 s_157 s_158 s_159 s_160 s_161 s_162 s_163 s_164 s_165 s_166 s_167 s_168 s_169 s_170 s_171 s_172 s_173 s_174 s_175 s_176 s_177 : Value}
    (hq : (q0 :: q1 :: qr).length = q) (hM : M ≤ 16777216) (OK : ∀ z ∈ q0 :: q1 :: qr, OkG M z.1) (SUB : SubI b W los his (some ⟨g5, o5, none⟩) c5 (q0 :: q1 :: qr)) (hb : w.heap.size + 3 ≤ b) (hwW : w.heap.size + 3 ≤ W.heap.size)
    (BR : Blk W (w.heap.size + 1) 29 #[.slice none 0 0]) (BP : Blk W (w.heap.size + 1 + 1) 50 (ints (cP ⟨kd, pa, pb, pc, nn⟩)).toArray) (BF : Blk W fb 50 (ints (cP ⟨kd0, pa0, pb0, pc0, nn0⟩)).toArray) (BS : Blk W sb 50 (ints (cP ⟨kd1, pa1, pb1, pc1, nn1⟩)).toArray)
    (HW : Below w.heap.size w W) (L0 : lastP q0.1 = ⟨kd0, pa0, pb0, pc0, nn0⟩) (L1 : lastP q1.1 = ⟨kd1, pa1, pb1, pc1, nn1⟩) (HF : XS = foldD ⟨kd, pa, pb, pc, nn⟩ (q0.1 :: q1.1 :: qr.map Prod.fst))
    (hk : kd ≠ 8) (hkd : 2 ≤ kd ∧ kd ≤ 7) (hq2 : q = 2) (hf : kd0 = 0) (hs : kd1 = 0) (hj : ¬ joinF kd nn0 nn1 ≤ 99) :
    Code.wp Try.prog (sRest 12) (bodyPost Try.prog Try.f55 (MadeF w XS)) ⟨#[s_0, s_1, s_2, s_3, .pointer (some ⟨w.heap.size + 1, 0, none⟩), .pointer (some ⟨w.heap.size + 1 + 1, 0, none⟩), s_6, .slice (some ⟨g5, o5, none⟩) q c5, s_8, .pointer (some ⟨fb, 0, none⟩), .pointer (some ⟨sb, 0, none⟩), s_11, s_12, s_13, s_14, s_15, s_16, s_17, s_18, s_19, s_20, s_21, s_22, s_23, s_24, s_25, s_26, s_27, s_28, s_29, s_30, s_31, s_32, s_33, s_34, s_35, s_36, s_37, s_38, s_39, s_40, s_41, s_42, s_43, s_44, s_45, s_46, s_47, s_48, s_49, s_50, s_51, s_52, s_53, s_54, s_55, s_56, s_57, s_58, s_59, s_60, s_61, s_62, s_63, s_64, s_65, s_66, s_67, s_68, s_69, s_70, s_71, s_72, s_73, s_74, s_75, s_76, s_77, s_78, s_79, s_80, s_81, s_82, s_83, s_84, s_85, s_86, s_87, s_88, s_89, s_90, s_91, s_92, s_93, s_94, s_95, s_96, s_97, s_98, s_99, s_100, s_101, s_102, s_103, s_104, s_105, s_106, s_107, s_108, s_109, s_110, s_111, s_112, s_113, s_114, s_115, s_116, s_117, s_118, s_119, s_120, s_121, s_122, s_123, s_124, s_125, s_126, s_127, s_128, s_129, s_130, s_131, s_132, s_133, s_134, s_135, s_136, s_137, s_138, s_139, s_140, s_141, s_142, s_143, s_144, s_145, s_146, s_147, s_148, s_149, s_150, s_151, s_152, s_153, s_154, s_155, s_156, s_157, s_158, s_159, s_160, s_161, s_162, s_163, s_164, s_165, s_166, s_167, s_168, s_169, s_170, s_171, s_172, s_173, s_174, s_175, s_176, s_177], []⟩ W := by
  subst hf; subst hs
  have HG : XS = gluedP ⟨kd, pa, pb, pc, nn⟩ (q0.1 :: q1.1 :: qr.map Prod.fst) := by rw [HF, foldD_two hk hkd, L0, L1, if_neg (fun h => hj h.2.2)]
  have HQ3 : q = 2 ∨ q = 3 := .inl hq2
  have HTL := Lib.hid HG
  have hkb : (kd == 8) = false := by simp [hk]
  have hkb2 : (kd != 8) = true := by simp [hk]
  have ok0 := (OK q0 (by simp)).2.2; have ok1 := (OK q1 (by simp)).2.2
  rw [L0] at ok0; rw [L1] at ok1
  simp only at ok0 ok1
  have JC := Lib.hid (fun (W : World) => specJoined (w := W) (kd := kd) ok0.1 ok0.2 ok1.1 ok1.2)
  obtain ⟨jv, hjv⟩ : ∃ jv, joinF kd nn0 nn1 = jv := ⟨_, rfl⟩
  rw [hjv] at JC hj
  have SUB' := Lib.hid SUB; have OK' := Lib.hid OK; have BR' := Lib.hid BR; have BP' := Lib.hid BP; have HW' := Lib.hid HW; have QL := Lib.hid hq; have Q3 := Lib.hid HQ3
  have p0 : W.cell? ⟨w.heap.size + 1 + 1, 0, none⟩ = some (.int .i64 kd) := BP.cell 0
  have p1 : W.cell? ⟨w.heap.size + 1 + 1, 1, none⟩ = some (.int .i64 pa) := BP.cell 1
  have p2 : W.cell? ⟨w.heap.size + 1 + 1, 2, none⟩ = some (.int .i64 pb) := BP.cell 2
  have p3 : W.cell? ⟨w.heap.size + 1 + 1, 3, none⟩ = some (.int .i64 pc) := BP.cell 3
  have p4 : W.cell? ⟨w.heap.size + 1 + 1, 4, none⟩ = some (.int .i64 nn) := BP.cell 4
  have f0 : W.cell? ⟨fb, 0, none⟩ = some (.int .i64 0) := BF.cell 0
  have f4 : W.cell? ⟨fb, 4, none⟩ = some (.int .i64 nn0) := BF.cell 4
  have s0 : W.cell? ⟨sb, 0, none⟩ = some (.int .i64 0) := BS.cell 0
  have s4 : W.cell? ⟨sb, 4, none⟩ = some (.int .i64 nn1) := BS.cell 4
  clear SUB BR BP HW OK BF BS hq HG HQ3 HF L0 L1 hk hkd hq2 ok0 ok1 hjv
  conv => arg 2; whnf
  go_wp2_with fail
  refine (JC.out _).mono ?_; rintro e w9' ⟨rfl, rfl⟩
  go_upto_if 108 with fail
  go_step
  refine wp_skip ?_
  dsimp only [Exit.then]
  go_step
  exact foldedTail QL.out Q3.out hM rfl OK'.out SUB'.out hwW BR'.out BP'.out HW'.out HTL.out
  
set_option maxRecDepth 1000000 in
set_option maxHeartbeats 4000000 in
theorem foldedMid {w W : World} {b g5 o5 q c5 los his M fb sb : Nat} {q0 q1 : List Prt × Hs} {qr : List (List Prt × Hs)} {kd pa pb pc nn kd0 pa0 pb0 pc0 nn0 kd1 pa1 pb1 pc1 nn1 : Int} {XS : List Prt} {s_0 s_1 s_2 s_3 s_6 s_8 s_11 s_12 s_13 s_14 s_15 s_16 s_17 s_18 s_19 s_20 s_21 s_22 s_23 s_24 s_25 s_26 s_27 s_28 s_29 s_30 s_31 s_32 s_33 s_34 s_35 s_36 s_37 s_38 s_39 s_40 s_41 s_42 s_43 s_44 s_45 s_46 s_47 s_48 s_49 s_50 s_51 s_52 s_53 s_54 s_55 s_56 s_57 s_58 s_59 s_60 s_61 s_62 s_63 s_64 s_65 s_66 s_67 s_68 s_69 s_70 s_71 s_72 s_73 s_74 s_75 s_76 s_77 s_78 s_79 s_80 s_81 s_82 s_83 s_84 s_85 s_86 s_87 s_88 s_89 s_90 s_91 s_92 s_93 s_94 s_95 s_96 s_97 s_98 s_99 s_100 s_101 s_102 s_103 s_104 s_105 s_106 s_107 s_108 s_109 s_110 s_111 s_112 s_113 s_114 s_115 s_116 s_117 s_118 s_119 s_120 s_121 s_122 s_123 s_124 s_125 s_126 s_127 s_128 s_129 s_130 s_131 s_132 s_133 s_134 s_135 s_136 s_137 s_138 s_139 s_140 s_141 s_142 s_143 s_144 s_145 s_146 s_147 s_148 s_149 s_150 s_151 s_152 s_153 s_154 s_155 s_156 s_157 s_158 s_159 s_160 s_161 s_162 s_163 s_164 s_165 s_166 s_167 s_168 s_169 s_170 s_171 s_172 s_173 s_174 s_175 s_176 s_177 : Value}
    (hq : (q0 :: q1 :: qr).length = q) (hM : M ≤ 16777216) (OK : ∀ z ∈ q0 :: q1 :: qr, OkG M z.1) (SUB : SubI b W los his (some ⟨g5, o5, none⟩) c5 (q0 :: q1 :: qr)) (hb : w.heap.size + 3 ≤ b) (hwW : w.heap.size + 3 ≤ W.heap.size)
    (BR : Blk W (w.heap.size + 1) 29 #[.slice none 0 0]) (BP : Blk W (w.heap.size + 1 + 1) 50 (ints (cP ⟨kd, pa, pb, pc, nn⟩)).toArray) (BF : Blk W fb 50 (ints (cP ⟨kd0, pa0, pb0, pc0, nn0⟩)).toArray) (BS : Blk W sb 50 (ints (cP ⟨kd1, pa1, pb1, pc1, nn1⟩)).toArray)
    (HW : Below w.heap.size w W) (L0 : lastP q0.1 = ⟨kd0, pa0, pb0, pc0, nn0⟩) (L1 : lastP q1.1 = ⟨kd1, pa1, pb1, pc1, nn1⟩) (HF : XS = foldD ⟨kd, pa, pb, pc, nn⟩ (q0.1 :: q1.1 :: qr.map Prod.fst))
    (hk : (kd = 8 ∧ q = 3) ∨ (¬ kd = 8 ∧ (2 ≤ kd ∧ kd ≤ 7) ∧ q = 2)) :
    Code.wp Try.prog (sRest 12) (bodyPost Try.prog Try.f55 (MadeF w XS)) ⟨#[s_0, s_1, s_2, s_3, .pointer (some ⟨w.heap.size + 1, 0, none⟩), .pointer (some ⟨w.heap.size + 1 + 1, 0, none⟩), s_6, .slice (some ⟨g5, o5, none⟩) q c5, s_8, .pointer (some ⟨fb, 0, none⟩), .pointer (some ⟨sb, 0, none⟩), s_11, s_12, s_13, s_14, s_15, s_16, s_17, s_18, s_19, s_20, s_21, s_22, s_23, s_24, s_25, s_26, s_27, s_28, s_29, s_30, s_31, s_32, s_33, s_34, s_35, s_36, s_37, s_38, s_39, s_40, s_41, s_42, s_43, s_44, s_45, s_46, s_47, s_48, s_49, s_50, s_51, s_52, s_53, s_54, s_55, s_56, s_57, s_58, s_59, s_60, s_61, s_62, s_63, s_64, s_65, s_66, s_67, s_68, s_69, s_70, s_71, s_72, s_73, s_74, s_75, s_76, s_77, s_78, s_79, s_80, s_81, s_82, s_83, s_84, s_85, s_86, s_87, s_88, s_89, s_90, s_91, s_92, s_93, s_94, s_95, s_96, s_97, s_98, s_99, s_100, s_101, s_102, s_103, s_104, s_105, s_106, s_107, s_108, s_109, s_110, s_111, s_112, s_113, s_114, s_115, s_116, s_117, s_118, s_119, s_120, s_121, s_122, s_123, s_124, s_125, s_126, s_127, s_128, s_129, s_130, s_131, s_132, s_133, s_134, s_135, s_136, s_137, s_138, s_139, s_140, s_141, s_142, s_143, s_144, s_145, s_146, s_147, s_148, s_149, s_150, s_151, s_152, s_153, s_154, s_155, s_156, s_157, s_158, s_159, s_160, s_161, s_162, s_163, s_164, s_165, s_166, s_167, s_168, s_169, s_170, s_171, s_172, s_173, s_174, s_175, s_176, s_177], []⟩ W := by
  rcases hk with ⟨hk, hq3⟩ | ⟨hk, hkd, hq2⟩
  · by_cases hf : kd0 = 0
    · by_cases hn : nn0 = 0
      · exact foldedZero hq hM OK SUB hb hwW BR BP BF BS HW L0 L1 HF hk hf hn hq3
      · exact foldedOne hq hM OK SUB hb hwW BR BP BF BS HW L0 L1 HF hk hf hn
    · exact foldedIf hq hM OK SUB hb hwW BR BP BF BS HW L0 L1 HF hk hf hq3
  · by_cases hf : kd0 = 0
    · by_cases hs : kd1 = 0
      · by_cases hj : joinF kd nn0 nn1 ≤ 99
        · exact foldedNum hq hM OK SUB hb hwW BR BP BF BS HW L0 L1 HF hk hkd hf hs hj
        · exact foldedGreat hq hM OK SUB hb hwW BR BP BF BS HW L0 L1 HF hk hkd hq2 hf hs hj
      · exact foldedSecond hq hM OK SUB hb hwW BR BP BF BS HW L0 L1 HF hk hkd hq2 hf hs
    · exact foldedFirst hq hM OK SUB hb hwW BR BP BF BS HW L0 L1 HF hk hkd hq2 hf
end Go.Proofs.Ytlinngohbghimaa
