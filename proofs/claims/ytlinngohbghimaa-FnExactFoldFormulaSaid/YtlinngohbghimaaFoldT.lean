/-
  The glue of spec.folded: the parts of the formulas below one behind the other.
-/
import Derived.Test.YtlinngohbghimaaFoldC
import Derived.Deep.CutBlock
import Derived.Deep.DeepCutAuto
namespace Go.Proofs.Ytlinngohbghimaa
open Go.RowKit
set_option linter.unusedVariables false

/-- where the header of the formula at hand lies, and its parts, whatever was made since Wg -/
def HdrAt (Wg : World) (g5 o5 j : Nat) (y : List Prt) (hy : Hs) : Prop :=
  ∀ W', Below Wg.heap.size Wg W' → W'.cell? ⟨g5, o5 + j, none⟩ = some (.slice hy.A y.length hy.c) ∧ SlP W' hy.lo hy.hi hy.A hy.c y ∧ hy.hi ≤ W'.heap.size

set_option maxRecDepth 1000000 in
set_option maxHeartbeats 4000000 in
theorem foldedInner {Wg wr : World} {g5 o5 q c5 j nG loo hio co loa hia ca : Nat} {Ao Aa : Option Addr} {G y : List Prt} {hy : Hs} {at_ : List Int} {Q : Exit → Act → World → Prop} {s_0 s_1 s_2 s_3 s_4 s_5 s_6 s_8 s_9 s_10 s_12 s_16 s_17 s_18 s_19 s_20 s_21 s_22 s_23 s_24 s_25 s_26 s_27 s_28 s_29 s_30 s_31 s_32 s_33 s_34 s_35 s_36 s_37 s_38 s_39 s_40 s_41 s_42 s_43 s_44 s_45 s_46 s_47 s_48 s_49 s_50 s_51 s_52 s_53 s_54 s_55 s_56 s_57 s_58 s_59 s_60 s_61 s_62 s_63 s_64 s_65 s_66 s_67 s_68 s_69 s_70 s_71 s_72 s_73 s_74 s_75 s_76 s_77 s_78 s_79 s_80 s_81 s_82 s_83 s_84 s_85 s_86 s_87 s_88 s_89 s_90 s_91 s_92 s_93 s_94 s_95 s_96 s_97 s_98 s_99 s_100 s_101 s_102 s_103 s_104 s_105 s_106 s_107 s_108 s_109 s_110 s_111 s_112 s_113 s_114 s_115 s_116 s_117 s_118 s_119 s_120 s_121 s_122 s_123 s_124 s_125 s_126 s_127 s_128 s_129 s_130 s_131 s_132 s_133 s_134 s_135 s_136 s_137 s_138 s_139 s_140 s_141 s_142 s_143 s_144 s_145 s_146 s_147 s_148 s_149 s_150 s_151 s_152 s_153 s_154 s_155 s_156 s_157 s_158 s_159 s_160 s_161 s_162 s_163 s_164 s_165 s_166 s_167 s_168 s_169 s_170 s_171 s_172 s_173 s_174 s_175 s_176 s_177 : Value}
    (hj : j < q) (hG : G.length = nG) (hgl : nG ≤ 50331648) (hyl : y.length ≤ 16777216) (HD : HdrAt Wg g5 o5 j y hy) (hv : GV Wg wr loo hio Ao co G loa hia Aa ca at_)
    (hQ : ∀ (u15 u129 u130 u131 u132 u133 u134 u135 u136 u137 u138 u139 u140 u141 u142 u143 u144 u145 u146 u147 u148 u149 u150 u151 : Value) (W' : World) (lo' hi' : Nat) (A' : Option Addr) (c' : Nat), GV Wg W' lo' hi' A' c' (G ++ y.map (movedP nG)) loa hia Aa ca at_ → Q .normal ⟨#[s_0, s_1, s_2, s_3, s_4, s_5, s_6, .slice (some ⟨g5, o5, none⟩) q c5, s_8, s_9, s_10, .slice A' (nG + y.length) c', s_12, .int .i64 (j : Int), .int .i64 (nG : Int), u15, s_16, s_17, s_18, s_19, s_20, s_21, s_22, s_23, s_24, s_25, s_26, s_27, s_28, s_29, s_30, s_31, s_32, s_33, s_34, s_35, s_36, s_37, s_38, s_39, s_40, s_41, s_42, s_43, s_44, s_45, s_46, s_47, s_48, s_49, s_50, s_51, s_52, s_53, s_54, s_55, s_56, s_57, s_58, s_59, s_60, s_61, s_62, s_63, s_64, s_65, s_66, s_67, s_68, s_69, s_70, s_71, s_72, s_73, s_74, s_75, s_76, s_77, s_78, s_79, s_80, s_81, s_82, s_83, s_84, s_85, s_86, s_87, s_88, s_89, s_90, s_91, s_92, s_93, s_94, s_95, s_96, s_97, s_98, s_99, s_100, s_101, s_102, s_103, s_104, s_105, s_106, s_107, s_108, s_109, s_110, s_111, s_112, s_113, s_114, s_115, s_116, s_117, s_118, s_119, s_120, s_121, s_122, s_123, s_124, s_125, s_126, s_127, s_128, u129, u130, u131, u132, u133, u134, u135, u136, u137, u138, u139, u140, u141, u142, u143, u144, u145, u146, u147, u148, u149, u150, u151, s_152, s_153, s_154, s_155, s_156, s_157, s_158, s_159, s_160, s_161, s_162, s_163, s_164, s_165, s_166, s_167, s_168, s_169, s_170, s_171, s_172, s_173, s_174, s_175, s_176, s_177], []⟩ W') :
    Code.wp Try.prog (sBlock 4) Q ⟨#[s_0, s_1, s_2, s_3, s_4, s_5, s_6, .slice (some ⟨g5, o5, none⟩) q c5, s_8, s_9, s_10, .slice Ao nG co, s_12, .int .i64 (j : Int), .int .i64 (nG : Int), .int .i64 0, s_16, s_17, s_18, s_19, s_20, s_21, s_22, s_23, s_24, s_25, s_26, s_27, s_28, s_29, s_30, s_31, s_32, s_33, s_34, s_35, s_36, s_37, s_38, s_39, s_40, s_41, s_42, s_43, s_44, s_45, s_46, s_47, s_48, s_49, s_50, s_51, s_52, s_53, s_54, s_55, s_56, s_57, s_58, s_59, s_60, s_61, s_62, s_63, s_64, s_65, s_66, s_67, s_68, s_69, s_70, s_71, s_72, s_73, s_74, s_75, s_76, s_77, s_78, s_79, s_80, s_81, s_82, s_83, s_84, s_85, s_86, s_87, s_88, s_89, s_90, s_91, s_92, s_93, s_94, s_95, s_96, s_97, s_98, s_99, s_100, s_101, s_102, s_103, s_104, s_105, s_106, s_107, s_108, s_109, s_110, s_111, s_112, s_113, s_114, s_115, s_116, s_117, s_118, s_119, s_120, s_121, s_122, s_123, s_124, s_125, s_126, s_127, s_128, s_129, s_130, s_131, s_132, s_133, s_134, s_135, s_136, s_137, s_138, s_139, s_140, s_141, s_142, s_143, s_144, s_145, s_146, s_147, s_148, s_149, s_150, s_151, s_152, s_153, s_154, s_155, s_156, s_157, s_158, s_159, s_160, s_161, s_162, s_163, s_164, s_165, s_166, s_167, s_168, s_169, s_170, s_171, s_172, s_173, s_174, s_175, s_176, s_177], []⟩ wr := by
  have HQ := Lib.hid hQ; have HDR := Lib.hid HD; have HG := Lib.hid hG; have J0 := Lib.hid hv
  clear hQ HD hG hv
  have hj0 : (0 : Int) ≤ (j : Int) := Int.natCast_nonneg _
  have hj1 : (j : Int) < (q : Int) := by omega
  conv => arg 2; whnf
  go_wp2_with fail
  go_loopw [11, 15] (fun vo vm wr => ∃ (r lo2 hi2 : Nat) (A2 : Option Addr) (c2 : Nat), r ≤ y.length ∧ vm = .int .i64 r ∧ vo = .slice A2 (nG + r) c2 ∧ GV Wg wr lo2 hi2 A2 c2 (G ++ (y.take r).map (movedP nG)) loa hia Aa ca at_) (fun _ vm _ => y.length - (intOf vm).toNat)
  case atStart => exact ⟨0, loo, hio, Ao, co, Nat.zero_le _, rfl, rfl, by simpa using J0.out⟩
  case round =>
    obtain ⟨r, lo2, hi2, A2, c2, hr, rfl, rfl, hgv⟩ := hrel
    have GR := Lib.hid hgv
    obtain ⟨xi, si, ti⟩ := HDR.out _ hgv.2.2.2.2.2.2.2.2.2
    clear hgv J0
    by_cases hry : r < y.length
    · obtain ⟨ga, oa, hAa, hga, a0, a1, a2, a3, a4⟩ := RdP_at si.rd hry
      rw [hAa] at xi
      have YT := Lib.hid (show G ++ (y.take (r + 1)).map (movedP nG) = (G ++ (y.take r).map (movedP nG)) ++ [movedP nG y[r]] from by rw [List.take_succ_eq_append_getElem hry, List.map_append, List.append_assoc]; rfl)
      have YL := Lib.hid (show (G ++ (y.take r).map (movedP nG)).length = nG + r from by simp; have := HG.out; omega)
      obtain ⟨x, hx⟩ : ∃ x, y[r] = x := ⟨_, rfl⟩
      rw [hx] at a0 a1 a2 a3 a4 YT
      have MC := Lib.hid (fun (W : World) => specMoved (w := W) x (nG : Int))
      obtain ⟨x2, hx2⟩ : ∃ x2, movedP nG x = x2 := ⟨_, rfl⟩
      rw [hx2] at MC YT
      obtain ⟨kx, pax, pbx, pcx, nx⟩ := x
      obtain ⟨ky, pay, pby, pcy, ny⟩ := x2
      dsimp only [vP] at MC
      simp only at a0 a1 a2 a3 a4
      have hr0 : (0 : Int) ≤ (r : Int) := Int.natCast_nonneg _
      have hr1 : (r : Int) < (y.length : Int) := by omega
      clear hx hx2 si ti
      go_wp2_with fail
      refine (MC.out _).mono ?_; rintro e w7 ⟨rfl, b7⟩
      have G7 := Lib.hid (GR.out.below b7)
      clear b7 a0 a1 a2 a3 a4 xi GR MC
      have A7 := Lib.hid (G7.out.1.alloc (.cells #[.int .i64 ky, .int .i64 pay, .int .i64 pby, .int .i64 pcy, .int .i64 ny] 50))
      go_wp2_with (at_builtin; refine wpList_appPS (.tmp 139) (.tmp 150) rfl rfl (G ++ (y.take r).map (movedP nG)) ⟨ky, pay, pby, pcy, ny⟩ rfl YL.out A7.out rfl (Blk.new _ _ _) (by omega) ?_; intro A9 c9 lo9 hi9 w9 h9 d9 t9)
      have G9 := Lib.hid ((G7.out.alloc _).app (by rw [← YT.out] at h9; exact h9) d9 t9)
      clear h9 d9 t9 G7 A7
      go_wp2
      go_roundw
      case rel => exact ⟨r + 1, lo9, hi9, A9, c9, by omega, by go_num, rfl, G9.out⟩
      case measure => simp [intOf]; omega
    · have hyt : y.take r = y := List.take_of_length_le (by omega)
      have hre : r = y.length := by omega
      rw [hyt] at GR
      subst hre
      clear hyt hry hr si ti
      go_wp2_with fail
      exact HQ.out _ _ _ _ _ _ _ _ _ _ _ _ _ _ _ _ _ _ _ _ _ _ _ _ _ _ _ _ _ GR.out

set_option maxRecDepth 1000000 in
set_option maxHeartbeats 4000000 in
theorem foldedGlue {b : Nat} {Wg wr : World} {g5 o5 q c5 los his loo hio co loa hia ca M : Nat} {Ao Aa : Option Addr} {qs : List (List Prt × Hs)} {ss : List (List Prt)} {p : Prt} {Q : Exit → Act → World → Prop} {s_0 s_1 s_2 s_3 s_4 s_5 s_6 s_8 s_9 s_10 s_14 s_15 s_16 s_17 s_18 s_19 s_20 s_21 s_22 s_23 s_24 s_25 s_26 s_27 s_28 s_29 s_30 s_31 s_32 s_33 s_34 s_35 s_36 s_37 s_38 s_39 s_40 s_41 s_42 s_43 s_44 s_45 s_46 s_47 s_48 s_49 s_50 s_51 s_52 s_53 s_54 s_55 s_56 s_57 s_58 s_59 s_60 s_61 s_62 s_63 s_64 s_65 s_66 s_67 s_68 s_69 s_70 s_71 s_72 s_73 s_74 s_75 s_76 s_77 s_78 s_79 s_80 s_81 s_82 s_83 s_84 s_85 s_86 s_87 s_88 s_89 s_90 s_91 s_92 s_93 s_94 s_95 s_96 s_97 s_98 s_99 s_100 s_101 s_102 s_103 s_104 s_105 s_106 s_107 s_108 s_109 s_110 s_111 s_112 s_113 s_114 s_115 s_116 s_117 s_118 s_119 s_120 s_121 s_122 s_123 s_124 s_125 s_126 s_127 s_128 s_129 s_130 s_131 s_132 s_133 s_134 s_135 s_136 s_137 s_138 s_139 s_140 s_141 s_142 s_143 s_144 s_145 s_146 s_147 s_148 s_149 s_150 s_151 s_152 s_153 s_154 s_155 s_156 s_157 s_158 s_159 s_160 s_161 s_162 s_163 s_164 s_165 s_166 s_167 s_168 s_169 s_170 s_171 s_172 s_173 s_174 s_175 s_176 s_177 : Value}
    (hq : qs.length = q) (hq3 : q ≤ 3) (hM : M ≤ 16777216) (hss : qs.map Prod.fst = ss) (OK : ∀ z ∈ qs, OkG M z.1) (SUB : SubI b Wg los his (some ⟨g5, o5, none⟩) c5 qs) (hv : GV Wg wr loo hio Ao co [] loa hia Aa ca [])
    (hQ : ∀ (u13 u14 u15 u121 u122 u123 u124 u125 u126 u127 u128 u129 u130 u131 u132 u133 u134 u135 u136 u137 u138 u139 u140 u141 u142 u143 u144 u145 u146 u147 u148 u149 u150 u151 u152 u153 u154 u155 u156 u157 : Value) (W' : World) (lo' hi' : Nat) (A' : Option Addr) (c' : Nat) (lo2 hi2 : Nat) (B' : Option Addr) (e' : Nat), GV Wg W' lo' hi' A' c' (glueG ss 0 ([], p)).1 lo2 hi2 B' e' (rootsG p ss q) → Q .normal ⟨#[s_0, s_1, s_2, s_3, s_4, s_5, s_6, .slice (some ⟨g5, o5, none⟩) q c5, s_8, s_9, s_10, .slice A' (glueG ss 0 ([], p)).1.length c', .slice B' q e', u13, u14, u15, s_16, s_17, s_18, s_19, s_20, s_21, s_22, s_23, s_24, s_25, s_26, s_27, s_28, s_29, s_30, s_31, s_32, s_33, s_34, s_35, s_36, s_37, s_38, s_39, s_40, s_41, s_42, s_43, s_44, s_45, s_46, s_47, s_48, s_49, s_50, s_51, s_52, s_53, s_54, s_55, s_56, s_57, s_58, s_59, s_60, s_61, s_62, s_63, s_64, s_65, s_66, s_67, s_68, s_69, s_70, s_71, s_72, s_73, s_74, s_75, s_76, s_77, s_78, s_79, s_80, s_81, s_82, s_83, s_84, s_85, s_86, s_87, s_88, s_89, s_90, s_91, s_92, s_93, s_94, s_95, s_96, s_97, s_98, s_99, s_100, s_101, s_102, s_103, s_104, s_105, s_106, s_107, s_108, s_109, s_110, s_111, s_112, s_113, s_114, s_115, s_116, s_117, s_118, s_119, s_120, u121, u122, u123, u124, u125, u126, u127, u128, u129, u130, u131, u132, u133, u134, u135, u136, u137, u138, u139, u140, u141, u142, u143, u144, u145, u146, u147, u148, u149, u150, u151, u152, u153, u154, u155, u156, u157, s_158, s_159, s_160, s_161, s_162, s_163, s_164, s_165, s_166, s_167, s_168, s_169, s_170, s_171, s_172, s_173, s_174, s_175, s_176, s_177], []⟩ W') :
    Code.wp Try.prog (sBlock 2) Q ⟨#[s_0, s_1, s_2, s_3, s_4, s_5, s_6, .slice (some ⟨g5, o5, none⟩) q c5, s_8, s_9, s_10, .slice Ao 0 co, .slice Aa 0 ca, .int .i64 0, s_14, s_15, s_16, s_17, s_18, s_19, s_20, s_21, s_22, s_23, s_24, s_25, s_26, s_27, s_28, s_29, s_30, s_31, s_32, s_33, s_34, s_35, s_36, s_37, s_38, s_39, s_40, s_41, s_42, s_43, s_44, s_45, s_46, s_47, s_48, s_49, s_50, s_51, s_52, s_53, s_54, s_55, s_56, s_57, s_58, s_59, s_60, s_61, s_62, s_63, s_64, s_65, s_66, s_67, s_68, s_69, s_70, s_71, s_72, s_73, s_74, s_75, s_76, s_77, s_78, s_79, s_80, s_81, s_82, s_83, s_84, s_85, s_86, s_87, s_88, s_89, s_90, s_91, s_92, s_93, s_94, s_95, s_96, s_97, s_98, s_99, s_100, s_101, s_102, s_103, s_104, s_105, s_106, s_107, s_108, s_109, s_110, s_111, s_112, s_113, s_114, s_115, s_116, s_117, s_118, s_119, s_120, s_121, s_122, s_123, s_124, s_125, s_126, s_127, s_128, s_129, s_130, s_131, s_132, s_133, s_134, s_135, s_136, s_137, s_138, s_139, s_140, s_141, s_142, s_143, s_144, s_145, s_146, s_147, s_148, s_149, s_150, s_151, s_152, s_153, s_154, s_155, s_156, s_157, s_158, s_159, s_160, s_161, s_162, s_163, s_164, s_165, s_166, s_167, s_168, s_169, s_170, s_171, s_172, s_173, s_174, s_175, s_176, s_177], []⟩ wr := by
  have hsl : ss.length = q := by rw [← hss, List.length_map, hq]
  have HQ := Lib.hid hQ; have HS := Lib.hid SUB; have SL := Lib.hid hsl; have J0 := Lib.hid hv; have QL := Lib.hid hq; have SS := Lib.hid hss
  have HGL := Lib.hid (fun (j : Nat) (hj : j ≤ q) => (show (glueG (ss.take j) 0 ([], p)).1.length ≤ 50331648 from by
    have h1 := glueG_len (M := M) (ss.take j) 0 ([], p) (fun g hg => by
      have hg2 := List.mem_of_mem_take hg
      rw [← hss] at hg2
      obtain ⟨z, hz, e⟩ := List.mem_map.1 hg2
      rw [← e]; exact (OK z hz).2.1)
    have h2 : (ss.take j).length * M ≤ 3 * M := Nat.mul_le_mul_right _ (by rw [List.length_take]; omega)
    simp only [List.length_nil, Nat.zero_add] at h1
    omega))
  have HEJ := Lib.hid (fun (j : Nat) (h1 : j < qs.length) (h2 : j < ss.length) => (show ss[j] = qs[j].1 from by subst hss; simp))
  have OKQ := Lib.hid OK
  clear hQ SUB hsl hv hq hss OK
  conv => arg 2; whnf
  go_wp2_with fail
  go_loopw [11, 12, 13] (fun vo va vk wr => ∃ (j loo hio : Nat) (Ao : Option Addr) (co loa hia : Nat) (Aa : Option Addr) (ca : Nat), j ≤ q ∧ vk = .int .i64 j ∧ vo = .slice Ao (glueG (ss.take j) 0 ([], p)).1.length co ∧ va = .slice Aa j ca ∧ GV Wg wr loo hio Ao co (glueG (ss.take j) 0 ([], p)).1 loa hia Aa ca (rootsG p ss j)) (fun _ _ vk _ => q - (intOf vk).toNat)
  case atStart => exact ⟨0, _, _, _, _, _, _, _, _, Nat.zero_le _, rfl, rfl, rfl, J0.out⟩
  case round =>
    obtain ⟨j, loo, hio, Ao, co, loa, hia, Aa, ca, hj, rfl, rfl, rfl, hgv⟩ := hrel
    have GJ := Lib.hid hgv
    have hol := HGL.out j hj
    clear hgv J0
    by_cases hjq : j < q
    · have hjs : j < ss.length := by rw [SL.out]; exact hjq
      have hjs2 : j < qs.length := by rw [QL.out]; exact hjq
      have GT := Lib.hid (glue_take (p := p) hjs)
      have RT := Lib.hid (rootsG_succ p ss j)
      have OKJ := Lib.hid (OKQ.out _ (List.getElem_mem hjs2))
      rw [HEJ.out j hjs2 hjs] at GT
      have hg1 := HGL.out (j + 1) (by omega)
      obtain ⟨⟨y, hy⟩, hyy⟩ : ∃ z, qs[j] = z := ⟨_, rfl⟩
      rw [hyy] at GT OKJ
      simp only at GT OKJ
      have HDR := Lib.hid (show HdrAt Wg g5 o5 j y hy from fun W' hb => by
        obtain ⟨gi, oi, hAi, _, xi, si, li, ti⟩ := (HS.out.below hb).hdr (i := j) (q := (y, hy)) (by rw [List.getElem?_eq_getElem hjs2, hyy])
        simp only [Option.some.injEq, Addr.mk.injEq, and_true] at hAi
        obtain ⟨rfl, rfl⟩ := hAi
        exact ⟨xi, si, ti⟩)
      obtain ⟨G1, hG1⟩ : ∃ G, (glueG (ss.take j) 0 ([], p)).1 = G := ⟨_, rfl⟩
      rw [hG1] at GJ GT hol ⊢
      obtain ⟨nG, hnG⟩ : ∃ n, G1.length = n := ⟨_, rfl⟩
      rw [hnG] at hol GT ⊢
      have HN := Lib.hid hnG
      have hyl : y.length ≤ 16777216 := by have := OKJ.out.2.1; omega
      have hpo := OKJ.out.1
      obtain ⟨G2, hG2⟩ : ∃ G, (glueG (ss.take (j + 1)) 0 ([], p)).1 = G := ⟨_, rfl⟩
      rw [hG2] at GT RT hg1
      have HG2 := Lib.hid hG2
      have hgn : nG + y.length = G2.length := by rw [GT.out]; simp; omega
      have hw2 : IntKind.i64.wrap (((nG + y.length : Nat) : Int) - 1) = (G2.length : Int) - 1 := by rw [hgn]; exact IntWalk.i64_in _ (by omega)
      have GLN := Lib.hid hgn
      have RL := Lib.hid (rootsG_len p ss j)
      have hj0 : (0 : Int) ≤ (j : Int) := Int.natCast_nonneg _
      have hj1 : (j : Int) < (q : Int) := by omega
      clear hyy hG1 hnG hG2 hgn hjs
      go_upto_block 4 with fail
      refine foldedInner hjq HN.out hol hyl HDR.out GJ.out ?_
      intro v15 v129 v130 v131 v132 v133 v134 v135 v136 v137 v138 v139 v140 v141 v142 v143 v144 v145 v146 v147 v148 v149 v150 v151 W7 lo7 hi7 A7 c7 gv7
      rw [← GT.out] at gv7
      have G7 := Lib.hid gv7
      clear gv7
      dsimp only [Exit.then]
      obtain ⟨gl, hgl2⟩ : ∃ gl, nG + y.length = gl := ⟨_, rfl⟩
      rw [hgl2] at hw2 GLN ⊢
      have hgb : gl ≤ 50331648 := by have := GLN.out; omega
      clear hgl2
      go_wp2_with (at_builtin; refine wpList_appIS (.tmp 152) (.tmp 156) rfl rfl (rootsG p ss j) [(G2.length : Int) - 1] rfl RL.out (G7.out.2.1.alloc _) rfl rfl (SlI.new _ [(G2.length : Int) - 1] (lo := 0) (Nat.zero_le _)).rd (by omega) ?_; intro A9 c9 lo9 hi9 w9 h9 d9 t9)
      have G9 := Lib.hid ((G7.out.alloc _).appA (by rw [← RT.out] at h9; exact h9) d9 t9)
      clear h9 d9 t9 G7
      go_wp2
      go_roundw
      case rel => exact ⟨j + 1, lo7, hi7, A7, c7, lo9, hi9, A9, c9, by omega, by go_num, by rw [HG2.out, ← GLN.out], rfl, by rw [HG2.out]; exact G9.out⟩
      case measure => simp [intOf]; omega
    · have hje : j = q := by omega
      have hst : ss.take j = ss := List.take_of_length_le (by rw [SL.out]; omega)
      rw [hst] at GJ ⊢
      subst hje
      clear hst hjq hj hol
      go_wp2_with fail
      exact HQ.out _ _ _ _ _ _ _ _ _ _ _ _ _ _ _ _ _ _ _ _ _ _ _ _ _ _ _ _ _ _ _ _ _ _ _ _ _ _ _ _ _ _ _ _ _ _ _ _ _ GJ.out

set_option maxRecDepth 1000000 in
set_option maxHeartbeats 4000000 in
theorem foldedEnd2 {w Wg W7 : World} {lo7 hi7 c7 lo8 hi8 e8 gl : Nat} {A7 B8 : Option Addr} {ss : List (List Prt)} {p : Prt} {XS : List Prt} {s_0 s_1 s_2 s_3 s_6 s_7 s_8 s_9 s_10 s_13 s_14 s_15 s_16 s_17 s_18 s_19 s_20 s_21 s_22 s_23 s_24 s_25 s_26 s_27 s_28 s_29 s_30 s_31 s_32 s_33 s_34 s_35 s_36 s_37 s_38 s_39 s_40 s_41 s_42 s_43 s_44 s_45 s_46 s_47 s_48 s_49 s_50 s_51 s_52 s_53 s_54 s_55 s_56 s_57 s_58 s_59 s_60 s_61 s_62 s_63 s_64 s_65 s_66 s_67 s_68 s_69 s_70 s_71 s_72 s_73 s_74 s_75 s_76 s_77 s_78 s_79 s_80 s_81 s_82 s_83 s_84 s_85 s_86 s_87 s_88 s_89 s_90 s_91 s_92 s_93 s_94 s_95 s_96 s_97 s_98 s_99 s_100 s_101 s_102 s_103 s_104 s_105 s_106 s_107 s_108 s_109 s_110 s_111 s_112 s_113 s_114 s_115 s_116 s_117 s_118 s_119 s_120 s_121 s_122 s_123 s_124 s_125 s_126 s_127 s_128 s_129 s_130 s_131 s_132 s_133 s_134 s_135 s_136 s_137 s_138 s_139 s_140 s_141 s_142 s_143 s_144 s_145 s_146 s_147 s_148 s_149 s_150 s_151 s_152 s_153 s_154 s_155 s_156 s_157 s_158 s_159 s_160 s_161 s_162 s_163 s_164 s_165 s_166 s_167 s_168 s_169 s_170 s_171 s_172 s_173 s_174 s_175 s_176 s_177 : Value}
    (hsl : ss.length = 2) (hgl : (glueG ss 0 ([], p)).1.length = gl) (hol : gl ≤ 50331648) (GL0 : GV Wg W7 lo7 hi7 A7 c7 (glueG ss 0 ([], p)).1 lo8 hi8 B8 e8 (rootsG p ss 2)) (hwg : w.heap.size + 3 ≤ Wg.heap.size)
    (BR : Blk W7 (w.heap.size + 1) 29 #[.slice none 0 0]) (BP : Blk W7 (w.heap.size + 1 + 1) 50 (ints (cP p)).toArray) (HW : Below w.heap.size w W7) (HF : XS = gluedP p ss) :
    Code.wp Try.prog (sRest 29) (bodyPost Try.prog Try.f55 (MadeF w XS)) ⟨#[s_0, s_1, s_2, s_3, .pointer (some ⟨w.heap.size + 1, 0, none⟩), .pointer (some ⟨w.heap.size + 1 + 1, 0, none⟩), s_6, s_7, s_8, s_9, s_10, .slice A7 gl c7, .slice B8 2 e8, s_13, s_14, s_15, s_16, s_17, s_18, s_19, s_20, s_21, s_22, s_23, s_24, s_25, s_26, s_27, s_28, s_29, s_30, s_31, s_32, s_33, s_34, s_35, s_36, s_37, s_38, s_39, s_40, s_41, s_42, s_43, s_44, s_45, s_46, s_47, s_48, s_49, s_50, s_51, s_52, s_53, s_54, s_55, s_56, s_57, s_58, s_59, s_60, s_61, s_62, s_63, s_64, s_65, s_66, s_67, s_68, s_69, s_70, s_71, s_72, s_73, s_74, s_75, s_76, s_77, s_78, s_79, s_80, s_81, s_82, s_83, s_84, s_85, s_86, s_87, s_88, s_89, s_90, s_91, s_92, s_93, s_94, s_95, s_96, s_97, s_98, s_99, s_100, s_101, s_102, s_103, s_104, s_105, s_106, s_107, s_108, s_109, s_110, s_111, s_112, s_113, s_114, s_115, s_116, s_117, s_118, s_119, s_120, s_121, s_122, s_123, s_124, s_125, s_126, s_127, s_128, s_129, s_130, s_131, s_132, s_133, s_134, s_135, s_136, s_137, s_138, s_139, s_140, s_141, s_142, s_143, s_144, s_145, s_146, s_147, s_148, s_149, s_150, s_151, s_152, s_153, s_154, s_155, s_156, s_157, s_158, s_159, s_160, s_161, s_162, s_163, s_164, s_165, s_166, s_167, s_168, s_169, s_170, s_171, s_172, s_173, s_174, s_175, s_176, s_177], []⟩ W7 := by
  obtain ⟨kd, pa, pb, pc, nn⟩ := p
  have GL := Lib.hid GL0; have hbr := Lib.hid BR; have hbp := Lib.hid BP; have hbw := Lib.hid HW; have SL := Lib.hid hsl
  have HF2 := Lib.hid (show XS = (glueG ss 0 ([], ⟨kd, pa, pb, pc, nn⟩)).1 ++ [(glueG ss 0 ([], ⟨kd, pa, pb, pc, nn⟩)).2] from HF)
  clear GL0 BR BP HW HF hsl
  have hrl : ∀ j (hj : j < 2), ((rootsG ⟨kd, pa, pb, pc, nn⟩ ss 2)[j]? = some (((glueG (ss.take (j + 1)) 0 ([], ⟨kd, pa, pb, pc, nn⟩)).1.length : Int) - 1)) := fun j hj => by unfold rootsG; rw [List.getElem?_map, List.getElem?_range hj]; rfl
  obtain ⟨r0, hr0⟩ : ∃ r, ((glueG (ss.take 1) 0 ([], ⟨kd, pa, pb, pc, nn⟩)).1.length : Int) - 1 = r := ⟨_, rfl⟩
  obtain ⟨r1, hr1⟩ : ∃ r, ((glueG (ss.take 2) 0 ([], ⟨kd, pa, pb, pc, nn⟩)).1.length : Int) - 1 = r := ⟨_, rfl⟩
  have HP2 := Lib.hid (show (glueG ss 0 ([], ⟨kd, pa, pb, pc, nn⟩)).2 = ⟨kd, r0, r1, pc, nn⟩ from by
    obtain ⟨y0, y1, rfl⟩ : ∃ y0 y1, ss = [y0, y1] := by
      match ss, SL.out with
      | [y0, y1], _ => exact ⟨_, _, rfl⟩
    rw [← hr0, ← hr1]; rfl)
  obtain ⟨ga, oa, hAa, hga, hga2, _⟩ := GL.out.2.1.at_ (k := 0) (by rw [rootsG_len]; omega)
  subst hAa
  have q0 := GL.out.2.1.get (hrl 0 (by omega))
  rw [hr0] at q0
  have q1 := GL.out.2.1.get (hrl 1 (by omega))
  rw [hr1] at q1
  simp only [Nat.add_zero] at q0 q1
  obtain ⟨G1, hG1⟩ : ∃ G, (glueG ss 0 ([], ⟨kd, pa, pb, pc, nn⟩)).1 = G := ⟨_, rfl⟩
  have HG1 := Lib.hid hG1
  rw [hG1] at hgl
  have HN := Lib.hid hgl
  have ST := Lib.hid (fun (W' : World) (t : Turn (w.heap.size + 2) (w.heap.size + 3) W7 W') => (show SlP W' lo7 hi7 A7 c7 G1 ∧ Blk W' (w.heap.size + 1) 29 #[.slice none 0 0] ∧ Below w.heap.size w W' ∧ lo7 ≤ W'.heap.size ∧ hi7 ≤ W'.heap.size ∧ w.heap.size + 3 ≤ lo7 from by
    have hz := t.size
    obtain ⟨e1, e2, e3, e4, e5, e6, e7, e8, e9, e10⟩ := GL.out
    rw [hG1] at e1
    exact ⟨e1.turn t (.inr (by omega)), t.blk hbr.out (by omega), Below.new hbw.out t (by omega) (Nat.le_refl _), by omega, by omega, by omega⟩))
  have tn0 := Turn.refl (w.heap.size + 2) (w.heap.size + 3) W7
  have kb0 := hbp.out
  have tn1 := tn0.setCell (p := ⟨w.heap.size + 1 + 1, 1, none⟩) (Nat.le_refl _) (.inl (Nat.lt_succ_self _)) (.int .i64 r0)
  have kb1 := kb0.set_ 1 (.int .i64 r0)
  have tn2 := tn1.setCell (p := ⟨w.heap.size + 1 + 1, 2, none⟩) (Nat.le_refl _) (.inl (Nat.lt_succ_self _)) (.int .i64 r1)
  have kb2 := kb1.set_ 2 (.int .i64 r1)
  have cc0 : W7.cell? ⟨w.heap.size + 1 + 1, 1, none⟩ = some (.int .i64 pa) := kb0.cell 1
  have ff0 : W7.frozen? ⟨w.heap.size + 1 + 1, 1, none⟩ = false := kb0.frozen 1
  have cc1 : (W7.setCell ⟨w.heap.size + 1 + 1, 1, none⟩ (.int .i64 r0)).cell? ⟨w.heap.size + 1 + 1, 2, none⟩ = some (.int .i64 pb) := kb1.cell 2
  have ff1 : (W7.setCell ⟨w.heap.size + 1 + 1, 1, none⟩ (.int .i64 r0)).frozen? ⟨w.heap.size + 1 + 1, 2, none⟩ = false := kb1.frozen 2
  have qq1 : (W7.setCell ⟨w.heap.size + 1 + 1, 1, none⟩ (.int .i64 r0)).cell? ⟨ga, oa + 1, none⟩ = some (.int .i64 r1) := by (have hgg : ga < W7.heap.size := World.block_lt_of_cell? W7 ⟨ga, _, none⟩ q1; exact (cell_far tn1 (p := ⟨ga, oa + 1, none⟩) hgg (.inr (by have := GL.out.2.2.2.1; simp only; omega))).trans q1)
  obtain ⟨so, sr, sb, sl1, sl2, sl3⟩ := ST.out _ tn2
  have KB := Lib.hid kb2
  have HZS := Lib.hid (show ((W7.setCell ⟨w.heap.size + 1 + 1, 1, none⟩ (.int .i64 r0)).setCell ⟨w.heap.size + 1 + 1, 2, none⟩ (.int .i64 r1)).heap.size = W7.heap.size by simp [World.setCell])
  have z0 : ((W7.setCell ⟨w.heap.size + 1 + 1, 1, none⟩ (.int .i64 r0)).setCell ⟨w.heap.size + 1 + 1, 2, none⟩ (.int .i64 r1)).cell? ⟨w.heap.size + 1 + 1, 0, none⟩ = some (.int .i64 kd) := kb2.cell 0
  have z1 : ((W7.setCell ⟨w.heap.size + 1 + 1, 1, none⟩ (.int .i64 r0)).setCell ⟨w.heap.size + 1 + 1, 2, none⟩ (.int .i64 r1)).cell? ⟨w.heap.size + 1 + 1, 1, none⟩ = some (.int .i64 r0) := kb2.cell 1
  have z2 : ((W7.setCell ⟨w.heap.size + 1 + 1, 1, none⟩ (.int .i64 r0)).setCell ⟨w.heap.size + 1 + 1, 2, none⟩ (.int .i64 r1)).cell? ⟨w.heap.size + 1 + 1, 2, none⟩ = some (.int .i64 r1) := kb2.cell 2
  have z3 : ((W7.setCell ⟨w.heap.size + 1 + 1, 1, none⟩ (.int .i64 r0)).setCell ⟨w.heap.size + 1 + 1, 2, none⟩ (.int .i64 r1)).cell? ⟨w.heap.size + 1 + 1, 3, none⟩ = some (.int .i64 pc) := kb2.cell 3
  have z4 : ((W7.setCell ⟨w.heap.size + 1 + 1, 1, none⟩ (.int .i64 r0)).setCell ⟨w.heap.size + 1 + 1, 2, none⟩ (.int .i64 r1)).cell? ⟨w.heap.size + 1 + 1, 4, none⟩ = some (.int .i64 nn) := kb2.cell 4
  have SO := Lib.hid so; have SR := Lib.hid sr; have SB := Lib.hid sb
  have HZ := Lib.hid (And.intro sl1 (And.intro sl2 sl3))
  clear so sr sb GL hbr hbp hbw hrl hG1 hgl ST sl1 sl2 sl3 tn0 kb0 tn1 kb1 tn2 kb2 hr0 hr1
  conv => arg 2; whnf
  go_upto_region 33 with fail
  obtain ⟨W, hW⟩ : ∃ W, W = ((W7.setCell ⟨w.heap.size + 1 + 1, 1, none⟩ (.int .i64 r0)).setCell ⟨w.heap.size + 1 + 1, 2, none⟩ (.int .i64 r1)) := ⟨_, rfl⟩
  rw [← hW] at SO SR SB HZ HZS KB z0 z1 z2 z3 z4 ⊢
  clear hW cc0 ff0 q0 cc1 ff1 q1 qq1
  have SO2 := Lib.hid (SO.out.alloc (.cells #[.int .i64 kd, .int .i64 r0, .int .i64 r1, .int .i64 pc, .int .i64 nn] 50))
  go_wp2_with (at_builtin; refine wpList_appPS (.tmp 173) (.tmp 175) rfl rfl G1 ⟨kd, r0, r1, pc, nn⟩ rfl HN.out SO2.out rfl (Blk.new _ _ _) (by omega) ?_; intro A9 c9 lo9 hi9 w9 h9 d9 tn9; obtain ⟨sl1, sl2, sl3⟩ := HZ.out; have kr := tn9.blk (SR.out.alloc _) (.inl (by omega)); have fr := kr.frozen 0; have gr := kr.cell 0)
  have hz9 := tn9.size
  rw [World.size_alloc] at d9 hz9
  have S9 := Lib.hid (h9.mono (show w.heap.size + 2 ≤ _ from by omega) (show _ ≤ w9.heap.size from by omega))
  have HB9 := Lib.hid ((SB.out.alloc SB.out.size _).trans ((tn9.below (by rw [World.size_alloc]; omega)).mono (by omega)))
  have E := Lib.hid ((kr.set_ 0 (.slice A9 (gl + 1) c9)).cell 0)
  clear h9 tn9 kr d9 hz9 sl1 sl2 sl3 SO SO2 SR SB HZ HZS KB z0 z1 z2 z3 z4
  go_wp2_with fail
  have HE := E.out
  simp at HE
  refine bodyPost_ret (v := .agg #[.slice A9 (gl + 1) c9]) (by simp [results, Try.results55, go_sem, HE]) rfl ?_
  rw [HF2.out, HP2.out, HG1.out]
  have := HB9.out.size
  refine ⟨A9, c9, by rw [List.length_append, HN.out]; rfl, (S9.out.turn ((Turn.refl 0 (w.heap.size + 2) _).setCell (p := ⟨w.heap.size + 1, 0, none⟩) (Nat.zero_le _) (.inl (by simp)) _) (.inr (Nat.le_refl _))).mono (by omega) (by simp), HB9.out.setCell (by simp) _⟩
set_option maxRecDepth 1000000 in
set_option maxHeartbeats 4000000 in
theorem foldedEnd3 {w Wg W7 : World} {lo7 hi7 c7 lo8 hi8 e8 gl : Nat} {A7 B8 : Option Addr} {ss : List (List Prt)} {p : Prt} {XS : List Prt} {s_0 s_1 s_2 s_3 s_6 s_7 s_8 s_9 s_10 s_13 s_14 s_15 s_16 s_17 s_18 s_19 s_20 s_21 s_22 s_23 s_24 s_25 s_26 s_27 s_28 s_29 s_30 s_31 s_32 s_33 s_34 s_35 s_36 s_37 s_38 s_39 s_40 s_41 s_42 s_43 s_44 s_45 s_46 s_47 s_48 s_49 s_50 s_51 s_52 s_53 s_54 s_55 s_56 s_57 s_58 s_59 s_60 s_61 s_62 s_63 s_64 s_65 s_66 s_67 s_68 s_69 s_70 s_71 s_72 s_73 s_74 s_75 s_76 s_77 s_78 s_79 s_80 s_81 s_82 s_83 s_84 s_85 s_86 s_87 s_88 s_89 s_90 s_91 s_92 s_93 s_94 s_95 s_96 s_97 s_98 s_99 s_100 s_101 s_102 s_103 s_104 s_105 s_106 s_107 s_108 s_109 s_110 s_111 s_112 s_113 s_114 s_115 s_116 s_117 s_118 s_119 s_120 s_121 s_122 s_123 s_124 s_125 s_126 s_127 s_128 s_129 s_130 s_131 s_132 s_133 s_134 s_135 s_136 s_137 s_138 s_139 s_140 s_141 s_142 s_143 s_144 s_145 s_146 s_147 s_148 s_149 s_150 s_151 s_152 s_153 s_154 s_155 s_156 s_157 s_158 s_159 s_160 s_161 s_162 s_163 s_164 s_165 s_166 s_167 s_168 s_169 s_170 s_171 s_172 s_173 s_174 s_175 s_176 s_177 : Value}
    (hsl : ss.length = 3) (hgl : (glueG ss 0 ([], p)).1.length = gl) (hol : gl ≤ 50331648) (GL0 : GV Wg W7 lo7 hi7 A7 c7 (glueG ss 0 ([], p)).1 lo8 hi8 B8 e8 (rootsG p ss 3)) (hwg : w.heap.size + 3 ≤ Wg.heap.size)
    (BR : Blk W7 (w.heap.size + 1) 29 #[.slice none 0 0]) (BP : Blk W7 (w.heap.size + 1 + 1) 50 (ints (cP p)).toArray) (HW : Below w.heap.size w W7) (HF : XS = gluedP p ss) :
    Code.wp Try.prog (sRest 29) (bodyPost Try.prog Try.f55 (MadeF w XS)) ⟨#[s_0, s_1, s_2, s_3, .pointer (some ⟨w.heap.size + 1, 0, none⟩), .pointer (some ⟨w.heap.size + 1 + 1, 0, none⟩), s_6, s_7, s_8, s_9, s_10, .slice A7 gl c7, .slice B8 3 e8, s_13, s_14, s_15, s_16, s_17, s_18, s_19, s_20, s_21, s_22, s_23, s_24, s_25, s_26, s_27, s_28, s_29, s_30, s_31, s_32, s_33, s_34, s_35, s_36, s_37, s_38, s_39, s_40, s_41, s_42, s_43, s_44, s_45, s_46, s_47, s_48, s_49, s_50, s_51, s_52, s_53, s_54, s_55, s_56, s_57, s_58, s_59, s_60, s_61, s_62, s_63, s_64, s_65, s_66, s_67, s_68, s_69, s_70, s_71, s_72, s_73, s_74, s_75, s_76, s_77, s_78, s_79, s_80, s_81, s_82, s_83, s_84, s_85, s_86, s_87, s_88, s_89, s_90, s_91, s_92, s_93, s_94, s_95, s_96, s_97, s_98, s_99, s_100, s_101, s_102, s_103, s_104, s_105, s_106, s_107, s_108, s_109, s_110, s_111, s_112, s_113, s_114, s_115, s_116, s_117, s_118, s_119, s_120, s_121, s_122, s_123, s_124, s_125, s_126, s_127, s_128, s_129, s_130, s_131, s_132, s_133, s_134, s_135, s_136, s_137, s_138, s_139, s_140, s_141, s_142, s_143, s_144, s_145, s_146, s_147, s_148, s_149, s_150, s_151, s_152, s_153, s_154, s_155, s_156, s_157, s_158, s_159, s_160, s_161, s_162, s_163, s_164, s_165, s_166, s_167, s_168, s_169, s_170, s_171, s_172, s_173, s_174, s_175, s_176, s_177], []⟩ W7 := by
  obtain ⟨kd, pa, pb, pc, nn⟩ := p
  have GL := Lib.hid GL0; have hbr := Lib.hid BR; have hbp := Lib.hid BP; have hbw := Lib.hid HW; have SL := Lib.hid hsl
  have HF2 := Lib.hid (show XS = (glueG ss 0 ([], ⟨kd, pa, pb, pc, nn⟩)).1 ++ [(glueG ss 0 ([], ⟨kd, pa, pb, pc, nn⟩)).2] from HF)
  clear GL0 BR BP HW HF hsl
  have hrl : ∀ j (hj : j < 3), ((rootsG ⟨kd, pa, pb, pc, nn⟩ ss 3)[j]? = some (((glueG (ss.take (j + 1)) 0 ([], ⟨kd, pa, pb, pc, nn⟩)).1.length : Int) - 1)) := fun j hj => by unfold rootsG; rw [List.getElem?_map, List.getElem?_range hj]; rfl
  obtain ⟨r0, hr0⟩ : ∃ r, ((glueG (ss.take 1) 0 ([], ⟨kd, pa, pb, pc, nn⟩)).1.length : Int) - 1 = r := ⟨_, rfl⟩
  obtain ⟨r1, hr1⟩ : ∃ r, ((glueG (ss.take 2) 0 ([], ⟨kd, pa, pb, pc, nn⟩)).1.length : Int) - 1 = r := ⟨_, rfl⟩
  obtain ⟨r2, hr2⟩ : ∃ r, ((glueG (ss.take 3) 0 ([], ⟨kd, pa, pb, pc, nn⟩)).1.length : Int) - 1 = r := ⟨_, rfl⟩
  have HP2 := Lib.hid (show (glueG ss 0 ([], ⟨kd, pa, pb, pc, nn⟩)).2 = ⟨kd, r0, r1, r2, nn⟩ from by
    obtain ⟨y0, y1, y2, rfl⟩ : ∃ y0 y1 y2, ss = [y0, y1, y2] := by
      match ss, SL.out with
      | [y0, y1, y2], _ => exact ⟨_, _, _, rfl⟩
    rw [← hr0, ← hr1, ← hr2]; rfl)
  obtain ⟨ga, oa, hAa, hga, hga2, _⟩ := GL.out.2.1.at_ (k := 0) (by rw [rootsG_len]; omega)
  subst hAa
  have q0 := GL.out.2.1.get (hrl 0 (by omega))
  rw [hr0] at q0
  have q1 := GL.out.2.1.get (hrl 1 (by omega))
  rw [hr1] at q1
  have q2 := GL.out.2.1.get (hrl 2 (by omega))
  rw [hr2] at q2
  simp only [Nat.add_zero] at q0 q1 q2
  obtain ⟨G1, hG1⟩ : ∃ G, (glueG ss 0 ([], ⟨kd, pa, pb, pc, nn⟩)).1 = G := ⟨_, rfl⟩
  have HG1 := Lib.hid hG1
  rw [hG1] at hgl
  have HN := Lib.hid hgl
  have ST := Lib.hid (fun (W' : World) (t : Turn (w.heap.size + 2) (w.heap.size + 3) W7 W') => (show SlP W' lo7 hi7 A7 c7 G1 ∧ Blk W' (w.heap.size + 1) 29 #[.slice none 0 0] ∧ Below w.heap.size w W' ∧ lo7 ≤ W'.heap.size ∧ hi7 ≤ W'.heap.size ∧ w.heap.size + 3 ≤ lo7 from by
    have hz := t.size
    obtain ⟨e1, e2, e3, e4, e5, e6, e7, e8, e9, e10⟩ := GL.out
    rw [hG1] at e1
    exact ⟨e1.turn t (.inr (by omega)), t.blk hbr.out (by omega), Below.new hbw.out t (by omega) (Nat.le_refl _), by omega, by omega, by omega⟩))
  have tn0 := Turn.refl (w.heap.size + 2) (w.heap.size + 3) W7
  have kb0 := hbp.out
  have tn1 := tn0.setCell (p := ⟨w.heap.size + 1 + 1, 1, none⟩) (Nat.le_refl _) (.inl (Nat.lt_succ_self _)) (.int .i64 r0)
  have kb1 := kb0.set_ 1 (.int .i64 r0)
  have tn2 := tn1.setCell (p := ⟨w.heap.size + 1 + 1, 2, none⟩) (Nat.le_refl _) (.inl (Nat.lt_succ_self _)) (.int .i64 r1)
  have kb2 := kb1.set_ 2 (.int .i64 r1)
  have tn3 := tn2.setCell (p := ⟨w.heap.size + 1 + 1, 3, none⟩) (Nat.le_refl _) (.inl (Nat.lt_succ_self _)) (.int .i64 r2)
  have kb3 := kb2.set_ 3 (.int .i64 r2)
  have cc0 : W7.cell? ⟨w.heap.size + 1 + 1, 1, none⟩ = some (.int .i64 pa) := kb0.cell 1
  have ff0 : W7.frozen? ⟨w.heap.size + 1 + 1, 1, none⟩ = false := kb0.frozen 1
  have cc1 : (W7.setCell ⟨w.heap.size + 1 + 1, 1, none⟩ (.int .i64 r0)).cell? ⟨w.heap.size + 1 + 1, 2, none⟩ = some (.int .i64 pb) := kb1.cell 2
  have ff1 : (W7.setCell ⟨w.heap.size + 1 + 1, 1, none⟩ (.int .i64 r0)).frozen? ⟨w.heap.size + 1 + 1, 2, none⟩ = false := kb1.frozen 2
  have qq1 : (W7.setCell ⟨w.heap.size + 1 + 1, 1, none⟩ (.int .i64 r0)).cell? ⟨ga, oa + 1, none⟩ = some (.int .i64 r1) := by (have hgg : ga < W7.heap.size := World.block_lt_of_cell? W7 ⟨ga, _, none⟩ q1; exact (cell_far tn1 (p := ⟨ga, oa + 1, none⟩) hgg (.inr (by have := GL.out.2.2.2.1; simp only; omega))).trans q1)
  have cc2 : ((W7.setCell ⟨w.heap.size + 1 + 1, 1, none⟩ (.int .i64 r0)).setCell ⟨w.heap.size + 1 + 1, 2, none⟩ (.int .i64 r1)).cell? ⟨w.heap.size + 1 + 1, 3, none⟩ = some (.int .i64 pc) := kb2.cell 3
  have ff2 : ((W7.setCell ⟨w.heap.size + 1 + 1, 1, none⟩ (.int .i64 r0)).setCell ⟨w.heap.size + 1 + 1, 2, none⟩ (.int .i64 r1)).frozen? ⟨w.heap.size + 1 + 1, 3, none⟩ = false := kb2.frozen 3
  have qq2 : ((W7.setCell ⟨w.heap.size + 1 + 1, 1, none⟩ (.int .i64 r0)).setCell ⟨w.heap.size + 1 + 1, 2, none⟩ (.int .i64 r1)).cell? ⟨ga, oa + 2, none⟩ = some (.int .i64 r2) := by (have hgg : ga < W7.heap.size := World.block_lt_of_cell? W7 ⟨ga, _, none⟩ q2; exact (cell_far tn2 (p := ⟨ga, oa + 2, none⟩) hgg (.inr (by have := GL.out.2.2.2.1; simp only; omega))).trans q2)
  obtain ⟨so, sr, sb, sl1, sl2, sl3⟩ := ST.out _ tn3
  have KB := Lib.hid kb3
  have HZS := Lib.hid (show (((W7.setCell ⟨w.heap.size + 1 + 1, 1, none⟩ (.int .i64 r0)).setCell ⟨w.heap.size + 1 + 1, 2, none⟩ (.int .i64 r1)).setCell ⟨w.heap.size + 1 + 1, 3, none⟩ (.int .i64 r2)).heap.size = W7.heap.size by simp [World.setCell])
  have z0 : (((W7.setCell ⟨w.heap.size + 1 + 1, 1, none⟩ (.int .i64 r0)).setCell ⟨w.heap.size + 1 + 1, 2, none⟩ (.int .i64 r1)).setCell ⟨w.heap.size + 1 + 1, 3, none⟩ (.int .i64 r2)).cell? ⟨w.heap.size + 1 + 1, 0, none⟩ = some (.int .i64 kd) := kb3.cell 0
  have z1 : (((W7.setCell ⟨w.heap.size + 1 + 1, 1, none⟩ (.int .i64 r0)).setCell ⟨w.heap.size + 1 + 1, 2, none⟩ (.int .i64 r1)).setCell ⟨w.heap.size + 1 + 1, 3, none⟩ (.int .i64 r2)).cell? ⟨w.heap.size + 1 + 1, 1, none⟩ = some (.int .i64 r0) := kb3.cell 1
  have z2 : (((W7.setCell ⟨w.heap.size + 1 + 1, 1, none⟩ (.int .i64 r0)).setCell ⟨w.heap.size + 1 + 1, 2, none⟩ (.int .i64 r1)).setCell ⟨w.heap.size + 1 + 1, 3, none⟩ (.int .i64 r2)).cell? ⟨w.heap.size + 1 + 1, 2, none⟩ = some (.int .i64 r1) := kb3.cell 2
  have z3 : (((W7.setCell ⟨w.heap.size + 1 + 1, 1, none⟩ (.int .i64 r0)).setCell ⟨w.heap.size + 1 + 1, 2, none⟩ (.int .i64 r1)).setCell ⟨w.heap.size + 1 + 1, 3, none⟩ (.int .i64 r2)).cell? ⟨w.heap.size + 1 + 1, 3, none⟩ = some (.int .i64 r2) := kb3.cell 3
  have z4 : (((W7.setCell ⟨w.heap.size + 1 + 1, 1, none⟩ (.int .i64 r0)).setCell ⟨w.heap.size + 1 + 1, 2, none⟩ (.int .i64 r1)).setCell ⟨w.heap.size + 1 + 1, 3, none⟩ (.int .i64 r2)).cell? ⟨w.heap.size + 1 + 1, 4, none⟩ = some (.int .i64 nn) := kb3.cell 4
  have SO := Lib.hid so; have SR := Lib.hid sr; have SB := Lib.hid sb
  have HZ := Lib.hid (And.intro sl1 (And.intro sl2 sl3))
  clear so sr sb GL hbr hbp hbw hrl hG1 hgl ST sl1 sl2 sl3 tn0 kb0 tn1 kb1 tn2 kb2 tn3 kb3 hr0 hr1 hr2
  conv => arg 2; whnf
  go_upto_region 33 with fail
  obtain ⟨W, hW⟩ : ∃ W, W = (((W7.setCell ⟨w.heap.size + 1 + 1, 1, none⟩ (.int .i64 r0)).setCell ⟨w.heap.size + 1 + 1, 2, none⟩ (.int .i64 r1)).setCell ⟨w.heap.size + 1 + 1, 3, none⟩ (.int .i64 r2)) := ⟨_, rfl⟩
  rw [← hW] at SO SR SB HZ HZS KB z0 z1 z2 z3 z4 ⊢
  clear hW cc0 ff0 q0 cc1 ff1 q1 cc2 ff2 q2 qq1 qq2
  have SO2 := Lib.hid (SO.out.alloc (.cells #[.int .i64 kd, .int .i64 r0, .int .i64 r1, .int .i64 r2, .int .i64 nn] 50))
  go_wp2_with (at_builtin; refine wpList_appPS (.tmp 173) (.tmp 175) rfl rfl G1 ⟨kd, r0, r1, r2, nn⟩ rfl HN.out SO2.out rfl (Blk.new _ _ _) (by omega) ?_; intro A9 c9 lo9 hi9 w9 h9 d9 tn9; obtain ⟨sl1, sl2, sl3⟩ := HZ.out; have kr := tn9.blk (SR.out.alloc _) (.inl (by omega)); have fr := kr.frozen 0; have gr := kr.cell 0)
  have hz9 := tn9.size
  rw [World.size_alloc] at d9 hz9
  have S9 := Lib.hid (h9.mono (show w.heap.size + 2 ≤ _ from by omega) (show _ ≤ w9.heap.size from by omega))
  have HB9 := Lib.hid ((SB.out.alloc SB.out.size _).trans ((tn9.below (by rw [World.size_alloc]; omega)).mono (by omega)))
  have E := Lib.hid ((kr.set_ 0 (.slice A9 (gl + 1) c9)).cell 0)
  clear h9 tn9 kr d9 hz9 sl1 sl2 sl3 SO SO2 SR SB HZ HZS KB z0 z1 z2 z3 z4
  go_wp2_with fail
  have HE := E.out
  simp at HE
  refine bodyPost_ret (v := .agg #[.slice A9 (gl + 1) c9]) (by simp [results, Try.results55, go_sem, HE]) rfl ?_
  rw [HF2.out, HP2.out, HG1.out]
  have := HB9.out.size
  refine ⟨A9, c9, by rw [List.length_append, HN.out]; rfl, (S9.out.turn ((Turn.refl 0 (w.heap.size + 2) _).setCell (p := ⟨w.heap.size + 1, 0, none⟩) (Nat.zero_le _) (.inl (by simp)) _) (.inr (Nat.le_refl _))).mono (by omega) (by simp), HB9.out.setCell (by simp) _⟩
set_option maxRecDepth 1000000 in
set_option maxHeartbeats 4000000 in
theorem foldedTail {w W : World} {b g5 o5 q c5 los his M : Nat} {qs : List (List Prt × Hs)} {ss : List (List Prt)} {p : Prt} {XS : List Prt} {s_0 s_1 s_2 s_3 s_6 s_8 s_9 s_10 s_11 s_12 s_13 s_14 s_15 s_16 s_17 s_18 s_19 s_20 s_21 s_22 s_23 s_24 s_25 s_26 s_27 s_28 s_29 s_30 s_31 s_32 s_33 s_34 s_35 s_36 s_37 s_38 s_39 s_40 s_41 s_42 s_43 s_44 s_45 s_46 s_47 s_48 s_49 s_50 s_51 s_52 s_53 s_54 s_55 s_56 s_57 s_58 s_59 s_60 s_61 s_62 s_63 s_64 s_65 s_66 s_67 s_68 s_69 s_70 s_71 s_72 s_73 s_74 s_75 s_76 s_77 s_78 s_79 s_80 s_81 s_82 s_83 s_84 s_85 s_86 s_87 s_88 s_89 s_90 s_91 s_92 s_93 s_94 s_95 s_96 s_97 s_98 s_99 s_100 s_101 s_102 s_103 s_104 s_105 s_106 s_107 s_108 s_109 s_110 s_111 s_112 s_113 s_114 s_115 s_116 s_117 s_118 s_119 s_120 s_121 s_122 s_123 s_124 s_125 s_126 s_127 s_128 s_129 s_130 s_131 s_132 s_133 s_134 s_135 s_136 s_137 s_138 s_139 s_140 s_141 s_142 s_143 s_144 s_145 s_146 s_147 s_148 s_149 s_150 s_151 s_152 s_153 s_154 s_155 s_156 s_157 s_158 s_159 s_160 s_161 s_162 s_163 s_164 s_165 s_166 s_167 s_168 s_169 s_170 s_171 s_172 s_173 s_174 s_175 s_176 s_177 : Value}
    (hq : qs.length = q) (hq2 : q = 2 ∨ q = 3) (hM : M ≤ 16777216) (hss : qs.map Prod.fst = ss) (OK : ∀ z ∈ qs, OkG M z.1) (SUB : SubI b W los his (some ⟨g5, o5, none⟩) c5 qs)
    (hwW : w.heap.size + 3 ≤ W.heap.size) (BR : Blk W (w.heap.size + 1) 29 #[.slice none 0 0]) (BP : Blk W (w.heap.size + 1 + 1) 50 (ints (cP p)).toArray) (HW : Below w.heap.size w W) (HF : XS = gluedP p ss) :
    Code.wp Try.prog (sRest 18) (bodyPost Try.prog Try.f55 (MadeF w XS)) ⟨#[s_0, s_1, s_2, s_3, .pointer (some ⟨w.heap.size + 1, 0, none⟩), .pointer (some ⟨w.heap.size + 1 + 1, 0, none⟩), s_6, .slice (some ⟨g5, o5, none⟩) q c5, s_8, s_9, s_10, s_11, s_12, s_13, s_14, s_15, s_16, s_17, s_18, s_19, s_20, s_21, s_22, s_23, s_24, s_25, s_26, s_27, s_28, s_29, s_30, s_31, s_32, s_33, s_34, s_35, s_36, s_37, s_38, s_39, s_40, s_41, s_42, s_43, s_44, s_45, s_46, s_47, s_48, s_49, s_50, s_51, s_52, s_53, s_54, s_55, s_56, s_57, s_58, s_59, s_60, s_61, s_62, s_63, s_64, s_65, s_66, s_67, s_68, s_69, s_70, s_71, s_72, s_73, s_74, s_75, s_76, s_77, s_78, s_79, s_80, s_81, s_82, s_83, s_84, s_85, s_86, s_87, s_88, s_89, s_90, s_91, s_92, s_93, s_94, s_95, s_96, s_97, s_98, s_99, s_100, s_101, s_102, s_103, s_104, s_105, s_106, s_107, s_108, s_109, s_110, s_111, s_112, s_113, s_114, s_115, s_116, s_117, s_118, s_119, s_120, s_121, s_122, s_123, s_124, s_125, s_126, s_127, s_128, s_129, s_130, s_131, s_132, s_133, s_134, s_135, s_136, s_137, s_138, s_139, s_140, s_141, s_142, s_143, s_144, s_145, s_146, s_147, s_148, s_149, s_150, s_151, s_152, s_153, s_154, s_155, s_156, s_157, s_158, s_159, s_160, s_161, s_162, s_163, s_164, s_165, s_166, s_167, s_168, s_169, s_170, s_171, s_172, s_173, s_174, s_175, s_176, s_177], []⟩ W := by
  have J0 := Lib.hid (show GV W ((W.alloc (.cells #[] 50)).alloc (.cells #[] 3)) W.heap.size (W.heap.size + 1) (some ⟨W.heap.size, 0, none⟩) 0 [] (W.heap.size + 1) (W.heap.size + 2) (some ⟨W.heap.size + 1, 0, none⟩) 0 [] from
    ⟨SlR.nil, SlI.nil, Nat.le_refl _, by omega, by simp only [World.size_alloc]; omega, by simp only [World.size_alloc]; omega, by simp only [World.size_alloc]; omega, by simp only [World.size_alloc]; omega, .inl (Nat.le_refl _), ((Below.refl _ _).alloc (Nat.le_refl _) _).alloc (by simp only [World.size_alloc]; omega) _⟩)
  have QL := Lib.hid hq; have SS := Lib.hid hss; have OKQ := Lib.hid OK; have HS := Lib.hid SUB; have HBR := Lib.hid BR; have HBP := Lib.hid BP; have HHW := Lib.hid HW; have HF' := Lib.hid HF
  have SL := Lib.hid (show ss.length = q by rw [← hss, List.length_map, hq])
  have hq3 : q ≤ 3 := by omega
  have hol : (glueG ss 0 ([], p)).1.length ≤ 50331648 := by
    have h1 := glueG_len (M := M) ss 0 ([], p) (fun g hg => by
      rw [← SS.out] at hg
      obtain ⟨z, hz, e⟩ := List.mem_map.1 hg
      rw [← e]; exact (OKQ.out z hz).2.1)
    have h2 : ss.length * M ≤ 3 * M := Nat.mul_le_mul_right _ (by rw [SL.out]; exact hq3)
    simp only [List.length_nil, Nat.zero_add] at h1
    omega
  clear hq hss OK SUB BR BP HW HF
  conv => arg 2; whnf
  go_upto_block 2 with fail
  refine foldedGlue (p := p) QL.out hq3 hM SS.out OKQ.out HS.out J0.out ?_
  intro u13 u14 u15 u121 u122 u123 u124 u125 u126 u127 u128 u129 u130 u131 u132 u133 u134 u135 u136 u137 u138 u139 u140 u141 u142 u143 u144 u145 u146 u147 u148 u149 u150 u151 u152 u153 u154 u155 u156 u157 W7 lo7 hi7 A7 c7 lo8 hi8 B8 e8 gv7
  have hbg := gv7.2.2.2.2.2.2.2.2.2
  dsimp only [Exit.then]
  go_step
  rcases hq2 with rfl | rfl
  · exact foldedEnd2 SL.out rfl hol gv7 hwW (HBR.out.below hbg HBR.out.lt) (HBP.out.below hbg HBP.out.lt) (HHW.out.trans (hbg.mono (by omega))) HF'.out
  · exact foldedEnd3 SL.out rfl hol gv7 hwW (HBR.out.below hbg HBR.out.lt) (HBP.out.below hbg HBP.out.lt) (HHW.out.trans (hbg.mono (by omega))) HF'.out
end Go.Proofs.Ytlinngohbghimaa
