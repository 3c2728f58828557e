/-
  The glue of impl.fold, piece by piece.
-/
import Derived.Test.YtlinngohbghimaaFoldC
import Derived.Deep.CutBlock
import Derived.Deep.DeepCutAuto
import Derived.Deep.RegionHeld3
import Derived.Deep.RegionWith
namespace Go.Proofs.Ytlinngohbghimaa
open Go.RowKit
set_option linter.unusedVariables false

/-- the first k of a part's indices moved -/
def mvK (n : Int) (x : Prt) (k : Nat) : Prt := ⟨x.kd, if 1 ≤ k then mvI n x.pa else x.pa, if 2 ≤ k then mvI n x.pb else x.pb, if 3 ≤ k then mvI n x.pc else x.pc, x.nn⟩
/-- pointers to the three indices of the part in block sb -/
abbrev ptrs (sb : Nat) : Array Value := #[.pointer (some ⟨sb, 1, none⟩), .pointer (some ⟨sb, 2, none⟩), .pointer (some ⟨sb, 3, none⟩)]

set_option maxRecDepth 1000000 in
set_option maxHeartbeats 4000000 in
theorem foldShift {W : World} {sb tb nG : Nat} {x : Prt} {Q : Exit → Act → World → Prop} {s_0 s_1 s_2 s_3 s_4 s_5 s_6 s_7 s_8 s_9 s_10 s_11 s_12 s_13 s_14 s_15 s_16 s_17 s_18 s_19 s_20 s_22 s_23 s_24 s_25 s_26 s_27 s_28 s_29 s_30 s_31 s_32 s_33 s_34 s_35 s_36 s_37 s_38 s_39 s_40 s_41 s_42 s_43 s_44 s_45 s_46 s_47 s_48 s_49 s_50 s_51 s_52 s_53 s_54 s_55 s_56 s_57 s_58 s_59 s_60 s_61 s_62 s_63 s_64 s_65 s_66 s_67 s_68 s_69 s_70 s_71 s_72 s_73 s_74 s_75 s_76 s_77 s_78 s_79 s_80 s_81 s_82 s_83 s_84 s_85 s_86 s_87 s_88 s_89 s_90 s_91 s_92 s_93 s_94 s_95 s_96 s_97 s_98 s_99 s_100 s_101 s_102 s_103 s_104 s_105 s_106 s_107 s_108 s_109 s_110 s_111 s_112 s_113 s_114 s_115 s_116 s_117 s_118 s_119 s_120 s_121 s_122 s_123 s_124 s_125 s_126 s_130 s_131 s_132 s_133 s_134 s_135 s_136 s_137 s_138 s_139 s_140 s_141 s_142 s_143 s_144 s_145 s_146 s_147 s_148 s_149 s_150 s_151 s_152 s_153 s_154 s_155 s_156 s_157 s_158 s_159 s_160 s_161 s_162 s_163 s_164 s_165 s_166 s_167 : Value}
    (hne : sb ≠ tb) (BS : Blk W sb 50 (ints (cP x)).toArray) (BT : Blk W tb 78 (ptrs sb))
    (hQ : ∀ (u129 u25 u130 u131 u132 u133 u134 u135 u136 u137 u138 u139 u140 u141 u142 u143 : Value) (W' : World), Blk W' sb 50 (ints (cP (movedP nG x))).toArray → Turn sb (sb + 1) W W' → W'.heap.size = W.heap.size → Q .normal ⟨#[s_0, s_1, s_2, s_3, s_4, s_5, s_6, s_7, s_8, s_9, s_10, s_11, s_12, s_13, s_14, s_15, s_16, s_17, s_18, s_19, s_20, .int .i64 (nG : Int), s_22, s_23, s_24, u25, s_26, s_27, s_28, s_29, s_30, s_31, s_32, s_33, s_34, s_35, s_36, s_37, s_38, s_39, s_40, s_41, s_42, s_43, s_44, s_45, s_46, s_47, s_48, s_49, s_50, s_51, s_52, s_53, s_54, s_55, s_56, s_57, s_58, s_59, s_60, s_61, s_62, s_63, s_64, s_65, s_66, s_67, s_68, s_69, s_70, s_71, s_72, s_73, s_74, s_75, s_76, s_77, s_78, s_79, s_80, s_81, s_82, s_83, s_84, s_85, s_86, s_87, s_88, s_89, s_90, s_91, s_92, s_93, s_94, s_95, s_96, s_97, s_98, s_99, s_100, s_101, s_102, s_103, s_104, s_105, s_106, s_107, s_108, s_109, s_110, s_111, s_112, s_113, s_114, s_115, s_116, s_117, s_118, s_119, s_120, s_121, s_122, s_123, s_124, s_125, s_126, .slice (some ⟨tb, 0, none⟩) 3 3, .int .i64 3, u129, u130, u131, u132, u133, u134, u135, u136, u137, u138, u139, u140, u141, u142, u143, s_144, s_145, s_146, s_147, s_148, s_149, s_150, s_151, s_152, s_153, s_154, s_155, s_156, s_157, s_158, s_159, s_160, s_161, s_162, s_163, s_164, s_165, s_166, s_167], []⟩ W') :
    Code.wp Try.prog (iBlock 7) Q ⟨#[s_0, s_1, s_2, s_3, s_4, s_5, s_6, s_7, s_8, s_9, s_10, s_11, s_12, s_13, s_14, s_15, s_16, s_17, s_18, s_19, s_20, .int .i64 (nG : Int), s_22, s_23, s_24, s_25, s_26, s_27, s_28, s_29, s_30, s_31, s_32, s_33, s_34, s_35, s_36, s_37, s_38, s_39, s_40, s_41, s_42, s_43, s_44, s_45, s_46, s_47, s_48, s_49, s_50, s_51, s_52, s_53, s_54, s_55, s_56, s_57, s_58, s_59, s_60, s_61, s_62, s_63, s_64, s_65, s_66, s_67, s_68, s_69, s_70, s_71, s_72, s_73, s_74, s_75, s_76, s_77, s_78, s_79, s_80, s_81, s_82, s_83, s_84, s_85, s_86, s_87, s_88, s_89, s_90, s_91, s_92, s_93, s_94, s_95, s_96, s_97, s_98, s_99, s_100, s_101, s_102, s_103, s_104, s_105, s_106, s_107, s_108, s_109, s_110, s_111, s_112, s_113, s_114, s_115, s_116, s_117, s_118, s_119, s_120, s_121, s_122, s_123, s_124, s_125, s_126, .slice (some ⟨tb, 0, none⟩) 3 3, .int .i64 3, .int .i64 0, s_130, s_131, s_132, s_133, s_134, s_135, s_136, s_137, s_138, s_139, s_140, s_141, s_142, s_143, s_144, s_145, s_146, s_147, s_148, s_149, s_150, s_151, s_152, s_153, s_154, s_155, s_156, s_157, s_158, s_159, s_160, s_161, s_162, s_163, s_164, s_165, s_166, s_167], []⟩ W := by
  have HQ := Lib.hid hQ; have B0 := Lib.hid BS; have HT := Lib.hid BT
  obtain ⟨kd, pa, pb, pc, nn⟩ := x
  clear hQ BS BT
  conv => arg 2; whnf
  go_wp2_with fail
  go_loopw [129] (fun vi wr => ∃ k : Nat, k ≤ 3 ∧ vi = .int .i64 k ∧ Blk wr sb 50 (ints (cP (mvK nG ⟨kd, pa, pb, pc, nn⟩ k))).toArray ∧ Turn sb (sb + 1) W wr ∧ wr.heap.size = W.heap.size) (fun vi _ => 3 - (intOf vi).toNat)
  case atStart => exact ⟨0, by omega, rfl, B0.out, Turn.refl _ _ _, rfl⟩
  case round =>
    obtain ⟨k, hk, rfl, hbs, htn, hzz⟩ := hrel
    have BK := Lib.hid hbs; have TN := Lib.hid htn; have HZ := Lib.hid hzz
    have HT2 := Lib.hid (htn.blk HT.out (by omega))
    have hc : k = 0 ∨ k = 1 ∨ k = 2 ∨ k = 3 := by omega
    clear hbs htn hzz hk B0
    rcases hc with rfl | rfl | rfl | rfl
    · have hp := HT2.out.cell 0
      have hx : wr.cell? ⟨sb, 1, none⟩ = some (.int .i64 pa) := BK.out.cell 1
      have hf := BK.out.frozen 1
      simp only [List.getElem?_toArray] at hp
      by_cases h0 : 0 ≤ pa
      case pos =>
        have BN := Lib.hid (show Blk (wr.setCell ⟨sb, 1, none⟩ (.int .i64 (wrap64 (pa + nG)))) sb 50 (ints (cP (mvK nG ⟨kd, pa, pb, pc, nn⟩ 1))).toArray from by
          have := BK.out.set_ 1 (.int .i64 (wrap64 (pa + nG)))
          have e : mvI nG pa = wrap64 (pa + nG) := by unfold mvI; rw [if_pos h0]
          simp only [mvK, cP, ints, List.map_cons, List.map_nil] at this ⊢
          simp only [e, Nat.reduceLeDiff, if_true, if_false] at this ⊢
          exact this)
        have TN2 := Lib.hid (TN.out.setCell (p := ⟨sb, 1, none⟩) (Nat.le_refl _) (.inl (Nat.lt_succ_self _)) (.int .i64 (wrap64 (pa + nG))))
        have HZ2 := Lib.hid (show (wr.setCell ⟨sb, 1, none⟩ (.int .i64 (wrap64 (pa + nG)))).heap.size = W.heap.size by simp [World.setCell, HZ.out])
        clear BK TN
        go_wp2_with fail
        go_roundw
        case rel => exact ⟨1, by omega, rfl, BN.out, TN2.out, HZ2.out⟩
        case measure => simp [intOf]
      case neg =>
        have h0' : pa < 0 := by omega
        have BN := Lib.hid (show Blk wr sb 50 (ints (cP (mvK nG ⟨kd, pa, pb, pc, nn⟩ 1))).toArray from by
          have := BK.out
          have e : mvI nG pa = pa := by unfold mvI; rw [if_neg h0]
          simp only [mvK, cP, ints, List.map_cons, List.map_nil] at this ⊢
          simp only [e, Nat.reduceLeDiff, if_true, if_false] at this ⊢
          exact this)
        clear BK
        go_wp2_with fail
        go_roundw
        case rel => exact ⟨1, by omega, rfl, BN.out, TN.out, HZ.out⟩
        case measure => simp [intOf]
    · have hp := HT2.out.cell 1
      have hx : wr.cell? ⟨sb, 2, none⟩ = some (.int .i64 pb) := BK.out.cell 2
      have hf := BK.out.frozen 2
      simp only [List.getElem?_toArray] at hp
      by_cases h0 : 0 ≤ pb
      case pos =>
        have BN := Lib.hid (show Blk (wr.setCell ⟨sb, 2, none⟩ (.int .i64 (wrap64 (pb + nG)))) sb 50 (ints (cP (mvK nG ⟨kd, pa, pb, pc, nn⟩ 2))).toArray from by
          have := BK.out.set_ 2 (.int .i64 (wrap64 (pb + nG)))
          have e : mvI nG pb = wrap64 (pb + nG) := by unfold mvI; rw [if_pos h0]
          simp only [mvK, cP, ints, List.map_cons, List.map_nil] at this ⊢
          simp only [e, Nat.reduceLeDiff, if_true, if_false] at this ⊢
          exact this)
        have TN2 := Lib.hid (TN.out.setCell (p := ⟨sb, 2, none⟩) (Nat.le_refl _) (.inl (Nat.lt_succ_self _)) (.int .i64 (wrap64 (pb + nG))))
        have HZ2 := Lib.hid (show (wr.setCell ⟨sb, 2, none⟩ (.int .i64 (wrap64 (pb + nG)))).heap.size = W.heap.size by simp [World.setCell, HZ.out])
        clear BK TN
        go_wp2_with fail
        go_roundw
        case rel => exact ⟨2, by omega, rfl, BN.out, TN2.out, HZ2.out⟩
        case measure => simp [intOf]
      case neg =>
        have h0' : pb < 0 := by omega
        have BN := Lib.hid (show Blk wr sb 50 (ints (cP (mvK nG ⟨kd, pa, pb, pc, nn⟩ 2))).toArray from by
          have := BK.out
          have e : mvI nG pb = pb := by unfold mvI; rw [if_neg h0]
          simp only [mvK, cP, ints, List.map_cons, List.map_nil] at this ⊢
          simp only [e, Nat.reduceLeDiff, if_true, if_false] at this ⊢
          exact this)
        clear BK
        go_wp2_with fail
        go_roundw
        case rel => exact ⟨2, by omega, rfl, BN.out, TN.out, HZ.out⟩
        case measure => simp [intOf]
    · have hp := HT2.out.cell 2
      have hx : wr.cell? ⟨sb, 3, none⟩ = some (.int .i64 pc) := BK.out.cell 3
      have hf := BK.out.frozen 3
      simp only [List.getElem?_toArray] at hp
      by_cases h0 : 0 ≤ pc
      case pos =>
        have BN := Lib.hid (show Blk (wr.setCell ⟨sb, 3, none⟩ (.int .i64 (wrap64 (pc + nG)))) sb 50 (ints (cP (mvK nG ⟨kd, pa, pb, pc, nn⟩ 3))).toArray from by
          have := BK.out.set_ 3 (.int .i64 (wrap64 (pc + nG)))
          have e : mvI nG pc = wrap64 (pc + nG) := by unfold mvI; rw [if_pos h0]
          simp only [mvK, cP, ints, List.map_cons, List.map_nil] at this ⊢
          simp only [e, Nat.reduceLeDiff, if_true, if_false] at this ⊢
          exact this)
        have TN2 := Lib.hid (TN.out.setCell (p := ⟨sb, 3, none⟩) (Nat.le_refl _) (.inl (Nat.lt_succ_self _)) (.int .i64 (wrap64 (pc + nG))))
        have HZ2 := Lib.hid (show (wr.setCell ⟨sb, 3, none⟩ (.int .i64 (wrap64 (pc + nG)))).heap.size = W.heap.size by simp [World.setCell, HZ.out])
        clear BK TN
        go_wp2_with fail
        go_roundw
        case rel => exact ⟨3, by omega, rfl, BN.out, TN2.out, HZ2.out⟩
        case measure => simp [intOf]
      case neg =>
        have h0' : pc < 0 := by omega
        have BN := Lib.hid (show Blk wr sb 50 (ints (cP (mvK nG ⟨kd, pa, pb, pc, nn⟩ 3))).toArray from by
          have := BK.out
          have e : mvI nG pc = pc := by unfold mvI; rw [if_neg h0]
          simp only [mvK, cP, ints, List.map_cons, List.map_nil] at this ⊢
          simp only [e, Nat.reduceLeDiff, if_true, if_false] at this ⊢
          exact this)
        clear BK
        go_wp2_with fail
        go_roundw
        case rel => exact ⟨3, by omega, rfl, BN.out, TN.out, HZ.out⟩
        case measure => simp [intOf]
    · go_wp2_with fail
      exact HQ.out _ _ _ _ _ _ _ _ _ _ _ _ _ _ _ _ _ BK.out TN.out HZ.out

/-- what has been put together: the parts (their slice's head in a cell), the part over them, pointers to its indices; of what was there at Wg only that part has turned -/
structure GO (w Wg wr : World) (lo hi : Nat) (Ao : Option Addr) (co n : Nat) (out : List Prt) (p : Prt) : Prop where
  sp : SlP wr lo hi Ao co out
  ln : out.length = n
  bo : Blk wr Wg.heap.size 29 #[.slice Ao n co]
  ba : Blk wr (Wg.heap.size + 1) 78 (ptrs (w.heap.size + 1 + 1))
  bp : Blk wr (w.heap.size + 1 + 1) 50 (ints (cP p)).toArray
  tn : Turn (w.heap.size + 2) (w.heap.size + 3) Wg wr
  gw : w.heap.size + 3 ≤ Wg.heap.size
  l0 : Wg.heap.size + 2 ≤ lo
  l1 : lo ≤ wr.heap.size
  l2 : hi ≤ wr.heap.size
section
variable {w Wg wr wy : World} {lo hi co n lo' hi' c' n' : Nat} {Ao A' : Option Addr} {out out' : List Prt} {p : Prt}
theorem GO.below (h : GO w Wg wr lo hi Ao co n out p) (b : Below wr.heap.size wr wy) : GO w Wg wy lo hi Ao co n out p :=
  ⟨h.sp.below b h.l2, h.ln, h.bo.below b h.bo.lt, h.ba.below b h.ba.lt, h.bp.below b h.bp.lt, h.tn.trans (Below.turn b _ _), h.gw, h.l0, Nat.le_trans h.l1 b.size, Nat.le_trans h.l2 b.size⟩
theorem GO.alloc (h : GO w Wg wr lo hi Ao co n out p) (o : Obj) : GO w Wg (wr.alloc o) lo hi Ao co n out p := h.below ((Below.refl _ _).alloc (Nat.le_refl _) o)
theorem GO.drew (h : GO w Wg wr lo hi Ao co n out p) : GO w Wg wr.drew lo hi Ao co n out p := h.below (Below.refl _ _).drew
/-- a block that is newer, and not the parts', turned -/
theorem GO.far (h : GO w Wg wr lo hi Ao co n out p) {sb : Nat} (t : Turn sb (sb + 1) wr wy) (h1 : hi ≤ sb) (h2 : Wg.heap.size + 2 ≤ sb) : GO w Wg wy lo hi Ao co n out p := by
  have hz := t.size
  have := h.gw; have := h.l0; have := h.l1; have := h.l2
  exact ⟨h.sp.turn t (.inl h1), h.ln, t.blk h.bo (.inl (by omega)), t.blk h.ba (.inl (by omega)), t.blk h.bp (.inl (by omega)), h.tn.new t (by omega), h.gw, h.l0, by omega, by omega⟩
theorem GO.app (h : GO w Wg wr lo hi Ao co n out p) (s : SlP wy lo' hi' A' c' out') (hn : out'.length = n') (d : (lo' = lo ∧ hi' = hi) ∨ (lo' = wr.heap.size ∧ hi' = wy.heap.size)) (t : Turn lo hi wr wy) :
    Blk wy Wg.heap.size 29 #[.slice Ao n co] ∧ GO w Wg (wy.setCell ⟨Wg.heap.size, 0, none⟩ (.slice A' n' c')) lo' hi' A' c' n' out' p := by
  have hz := t.size
  have := h.gw; have := h.l0; have := h.l1; have := h.l2; have := h.tn.size
  have b1 := t.blk h.bo (.inl (by omega))
  have t2 : Turn Wg.heap.size (Wg.heap.size + 1) wy (wy.setCell ⟨Wg.heap.size, 0, none⟩ (.slice A' n' c')) := (Turn.refl _ _ wy).setCell (p := ⟨Wg.heap.size, 0, none⟩) (Nat.le_refl _) (.inl (Nat.lt_succ_self _)) _
  have hz2 := t2.size
  exact ⟨b1, s.turn t2 (.inr (by omega)), hn, b1.set_ 0 _, t2.blk (t.blk h.ba (.inl (by omega))) (.inr (by omega)), t2.blk (t.blk h.bp (.inl (by omega))) (.inl (by omega)), (h.tn.new t (by omega)).new t2 (by omega), h.gw, by omega, by omega, by omega⟩
/-- an index of the part stored -/
theorem GO.setP (h : GO w Wg wr lo hi Ao co n out p) {j : Nat} (hj : j < 3) (u : Int) : GO w Wg (wr.setCell ⟨w.heap.size + 1 + 1, j + 1, none⟩ (.int .i64 u)) lo hi Ao co n out (putF p j u) := by
  have := h.gw; have := h.l0; have := h.l1; have := h.l2; have := h.tn.size
  have t2 : Turn (w.heap.size + 2) (w.heap.size + 3) wr (wr.setCell ⟨w.heap.size + 1 + 1, j + 1, none⟩ (.int .i64 u)) := (Turn.refl _ _ wr).setCell (p := ⟨w.heap.size + 1 + 1, j + 1, none⟩) (Nat.le_refl _) (.inl (Nat.lt_succ_self _)) _
  have hz2 := t2.size
  have e : ((ints (cP p)).toArray.setIfInBounds (j + 1) (.int .i64 u)) = (ints (cP (putF p j u))).toArray := by
    have hc : j = 0 ∨ j = 1 ∨ j = 2 := by omega
    rcases hc with rfl | rfl | rfl <;> rfl
  exact ⟨h.sp.turn t2 (.inr (by omega)), h.ln, t2.blk h.bo (.inr (by omega)), t2.blk h.ba (.inr (by omega)), e ▸ h.bp.set_ (j + 1) _, h.tn.trans t2, h.gw, h.l0, by omega, by omega⟩
end

set_option maxRecDepth 1000000 in
set_option maxHeartbeats 4000000 in
theorem foldParts {w Wg W : World} {nG lo hi co : Nat} {Ao : Option Addr} {G y : List Prt} {p : Prt} {hy : Hs} {Q : Exit → Act → World → Prop} {s_0 s_1 s_2 s_3 s_4 s_5 s_6 s_7 s_8 s_9 s_10 s_11 s_12 s_13 s_14 s_15 s_16 s_18 s_19 s_20 s_22 s_23 s_24 s_25 s_26 s_27 s_28 s_29 s_30 s_31 s_32 s_33 s_34 s_35 s_36 s_37 s_38 s_39 s_40 s_41 s_42 s_43 s_44 s_45 s_46 s_47 s_48 s_49 s_50 s_51 s_52 s_53 s_54 s_55 s_56 s_57 s_58 s_59 s_60 s_61 s_62 s_63 s_64 s_65 s_66 s_67 s_68 s_69 s_70 s_71 s_72 s_73 s_74 s_75 s_76 s_77 s_78 s_79 s_80 s_81 s_82 s_83 s_84 s_85 s_86 s_87 s_88 s_89 s_90 s_91 s_92 s_93 s_94 s_95 s_96 s_97 s_98 s_99 s_100 s_101 s_102 s_103 s_104 s_105 s_106 s_107 s_108 s_109 s_110 s_111 s_112 s_113 s_114 s_115 s_116 s_117 s_121 s_122 s_123 s_124 s_125 s_126 s_127 s_128 s_129 s_130 s_131 s_132 s_133 s_134 s_135 s_136 s_137 s_138 s_139 s_140 s_141 s_142 s_143 s_144 s_145 s_146 s_147 s_148 s_149 s_150 s_151 s_152 s_153 s_154 s_155 s_156 s_157 s_158 s_159 s_160 s_161 s_162 s_163 s_164 s_165 s_166 s_167 : Value}
    (hgl : nG ≤ 50331648) (hyl : y.length ≤ 16777216) (HY : ∀ W', Turn (w.heap.size + 2) (w.heap.size + 3) Wg W' → SlP W' hy.lo hy.hi hy.A hy.c y) (hv : GO w Wg W lo hi Ao co nG G p)
    (hQ : ∀ (u120 u23 u25 u121 u122 u123 u124 u125 u126 u127 u128 u129 u130 u131 u132 u133 u134 u135 u136 u137 u138 u139 u140 u141 u142 u143 u144 u145 u146 u147 u148 u149 u150 : Value) (W' : World) (lo' hi' : Nat) (A' : Option Addr) (c' : Nat), GO w Wg W' lo' hi' A' c' (nG + y.length) (G ++ y.map (movedP nG)) p → Q .normal ⟨#[s_0, s_1, s_2, s_3, s_4, s_5, s_6, s_7, s_8, s_9, s_10, s_11, s_12, s_13, s_14, s_15, s_16, .pointer (some ⟨Wg.heap.size, 0, none⟩), s_18, s_19, s_20, .int .i64 (nG : Int), s_22, u23, s_24, u25, s_26, s_27, s_28, s_29, s_30, s_31, s_32, s_33, s_34, s_35, s_36, s_37, s_38, s_39, s_40, s_41, s_42, s_43, s_44, s_45, s_46, s_47, s_48, s_49, s_50, s_51, s_52, s_53, s_54, s_55, s_56, s_57, s_58, s_59, s_60, s_61, s_62, s_63, s_64, s_65, s_66, s_67, s_68, s_69, s_70, s_71, s_72, s_73, s_74, s_75, s_76, s_77, s_78, s_79, s_80, s_81, s_82, s_83, s_84, s_85, s_86, s_87, s_88, s_89, s_90, s_91, s_92, s_93, s_94, s_95, s_96, s_97, s_98, s_99, s_100, s_101, s_102, s_103, s_104, s_105, s_106, s_107, s_108, s_109, s_110, s_111, s_112, s_113, s_114, s_115, s_116, s_117, .slice hy.A y.length hy.c, .int .i64 (y.length : Int), u120, u121, u122, u123, u124, u125, u126, u127, u128, u129, u130, u131, u132, u133, u134, u135, u136, u137, u138, u139, u140, u141, u142, u143, u144, u145, u146, u147, u148, u149, u150, s_151, s_152, s_153, s_154, s_155, s_156, s_157, s_158, s_159, s_160, s_161, s_162, s_163, s_164, s_165, s_166, s_167], []⟩ W') :
    Code.wp Try.prog (iBlock 5) Q ⟨#[s_0, s_1, s_2, s_3, s_4, s_5, s_6, s_7, s_8, s_9, s_10, s_11, s_12, s_13, s_14, s_15, s_16, .pointer (some ⟨Wg.heap.size, 0, none⟩), s_18, s_19, s_20, .int .i64 (nG : Int), s_22, s_23, s_24, s_25, s_26, s_27, s_28, s_29, s_30, s_31, s_32, s_33, s_34, s_35, s_36, s_37, s_38, s_39, s_40, s_41, s_42, s_43, s_44, s_45, s_46, s_47, s_48, s_49, s_50, s_51, s_52, s_53, s_54, s_55, s_56, s_57, s_58, s_59, s_60, s_61, s_62, s_63, s_64, s_65, s_66, s_67, s_68, s_69, s_70, s_71, s_72, s_73, s_74, s_75, s_76, s_77, s_78, s_79, s_80, s_81, s_82, s_83, s_84, s_85, s_86, s_87, s_88, s_89, s_90, s_91, s_92, s_93, s_94, s_95, s_96, s_97, s_98, s_99, s_100, s_101, s_102, s_103, s_104, s_105, s_106, s_107, s_108, s_109, s_110, s_111, s_112, s_113, s_114, s_115, s_116, s_117, .slice hy.A y.length hy.c, .int .i64 (y.length : Int), .int .i64 0, s_121, s_122, s_123, s_124, s_125, s_126, s_127, s_128, s_129, s_130, s_131, s_132, s_133, s_134, s_135, s_136, s_137, s_138, s_139, s_140, s_141, s_142, s_143, s_144, s_145, s_146, s_147, s_148, s_149, s_150, s_151, s_152, s_153, s_154, s_155, s_156, s_157, s_158, s_159, s_160, s_161, s_162, s_163, s_164, s_165, s_166, s_167], []⟩ W := by
  have HQ := Lib.hid hQ; have HYY := Lib.hid HY; have J0 := Lib.hid hv; have HG := Lib.hid hv.ln
  clear hQ HY hv
  conv => arg 2; whnf
  go_wp2_with fail
  go_loopw [120] (fun vm wr => ∃ (r lo2 hi2 : Nat) (A2 : Option Addr) (c2 : Nat), r ≤ y.length ∧ vm = .int .i64 r ∧ GO w Wg wr lo2 hi2 A2 c2 (nG + r) (G ++ (y.take r).map (movedP nG)) p) (fun vm _ => y.length - (intOf vm).toNat)
  case atStart => exact ⟨0, lo, hi, Ao, co, Nat.zero_le _, rfl, by simpa using J0.out⟩
  case round =>
    obtain ⟨r, lo2, hi2, A2, c2, hr, rfl, hgo⟩ := hrel
    have GR := Lib.hid hgo
    have si := HYY.out _ hgo.tn
    clear J0
    by_cases hry : r < y.length
    · obtain ⟨ga, oa, hAa, hga, a0, a1, a2, a3, a4⟩ := RdP_at si.rd hry
      have YT := Lib.hid (show G ++ (y.take (r + 1)).map (movedP nG) = (G ++ (y.take r).map (movedP nG)) ++ [movedP nG y[r]] from by rw [List.take_succ_eq_append_getElem hry, List.map_append, List.append_assoc]; rfl)
      obtain ⟨x, hx⟩ : ∃ x, y[r] = x := ⟨_, rfl⟩
      rw [hx] at a0 a1 a2 a3 a4 YT
      obtain ⟨hyA, hyB, hyC, hyD⟩ := hy
      simp only at hAa si ⊢
      subst hAa
      obtain ⟨kx, pax, pbx, pcx, nx⟩ := x
      simp only at a0 a1 a2 a3 a4
      have hr0 : (0 : Int) ≤ (r : Int) := Int.natCast_nonneg _
      have hr1 : (r : Int) < (y.length : Int) := by omega
      have hlb := hgo.l2; have hla := hgo.l0; have hlc := hgo.l1
      clear hx si hgo
      have G1 := Lib.hid (GR.out.alloc (.cells #[.int .i64 kx, .int .i64 pax, .int .i64 pbx, .int .i64 pcx, .int .i64 nx] 50))
      have S1 := Lib.hid (show Blk (wr.alloc (.cells #[.int .i64 kx, .int .i64 pax, .int .i64 pbx, .int .i64 pcx, .int .i64 nx] 50)) wr.heap.size 50 (ints (cP ⟨kx, pax, pbx, pcx, nx⟩)).toArray from Blk.new _ _ _)
      go_upto_block 7 with fail
      have G2 := Lib.hid (G1.out.alloc (.cells (ptrs wr.heap.size) 78))
      have S2 := Lib.hid (S1.out.alloc (.cells (ptrs wr.heap.size) 78))
      have T2 := Lib.hid (show Blk ((wr.alloc (.cells #[.int .i64 kx, .int .i64 pax, .int .i64 pbx, .int .i64 pcx, .int .i64 nx] 50)).alloc (.cells (ptrs wr.heap.size) 78)) (wr.heap.size + 1) 78 (ptrs wr.heap.size) from blkAt (by simp))
      clear G1 S1 GR a0 a1 a2 a3 a4
      refine foldShift (sb := wr.heap.size) (tb := wr.heap.size + 1) (nG := nG) (x := ⟨kx, pax, pbx, pcx, nx⟩) (by omega) S2.out T2.out ?_
      intro v129 v25 v130 v131 v132 v133 v134 v135 v136 v137 v138 v139 v140 v141 v142 v143 W3 BS3 TN3 HZ3
      dsimp only [Exit.then]
      have G3 := Lib.hid (G2.out.far TN3 (by omega) (by omega))
      have S3 := Lib.hid BS3
      obtain ⟨x2, hx2⟩ : ∃ x2, movedP nG ⟨kx, pax, pbx, pcx, nx⟩ = x2 := ⟨_, rfl⟩
      rw [hx2] at S3 YT
      obtain ⟨ky, pay, pby, pcy, ny⟩ := x2
      have b0 : W3.cell? ⟨wr.heap.size, 0, none⟩ = some (.int .i64 ky) := S3.out.cell 0
      have b1 : W3.cell? ⟨wr.heap.size, 1, none⟩ = some (.int .i64 pay) := S3.out.cell 1
      have b2 : W3.cell? ⟨wr.heap.size, 2, none⟩ = some (.int .i64 pby) := S3.out.cell 2
      have b3 : W3.cell? ⟨wr.heap.size, 3, none⟩ = some (.int .i64 pcy) := S3.out.cell 3
      have b4 : W3.cell? ⟨wr.heap.size, 4, none⟩ = some (.int .i64 ny) := S3.out.cell 4
      have c0 := G3.out.bo.cell 0
      simp only [List.getElem?_toArray] at c0
      have G4 := Lib.hid (G3.out.alloc (.cells #[.int .i64 ky, .int .i64 pay, .int .i64 pby, .int .i64 pcy, .int .i64 ny] 50))
      have hnb : nG + r ≤ 1099511627776 := by omega
      clear BS3 TN3 HZ3 hx2 S2 T2 G2
      go_wp2_with (at_builtin; refine wpList_appPS (.tmp 145) (.tmp 147) rfl rfl (G ++ (y.take r).map (movedP nG)) ⟨ky, pay, pby, pcy, ny⟩ rfl G4.out.ln G4.out.sp rfl (Blk.new _ _ _) hnb ?_; intro A9 c9 lo9 hi9 w9 h9 d9 t9; obtain ⟨b9, k9⟩ := G4.out.app (n' := nG + r + 1) h9 (by rw [List.length_append, G4.out.ln]; rfl) d9 t9; have f9 := b9.frozen 0; have e9 := b9.cell 0)
      have G9 := Lib.hid k9
      clear h9 d9 t9 b9 k9 G3 G4 b0 b1 b2 b3 b4 c0
      go_wp2
      go_roundw
      case rel => exact ⟨r + 1, lo9, hi9, A9, c9, by omega, by go_num, by rw [YT.out]; exact G9.out⟩
      case measure => simp [intOf]; omega
    · have hyt : y.take r = y := List.take_of_length_le (by omega)
      have hre : r = y.length := by omega
      rw [hyt] at GR
      subst hre
      clear hyt hry hr si hgo
      go_wp2_with fail
      exact HQ.out _ _ _ _ _ _ _ _ _ _ _ _ _ _ _ _ _ _ _ _ _ _ _ _ _ _ _ _ _ _ _ _ _ _ _ _ _ _ GR.out

theorem glue_take2 {p : Prt} {subs : List (List Prt)} {q : Nat} (hq : q < subs.length) : (glueG (subs.take (q + 1)) 0 ([], p)).2 = putF (glueG (subs.take q) 0 ([], p)).2 q (((glueG (subs.take (q + 1)) 0 ([], p)).1.length : Int) - 1) := by
  rw [List.take_succ_eq_append_getElem hq, glueG_snoc, List.length_take, Nat.min_eq_left (by omega), Nat.zero_add]

set_option maxRecDepth 1000000 in
set_option maxHeartbeats 4000000 in
theorem foldGlue {w Wg W : World} {b q c5 los his lo hi co M : Nat} {Ao A5 : Option Addr} {qs : List (List Prt × Hs)} {ss : List (List Prt)} {p : Prt} {Q : Exit → Act → World → Prop} {s_0 s_1 s_2 s_3 s_4 s_5 s_6 s_7 s_8 s_9 s_10 s_11 s_12 s_13 s_14 s_15 s_16 s_19 s_20 s_21 s_22 s_23 s_24 s_25 s_26 s_27 s_28 s_29 s_30 s_31 s_32 s_33 s_34 s_35 s_36 s_37 s_38 s_39 s_40 s_41 s_42 s_43 s_44 s_45 s_46 s_47 s_48 s_49 s_50 s_51 s_52 s_53 s_54 s_55 s_56 s_57 s_58 s_59 s_60 s_61 s_62 s_63 s_64 s_65 s_66 s_67 s_68 s_69 s_70 s_71 s_72 s_73 s_74 s_75 s_76 s_77 s_78 s_79 s_80 s_81 s_82 s_83 s_84 s_85 s_86 s_87 s_88 s_89 s_90 s_91 s_92 s_93 s_94 s_95 s_96 s_97 s_98 s_99 s_100 s_101 s_102 s_103 s_104 s_105 s_106 s_110 s_111 s_112 s_113 s_114 s_115 s_116 s_117 s_118 s_119 s_120 s_121 s_122 s_123 s_124 s_125 s_126 s_127 s_128 s_129 s_130 s_131 s_132 s_133 s_134 s_135 s_136 s_137 s_138 s_139 s_140 s_141 s_142 s_143 s_144 s_145 s_146 s_147 s_148 s_149 s_150 s_151 s_152 s_153 s_154 s_155 s_156 s_157 s_158 s_159 s_160 s_161 s_162 s_163 s_164 s_165 s_166 s_167 : Value}
    (hq : qs.length = q) (hq3 : q ≤ 3) (hM : M ≤ 16777216) (hss : qs.map Prod.fst = ss) (OK : ∀ z ∈ qs, OkG M z.1) (SUB : SubI b Wg los his A5 c5 qs) (hb : w.heap.size + 3 ≤ b) (hv : GO w Wg W lo hi Ao co 0 [] p)
    (hQ : ∀ (u109 u19 u20 u21 u23 u25 u110 u111 u112 u113 u114 u115 u116 u117 u118 u119 u120 u121 u122 u123 u124 u125 u126 u127 u128 u129 u130 u131 u132 u133 u134 u135 u136 u137 u138 u139 u140 u141 u142 u143 u144 u145 u146 u147 u148 u149 u150 u151 u152 u153 u154 u155 u156 u157 u158 u159 u160 : Value) (W' : World) (lo' hi' : Nat) (A' : Option Addr) (c' n' : Nat), GO w Wg W' lo' hi' A' c' n' (glueG ss 0 ([], p)).1 (glueG ss 0 ([], p)).2 → n' ≤ 50331648 → Q .normal ⟨#[s_0, s_1, s_2, s_3, s_4, s_5, s_6, s_7, s_8, s_9, s_10, s_11, s_12, s_13, s_14, s_15, s_16, .pointer (some ⟨Wg.heap.size, 0, none⟩), .slice (some ⟨Wg.heap.size + 1, 0, none⟩) 3 3, u19, u20, u21, s_22, u23, s_24, u25, s_26, s_27, s_28, s_29, s_30, s_31, s_32, s_33, s_34, s_35, s_36, s_37, s_38, s_39, s_40, s_41, s_42, s_43, s_44, s_45, s_46, s_47, s_48, s_49, s_50, s_51, s_52, s_53, s_54, s_55, s_56, s_57, s_58, s_59, s_60, s_61, s_62, s_63, s_64, s_65, s_66, s_67, s_68, s_69, s_70, s_71, s_72, s_73, s_74, s_75, s_76, s_77, s_78, s_79, s_80, s_81, s_82, s_83, s_84, s_85, s_86, s_87, s_88, s_89, s_90, s_91, s_92, s_93, s_94, s_95, s_96, s_97, s_98, s_99, s_100, s_101, s_102, s_103, s_104, s_105, s_106, .slice A5 q c5, .int .i64 (q : Int), u109, u110, u111, u112, u113, u114, u115, u116, u117, u118, u119, u120, u121, u122, u123, u124, u125, u126, u127, u128, u129, u130, u131, u132, u133, u134, u135, u136, u137, u138, u139, u140, u141, u142, u143, u144, u145, u146, u147, u148, u149, u150, u151, u152, u153, u154, u155, u156, u157, u158, u159, u160, s_161, s_162, s_163, s_164, s_165, s_166, s_167], []⟩ W') :
    Code.wp Try.prog (iBlock 3) Q ⟨#[s_0, s_1, s_2, s_3, s_4, s_5, s_6, s_7, s_8, s_9, s_10, s_11, s_12, s_13, s_14, s_15, s_16, .pointer (some ⟨Wg.heap.size, 0, none⟩), .slice (some ⟨Wg.heap.size + 1, 0, none⟩) 3 3, s_19, s_20, s_21, s_22, s_23, s_24, s_25, s_26, s_27, s_28, s_29, s_30, s_31, s_32, s_33, s_34, s_35, s_36, s_37, s_38, s_39, s_40, s_41, s_42, s_43, s_44, s_45, s_46, s_47, s_48, s_49, s_50, s_51, s_52, s_53, s_54, s_55, s_56, s_57, s_58, s_59, s_60, s_61, s_62, s_63, s_64, s_65, s_66, s_67, s_68, s_69, s_70, s_71, s_72, s_73, s_74, s_75, s_76, s_77, s_78, s_79, s_80, s_81, s_82, s_83, s_84, s_85, s_86, s_87, s_88, s_89, s_90, s_91, s_92, s_93, s_94, s_95, s_96, s_97, s_98, s_99, s_100, s_101, s_102, s_103, s_104, s_105, s_106, .slice A5 q c5, .int .i64 (q : Int), .int .i64 0, s_110, s_111, s_112, s_113, s_114, s_115, s_116, s_117, s_118, s_119, s_120, s_121, s_122, s_123, s_124, s_125, s_126, s_127, s_128, s_129, s_130, s_131, s_132, s_133, s_134, s_135, s_136, s_137, s_138, s_139, s_140, s_141, s_142, s_143, s_144, s_145, s_146, s_147, s_148, s_149, s_150, s_151, s_152, s_153, s_154, s_155, s_156, s_157, s_158, s_159, s_160, s_161, s_162, s_163, s_164, s_165, s_166, s_167], []⟩ W := by
  have hsl : ss.length = q := by rw [← hss, List.length_map, hq]
  have HQ := Lib.hid hQ; have HS := Lib.hid SUB; have SL := Lib.hid hsl; have J0 := Lib.hid hv; have QL := Lib.hid hq; have SS := Lib.hid hss
  have HGL := Lib.hid (fun (j : Nat) (hj : j ≤ q) => (show (glueG (ss.take j) 0 ([], p)).1.length ≤ 50331648 from by
    have h1 := glueG_len (M := M) (ss.take j) 0 ([], p) (fun g hg => by
      have hg2 := List.mem_of_mem_take hg
      rw [← hss] at hg2
      obtain ⟨z, hz, e⟩ := List.mem_map.1 hg2
      rw [← e]; exact (OK z hz).2.1)
    have h2 : (ss.take j).length * M ≤ 3 * M := Nat.mul_le_mul_right _ (by rw [List.length_take]; omega)
    simp only [List.length_nil, Nat.zero_add] at h1
    omega))
  have HEJ := Lib.hid (fun (j : Nat) (h1 : j < qs.length) (h2 : j < ss.length) => (show ss[j] = qs[j].1 from by subst hss; simp))
  have OKQ := Lib.hid OK
  clear hQ SUB hsl hv hq hss OK
  conv => arg 2; whnf
  go_wp2_with fail
  go_loopw [109] (fun vk wr => ∃ (j lo hi : Nat) (Ao : Option Addr) (co n : Nat), j ≤ q ∧ vk = .int .i64 j ∧ GO w Wg wr lo hi Ao co n (glueG (ss.take j) 0 ([], p)).1 (glueG (ss.take j) 0 ([], p)).2) (fun vk _ => q - (intOf vk).toNat)
  case atStart => exact ⟨0, _, _, _, _, _, Nat.zero_le _, rfl, J0.out⟩
  case round =>
    obtain ⟨j, lo, hi, Ao, co, nG, hj, rfl, hgo⟩ := hrel
    have GJ := Lib.hid hgo
    have hol := HGL.out j hj
    rw [hgo.ln] at hol
    have hsu := HS.out.low hgo.tn hb
    have htn := hgo.tn
    clear J0
    by_cases hjq : j < q
    · have hjs : j < ss.length := by rw [SL.out]; exact hjq
      have hjs2 : j < qs.length := by rw [QL.out]; exact hjq
      have GT := Lib.hid (glue_take (p := p) hjs)
      have GP := Lib.hid (glue_take2 (p := p) hjs)
      have OKJ := Lib.hid (OKQ.out _ (List.getElem_mem hjs2))
      rw [HEJ.out j hjs2 hjs, GJ.out.ln] at GT
      have hg1 := HGL.out (j + 1) (by omega)
      obtain ⟨⟨y, hy⟩, hyy⟩ : ∃ z, qs[j] = z := ⟨_, rfl⟩
      rw [hyy] at GT OKJ
      simp only at GT OKJ
      have hqy : qs[j]? = some (y, hy) := by rw [List.getElem?_eq_getElem hjs2, hyy]
      obtain ⟨g5, o5, hA5, _, xi, _, _, _⟩ := hsu.hdr hqy
      simp only at xi
      subst hA5
      have HYJ := Lib.hid (show ∀ W', Turn (w.heap.size + 2) (w.heap.size + 3) Wg W' → SlP W' hy.lo hy.hi hy.A hy.c y from fun W' t => by
        obtain ⟨gi, oi, hAi, _, xi, si, li, ti⟩ := (HS.out.low t hb).hdr hqy
        exact si)
      obtain ⟨G1, hG1⟩ : ∃ G, (glueG (ss.take j) 0 ([], p)).1 = G := ⟨_, rfl⟩
      obtain ⟨p1, hp1⟩ : ∃ G, (glueG (ss.take j) 0 ([], p)).2 = G := ⟨_, rfl⟩
      rw [hG1] at GT
      rw [hp1] at GP
      rw [hG1, hp1] at GJ
      have hyl : y.length ≤ 16777216 := by have := OKJ.out.2.1; omega
      have hpo := OKJ.out.1
      obtain ⟨G2, hG2⟩ : ∃ G, (glueG (ss.take (j + 1)) 0 ([], p)).1 = G := ⟨_, rfl⟩
      rw [hG2] at GT hg1 GP
      have HG2 := Lib.hid hG2
      have hgn : nG + y.length = G2.length := by rw [GT.out, List.length_append, GJ.out.ln, List.length_map]
      have hw2 : IntKind.i64.wrap (((nG + y.length : Nat) : Int) - 1) = (G2.length : Int) - 1 := by rw [hgn]; exact IntWalk.i64_in _ (by omega)
      have GLN := Lib.hid hgn
      have hj0 : (0 : Int) ≤ (j : Int) := Int.natCast_nonneg _
      have hj1 : (j : Int) < (q : Int) := by omega
      have hj3 : j < 3 := by omega
      have G3 := Lib.hid (GJ.out.alloc (.cells #[.slice hy.A y.length hy.c] 29))
      have c0 := G3.out.bo.cell 0
      simp only [List.getElem?_toArray] at c0
      clear hyy hG1 hp1 hG2 hgn hjs hqy hsu htn hgo
      go_upto_block 5 with fail
      refine foldParts hol hyl HYJ.out G3.out ?_
      intro v120 v23 v25 v121 v122 v123 v124 v125 v126 v127 v128 v129 v130 v131 v132 v133 v134 v135 v136 v137 v138 v139 v140 v141 v142 v143 v144 v145 v146 v147 v148 v149 v150 W7 lo7 hi7 A7 c7 go7
      rw [← GT.out] at go7
      have G7 := Lib.hid go7
      have c7' := go7.bo.cell 0
      have ca := go7.ba.cell j
      have cp := go7.bp.cell (j + 1)
      have fp := go7.bp.frozen (j + 1)
      have G8 := Lib.hid (go7.setP hj3 ((G2.length : Int) - 1))
      rw [← GP.out] at G8
      clear go7 c0 xi
      dsimp only [Exit.then]
      obtain ⟨gl, hgl2⟩ : ∃ gl, nG + y.length = gl := ⟨_, rfl⟩
      rw [hgl2] at hw2 GLN G7 G8 c7'
      have hjc : j = 0 ∨ j = 1 ∨ j = 2 := by omega
      have ca' : W7.cell? ⟨Wg.heap.size + 1, j, none⟩ = some (.pointer (some ⟨w.heap.size + 1 + 1, j + 1, none⟩)) := by
        rw [ca]; rcases hjc with rfl | rfl | rfl <;> rfl
      obtain ⟨uu, cp'⟩ : ∃ u, W7.cell? ⟨w.heap.size + 1 + 1, j + 1, none⟩ = some (.int .i64 u) := by
        rw [cp]
        obtain ⟨kd, pa, pb, pc, nn⟩ := p1
        rcases hjc with rfl | rfl | rfl <;> exact ⟨_, rfl⟩
      have hj4 : (j : Int) < 3 := by omega
      clear hgl2 ca cp hjc G7
      go_wp2_with fail
      go_region
      go_wp2
      go_roundw
      case rel => exact ⟨j + 1, lo7, hi7, A7, c7, gl, by omega, by go_num, by rw [HG2.out]; exact G8.out.drew⟩
      case measure => simp [intOf]; omega
    · have hje : j = q := by omega
      have hst : ss.take j = ss := List.take_of_length_le (by rw [SL.out]; omega)
      rw [hst] at GJ
      subst hje
      clear hst hjq hj hsu htn hgo
      go_wp2_with fail
      exact HQ.out _ _ _ _ _ _ _ _ _ _ _ _ _ _ _ _ _ _ _ _ _ _ _ _ _ _ _ _ _ _ _ _ _ _ _ _ _ _ _ _ _ _ _ _ _ _ _ _ _ _ _ _ _ _ _ _ _ _ _ _ _ _ _ GJ.out hol

set_option maxRecDepth 1000000 in
set_option maxHeartbeats 4000000 in
theorem foldTail {w W : World} {b q c5 los his M : Nat} {A5 : Option Addr} {qs : List (List Prt × Hs)} {ss : List (List Prt)} {p : Prt} {XS : List Prt} {s_0 s_1 s_2 s_3 s_7 s_8 s_9 s_10 s_11 s_12 s_13 s_14 s_15 s_16 s_17 s_18 s_19 s_20 s_21 s_22 s_23 s_24 s_25 s_26 s_27 s_28 s_29 s_30 s_31 s_32 s_33 s_34 s_35 s_36 s_37 s_38 s_39 s_40 s_41 s_42 s_43 s_44 s_45 s_46 s_47 s_48 s_49 s_50 s_51 s_52 s_53 s_54 s_55 s_56 s_57 s_58 s_59 s_60 s_61 s_62 s_63 s_64 s_65 s_66 s_67 s_68 s_69 s_70 s_71 s_72 s_73 s_74 s_75 s_76 s_77 s_78 s_79 s_80 s_81 s_82 s_83 s_84 s_85 s_86 s_87 s_88 s_89 s_90 s_91 s_92 s_93 s_94 s_95 s_96 s_97 s_98 s_99 s_100 s_101 s_102 s_103 s_104 s_105 s_106 s_107 s_108 s_109 s_110 s_111 s_112 s_113 s_114 s_115 s_116 s_117 s_118 s_119 s_120 s_121 s_122 s_123 s_124 s_125 s_126 s_127 s_128 s_129 s_130 s_131 s_132 s_133 s_134 s_135 s_136 s_137 s_138 s_139 s_140 s_141 s_142 s_143 s_144 s_145 s_146 s_147 s_148 s_149 s_150 s_151 s_152 s_153 s_154 s_155 s_156 s_157 s_158 s_159 s_160 s_161 s_162 s_163 s_164 s_165 s_166 s_167 : Value}
    (hq : qs.length = q) (hq3 : q ≤ 3) (hM : M ≤ 16777216) (hss : qs.map Prod.fst = ss) (OK : ∀ z ∈ qs, OkG M z.1) (SUB : SubI b W los his A5 c5 qs) (hb : w.heap.size + 3 ≤ b) (hwW : w.heap.size + 3 ≤ W.heap.size)
    (BR : Blk W (w.heap.size + 1) 29 #[.slice none 0 0]) (BP : Blk W (w.heap.size + 1 + 1) 50 (ints (cP p)).toArray) (HW : Below w.heap.size w W) (HF : XS = gluedP p ss) :
    Code.wp Try.prog (iRest 21) (bodyPost Try.prog Try.f56 (MadeF w XS)) ⟨#[s_0, s_1, s_2, s_3, .pointer (some ⟨w.heap.size + 1, 0, none⟩), .pointer (some ⟨w.heap.size + 1 + 1, 0, none⟩), .slice A5 q c5, s_7, s_8, s_9, s_10, s_11, s_12, s_13, s_14, s_15, s_16, s_17, s_18, s_19, s_20, s_21, s_22, s_23, s_24, s_25, s_26, s_27, s_28, s_29, s_30, s_31, s_32, s_33, s_34, s_35, s_36, s_37, s_38, s_39, s_40, s_41, s_42, s_43, s_44, s_45, s_46, s_47, s_48, s_49, s_50, s_51, s_52, s_53, s_54, s_55, s_56, s_57, s_58, s_59, s_60, s_61, s_62, s_63, s_64, s_65, s_66, s_67, s_68, s_69, s_70, s_71, s_72, s_73, s_74, s_75, s_76, s_77, s_78, s_79, s_80, s_81, s_82, s_83, s_84, s_85, s_86, s_87, s_88, s_89, s_90, s_91, s_92, s_93, s_94, s_95, s_96, s_97, s_98, s_99, s_100, s_101, s_102, s_103, s_104, s_105, s_106, s_107, s_108, s_109, s_110, s_111, s_112, s_113, s_114, s_115, s_116, s_117, s_118, s_119, s_120, s_121, s_122, s_123, s_124, s_125, s_126, s_127, s_128, s_129, s_130, s_131, s_132, s_133, s_134, s_135, s_136, s_137, s_138, s_139, s_140, s_141, s_142, s_143, s_144, s_145, s_146, s_147, s_148, s_149, s_150, s_151, s_152, s_153, s_154, s_155, s_156, s_157, s_158, s_159, s_160, s_161, s_162, s_163, s_164, s_165, s_166, s_167], []⟩ W := by
  have J0 := Lib.hid (show GO w W ((W.alloc (.cells #[.slice none 0 0] 29)).alloc (.cells (ptrs (w.heap.size + 1 + 1)) 78)) (W.heap.size + 2) (W.heap.size + 2) none 0 0 [] p from
    { sp := SlR.nil, ln := rfl, bo := (Blk.new _ _ _).alloc _, ba := blkAt (by simp), bp := (BP.alloc _).alloc _, tn := ((Turn.refl _ _ _).alloc _).alloc _, gw := hwW, l0 := Nat.le_refl _, l1 := by simp, l2 := by simp })
  have QL := Lib.hid hq; have SS := Lib.hid hss; have OKQ := Lib.hid OK; have HS := Lib.hid SUB; have HBR := Lib.hid BR; have HHW := Lib.hid HW; have HF' := Lib.hid HF
  clear hq hss OK SUB BR BP HW HF
  conv => arg 2; whnf
  go_upto_block 3 with fail
  refine foldGlue (p := p) QL.out hq3 hM SS.out OKQ.out HS.out hb J0.out ?_
  intro u109 u19 u20 u21 u23 u25 u110 u111 u112 u113 u114 u115 u116 u117 u118 u119 u120 u121 u122 u123 u124 u125 u126 u127 u128 u129 u130 u131 u132 u133 u134 u135 u136 u137 u138 u139 u140 u141 u142 u143 u144 u145 u146 u147 u148 u149 u150 u151 u152 u153 u154 u155 u156 u157 u158 u159 u160 W7 lo7 hi7 A7 c7 n7 go7 hn7
  dsimp only [Exit.then]
  have G7 := Lib.hid go7
  have BR7 := Lib.hid (go7.tn.blk HBR.out (.inl (by omega)))
  have hlt := go7.l0; have hlu := go7.l1; have hlv := go7.l2; have hz7 := go7.tn.size
  clear go7 J0 HS OKQ
  obtain ⟨G1, hG1⟩ : ∃ G, (glueG ss 0 ([], p)).1 = G := ⟨_, rfl⟩
  obtain ⟨p1, hp1⟩ : ∃ G, (glueG ss 0 ([], p)).2 = G := ⟨_, rfl⟩
  rw [hG1, hp1] at G7
  have HF2 := Lib.hid (show XS = G1 ++ [p1] from by rw [HF'.out]; unfold gluedP; rw [hG1, hp1])
  obtain ⟨kd, pa, pb, pc, nn⟩ := p1
  have b0 : W7.cell? ⟨w.heap.size + 1 + 1, 0, none⟩ = some (.int .i64 kd) := G7.out.bp.cell 0
  have b1 : W7.cell? ⟨w.heap.size + 1 + 1, 1, none⟩ = some (.int .i64 pa) := G7.out.bp.cell 1
  have b2 : W7.cell? ⟨w.heap.size + 1 + 1, 2, none⟩ = some (.int .i64 pb) := G7.out.bp.cell 2
  have b3 : W7.cell? ⟨w.heap.size + 1 + 1, 3, none⟩ = some (.int .i64 pc) := G7.out.bp.cell 3
  have b4 : W7.cell? ⟨w.heap.size + 1 + 1, 4, none⟩ = some (.int .i64 nn) := G7.out.bp.cell 4
  have c0 := G7.out.bo.cell 0
  simp only [List.getElem?_toArray] at c0
  have G8 := Lib.hid (G7.out.alloc (.cells #[.int .i64 kd, .int .i64 pa, .int .i64 pb, .int .i64 pc, .int .i64 nn] 50))
  have hnb : n7 ≤ 1099511627776 := by omega
  clear hG1 hp1
  go_wp2_with (at_builtin; refine wpList_appPS (.tmp 162) (.tmp 164) rfl rfl G1 ⟨kd, pa, pb, pc, nn⟩ rfl G8.out.ln G8.out.sp rfl (Blk.new _ _ _) hnb ?_; intro A9 c9 lo9 hi9 w9 h9 d9 t9; obtain ⟨b9, k9⟩ := G8.out.app (n' := n7 + 1) h9 (by rw [List.length_append, G8.out.ln]; rfl) d9 t9; have f9 := b9.frozen 0; have e9 := b9.cell 0; have g9 := k9.bo.cell 0; have r9 := k9.tn.blk HBR.out (.inl (by omega)); have r9c := r9.cell 0; have r9f := r9.frozen 0; have q9 := t9.blk (BR7.out.alloc _) (.inl (by omega)); have q9c := q9.cell 0; have q9f := q9.frozen 0)
  have K9 := Lib.hid k9
  have E := Lib.hid ((r9.set_ 0 (.slice A9 (n7 + 1) c9)).cell 0)
  have HB9 := Lib.hid (Below.new HHW.out k9.tn (by omega) (Nat.le_refl _))
  have hl9 := k9.l0; have hz9 := HB9.out.size
  clear k9 r9 r9c r9f q9 q9c q9f b9 e9 f9 g9 h9 d9 t9 G8 G7 b0 b1 b2 b3 b4 c0
  go_wp2_with fail
  have HE := E.out
  simp at HE
  refine bodyPost_ret (v := .agg #[.slice A9 (n7 + 1) c9]) (by simp [results, Try.results56, go_sem, HE]) rfl ?_
  rw [HF2.out]
  refine ⟨A9, c9, by rw [← K9.out.ln], ?_, HB9.out.setCell (by simp) _⟩
  have t3 : Turn 0 (w.heap.size + 2) (w9.setCell ⟨W.heap.size, 0, none⟩ (.slice A9 (n7 + 1) c9)) ((w9.setCell ⟨W.heap.size, 0, none⟩ (.slice A9 (n7 + 1) c9)).setCell ⟨w.heap.size + 1, 0, none⟩ (.slice A9 (n7 + 1) c9)) := (Turn.refl _ _ _).setCell (p := ⟨w.heap.size + 1, 0, none⟩) (Nat.zero_le _) (.inl (Nat.lt_succ_self _)) _
  exact (K9.out.sp.turn t3 (.inr (by omega))).mono (by omega) (Nat.le_trans K9.out.l2 t3.size)
end Go.Proofs.Ytlinngohbghimaa
