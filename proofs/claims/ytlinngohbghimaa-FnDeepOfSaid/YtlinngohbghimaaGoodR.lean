/-
  The drawn regions of spec.goodFormula, each by itself.
-/
import Derived.Test.YtlinngohbghimaaGoodW
import Derived.Deep.RegionWith
import Derived.Deep.RegionHeld3
namespace Go.Proofs.Ytlinngohbghimaa
open Go.RowKit
attribute [-go_sem] Builtin.append_
set_option linter.unusedVariables false

/-- the region of a number in a function's code -/
def regionOf (n : Nat) : Code → Option Code
  | .region id ops b => if id = n then some (.region id ops b) else none
  | .seq a b => match regionOf n a with
    | some c => some c
    | none => regionOf n b
  | .block _ c => regionOf n c
  | .loop c => regionOf n c
  | .scope c => regionOf n c
  | .cond _ a b => match regionOf n a with
    | some c => some c
    | none => regionOf n b
  | _ => none
noncomputable def regionAt (n : Nat) : Code := (Try.f62.body.bind (regionOf n)).getD .skip

set_option maxRecDepth 1000000 in
set_option maxHeartbeats 8000000 in
theorem reg13 {w W : World} {N g mm lop hip cp loi hii ci n2 q : Nat} {Ap Ai : Option Addr} {ps : List Prt} {ys : List Int} {Q : Exit → Act → World → Prop} {t1 t2 t3 t4 t7 t8 t10 t11 t12 t13 t14 t15 t16 t17 t18 t19 t20 t21 t22 t23 t24 t25 t26 t27 t28 t29 t30 t31 t32 t33 t34 t35 t36 t37 t38 t39 t40 t41 t42 t43 t44 t45 t46 t47 t48 t49 t50 t51 t52 t53 t54 t55 t56 t57 t58 t59 t60 t61 t62 t63 t64 t65 t66 t67 t68 t69 t70 t71 t72 t73 t74 t75 t76 t77 t78 t79 t80 t81 t82 t83 t84 t85 t86 t87 t88 t89 t90 t91 t92 t93 t94 t95 t96 t97 t98 t99 t100 t101 t102 t103 t104 t105 t106 t107 t108 t109 t110 t111 t112 t113 t114 t115 t116 t117 t118 t119 t120 t121 t122 t123 t124 t125 t126 t127 t128 t129 t130 t131 t132 t133 t134 t135 t136 t137 t138 t139 t140 t141 t142 t143 t144 t145 t146 t147 t148 t149 t150 t151 t152 t153 t154 t155 t156 t157 t158 t159 t160 t161 t162 : Value}
    (hn2 : ps.length = n2) (hq3 : 3 ≤ q) (hyq : ys.length = q) (hq9 : q ≤ 1000) (hnb : n2 ≤ 1000) (hmm : mm ≤ 900000)
    (K0 : GI w N g mm W lop hip Ap cp ps loi hii Ai ci ys)
    (hQ : ∀ (u52 u53 u54 u55 u56 u57 u58 u59 u60 u61 u62 u63 u64 u65 u66 u67 u68 u69 u70 u71 u72 : Value) (W' : World) (A5 : Option Addr) (c5 lo5 hi5 : Nat) (ps3 : List Prt), ps3.length = n2 + 1 → GI w N g mm W' lo5 hi5 A5 c5 ps3 loi hii Ai ci ys → Q .normal ⟨#[.pointer (some ⟨g, 0, none⟩), t1, t2, t3, t4, .pointer (some ⟨w.heap.size + 1, 0, none⟩), .slice Ai q ci, t7, t8, .int .i64 q, t10, t11, t12, t13, t14, t15, t16, t17, t18, t19, t20, t21, t22, t23, t24, t25, t26, t27, t28, t29, t30, t31, t32, t33, t34, t35, t36, t37, t38, t39, t40, t41, t42, t43, t44, t45, t46, t47, t48, t49, t50, t51, u52, u53, u54, u55, u56, u57, u58, u59, u60, u61, u62, u63, u64, u65, u66, u67, u68, u69, u70, u71, u72, t73, t74, t75, t76, t77, t78, t79, t80, t81, t82, t83, t84, t85, t86, t87, t88, t89, t90, t91, t92, t93, t94, t95, t96, t97, t98, t99, t100, t101, t102, t103, t104, t105, t106, t107, t108, t109, t110, t111, t112, t113, t114, t115, t116, t117, t118, t119, t120, t121, t122, t123, t124, t125, t126, t127, t128, t129, t130, t131, t132, t133, t134, t135, t136, t137, t138, t139, t140, t141, t142, t143, t144, t145, t146, t147, t148, t149, t150, t151, t152, t153, t154, t155, t156, t157, t158, t159, t160, t161, t162], []⟩ W') :
    Code.wp Try.prog (regionAt 13) Q ⟨#[.pointer (some ⟨g, 0, none⟩), t1, t2, t3, t4, .pointer (some ⟨w.heap.size + 1, 0, none⟩), .slice Ai q ci, t7, t8, .int .i64 q, t10, t11, t12, t13, t14, t15, t16, t17, t18, t19, t20, t21, t22, t23, t24, t25, t26, t27, t28, t29, t30, t31, t32, t33, t34, t35, t36, t37, t38, t39, t40, t41, t42, t43, t44, t45, t46, t47, t48, t49, t50, t51, t52, t53, t54, t55, t56, t57, t58, t59, t60, t61, t62, t63, t64, t65, t66, t67, t68, t69, t70, t71, t72, t73, t74, t75, t76, t77, t78, t79, t80, t81, t82, t83, t84, t85, t86, t87, t88, t89, t90, t91, t92, t93, t94, t95, t96, t97, t98, t99, t100, t101, t102, t103, t104, t105, t106, t107, t108, t109, t110, t111, t112, t113, t114, t115, t116, t117, t118, t119, t120, t121, t122, t123, t124, t125, t126, t127, t128, t129, t130, t131, t132, t133, t134, t135, t136, t137, t138, t139, t140, t141, t142, t143, t144, t145, t146, t147, t148, t149, t150, t151, t152, t153, t154, t155, t156, t157, t158, t159, t160, t161, t162], []⟩ W := by
  obtain ⟨a3, ha3⟩ : ∃ a, a + 3 = q := ⟨q - 3, by omega⟩
  have hw3 : IntKind.i64.wrap ((q : Int) - 3) = (a3 : Int) := by rw [show (q : Int) - 3 = (a3 : Int) by omega]; exact IntWalk.i64_in _ (by omega)
  have hl3 : (0 : Int) ≤ (a3 : Int) := by omega
  have hr3 : (a3 : Int) < (q : Int) := by omega
  have hy3 : a3 < ys.length := by rw [hyq]; omega
  obtain ⟨a2, ha2⟩ : ∃ a, a + 2 = q := ⟨q - 2, by omega⟩
  have hw2 : IntKind.i64.wrap ((q : Int) - 2) = (a2 : Int) := by rw [show (q : Int) - 2 = (a2 : Int) by omega]; exact IntWalk.i64_in _ (by omega)
  have hl2 : (0 : Int) ≤ (a2 : Int) := by omega
  have hr2 : (a2 : Int) < (q : Int) := by omega
  have hy2 : a2 < ys.length := by rw [hyq]; omega
  obtain ⟨a1, ha1⟩ : ∃ a, a + 1 = q := ⟨q - 1, by omega⟩
  have hw1 : IntKind.i64.wrap ((q : Int) - 1) = (a1 : Int) := by rw [show (q : Int) - 1 = (a1 : Int) by omega]; exact IntWalk.i64_in _ (by omega)
  have hl1 : (0 : Int) ≤ (a1 : Int) := by omega
  have hr1 : (a1 : Int) < (q : Int) := by omega
  have hy1 : a1 < ys.length := by rw [hyq]; omega
  obtain ⟨ad, hAd, _, hcc⟩ := K0.si.rd.at_ hy3
  subst hAd
  obtain ⟨y3, hyy3⟩ : ∃ y, ys[a3] = y := ⟨_, rfl⟩
  have hc3 := hcc a3 hy3
  rw [hyy3] at hc3
  have HY3 := Lib.hid hyy3
  obtain ⟨y2, hyy2⟩ : ∃ y, ys[a2] = y := ⟨_, rfl⟩
  have hc2 := hcc a2 hy2
  rw [hyy2] at hc2
  have HY2 := Lib.hid hyy2
  obtain ⟨y1, hyy1⟩ : ∃ y, ys[a1] = y := ⟨_, rfl⟩
  have hc1 := hcc a1 hy1
  rw [hyy1] at hc1
  have HY1 := Lib.hid hyy1
  clear hcc hyy3 hyy2 hyy1
  have K := Lib.hid K0; have HN2 := Lib.hid hn2; have HYQ := Lib.hid hyq; have HQ := Lib.hid hQ
  have c1 := K0.head hn2
  clear K0 hQ
  have KA := Lib.hid (show GI w N g mm (W.alloc (.cells #[.int .i64 8, .int .i64 y3, .int .i64 y2, .int .i64 y1, .int .i64 0] 50)).drew _ _ _ _ _ _ _ _ _ _ from (K.out.alloc _).drew)
  have c1b : (W.alloc (.cells #[.int .i64 8, .int .i64 y3, .int .i64 y2, .int .i64 y1, .int .i64 0] 50)).cell? ⟨w.heap.size + 1, 0, none⟩ = some (.slice Ap n2 cp) := KA.out.head HN2.out
  obtain ⟨A5, c5, lo5, hi5, w5, hrun, s5, d5, t5⟩ := run_appP (w := (W.alloc (.cells #[.int .i64 8, .int .i64 y3, .int .i64 y2, .int .i64 y1, .int .i64 0] 50)).drew) 27 ps ⟨8, y3, y2, y1, 0⟩ HN2.out KA.out.sp (Blk.new _ _ _).drew (by omega)
  obtain ⟨b5, k5⟩ := KA.out.putP (n' := n2 + 1) s5 (by rw [List.length_append, HN2.out]; rfl) d5 t5
  have e5 : w5.cell? ⟨w.heap.size + 1, 0, none⟩ = some (.slice Ap n2 cp) := by have := b5.cell 0; rw [HN2.out] at this; exact this
  have f5 := b5.frozen 0
  have K5 := Lib.hid k5
  have hx5 := KA.out.si.turn t5 KA.out.ap.symm
  have CY := Lib.hid (fun (V : World) (s : SlI V loi hii (some ad) ci ys) => (show V.cell? (ad.add a3) = some (.int .i64 y3) ∧ V.cell? (ad.add a2) = some (.int .i64 y2) ∧ V.cell? (ad.add a1) = some (.int .i64 y1) from by
    obtain ⟨ad', hA', _, hcc⟩ := s.rd.at_ hy3; injection hA' with hA'; subst hA'
    exact ⟨by rw [hcc a3 hy3, HY3.out], by rw [hcc a2 hy2, HY2.out], by rw [hcc a1 hy1, HY1.out]⟩))
  have S5 := CY.out _ hx5; have S6 := CY.out _ k5.si; have S1 := CY.out _ K.out.drew.si; have S2 := CY.out _ KA.out.si
  clear b5 s5 d5 t5 KA k5 hx5 CY
  conv => arg 2; whnf
  refine wp_region_noPanic ?_
  refine wp_region_held_drew (S := (fun w' => w'.cell? (ad.add a3) = some (.int .i64 y3) ∧ w'.cell? (ad.add a2) = some (.int .i64 y2) ∧ w'.cell? (ad.add a1) = some (.int .i64 y1))) (by kernel_rfl) S1 (fun hHeld => ?_)
  refine wpAnyH_take (i := 0) (v := ?_) rfl (by kernel_rfl) (by kernel_rfl) (by kernel_rfl) (fun _ _ _ h => h) (Or.inl ⟨by rfl, ?_⟩) (by assumption) ?_
  rotate_left
  · intro w9 hSw; (try dsimp only at hSw); go_simp; try (with_reducible rfl)
  try simp only [List.getElem_toArray, List.getElem_cons_zero, Act.put, List.setIfInBounds_toArray, List.set_cons_zero, List.set_cons_succ]
  refine wpAnyH_take (i := 2) (v := ?_) rfl (by kernel_rfl) (by kernel_rfl) (by kernel_rfl) (fun _ _ _ h => h) (Or.inl ⟨by rfl, ?_⟩) (by assumption) ?_
  rotate_left
  · intro w9 hSw; (try dsimp only at hSw); go_simp; try (with_reducible rfl)
  try simp only [List.getElem_toArray, List.getElem_cons_succ, List.getElem_cons_zero, Act.put, List.setIfInBounds_toArray, List.set_cons_zero, List.set_cons_succ]
  refine wpAnyH_take (i := 3) (v := ?_) rfl (by kernel_rfl) (by kernel_rfl) (by kernel_rfl) (fun _ _ _ h => h) (Or.inl ⟨by rfl, ?_⟩) (by assumption) ?_
  rotate_left
  · intro w9 hSw; (try dsimp only at hSw); go_simp; try (with_reducible rfl)
  try simp only [List.getElem_toArray, List.getElem_cons_succ, List.getElem_cons_zero, Act.put, List.setIfInBounds_toArray, List.set_cons_zero, List.set_cons_succ]
  refine wpAnyH_take (i := 4) (v := ?_) rfl (by kernel_rfl) (by kernel_rfl) (by kernel_rfl) (fun _ _ _ h => h) (Or.inl ⟨by rfl, ?_⟩) (by assumption) ?_
  rotate_left
  · intro w9 hSw; (try dsimp only at hSw); go_simp; try (with_reducible rfl)
  try simp only [List.getElem_toArray, List.getElem_cons_succ, List.getElem_cons_zero, Act.put, List.setIfInBounds_toArray, List.set_cons_zero, List.set_cons_succ]
  refine wpAnyH_take (i := 5) (v := ?_) rfl (by kernel_rfl) (by kernel_rfl) (by kernel_rfl) (fun _ _ _ h => h) (Or.inl ⟨by rfl, ?_⟩) (by assumption) ?_
  rotate_left
  · intro w9 hSw; (try dsimp only at hSw); go_simp; try (with_reducible rfl)
  try simp only [List.getElem_toArray, List.getElem_cons_succ, List.getElem_cons_zero, Act.put, List.setIfInBounds_toArray, List.set_cons_zero, List.set_cons_succ]
  refine wpAnyH_take (i := 6) (v := ?_) rfl (by kernel_rfl) (by kernel_rfl) (by kernel_rfl) (fun _ _ _ h => h) (Or.inl ⟨by rfl, ?_⟩) (by assumption) ?_
  rotate_left
  · intro w9 hSw; (try dsimp only at hSw); go_simp; try (with_reducible rfl)
  try simp only [List.getElem_toArray, List.getElem_cons_succ, List.getElem_cons_zero, Act.put, List.setIfInBounds_toArray, List.set_cons_zero, List.set_cons_succ]
  refine wpAnyH_take (i := 7) (v := ?_) rfl (by kernel_rfl) (by kernel_rfl) (by kernel_rfl) (fun _ _ _ h => h) (Or.inl ⟨by rfl, ?_⟩) (by assumption) ?_
  rotate_left
  · intro w9 hSw; (try dsimp only at hSw); go_simp; try (with_reducible rfl)
  try simp only [List.getElem_toArray, List.getElem_cons_succ, List.getElem_cons_zero, Act.put, List.setIfInBounds_toArray, List.set_cons_zero, List.set_cons_succ]
  refine wpAnyH_take (i := 8) (v := ?_) rfl (by kernel_rfl) (by kernel_rfl) (by kernel_rfl) (fun _ _ _ h => h) (Or.inl ⟨by rfl, ?_⟩) (by assumption) ?_
  rotate_left
  · intro w9 hSw; (try dsimp only at hSw); go_simp; try (with_reducible rfl)
  try simp only [List.getElem_toArray, List.getElem_cons_succ, List.getElem_cons_zero, Act.put, List.setIfInBounds_toArray, List.set_cons_zero, List.set_cons_succ]
  refine wpAnyH_take (i := 9) (v := ?_) rfl (by kernel_rfl) (by kernel_rfl) (by kernel_rfl) (fun _ _ _ h => h) (Or.inl ⟨by rfl, ?_⟩) (by assumption) ?_
  rotate_left
  · intro w9 hSw; (try dsimp only at hSw); go_simp; try (with_reducible rfl)
  try simp only [List.getElem_toArray, List.getElem_cons_succ, List.getElem_cons_zero, Act.put, List.setIfInBounds_toArray, List.set_cons_zero, List.set_cons_succ]
  refine wpAnyH_take (i := 10) (v := ?_) rfl (by kernel_rfl) (by kernel_rfl) (by kernel_rfl) (fun _ _ _ h => h) (Or.inl ⟨by rfl, ?_⟩) (by assumption) ?_
  rotate_left
  · intro w9 hSw; (try dsimp only at hSw); go_simp; try (with_reducible rfl)
  try simp only [List.getElem_toArray, List.getElem_cons_succ, List.getElem_cons_zero, Act.put, List.setIfInBounds_toArray, List.set_cons_zero, List.set_cons_succ]
  refine wpAnyH_take (i := 11) (v := ?_) rfl (by kernel_rfl) (by kernel_rfl) (by kernel_rfl) (fun _ _ _ h => h) (Or.inl ⟨by rfl, ?_⟩) (by assumption) ?_
  rotate_left
  · intro w9 hSw; (try dsimp only at hSw); go_simp; try (with_reducible rfl)
  try simp only [List.getElem_toArray, List.getElem_cons_succ, List.getElem_cons_zero, Act.put, List.setIfInBounds_toArray, List.set_cons_zero, List.set_cons_succ]
  refine wpAnyH_take (i := 12) (v := ?_) rfl (by kernel_rfl) (by kernel_rfl) (by kernel_rfl) (fun _ _ _ h => h) (Or.inl ⟨by rfl, ?_⟩) (by assumption) ?_
  rotate_left
  · intro w9 hSw; (try dsimp only at hSw); go_simp; try (with_reducible rfl)
  try simp only [List.getElem_toArray, List.getElem_cons_succ, List.getElem_cons_zero, Act.put, List.setIfInBounds_toArray, List.set_cons_zero, List.set_cons_succ]
  refine wpAnyH_take (i := 13) (v := ?_) rfl (by kernel_rfl) (by kernel_rfl) (by kernel_rfl) (fun _ _ _ h => h) (Or.inl ⟨by rfl, ?_⟩) (by assumption) ?_
  rotate_left
  · intro w9 hSw; (try dsimp only at hSw); go_simp; try (with_reducible rfl)
  try simp only [List.getElem_toArray, List.getElem_cons_succ, List.getElem_cons_zero, Act.put, List.setIfInBounds_toArray, List.set_cons_zero, List.set_cons_succ]
  refine wpAnyH_take (i := 14) (v := ?_) rfl (by kernel_rfl) (by kernel_rfl) (by kernel_rfl) (fun _ _ _ h => h) (Or.inl ⟨by rfl, ?_⟩) (by assumption) ?_
  rotate_left
  · intro w9 hSw; (try dsimp only at hSw); go_simp; try (with_reducible rfl)
  try simp only [List.getElem_toArray, List.getElem_cons_succ, List.getElem_cons_zero, Act.put, List.setIfInBounds_toArray, List.set_cons_zero, List.set_cons_succ]
  refine wpAnyH_take (i := 15) (v := ?_) rfl (by kernel_rfl) (by kernel_rfl) (by kernel_rfl) (fun _ _ _ h => h) (Or.inl ⟨by rfl, ?_⟩) (by assumption) ?_
  rotate_left
  · intro w9 hSw; (try dsimp only at hSw); go_simp; try (with_reducible rfl)
  try simp only [List.getElem_toArray, List.getElem_cons_succ, List.getElem_cons_zero, Act.put, List.setIfInBounds_toArray, List.set_cons_zero, List.set_cons_succ]
  refine wpAnyH_take (i := 16) (v := ?_) rfl (by kernel_rfl) (by kernel_rfl) (by kernel_rfl) (fun _ _ _ h => h) (Or.inl ⟨by rfl, ?_⟩) (by assumption) ?_
  rotate_left
  · intro w9 hSw; (try dsimp only at hSw); go_simp; try (with_reducible rfl)
  try simp only [List.getElem_toArray, List.getElem_cons_succ, List.getElem_cons_zero, Act.put, List.setIfInBounds_toArray, List.set_cons_zero, List.set_cons_succ]
  refine wpAnyH_take (i := 17) (v := ?_) rfl (by kernel_rfl) (by kernel_rfl) (by kernel_rfl) (fun _ _ _ h => h) (Or.inl ⟨by rfl, ?_⟩) (by assumption) ?_
  rotate_left
  · intro w9 hSw; (try dsimp only at hSw); go_simp; try (with_reducible rfl)
  try simp only [List.getElem_toArray, List.getElem_cons_succ, List.getElem_cons_zero, Act.put, List.setIfInBounds_toArray, List.set_cons_zero, List.set_cons_succ]
  refine wpAnyH_ready (rs := [1, 18]) (by kernel_rfl) (by simp) ?_
  refine AllReadyH.cons rfl (fun K9 hK9 => ?_) ?_
  ·
    go_simp
    refine hK9.out _ _ ?_ (fun hHeld => ?_)
    · (try dsimp only); (first | exact S1 | exact S2 | exact S5 | exact S6)
    clear hK9 K9
    try simp only [List.getElem_toArray, List.getElem_cons_succ, List.getElem_cons_zero, Act.put, List.setIfInBounds_toArray, List.set_cons_zero, List.set_cons_succ]
    refine wpAnyH_ready (rs := [18]) (by kernel_rfl) (by simp) ?_
    refine AllReadyH.cons rfl (fun K9 hK9 => ?_) ?_
    ·
      go_simp
      refine hK9.out _ _ ?_ (fun hHeld => ?_)
      · (try dsimp only); (first | exact S1 | exact S2 | exact S5 | exact S6)
      clear hK9 K9
      try simp only [List.getElem_toArray, List.getElem_cons_succ, List.getElem_cons_zero, Act.put, List.setIfInBounds_toArray, List.set_cons_zero, List.set_cons_succ]
      refine wpAnyH_ready (rs := [19]) (by kernel_rfl) (by simp) ?_
      refine AllReadyH.cons rfl (fun K9 hK9 => ?_) ?_
      ·
        go_simp
        refine hK9.out _ _ ?_ (fun hHeld => ?_)
        · (try dsimp only); (first | exact S1 | exact S2 | exact S5 | exact S6)
        clear hK9 K9
        try simp only [List.getElem_toArray, List.getElem_cons_succ, List.getElem_cons_zero, Act.put, List.setIfInBounds_toArray, List.set_cons_zero, List.set_cons_succ]
        refine wpAnyH_take (i := 20) (v := ?_) rfl (by kernel_rfl) (by kernel_rfl) (by kernel_rfl) (fun _ _ _ h => h) (Or.inl ⟨by rfl, ?_⟩) (by assumption) ?_
        rotate_left
        · intro w9 hSw; (try dsimp only at hSw); go_simp; try (with_reducible rfl)
        try simp only [List.getElem_toArray, List.getElem_cons_succ, List.getElem_cons_zero, Act.put, List.setIfInBounds_toArray, List.set_cons_zero, List.set_cons_succ]
        refine wpAnyH_ready (rs := [21]) (by kernel_rfl) (by simp) ?_
        refine AllReadyH.cons rfl (fun K9 hK9 => ?_) ?_
        ·
          go_simp
          refine hK9.out _ _ ?_ (fun hHeld => ?_)
          · (try dsimp only); (first | exact S1 | exact S2 | exact S5 | exact S6)
          clear hK9 K9
          try simp only [List.getElem_toArray, List.getElem_cons_succ, List.getElem_cons_zero, Act.put, List.setIfInBounds_toArray, List.set_cons_zero, List.set_cons_succ]
          refine wpAnyH_done (by kernel_rfl) ?_ _
          refine NoPanic.normal ?_; exact HQ.out _ _ _ _ _ _ _ _ _ _ _ _ _ _ _ _ _ _ _ _ _ _ A5 c5 lo5 hi5 _ (by rw [List.length_append, HN2.out]; rfl) K5.out
        exact AllReadyH.nil
      exact AllReadyH.nil
    exact AllReadyH.nil
  refine AllReadyH.cons rfl (fun K9 hK9 => ?_) ?_
  ·
    go_simp
    refine hK9.out _ _ ?_ (fun hHeld => ?_)
    · (try dsimp only); (first | exact S1 | exact S2 | exact S5 | exact S6)
    clear hK9 K9
    try simp only [List.getElem_toArray, List.getElem_cons_succ, List.getElem_cons_zero, Act.put, List.setIfInBounds_toArray, List.set_cons_zero, List.set_cons_succ]
    refine wpAnyH_ready (rs := [1]) (by kernel_rfl) (by simp) ?_
    refine AllReadyH.cons rfl (fun K9 hK9 => ?_) ?_
    ·
      go_simp
      refine hK9.out _ _ ?_ (fun hHeld => ?_)
      · (try dsimp only); (first | exact S1 | exact S2 | exact S5 | exact S6)
      clear hK9 K9
      try simp only [List.getElem_toArray, List.getElem_cons_succ, List.getElem_cons_zero, Act.put, List.setIfInBounds_toArray, List.set_cons_zero, List.set_cons_succ]
      refine wpAnyH_ready (rs := [19]) (by kernel_rfl) (by simp) ?_
      refine AllReadyH.cons rfl (fun K9 hK9 => ?_) ?_
      ·
        go_simp
        refine hK9.out _ _ ?_ (fun hHeld => ?_)
        · (try dsimp only); (first | exact S1 | exact S2 | exact S5 | exact S6)
        clear hK9 K9
        try simp only [List.getElem_toArray, List.getElem_cons_succ, List.getElem_cons_zero, Act.put, List.setIfInBounds_toArray, List.set_cons_zero, List.set_cons_succ]
        refine wpAnyH_take (i := 20) (v := ?_) rfl (by kernel_rfl) (by kernel_rfl) (by kernel_rfl) (fun _ _ _ h => h) (Or.inl ⟨by rfl, ?_⟩) (by assumption) ?_
        rotate_left
        · intro w9 hSw; (try dsimp only at hSw); go_simp; try (with_reducible rfl)
        try simp only [List.getElem_toArray, List.getElem_cons_succ, List.getElem_cons_zero, Act.put, List.setIfInBounds_toArray, List.set_cons_zero, List.set_cons_succ]
        refine wpAnyH_ready (rs := [21]) (by kernel_rfl) (by simp) ?_
        refine AllReadyH.cons rfl (fun K9 hK9 => ?_) ?_
        ·
          go_simp
          refine hK9.out _ _ ?_ (fun hHeld => ?_)
          · (try dsimp only); (first | exact S1 | exact S2 | exact S5 | exact S6)
          clear hK9 K9
          try simp only [List.getElem_toArray, List.getElem_cons_succ, List.getElem_cons_zero, Act.put, List.setIfInBounds_toArray, List.set_cons_zero, List.set_cons_succ]
          refine wpAnyH_done (by kernel_rfl) ?_ _
          refine NoPanic.normal ?_; exact HQ.out _ _ _ _ _ _ _ _ _ _ _ _ _ _ _ _ _ _ _ _ _ _ A5 c5 lo5 hi5 _ (by rw [List.length_append, HN2.out]; rfl) K5.out
        exact AllReadyH.nil
      exact AllReadyH.nil
    exact AllReadyH.nil
  exact AllReadyH.nil
set_option maxRecDepth 1000000 in
set_option maxHeartbeats 8000000 in
theorem reg16 {w W : World} {N g mm lop hip cp loi hii ci n2 q : Nat} {Ap Ai : Option Addr} {ps : List Prt} {ys : List Int} {Q : Exit → Act → World → Prop} {t1 t2 t3 t4 t7 t8 t10 t11 t12 t13 t14 t15 t16 t17 t18 t19 t20 t21 t22 t23 t24 t25 t26 t27 t28 t29 t30 t31 t32 t33 t34 t35 t36 t37 t38 t39 t40 t41 t42 t43 t44 t45 t46 t47 t48 t49 t50 t51 t52 t53 t54 t55 t56 t57 t58 t59 t60 t61 t62 t63 t64 t65 t66 t67 t68 t69 t70 t71 t72 t73 t74 t75 t76 t77 t78 t79 t80 t81 t82 t83 t84 t85 t86 t87 t88 t89 t90 t91 t92 t93 t94 t95 t96 t97 t98 t99 t100 t101 t102 t103 t104 t105 t106 t107 t108 t109 t110 t111 t112 t113 t114 t115 t116 t117 t118 t119 t120 t121 t122 t123 t124 t125 t126 t127 t128 t129 t130 t131 t132 t133 t134 t135 t136 t137 t138 t139 t140 t141 t142 t143 t144 t145 t146 t147 t148 t149 t150 t151 t152 t153 t154 t155 t156 t157 t158 t159 t160 t161 t162 : Value}
    (hn2 : ps.length = n2) (hq2 : 2 ≤ q) (hyq : ys.length = q) (hq9 : q ≤ 1000) (hnb : n2 ≤ 1000) (hmm : mm ≤ 900000)
    (K0 : GI w N g mm W lop hip Ap cp ps loi hii Ai ci ys)
    (hQ : ∀ (u91 u92 u93 u94 u95 u96 u97 u98 u99 u100 u101 u102 u103 u104 u105 u106 u107 u108 u109 : Value) (W' : World) (A5 : Option Addr) (c5 lo5 hi5 : Nat) (ps3 : List Prt), ps3.length = n2 + 1 → GI w N g (mm + 1) W' lo5 hi5 A5 c5 ps3 loi hii Ai ci ys → Q .normal ⟨#[.pointer (some ⟨g, 0, none⟩), t1, t2, t3, t4, .pointer (some ⟨w.heap.size + 1, 0, none⟩), .slice Ai q ci, t7, t8, .int .i64 q, t10, t11, t12, t13, t14, t15, t16, t17, t18, t19, t20, t21, t22, t23, t24, t25, t26, t27, t28, t29, t30, t31, t32, t33, t34, t35, t36, t37, t38, t39, t40, t41, t42, t43, t44, t45, t46, t47, t48, t49, t50, t51, t52, t53, t54, t55, t56, t57, t58, t59, t60, t61, t62, t63, t64, t65, t66, t67, t68, t69, t70, t71, t72, t73, t74, t75, t76, t77, t78, t79, t80, t81, t82, t83, t84, t85, t86, t87, t88, t89, t90, u91, u92, u93, u94, u95, u96, u97, u98, u99, u100, u101, u102, u103, u104, u105, u106, u107, u108, u109, t110, t111, t112, t113, t114, t115, t116, t117, t118, t119, t120, t121, t122, t123, t124, t125, t126, t127, t128, t129, t130, t131, t132, t133, t134, t135, t136, t137, t138, t139, t140, t141, t142, t143, t144, t145, t146, t147, t148, t149, t150, t151, t152, t153, t154, t155, t156, t157, t158, t159, t160, t161, t162], []⟩ W') :
    Code.wp Try.prog (regionAt 16) Q ⟨#[.pointer (some ⟨g, 0, none⟩), t1, t2, t3, t4, .pointer (some ⟨w.heap.size + 1, 0, none⟩), .slice Ai q ci, t7, t8, .int .i64 q, t10, t11, t12, t13, t14, t15, t16, t17, t18, t19, t20, t21, t22, t23, t24, t25, t26, t27, t28, t29, t30, t31, t32, t33, t34, t35, t36, t37, t38, t39, t40, t41, t42, t43, t44, t45, t46, t47, t48, t49, t50, t51, t52, t53, t54, t55, t56, t57, t58, t59, t60, t61, t62, t63, t64, t65, t66, t67, t68, t69, t70, t71, t72, t73, t74, t75, t76, t77, t78, t79, t80, t81, t82, t83, t84, t85, t86, t87, t88, t89, t90, t91, t92, t93, t94, t95, t96, t97, t98, t99, t100, t101, t102, t103, t104, t105, t106, t107, t108, t109, t110, t111, t112, t113, t114, t115, t116, t117, t118, t119, t120, t121, t122, t123, t124, t125, t126, t127, t128, t129, t130, t131, t132, t133, t134, t135, t136, t137, t138, t139, t140, t141, t142, t143, t144, t145, t146, t147, t148, t149, t150, t151, t152, t153, t154, t155, t156, t157, t158, t159, t160, t161, t162], []⟩ W := by
  obtain ⟨a2, ha2⟩ : ∃ a, a + 2 = q := ⟨q - 2, by omega⟩
  have hw2 : IntKind.i64.wrap ((q : Int) - 2) = (a2 : Int) := by rw [show (q : Int) - 2 = (a2 : Int) by omega]; exact IntWalk.i64_in _ (by omega)
  have hl2 : (0 : Int) ≤ (a2 : Int) := by omega
  have hr2 : (a2 : Int) < (q : Int) := by omega
  have hy2 : a2 < ys.length := by rw [hyq]; omega
  obtain ⟨a1, ha1⟩ : ∃ a, a + 1 = q := ⟨q - 1, by omega⟩
  have hw1 : IntKind.i64.wrap ((q : Int) - 1) = (a1 : Int) := by rw [show (q : Int) - 1 = (a1 : Int) by omega]; exact IntWalk.i64_in _ (by omega)
  have hl1 : (0 : Int) ≤ (a1 : Int) := by omega
  have hr1 : (a1 : Int) < (q : Int) := by omega
  have hy1 : a1 < ys.length := by rw [hyq]; omega
  obtain ⟨ad, hAd, _, hcc⟩ := K0.si.rd.at_ hy2
  subst hAd
  obtain ⟨y2, hyy2⟩ : ∃ y, ys[a2] = y := ⟨_, rfl⟩
  have hc2 := hcc a2 hy2
  rw [hyy2] at hc2
  have HY2 := Lib.hid hyy2
  obtain ⟨y1, hyy1⟩ : ∃ y, ys[a1] = y := ⟨_, rfl⟩
  have hc1 := hcc a1 hy1
  rw [hyy1] at hc1
  have HY1 := Lib.hid hyy1
  clear hcc hyy2 hyy1
  have K := Lib.hid K0; have HN2 := Lib.hid hn2; have HYQ := Lib.hid hyq; have HQ := Lib.hid hQ
  have c1 := K0.head hn2
  clear K0 hQ
  have CY := Lib.hid (fun (V : World) (s : SlI V loi hii (some ad) ci ys) => (show V.cell? (ad.add a2) = some (.int .i64 y2) ∧ V.cell? (ad.add a1) = some (.int .i64 y1) from by
    obtain ⟨ad', hA', _, hcc⟩ := s.rd.at_ hy2; injection hA' with hA'; subst hA'
    exact ⟨by rw [hcc a2 hy2, HY2.out], by rw [hcc a1 hy1, HY1.out]⟩))
  have S1 := CY.out _ K.out.drew.si
  have ARM := Lib.hid (fun (w4 : World) (v : Int) (r4 : Rdr w4 N g (mm + 1)) (t4 : Turn g (g + 1) W.drew w4) (h0 : 0 ≤ v) (h1 : v < 6 ∨ v = 0) => (show IntKind.i64.wrap (2 + v) = 2 + v ∧ w4.cell? ⟨w.heap.size + 1, 0, none⟩ = some (.slice Ap n2 cp) ∧ (w4.cell? (ad.add a2) = some (.int .i64 y2) ∧ w4.cell? (ad.add a1) = some (.int .i64 y1)) ∧ (w4.alloc (.cells #[.int .i64 (2 + v), .int .i64 y2, .int .i64 y1, .int .i64 (-1), .int .i64 0] 50)).cell? ⟨w.heap.size + 1, 0, none⟩ = some (.slice Ap n2 cp) ∧
      ∃ A5 c5 lo5 hi5 w5, (Builtin.append_ #[27, 27] 27 #[.slice Ap n2 cp, .slice (some ⟨w4.heap.size, 0, none⟩) 1 1]).run Try.prog (w4.alloc (.cells #[.int .i64 (2 + v), .int .i64 y2, .int .i64 y1, .int .i64 (-1), .int .i64 0] 50)) = .ok (.slice A5 (n2 + 1) c5) w5 ∧ w5.cell? ⟨w.heap.size + 1, 0, none⟩ = some (.slice Ap n2 cp) ∧ w5.frozen? ⟨w.heap.size + 1, 0, none⟩ = false ∧ ((w4.alloc (.cells #[.int .i64 (2 + v), .int .i64 y2, .int .i64 y1, .int .i64 (-1), .int .i64 0] 50)).cell? (ad.add a2) = some (.int .i64 y2) ∧ (w4.alloc (.cells #[.int .i64 (2 + v), .int .i64 y2, .int .i64 y1, .int .i64 (-1), .int .i64 0] 50)).cell? (ad.add a1) = some (.int .i64 y1)) ∧ (w5.cell? (ad.add a2) = some (.int .i64 y2) ∧ w5.cell? (ad.add a1) = some (.int .i64 y1)) ∧ ((w5.setCell ⟨w.heap.size + 1, 0, none⟩ (.slice A5 (n2 + 1) c5)).cell? (ad.add a2) = some (.int .i64 y2) ∧ (w5.setCell ⟨w.heap.size + 1, 0, none⟩ (.slice A5 (n2 + 1) c5)).cell? (ad.add a1) = some (.int .i64 y1)) ∧ Hid (GI w N g (mm + 1) (w5.setCell ⟨w.heap.size + 1, 0, none⟩ (.slice A5 (n2 + 1) c5)) lo5 hi5 A5 c5 (ps ++ [(⟨2 + v, y2, y1, -1, 0⟩ : Prt)]) loi hii (some ad) ci ys) from by
    have K4 := K.out.drew.pick r4 t4
    have KA : GI w N g _ (w4.alloc (.cells #[.int .i64 (2 + v), .int .i64 y2, .int .i64 y1, .int .i64 (-1), .int .i64 0] 50)) _ _ _ _ _ _ _ _ _ _ := K4.alloc _
    obtain ⟨A5, c5, lo5, hi5, w5, hrun, s5, d5, t5⟩ := run_appP (w := (w4.alloc (.cells #[.int .i64 (2 + v), .int .i64 y2, .int .i64 y1, .int .i64 (-1), .int .i64 0] 50))) 27 ps ⟨2 + v, y2, y1, -1, 0⟩ HN2.out KA.sp (Blk.new _ _ _) (by omega)
    obtain ⟨b5, k5⟩ := KA.putP (n' := n2 + 1) s5 (by rw [List.length_append, HN2.out]; rfl) d5 t5
    exact ⟨IntWalk.i64_in _ (by omega), K4.head HN2.out, CY.out _ K4.si, KA.head HN2.out, A5, c5, lo5, hi5, w5, hrun, by have := b5.cell 0; rw [HN2.out] at this; exact this, b5.frozen 0, CY.out _ KA.si, CY.out _ (KA.si.turn t5 KA.ap.symm), CY.out _ k5.si, k5⟩))
  have hpk := Lib.hid (pick 6 N g mm W.drew (by omega) K.out.drew.rd)
  clear hn2 hyq hq9 hmm hq2 ha2 ha1 hnb
  conv => arg 2; whnf
  refine wp_region_noPanic ?_
  refine wp_region_held_drew (S := (fun w' => w'.cell? (ad.add a2) = some (.int .i64 y2) ∧ w'.cell? (ad.add a1) = some (.int .i64 y1))) (by kernel_rfl) S1 (fun hHeld => ?_)
  refine wpAnyH_take (i := 0) (v := ?_) rfl (by kernel_rfl) (by kernel_rfl) (by kernel_rfl) (fun _ _ _ h => h) (Or.inl ⟨by rfl, ?_⟩) (by assumption) ?_
  rotate_left
  · intro w9 hSw; (try dsimp only at hSw); go_simp; try (with_reducible rfl)
  try simp only [List.getElem_toArray, List.getElem_cons_zero, Act.put, List.setIfInBounds_toArray, List.set_cons_zero, List.set_cons_succ]
  refine wpAnyH_take (i := 2) (v := ?_) rfl (by kernel_rfl) (by kernel_rfl) (by kernel_rfl) (fun _ _ _ h => h) (Or.inl ⟨by rfl, ?_⟩) (by assumption) ?_
  rotate_left
  · intro w9 hSw; (try dsimp only at hSw); go_simp; try (with_reducible rfl)
  try simp only [List.getElem_toArray, List.getElem_cons_succ, List.getElem_cons_zero, Act.put, List.setIfInBounds_toArray, List.set_cons_zero, List.set_cons_succ]
  refine wpAnyH_take (i := 5) (v := ?_) rfl (by kernel_rfl) (by kernel_rfl) (by kernel_rfl) (fun _ _ _ h => h) (Or.inl ⟨by rfl, ?_⟩) (by assumption) ?_
  rotate_left
  · intro w9 hSw; (try dsimp only at hSw); go_simp; try (with_reducible rfl)
  try simp only [List.getElem_toArray, List.getElem_cons_succ, List.getElem_cons_zero, Act.put, List.setIfInBounds_toArray, List.set_cons_zero, List.set_cons_succ]
  refine wpAnyH_take (i := 6) (v := ?_) rfl (by kernel_rfl) (by kernel_rfl) (by kernel_rfl) (fun _ _ _ h => h) (Or.inl ⟨by rfl, ?_⟩) (by assumption) ?_
  rotate_left
  · intro w9 hSw; (try dsimp only at hSw); go_simp; try (with_reducible rfl)
  try simp only [List.getElem_toArray, List.getElem_cons_succ, List.getElem_cons_zero, Act.put, List.setIfInBounds_toArray, List.set_cons_zero, List.set_cons_succ]
  refine wpAnyH_take (i := 7) (v := ?_) rfl (by kernel_rfl) (by kernel_rfl) (by kernel_rfl) (fun _ _ _ h => h) (Or.inl ⟨by rfl, ?_⟩) (by assumption) ?_
  rotate_left
  · intro w9 hSw; (try dsimp only at hSw); go_simp; try (with_reducible rfl)
  try simp only [List.getElem_toArray, List.getElem_cons_succ, List.getElem_cons_zero, Act.put, List.setIfInBounds_toArray, List.set_cons_zero, List.set_cons_succ]
  refine wpAnyH_take (i := 8) (v := ?_) rfl (by kernel_rfl) (by kernel_rfl) (by kernel_rfl) (fun _ _ _ h => h) (Or.inl ⟨by rfl, ?_⟩) (by assumption) ?_
  rotate_left
  · intro w9 hSw; (try dsimp only at hSw); go_simp; try (with_reducible rfl)
  try simp only [List.getElem_toArray, List.getElem_cons_succ, List.getElem_cons_zero, Act.put, List.setIfInBounds_toArray, List.set_cons_zero, List.set_cons_succ]
  refine wpAnyH_take (i := 9) (v := ?_) rfl (by kernel_rfl) (by kernel_rfl) (by kernel_rfl) (fun _ _ _ h => h) (Or.inl ⟨by rfl, ?_⟩) (by assumption) ?_
  rotate_left
  · intro w9 hSw; (try dsimp only at hSw); go_simp; try (with_reducible rfl)
  try simp only [List.getElem_toArray, List.getElem_cons_succ, List.getElem_cons_zero, Act.put, List.setIfInBounds_toArray, List.set_cons_zero, List.set_cons_succ]
  refine wpAnyH_take (i := 10) (v := ?_) rfl (by kernel_rfl) (by kernel_rfl) (by kernel_rfl) (fun _ _ _ h => h) (Or.inl ⟨by rfl, ?_⟩) (by assumption) ?_
  rotate_left
  · intro w9 hSw; (try dsimp only at hSw); go_simp; try (with_reducible rfl)
  try simp only [List.getElem_toArray, List.getElem_cons_succ, List.getElem_cons_zero, Act.put, List.setIfInBounds_toArray, List.set_cons_zero, List.set_cons_succ]
  refine wpAnyH_take (i := 11) (v := ?_) rfl (by kernel_rfl) (by kernel_rfl) (by kernel_rfl) (fun _ _ _ h => h) (Or.inl ⟨by rfl, ?_⟩) (by assumption) ?_
  rotate_left
  · intro w9 hSw; (try dsimp only at hSw); go_simp; try (with_reducible rfl)
  try simp only [List.getElem_toArray, List.getElem_cons_succ, List.getElem_cons_zero, Act.put, List.setIfInBounds_toArray, List.set_cons_zero, List.set_cons_succ]
  refine wpAnyH_take (i := 12) (v := ?_) rfl (by kernel_rfl) (by kernel_rfl) (by kernel_rfl) (fun _ _ _ h => h) (Or.inl ⟨by rfl, ?_⟩) (by assumption) ?_
  rotate_left
  · intro w9 hSw; (try dsimp only at hSw); go_simp; try (with_reducible rfl)
  try simp only [List.getElem_toArray, List.getElem_cons_succ, List.getElem_cons_zero, Act.put, List.setIfInBounds_toArray, List.set_cons_zero, List.set_cons_succ]
  refine wpAnyH_take (i := 13) (v := ?_) rfl (by kernel_rfl) (by kernel_rfl) (by kernel_rfl) (fun _ _ _ h => h) (Or.inl ⟨by rfl, ?_⟩) (by assumption) ?_
  rotate_left
  · intro w9 hSw; (try dsimp only at hSw); go_simp; try (with_reducible rfl)
  try simp only [List.getElem_toArray, List.getElem_cons_succ, List.getElem_cons_zero, Act.put, List.setIfInBounds_toArray, List.set_cons_zero, List.set_cons_succ]
  refine wpAnyH_take (i := 14) (v := ?_) rfl (by kernel_rfl) (by kernel_rfl) (by kernel_rfl) (fun _ _ _ h => h) (Or.inl ⟨by rfl, ?_⟩) (by assumption) ?_
  rotate_left
  · intro w9 hSw; (try dsimp only at hSw); go_simp; try (with_reducible rfl)
  try simp only [List.getElem_toArray, List.getElem_cons_succ, List.getElem_cons_zero, Act.put, List.setIfInBounds_toArray, List.set_cons_zero, List.set_cons_succ]
  refine wpAnyH_ready (rs := [1, 3]) (by kernel_rfl) (by simp) ?_
  refine AllReadyH.cons rfl (fun K9 hK9 => ?_) ?_
  ·
    go_simp
    refine hK9.out _ _ ?_ (fun hHeld => ?_)
    · (try dsimp only); (first | exact S1 | exact cyy | exact cy4 | exact cy5 | exact cy6)
    clear hK9 K9
    try simp only [List.getElem_toArray, List.getElem_cons_succ, List.getElem_cons_zero, Act.put, List.setIfInBounds_toArray, List.set_cons_zero, List.set_cons_succ]
    refine wpAnyH_ready (rs := [3]) (by kernel_rfl) (by simp) ?_
    refine AllReadyH.cons rfl (fun K9 hK9 => ?_) ?_
    ·
      go_simp
      refine hpk.out.mono ?_; rintro e w4 ⟨v4, rfl, hv40, hv4, r4, t4⟩; obtain ⟨hwv, ch4, cyy, ch5, A5, c5, lo5, hi5, w5, hrun, e5, f5, cy4, cy5, cy6, k5⟩ := ARM.out w4 v4 r4 t4 hv40 hv4; clear r4 t4 hv40 hv4; try dsimp only
      refine hK9.out _ _ ?_ (fun hHeld => ?_)
      · (try dsimp only); (first | exact S1 | exact cyy | exact cy4 | exact cy5 | exact cy6)
      clear hK9 K9
      try simp only [List.getElem_toArray, List.getElem_cons_succ, List.getElem_cons_zero, Act.put, List.setIfInBounds_toArray, List.set_cons_zero, List.set_cons_succ]
      refine wpAnyH_take (i := 4) (v := ?_) rfl (by kernel_rfl) (by kernel_rfl) (by kernel_rfl) (fun _ _ _ h => h) (Or.inl ⟨by rfl, ?_⟩) (by assumption) ?_
      rotate_left
      · intro w9 hSw; (try dsimp only at hSw); go_simp; try (with_reducible rfl)
      try simp only [List.getElem_toArray, List.getElem_cons_succ, List.getElem_cons_zero, Act.put, List.setIfInBounds_toArray, List.set_cons_zero, List.set_cons_succ]
      refine wpAnyH_take (i := 15) (v := ?_) rfl (by kernel_rfl) (by kernel_rfl) (by kernel_rfl) (fun _ _ _ h => h) (Or.inl ⟨by rfl, ?_⟩) (by assumption) ?_
      rotate_left
      · intro w9 hSw; (try dsimp only at hSw); go_simp; try (with_reducible rfl)
      try simp only [List.getElem_toArray, List.getElem_cons_succ, List.getElem_cons_zero, Act.put, List.setIfInBounds_toArray, List.set_cons_zero, List.set_cons_succ]
      refine wpAnyH_ready (rs := [16]) (by kernel_rfl) (by simp) ?_
      refine AllReadyH.cons rfl (fun K9 hK9 => ?_) ?_
      ·
        go_simp
        refine hK9.out _ _ ?_ (fun hHeld => ?_)
        · (try dsimp only); (first | exact S1 | exact cyy | exact cy4 | exact cy5 | exact cy6)
        clear hK9 K9
        try simp only [List.getElem_toArray, List.getElem_cons_succ, List.getElem_cons_zero, Act.put, List.setIfInBounds_toArray, List.set_cons_zero, List.set_cons_succ]
        refine wpAnyH_ready (rs := [17]) (by kernel_rfl) (by simp) ?_
        refine AllReadyH.cons rfl (fun K9 hK9 => ?_) ?_
        ·
          go_simp
          refine hK9.out _ _ ?_ (fun hHeld => ?_)
          · (try dsimp only); (first | exact S1 | exact cyy | exact cy4 | exact cy5 | exact cy6)
          clear hK9 K9
          try simp only [List.getElem_toArray, List.getElem_cons_succ, List.getElem_cons_zero, Act.put, List.setIfInBounds_toArray, List.set_cons_zero, List.set_cons_succ]
          refine wpAnyH_take (i := 18) (v := ?_) rfl (by kernel_rfl) (by kernel_rfl) (by kernel_rfl) (fun _ _ _ h => h) (Or.inl ⟨by rfl, ?_⟩) (by assumption) ?_
          rotate_left
          · intro w9 hSw; (try dsimp only at hSw); go_simp; try (with_reducible rfl)
          try simp only [List.getElem_toArray, List.getElem_cons_succ, List.getElem_cons_zero, Act.put, List.setIfInBounds_toArray, List.set_cons_zero, List.set_cons_succ]
          refine wpAnyH_ready (rs := [19]) (by kernel_rfl) (by simp) ?_
          refine AllReadyH.cons rfl (fun K9 hK9 => ?_) ?_
          ·
            go_simp
            refine hK9.out _ _ ?_ (fun hHeld => ?_)
            · (try dsimp only); (first | exact S1 | exact cyy | exact cy4 | exact cy5 | exact cy6)
            clear hK9 K9
            try simp only [List.getElem_toArray, List.getElem_cons_succ, List.getElem_cons_zero, Act.put, List.setIfInBounds_toArray, List.set_cons_zero, List.set_cons_succ]
            refine wpAnyH_done (by kernel_rfl) ?_ _
            refine NoPanic.normal ?_; exact HQ.out _ _ _ _ _ _ _ _ _ _ _ _ _ _ _ _ _ _ _ _ A5 c5 lo5 hi5 _ (by rw [List.length_append, HN2.out]; rfl) k5.out
          exact AllReadyH.nil
        exact AllReadyH.nil
      exact AllReadyH.nil
    exact AllReadyH.nil
  refine AllReadyH.cons rfl (fun K9 hK9 => ?_) ?_
  ·
    go_simp
    refine hpk.out.mono ?_; rintro e w4 ⟨v4, rfl, hv40, hv4, r4, t4⟩; obtain ⟨hwv, ch4, cyy, ch5, A5, c5, lo5, hi5, w5, hrun, e5, f5, cy4, cy5, cy6, k5⟩ := ARM.out w4 v4 r4 t4 hv40 hv4; clear r4 t4 hv40 hv4; try dsimp only
    refine hK9.out _ _ ?_ (fun hHeld => ?_)
    · (try dsimp only); (first | exact S1 | exact cyy | exact cy4 | exact cy5 | exact cy6)
    clear hK9 K9
    try simp only [List.getElem_toArray, List.getElem_cons_succ, List.getElem_cons_zero, Act.put, List.setIfInBounds_toArray, List.set_cons_zero, List.set_cons_succ]
    refine wpAnyH_take (i := 4) (v := ?_) rfl (by kernel_rfl) (by kernel_rfl) (by kernel_rfl) (fun _ _ _ h => h) (Or.inl ⟨by rfl, ?_⟩) (by assumption) ?_
    rotate_left
    · intro w9 hSw; (try dsimp only at hSw); go_simp; try (with_reducible rfl)
    try simp only [List.getElem_toArray, List.getElem_cons_succ, List.getElem_cons_zero, Act.put, List.setIfInBounds_toArray, List.set_cons_zero, List.set_cons_succ]
    refine wpAnyH_take (i := 15) (v := ?_) rfl (by kernel_rfl) (by kernel_rfl) (by kernel_rfl) (fun _ _ _ h => h) (Or.inl ⟨by rfl, ?_⟩) (by assumption) ?_
    rotate_left
    · intro w9 hSw; (try dsimp only at hSw); go_simp; try (with_reducible rfl)
    try simp only [List.getElem_toArray, List.getElem_cons_succ, List.getElem_cons_zero, Act.put, List.setIfInBounds_toArray, List.set_cons_zero, List.set_cons_succ]
    refine wpAnyH_ready (rs := [1, 16]) (by kernel_rfl) (by simp) ?_
    refine AllReadyH.cons rfl (fun K9 hK9 => ?_) ?_
    ·
      go_simp
      refine hK9.out _ _ ?_ (fun hHeld => ?_)
      · (try dsimp only); (first | exact S1 | exact cyy | exact cy4 | exact cy5 | exact cy6)
      clear hK9 K9
      try simp only [List.getElem_toArray, List.getElem_cons_succ, List.getElem_cons_zero, Act.put, List.setIfInBounds_toArray, List.set_cons_zero, List.set_cons_succ]
      refine wpAnyH_ready (rs := [16]) (by kernel_rfl) (by simp) ?_
      refine AllReadyH.cons rfl (fun K9 hK9 => ?_) ?_
      ·
        go_simp
        refine hK9.out _ _ ?_ (fun hHeld => ?_)
        · (try dsimp only); (first | exact S1 | exact cyy | exact cy4 | exact cy5 | exact cy6)
        clear hK9 K9
        try simp only [List.getElem_toArray, List.getElem_cons_succ, List.getElem_cons_zero, Act.put, List.setIfInBounds_toArray, List.set_cons_zero, List.set_cons_succ]
        refine wpAnyH_ready (rs := [17]) (by kernel_rfl) (by simp) ?_
        refine AllReadyH.cons rfl (fun K9 hK9 => ?_) ?_
        ·
          go_simp
          refine hK9.out _ _ ?_ (fun hHeld => ?_)
          · (try dsimp only); (first | exact S1 | exact cyy | exact cy4 | exact cy5 | exact cy6)
          clear hK9 K9
          try simp only [List.getElem_toArray, List.getElem_cons_succ, List.getElem_cons_zero, Act.put, List.setIfInBounds_toArray, List.set_cons_zero, List.set_cons_succ]
          refine wpAnyH_take (i := 18) (v := ?_) rfl (by kernel_rfl) (by kernel_rfl) (by kernel_rfl) (fun _ _ _ h => h) (Or.inl ⟨by rfl, ?_⟩) (by assumption) ?_
          rotate_left
          · intro w9 hSw; (try dsimp only at hSw); go_simp; try (with_reducible rfl)
          try simp only [List.getElem_toArray, List.getElem_cons_succ, List.getElem_cons_zero, Act.put, List.setIfInBounds_toArray, List.set_cons_zero, List.set_cons_succ]
          refine wpAnyH_ready (rs := [19]) (by kernel_rfl) (by simp) ?_
          refine AllReadyH.cons rfl (fun K9 hK9 => ?_) ?_
          ·
            go_simp
            refine hK9.out _ _ ?_ (fun hHeld => ?_)
            · (try dsimp only); (first | exact S1 | exact cyy | exact cy4 | exact cy5 | exact cy6)
            clear hK9 K9
            try simp only [List.getElem_toArray, List.getElem_cons_succ, List.getElem_cons_zero, Act.put, List.setIfInBounds_toArray, List.set_cons_zero, List.set_cons_succ]
            refine wpAnyH_done (by kernel_rfl) ?_ _
            refine NoPanic.normal ?_; exact HQ.out _ _ _ _ _ _ _ _ _ _ _ _ _ _ _ _ _ _ _ _ A5 c5 lo5 hi5 _ (by rw [List.length_append, HN2.out]; rfl) k5.out
          exact AllReadyH.nil
        exact AllReadyH.nil
      exact AllReadyH.nil
    refine AllReadyH.cons rfl (fun K9 hK9 => ?_) ?_
    ·
      go_simp
      refine hK9.out _ _ ?_ (fun hHeld => ?_)
      · (try dsimp only); (first | exact S1 | exact cyy | exact cy4 | exact cy5 | exact cy6)
      clear hK9 K9
      try simp only [List.getElem_toArray, List.getElem_cons_succ, List.getElem_cons_zero, Act.put, List.setIfInBounds_toArray, List.set_cons_zero, List.set_cons_succ]
      refine wpAnyH_ready (rs := [1]) (by kernel_rfl) (by simp) ?_
      refine AllReadyH.cons rfl (fun K9 hK9 => ?_) ?_
      ·
        go_simp
        refine hK9.out _ _ ?_ (fun hHeld => ?_)
        · (try dsimp only); (first | exact S1 | exact cyy | exact cy4 | exact cy5 | exact cy6)
        clear hK9 K9
        try simp only [List.getElem_toArray, List.getElem_cons_succ, List.getElem_cons_zero, Act.put, List.setIfInBounds_toArray, List.set_cons_zero, List.set_cons_succ]
        refine wpAnyH_ready (rs := [17]) (by kernel_rfl) (by simp) ?_
        refine AllReadyH.cons rfl (fun K9 hK9 => ?_) ?_
        ·
          go_simp
          refine hK9.out _ _ ?_ (fun hHeld => ?_)
          · (try dsimp only); (first | exact S1 | exact cyy | exact cy4 | exact cy5 | exact cy6)
          clear hK9 K9
          try simp only [List.getElem_toArray, List.getElem_cons_succ, List.getElem_cons_zero, Act.put, List.setIfInBounds_toArray, List.set_cons_zero, List.set_cons_succ]
          refine wpAnyH_take (i := 18) (v := ?_) rfl (by kernel_rfl) (by kernel_rfl) (by kernel_rfl) (fun _ _ _ h => h) (Or.inl ⟨by rfl, ?_⟩) (by assumption) ?_
          rotate_left
          · intro w9 hSw; (try dsimp only at hSw); go_simp; try (with_reducible rfl)
          try simp only [List.getElem_toArray, List.getElem_cons_succ, List.getElem_cons_zero, Act.put, List.setIfInBounds_toArray, List.set_cons_zero, List.set_cons_succ]
          refine wpAnyH_ready (rs := [19]) (by kernel_rfl) (by simp) ?_
          refine AllReadyH.cons rfl (fun K9 hK9 => ?_) ?_
          ·
            go_simp
            refine hK9.out _ _ ?_ (fun hHeld => ?_)
            · (try dsimp only); (first | exact S1 | exact cyy | exact cy4 | exact cy5 | exact cy6)
            clear hK9 K9
            try simp only [List.getElem_toArray, List.getElem_cons_succ, List.getElem_cons_zero, Act.put, List.setIfInBounds_toArray, List.set_cons_zero, List.set_cons_succ]
            refine wpAnyH_done (by kernel_rfl) ?_ _
            refine NoPanic.normal ?_; exact HQ.out _ _ _ _ _ _ _ _ _ _ _ _ _ _ _ _ _ _ _ _ A5 c5 lo5 hi5 _ (by rw [List.length_append, HN2.out]; rfl) k5.out
          exact AllReadyH.nil
        exact AllReadyH.nil
      exact AllReadyH.nil
    exact AllReadyH.nil
  exact AllReadyH.nil
set_option maxRecDepth 1000000 in
set_option maxHeartbeats 8000000 in
theorem reg20 {w W : World} {N g mm lop hip cp loi hii ci n2 q : Nat} {Ap Ai : Option Addr} {ps : List Prt} {ys : List Int} {Q : Exit → Act → World → Prop} {t1 t2 t3 t4 t7 t8 t9 t11 t12 t13 t14 t15 t16 t17 t18 t19 t20 t21 t22 t23 t24 t25 t26 t27 t28 t29 t30 t31 t32 t33 t34 t35 t36 t37 t38 t39 t40 t41 t42 t43 t44 t45 t46 t47 t48 t49 t50 t51 t52 t53 t54 t55 t56 t57 t58 t59 t60 t61 t62 t63 t64 t65 t66 t67 t68 t69 t70 t71 t72 t73 t74 t75 t76 t77 t78 t79 t80 t81 t82 t83 t84 t85 t86 t87 t88 t89 t90 t91 t92 t93 t94 t95 t96 t97 t98 t99 t100 t101 t102 t103 t104 t105 t106 t107 t108 t109 t110 t111 t112 t113 t114 t115 t116 t117 t118 t119 t120 t121 t122 t123 t124 t125 t126 t127 t128 t129 t130 t131 t132 t133 t134 t135 t136 t137 t138 t139 t140 t141 t142 t143 t144 t145 t146 t147 t148 t149 t150 t151 t152 t153 t154 t155 t156 t157 t158 t159 t160 t161 t162 : Value}
    (hn2 : ps.length = n2) (hq2 : 2 ≤ q) (hyq : ys.length = q) (hq9 : q ≤ 1000) (hnb : n2 ≤ 1000) (hmm : mm ≤ 900000)
    (K0 : GI w N g mm W lop hip Ap cp ps loi hii Ai ci ys)
    (hQ : ∀ (u125 u126 u127 u128 u129 u130 u131 u132 u133 u134 u135 u136 u137 u138 u139 u140 u141 u142 u143 : Value) (W' : World) (A5 : Option Addr) (c5 lo5 hi5 : Nat) (ps3 : List Prt), ps3.length = n2 + 1 → GI w N g (mm + 1) W' lo5 hi5 A5 c5 ps3 loi hii Ai ci ys → Q .normal ⟨#[.pointer (some ⟨g, 0, none⟩), t1, t2, t3, t4, .pointer (some ⟨w.heap.size + 1, 0, none⟩), .slice Ai q ci, t7, t8, t9, .int .i64 q, t11, t12, t13, t14, t15, t16, t17, t18, t19, t20, t21, t22, t23, t24, t25, t26, t27, t28, t29, t30, t31, t32, t33, t34, t35, t36, t37, t38, t39, t40, t41, t42, t43, t44, t45, t46, t47, t48, t49, t50, t51, t52, t53, t54, t55, t56, t57, t58, t59, t60, t61, t62, t63, t64, t65, t66, t67, t68, t69, t70, t71, t72, t73, t74, t75, t76, t77, t78, t79, t80, t81, t82, t83, t84, t85, t86, t87, t88, t89, t90, t91, t92, t93, t94, t95, t96, t97, t98, t99, t100, t101, t102, t103, t104, t105, t106, t107, t108, t109, t110, t111, t112, t113, t114, t115, t116, t117, t118, t119, t120, t121, t122, t123, t124, u125, u126, u127, u128, u129, u130, u131, u132, u133, u134, u135, u136, u137, u138, u139, u140, u141, u142, u143, t144, t145, t146, t147, t148, t149, t150, t151, t152, t153, t154, t155, t156, t157, t158, t159, t160, t161, t162], []⟩ W') :
    Code.wp Try.prog (regionAt 20) Q ⟨#[.pointer (some ⟨g, 0, none⟩), t1, t2, t3, t4, .pointer (some ⟨w.heap.size + 1, 0, none⟩), .slice Ai q ci, t7, t8, t9, .int .i64 q, t11, t12, t13, t14, t15, t16, t17, t18, t19, t20, t21, t22, t23, t24, t25, t26, t27, t28, t29, t30, t31, t32, t33, t34, t35, t36, t37, t38, t39, t40, t41, t42, t43, t44, t45, t46, t47, t48, t49, t50, t51, t52, t53, t54, t55, t56, t57, t58, t59, t60, t61, t62, t63, t64, t65, t66, t67, t68, t69, t70, t71, t72, t73, t74, t75, t76, t77, t78, t79, t80, t81, t82, t83, t84, t85, t86, t87, t88, t89, t90, t91, t92, t93, t94, t95, t96, t97, t98, t99, t100, t101, t102, t103, t104, t105, t106, t107, t108, t109, t110, t111, t112, t113, t114, t115, t116, t117, t118, t119, t120, t121, t122, t123, t124, t125, t126, t127, t128, t129, t130, t131, t132, t133, t134, t135, t136, t137, t138, t139, t140, t141, t142, t143, t144, t145, t146, t147, t148, t149, t150, t151, t152, t153, t154, t155, t156, t157, t158, t159, t160, t161, t162], []⟩ W := by
  obtain ⟨a2, ha2⟩ : ∃ a, a + 2 = q := ⟨q - 2, by omega⟩
  have hw2 : IntKind.i64.wrap ((q : Int) - 2) = (a2 : Int) := by rw [show (q : Int) - 2 = (a2 : Int) by omega]; exact IntWalk.i64_in _ (by omega)
  have hl2 : (0 : Int) ≤ (a2 : Int) := by omega
  have hr2 : (a2 : Int) < (q : Int) := by omega
  have hy2 : a2 < ys.length := by rw [hyq]; omega
  obtain ⟨a1, ha1⟩ : ∃ a, a + 1 = q := ⟨q - 1, by omega⟩
  have hw1 : IntKind.i64.wrap ((q : Int) - 1) = (a1 : Int) := by rw [show (q : Int) - 1 = (a1 : Int) by omega]; exact IntWalk.i64_in _ (by omega)
  have hl1 : (0 : Int) ≤ (a1 : Int) := by omega
  have hr1 : (a1 : Int) < (q : Int) := by omega
  have hy1 : a1 < ys.length := by rw [hyq]; omega
  obtain ⟨ad, hAd, _, hcc⟩ := K0.si.rd.at_ hy2
  subst hAd
  obtain ⟨y2, hyy2⟩ : ∃ y, ys[a2] = y := ⟨_, rfl⟩
  have hc2 := hcc a2 hy2
  rw [hyy2] at hc2
  have HY2 := Lib.hid hyy2
  obtain ⟨y1, hyy1⟩ : ∃ y, ys[a1] = y := ⟨_, rfl⟩
  have hc1 := hcc a1 hy1
  rw [hyy1] at hc1
  have HY1 := Lib.hid hyy1
  clear hcc hyy2 hyy1
  have K := Lib.hid K0; have HN2 := Lib.hid hn2; have HYQ := Lib.hid hyq; have HQ := Lib.hid hQ
  have c1 := K0.head hn2
  clear K0 hQ
  have CY := Lib.hid (fun (V : World) (s : SlI V loi hii (some ad) ci ys) => (show V.cell? (ad.add a2) = some (.int .i64 y2) ∧ V.cell? (ad.add a1) = some (.int .i64 y1) from by
    obtain ⟨ad', hA', _, hcc⟩ := s.rd.at_ hy2; injection hA' with hA'; subst hA'
    exact ⟨by rw [hcc a2 hy2, HY2.out], by rw [hcc a1 hy1, HY1.out]⟩))
  have S1 := CY.out _ K.out.drew.si
  have ARM := Lib.hid (fun (w4 : World) (v : Int) (r4 : Rdr w4 N g (mm + 1)) (t4 : Turn g (g + 1) W.drew w4) (h0 : 0 ≤ v) (h1 : v < 6 ∨ v = 0) => (show IntKind.i64.wrap (2 + v) = 2 + v ∧ w4.cell? ⟨w.heap.size + 1, 0, none⟩ = some (.slice Ap n2 cp) ∧ (w4.cell? (ad.add a2) = some (.int .i64 y2) ∧ w4.cell? (ad.add a1) = some (.int .i64 y1)) ∧ (w4.alloc (.cells #[.int .i64 (2 + v), .int .i64 y2, .int .i64 y1, .int .i64 (-1), .int .i64 0] 50)).cell? ⟨w.heap.size + 1, 0, none⟩ = some (.slice Ap n2 cp) ∧
      ∃ A5 c5 lo5 hi5 w5, (Builtin.append_ #[27, 27] 27 #[.slice Ap n2 cp, .slice (some ⟨w4.heap.size, 0, none⟩) 1 1]).run Try.prog (w4.alloc (.cells #[.int .i64 (2 + v), .int .i64 y2, .int .i64 y1, .int .i64 (-1), .int .i64 0] 50)) = .ok (.slice A5 (n2 + 1) c5) w5 ∧ w5.cell? ⟨w.heap.size + 1, 0, none⟩ = some (.slice Ap n2 cp) ∧ w5.frozen? ⟨w.heap.size + 1, 0, none⟩ = false ∧ ((w4.alloc (.cells #[.int .i64 (2 + v), .int .i64 y2, .int .i64 y1, .int .i64 (-1), .int .i64 0] 50)).cell? (ad.add a2) = some (.int .i64 y2) ∧ (w4.alloc (.cells #[.int .i64 (2 + v), .int .i64 y2, .int .i64 y1, .int .i64 (-1), .int .i64 0] 50)).cell? (ad.add a1) = some (.int .i64 y1)) ∧ (w5.cell? (ad.add a2) = some (.int .i64 y2) ∧ w5.cell? (ad.add a1) = some (.int .i64 y1)) ∧ ((w5.setCell ⟨w.heap.size + 1, 0, none⟩ (.slice A5 (n2 + 1) c5)).cell? (ad.add a2) = some (.int .i64 y2) ∧ (w5.setCell ⟨w.heap.size + 1, 0, none⟩ (.slice A5 (n2 + 1) c5)).cell? (ad.add a1) = some (.int .i64 y1)) ∧ Hid (GI w N g (mm + 1) (w5.setCell ⟨w.heap.size + 1, 0, none⟩ (.slice A5 (n2 + 1) c5)) lo5 hi5 A5 c5 (ps ++ [(⟨2 + v, y2, y1, -1, 0⟩ : Prt)]) loi hii (some ad) ci ys) from by
    have K4 := K.out.drew.pick r4 t4
    have KA : GI w N g _ (w4.alloc (.cells #[.int .i64 (2 + v), .int .i64 y2, .int .i64 y1, .int .i64 (-1), .int .i64 0] 50)) _ _ _ _ _ _ _ _ _ _ := K4.alloc _
    obtain ⟨A5, c5, lo5, hi5, w5, hrun, s5, d5, t5⟩ := run_appP (w := (w4.alloc (.cells #[.int .i64 (2 + v), .int .i64 y2, .int .i64 y1, .int .i64 (-1), .int .i64 0] 50))) 27 ps ⟨2 + v, y2, y1, -1, 0⟩ HN2.out KA.sp (Blk.new _ _ _) (by omega)
    obtain ⟨b5, k5⟩ := KA.putP (n' := n2 + 1) s5 (by rw [List.length_append, HN2.out]; rfl) d5 t5
    exact ⟨IntWalk.i64_in _ (by omega), K4.head HN2.out, CY.out _ K4.si, KA.head HN2.out, A5, c5, lo5, hi5, w5, hrun, by have := b5.cell 0; rw [HN2.out] at this; exact this, b5.frozen 0, CY.out _ KA.si, CY.out _ (KA.si.turn t5 KA.ap.symm), CY.out _ k5.si, k5⟩))
  have hpk := Lib.hid (pick 6 N g mm W.drew (by omega) K.out.drew.rd)
  clear hn2 hyq hq9 hmm hq2 ha2 ha1 hnb
  conv => arg 2; whnf
  refine wp_region_noPanic ?_
  refine wp_region_held_drew (S := (fun w' => w'.cell? (ad.add a2) = some (.int .i64 y2) ∧ w'.cell? (ad.add a1) = some (.int .i64 y1))) (by kernel_rfl) S1 (fun hHeld => ?_)
  refine wpAnyH_take (i := 0) (v := ?_) rfl (by kernel_rfl) (by kernel_rfl) (by kernel_rfl) (fun _ _ _ h => h) (Or.inl ⟨by rfl, ?_⟩) (by assumption) ?_
  rotate_left
  · intro w9 hSw; (try dsimp only at hSw); go_simp; try (with_reducible rfl)
  try simp only [List.getElem_toArray, List.getElem_cons_zero, Act.put, List.setIfInBounds_toArray, List.set_cons_zero, List.set_cons_succ]
  refine wpAnyH_take (i := 2) (v := ?_) rfl (by kernel_rfl) (by kernel_rfl) (by kernel_rfl) (fun _ _ _ h => h) (Or.inl ⟨by rfl, ?_⟩) (by assumption) ?_
  rotate_left
  · intro w9 hSw; (try dsimp only at hSw); go_simp; try (with_reducible rfl)
  try simp only [List.getElem_toArray, List.getElem_cons_succ, List.getElem_cons_zero, Act.put, List.setIfInBounds_toArray, List.set_cons_zero, List.set_cons_succ]
  refine wpAnyH_take (i := 5) (v := ?_) rfl (by kernel_rfl) (by kernel_rfl) (by kernel_rfl) (fun _ _ _ h => h) (Or.inl ⟨by rfl, ?_⟩) (by assumption) ?_
  rotate_left
  · intro w9 hSw; (try dsimp only at hSw); go_simp; try (with_reducible rfl)
  try simp only [List.getElem_toArray, List.getElem_cons_succ, List.getElem_cons_zero, Act.put, List.setIfInBounds_toArray, List.set_cons_zero, List.set_cons_succ]
  refine wpAnyH_take (i := 6) (v := ?_) rfl (by kernel_rfl) (by kernel_rfl) (by kernel_rfl) (fun _ _ _ h => h) (Or.inl ⟨by rfl, ?_⟩) (by assumption) ?_
  rotate_left
  · intro w9 hSw; (try dsimp only at hSw); go_simp; try (with_reducible rfl)
  try simp only [List.getElem_toArray, List.getElem_cons_succ, List.getElem_cons_zero, Act.put, List.setIfInBounds_toArray, List.set_cons_zero, List.set_cons_succ]
  refine wpAnyH_take (i := 7) (v := ?_) rfl (by kernel_rfl) (by kernel_rfl) (by kernel_rfl) (fun _ _ _ h => h) (Or.inl ⟨by rfl, ?_⟩) (by assumption) ?_
  rotate_left
  · intro w9 hSw; (try dsimp only at hSw); go_simp; try (with_reducible rfl)
  try simp only [List.getElem_toArray, List.getElem_cons_succ, List.getElem_cons_zero, Act.put, List.setIfInBounds_toArray, List.set_cons_zero, List.set_cons_succ]
  refine wpAnyH_take (i := 8) (v := ?_) rfl (by kernel_rfl) (by kernel_rfl) (by kernel_rfl) (fun _ _ _ h => h) (Or.inl ⟨by rfl, ?_⟩) (by assumption) ?_
  rotate_left
  · intro w9 hSw; (try dsimp only at hSw); go_simp; try (with_reducible rfl)
  try simp only [List.getElem_toArray, List.getElem_cons_succ, List.getElem_cons_zero, Act.put, List.setIfInBounds_toArray, List.set_cons_zero, List.set_cons_succ]
  refine wpAnyH_take (i := 9) (v := ?_) rfl (by kernel_rfl) (by kernel_rfl) (by kernel_rfl) (fun _ _ _ h => h) (Or.inl ⟨by rfl, ?_⟩) (by assumption) ?_
  rotate_left
  · intro w9 hSw; (try dsimp only at hSw); go_simp; try (with_reducible rfl)
  try simp only [List.getElem_toArray, List.getElem_cons_succ, List.getElem_cons_zero, Act.put, List.setIfInBounds_toArray, List.set_cons_zero, List.set_cons_succ]
  refine wpAnyH_take (i := 10) (v := ?_) rfl (by kernel_rfl) (by kernel_rfl) (by kernel_rfl) (fun _ _ _ h => h) (Or.inl ⟨by rfl, ?_⟩) (by assumption) ?_
  rotate_left
  · intro w9 hSw; (try dsimp only at hSw); go_simp; try (with_reducible rfl)
  try simp only [List.getElem_toArray, List.getElem_cons_succ, List.getElem_cons_zero, Act.put, List.setIfInBounds_toArray, List.set_cons_zero, List.set_cons_succ]
  refine wpAnyH_take (i := 11) (v := ?_) rfl (by kernel_rfl) (by kernel_rfl) (by kernel_rfl) (fun _ _ _ h => h) (Or.inl ⟨by rfl, ?_⟩) (by assumption) ?_
  rotate_left
  · intro w9 hSw; (try dsimp only at hSw); go_simp; try (with_reducible rfl)
  try simp only [List.getElem_toArray, List.getElem_cons_succ, List.getElem_cons_zero, Act.put, List.setIfInBounds_toArray, List.set_cons_zero, List.set_cons_succ]
  refine wpAnyH_take (i := 12) (v := ?_) rfl (by kernel_rfl) (by kernel_rfl) (by kernel_rfl) (fun _ _ _ h => h) (Or.inl ⟨by rfl, ?_⟩) (by assumption) ?_
  rotate_left
  · intro w9 hSw; (try dsimp only at hSw); go_simp; try (with_reducible rfl)
  try simp only [List.getElem_toArray, List.getElem_cons_succ, List.getElem_cons_zero, Act.put, List.setIfInBounds_toArray, List.set_cons_zero, List.set_cons_succ]
  refine wpAnyH_take (i := 13) (v := ?_) rfl (by kernel_rfl) (by kernel_rfl) (by kernel_rfl) (fun _ _ _ h => h) (Or.inl ⟨by rfl, ?_⟩) (by assumption) ?_
  rotate_left
  · intro w9 hSw; (try dsimp only at hSw); go_simp; try (with_reducible rfl)
  try simp only [List.getElem_toArray, List.getElem_cons_succ, List.getElem_cons_zero, Act.put, List.setIfInBounds_toArray, List.set_cons_zero, List.set_cons_succ]
  refine wpAnyH_take (i := 14) (v := ?_) rfl (by kernel_rfl) (by kernel_rfl) (by kernel_rfl) (fun _ _ _ h => h) (Or.inl ⟨by rfl, ?_⟩) (by assumption) ?_
  rotate_left
  · intro w9 hSw; (try dsimp only at hSw); go_simp; try (with_reducible rfl)
  try simp only [List.getElem_toArray, List.getElem_cons_succ, List.getElem_cons_zero, Act.put, List.setIfInBounds_toArray, List.set_cons_zero, List.set_cons_succ]
  refine wpAnyH_ready (rs := [1, 3]) (by kernel_rfl) (by simp) ?_
  refine AllReadyH.cons rfl (fun K9 hK9 => ?_) ?_
  ·
    go_simp
    refine hK9.out _ _ ?_ (fun hHeld => ?_)
    · (try dsimp only); (first | exact S1 | exact cyy | exact cy4 | exact cy5 | exact cy6)
    clear hK9 K9
    try simp only [List.getElem_toArray, List.getElem_cons_succ, List.getElem_cons_zero, Act.put, List.setIfInBounds_toArray, List.set_cons_zero, List.set_cons_succ]
    refine wpAnyH_ready (rs := [3]) (by kernel_rfl) (by simp) ?_
    refine AllReadyH.cons rfl (fun K9 hK9 => ?_) ?_
    ·
      go_simp
      refine hpk.out.mono ?_; rintro e w4 ⟨v4, rfl, hv40, hv4, r4, t4⟩; obtain ⟨hwv, ch4, cyy, ch5, A5, c5, lo5, hi5, w5, hrun, e5, f5, cy4, cy5, cy6, k5⟩ := ARM.out w4 v4 r4 t4 hv40 hv4; clear r4 t4 hv40 hv4; try dsimp only
      refine hK9.out _ _ ?_ (fun hHeld => ?_)
      · (try dsimp only); (first | exact S1 | exact cyy | exact cy4 | exact cy5 | exact cy6)
      clear hK9 K9
      try simp only [List.getElem_toArray, List.getElem_cons_succ, List.getElem_cons_zero, Act.put, List.setIfInBounds_toArray, List.set_cons_zero, List.set_cons_succ]
      refine wpAnyH_take (i := 4) (v := ?_) rfl (by kernel_rfl) (by kernel_rfl) (by kernel_rfl) (fun _ _ _ h => h) (Or.inl ⟨by rfl, ?_⟩) (by assumption) ?_
      rotate_left
      · intro w9 hSw; (try dsimp only at hSw); go_simp; try (with_reducible rfl)
      try simp only [List.getElem_toArray, List.getElem_cons_succ, List.getElem_cons_zero, Act.put, List.setIfInBounds_toArray, List.set_cons_zero, List.set_cons_succ]
      refine wpAnyH_take (i := 15) (v := ?_) rfl (by kernel_rfl) (by kernel_rfl) (by kernel_rfl) (fun _ _ _ h => h) (Or.inl ⟨by rfl, ?_⟩) (by assumption) ?_
      rotate_left
      · intro w9 hSw; (try dsimp only at hSw); go_simp; try (with_reducible rfl)
      try simp only [List.getElem_toArray, List.getElem_cons_succ, List.getElem_cons_zero, Act.put, List.setIfInBounds_toArray, List.set_cons_zero, List.set_cons_succ]
      refine wpAnyH_ready (rs := [16]) (by kernel_rfl) (by simp) ?_
      refine AllReadyH.cons rfl (fun K9 hK9 => ?_) ?_
      ·
        go_simp
        refine hK9.out _ _ ?_ (fun hHeld => ?_)
        · (try dsimp only); (first | exact S1 | exact cyy | exact cy4 | exact cy5 | exact cy6)
        clear hK9 K9
        try simp only [List.getElem_toArray, List.getElem_cons_succ, List.getElem_cons_zero, Act.put, List.setIfInBounds_toArray, List.set_cons_zero, List.set_cons_succ]
        refine wpAnyH_ready (rs := [17]) (by kernel_rfl) (by simp) ?_
        refine AllReadyH.cons rfl (fun K9 hK9 => ?_) ?_
        ·
          go_simp
          refine hK9.out _ _ ?_ (fun hHeld => ?_)
          · (try dsimp only); (first | exact S1 | exact cyy | exact cy4 | exact cy5 | exact cy6)
          clear hK9 K9
          try simp only [List.getElem_toArray, List.getElem_cons_succ, List.getElem_cons_zero, Act.put, List.setIfInBounds_toArray, List.set_cons_zero, List.set_cons_succ]
          refine wpAnyH_take (i := 18) (v := ?_) rfl (by kernel_rfl) (by kernel_rfl) (by kernel_rfl) (fun _ _ _ h => h) (Or.inl ⟨by rfl, ?_⟩) (by assumption) ?_
          rotate_left
          · intro w9 hSw; (try dsimp only at hSw); go_simp; try (with_reducible rfl)
          try simp only [List.getElem_toArray, List.getElem_cons_succ, List.getElem_cons_zero, Act.put, List.setIfInBounds_toArray, List.set_cons_zero, List.set_cons_succ]
          refine wpAnyH_ready (rs := [19]) (by kernel_rfl) (by simp) ?_
          refine AllReadyH.cons rfl (fun K9 hK9 => ?_) ?_
          ·
            go_simp
            refine hK9.out _ _ ?_ (fun hHeld => ?_)
            · (try dsimp only); (first | exact S1 | exact cyy | exact cy4 | exact cy5 | exact cy6)
            clear hK9 K9
            try simp only [List.getElem_toArray, List.getElem_cons_succ, List.getElem_cons_zero, Act.put, List.setIfInBounds_toArray, List.set_cons_zero, List.set_cons_succ]
            refine wpAnyH_done (by kernel_rfl) ?_ _
            refine NoPanic.normal ?_; exact HQ.out _ _ _ _ _ _ _ _ _ _ _ _ _ _ _ _ _ _ _ _ A5 c5 lo5 hi5 _ (by rw [List.length_append, HN2.out]; rfl) k5.out
          exact AllReadyH.nil
        exact AllReadyH.nil
      exact AllReadyH.nil
    exact AllReadyH.nil
  refine AllReadyH.cons rfl (fun K9 hK9 => ?_) ?_
  ·
    go_simp
    refine hpk.out.mono ?_; rintro e w4 ⟨v4, rfl, hv40, hv4, r4, t4⟩; obtain ⟨hwv, ch4, cyy, ch5, A5, c5, lo5, hi5, w5, hrun, e5, f5, cy4, cy5, cy6, k5⟩ := ARM.out w4 v4 r4 t4 hv40 hv4; clear r4 t4 hv40 hv4; try dsimp only
    refine hK9.out _ _ ?_ (fun hHeld => ?_)
    · (try dsimp only); (first | exact S1 | exact cyy | exact cy4 | exact cy5 | exact cy6)
    clear hK9 K9
    try simp only [List.getElem_toArray, List.getElem_cons_succ, List.getElem_cons_zero, Act.put, List.setIfInBounds_toArray, List.set_cons_zero, List.set_cons_succ]
    refine wpAnyH_take (i := 4) (v := ?_) rfl (by kernel_rfl) (by kernel_rfl) (by kernel_rfl) (fun _ _ _ h => h) (Or.inl ⟨by rfl, ?_⟩) (by assumption) ?_
    rotate_left
    · intro w9 hSw; (try dsimp only at hSw); go_simp; try (with_reducible rfl)
    try simp only [List.getElem_toArray, List.getElem_cons_succ, List.getElem_cons_zero, Act.put, List.setIfInBounds_toArray, List.set_cons_zero, List.set_cons_succ]
    refine wpAnyH_take (i := 15) (v := ?_) rfl (by kernel_rfl) (by kernel_rfl) (by kernel_rfl) (fun _ _ _ h => h) (Or.inl ⟨by rfl, ?_⟩) (by assumption) ?_
    rotate_left
    · intro w9 hSw; (try dsimp only at hSw); go_simp; try (with_reducible rfl)
    try simp only [List.getElem_toArray, List.getElem_cons_succ, List.getElem_cons_zero, Act.put, List.setIfInBounds_toArray, List.set_cons_zero, List.set_cons_succ]
    refine wpAnyH_ready (rs := [1, 16]) (by kernel_rfl) (by simp) ?_
    refine AllReadyH.cons rfl (fun K9 hK9 => ?_) ?_
    ·
      go_simp
      refine hK9.out _ _ ?_ (fun hHeld => ?_)
      · (try dsimp only); (first | exact S1 | exact cyy | exact cy4 | exact cy5 | exact cy6)
      clear hK9 K9
      try simp only [List.getElem_toArray, List.getElem_cons_succ, List.getElem_cons_zero, Act.put, List.setIfInBounds_toArray, List.set_cons_zero, List.set_cons_succ]
      refine wpAnyH_ready (rs := [16]) (by kernel_rfl) (by simp) ?_
      refine AllReadyH.cons rfl (fun K9 hK9 => ?_) ?_
      ·
        go_simp
        refine hK9.out _ _ ?_ (fun hHeld => ?_)
        · (try dsimp only); (first | exact S1 | exact cyy | exact cy4 | exact cy5 | exact cy6)
        clear hK9 K9
        try simp only [List.getElem_toArray, List.getElem_cons_succ, List.getElem_cons_zero, Act.put, List.setIfInBounds_toArray, List.set_cons_zero, List.set_cons_succ]
        refine wpAnyH_ready (rs := [17]) (by kernel_rfl) (by simp) ?_
        refine AllReadyH.cons rfl (fun K9 hK9 => ?_) ?_
        ·
          go_simp
          refine hK9.out _ _ ?_ (fun hHeld => ?_)
          · (try dsimp only); (first | exact S1 | exact cyy | exact cy4 | exact cy5 | exact cy6)
          clear hK9 K9
          try simp only [List.getElem_toArray, List.getElem_cons_succ, List.getElem_cons_zero, Act.put, List.setIfInBounds_toArray, List.set_cons_zero, List.set_cons_succ]
          refine wpAnyH_take (i := 18) (v := ?_) rfl (by kernel_rfl) (by kernel_rfl) (by kernel_rfl) (fun _ _ _ h => h) (Or.inl ⟨by rfl, ?_⟩) (by assumption) ?_
          rotate_left
          · intro w9 hSw; (try dsimp only at hSw); go_simp; try (with_reducible rfl)
          try simp only [List.getElem_toArray, List.getElem_cons_succ, List.getElem_cons_zero, Act.put, List.setIfInBounds_toArray, List.set_cons_zero, List.set_cons_succ]
          refine wpAnyH_ready (rs := [19]) (by kernel_rfl) (by simp) ?_
          refine AllReadyH.cons rfl (fun K9 hK9 => ?_) ?_
          ·
            go_simp
            refine hK9.out _ _ ?_ (fun hHeld => ?_)
            · (try dsimp only); (first | exact S1 | exact cyy | exact cy4 | exact cy5 | exact cy6)
            clear hK9 K9
            try simp only [List.getElem_toArray, List.getElem_cons_succ, List.getElem_cons_zero, Act.put, List.setIfInBounds_toArray, List.set_cons_zero, List.set_cons_succ]
            refine wpAnyH_done (by kernel_rfl) ?_ _
            refine NoPanic.normal ?_; exact HQ.out _ _ _ _ _ _ _ _ _ _ _ _ _ _ _ _ _ _ _ _ A5 c5 lo5 hi5 _ (by rw [List.length_append, HN2.out]; rfl) k5.out
          exact AllReadyH.nil
        exact AllReadyH.nil
      exact AllReadyH.nil
    refine AllReadyH.cons rfl (fun K9 hK9 => ?_) ?_
    ·
      go_simp
      refine hK9.out _ _ ?_ (fun hHeld => ?_)
      · (try dsimp only); (first | exact S1 | exact cyy | exact cy4 | exact cy5 | exact cy6)
      clear hK9 K9
      try simp only [List.getElem_toArray, List.getElem_cons_succ, List.getElem_cons_zero, Act.put, List.setIfInBounds_toArray, List.set_cons_zero, List.set_cons_succ]
      refine wpAnyH_ready (rs := [1]) (by kernel_rfl) (by simp) ?_
      refine AllReadyH.cons rfl (fun K9 hK9 => ?_) ?_
      ·
        go_simp
        refine hK9.out _ _ ?_ (fun hHeld => ?_)
        · (try dsimp only); (first | exact S1 | exact cyy | exact cy4 | exact cy5 | exact cy6)
        clear hK9 K9
        try simp only [List.getElem_toArray, List.getElem_cons_succ, List.getElem_cons_zero, Act.put, List.setIfInBounds_toArray, List.set_cons_zero, List.set_cons_succ]
        refine wpAnyH_ready (rs := [17]) (by kernel_rfl) (by simp) ?_
        refine AllReadyH.cons rfl (fun K9 hK9 => ?_) ?_
        ·
          go_simp
          refine hK9.out _ _ ?_ (fun hHeld => ?_)
          · (try dsimp only); (first | exact S1 | exact cyy | exact cy4 | exact cy5 | exact cy6)
          clear hK9 K9
          try simp only [List.getElem_toArray, List.getElem_cons_succ, List.getElem_cons_zero, Act.put, List.setIfInBounds_toArray, List.set_cons_zero, List.set_cons_succ]
          refine wpAnyH_take (i := 18) (v := ?_) rfl (by kernel_rfl) (by kernel_rfl) (by kernel_rfl) (fun _ _ _ h => h) (Or.inl ⟨by rfl, ?_⟩) (by assumption) ?_
          rotate_left
          · intro w9 hSw; (try dsimp only at hSw); go_simp; try (with_reducible rfl)
          try simp only [List.getElem_toArray, List.getElem_cons_succ, List.getElem_cons_zero, Act.put, List.setIfInBounds_toArray, List.set_cons_zero, List.set_cons_succ]
          refine wpAnyH_ready (rs := [19]) (by kernel_rfl) (by simp) ?_
          refine AllReadyH.cons rfl (fun K9 hK9 => ?_) ?_
          ·
            go_simp
            refine hK9.out _ _ ?_ (fun hHeld => ?_)
            · (try dsimp only); (first | exact S1 | exact cyy | exact cy4 | exact cy5 | exact cy6)
            clear hK9 K9
            try simp only [List.getElem_toArray, List.getElem_cons_succ, List.getElem_cons_zero, Act.put, List.setIfInBounds_toArray, List.set_cons_zero, List.set_cons_succ]
            refine wpAnyH_done (by kernel_rfl) ?_ _
            refine NoPanic.normal ?_; exact HQ.out _ _ _ _ _ _ _ _ _ _ _ _ _ _ _ _ _ _ _ _ A5 c5 lo5 hi5 _ (by rw [List.length_append, HN2.out]; rfl) k5.out
          exact AllReadyH.nil
        exact AllReadyH.nil
      exact AllReadyH.nil
    exact AllReadyH.nil
  exact AllReadyH.nil
set_option maxRecDepth 1000000 in
set_option maxHeartbeats 8000000 in
theorem reg14 {w W : World} {N g mm lop hip cp loi hii ci n2 q : Nat} {Ap Ai : Option Addr} {ps : List Prt} {ys : List Int} {Q : Exit → Act → World → Prop} {t1 t2 t3 t4 t7 t8 t10 t11 t12 t13 t14 t15 t16 t17 t18 t19 t20 t21 t22 t23 t24 t25 t26 t27 t28 t29 t30 t31 t32 t33 t34 t35 t36 t37 t38 t39 t40 t41 t42 t43 t44 t45 t46 t47 t48 t49 t50 t51 t52 t53 t54 t55 t56 t57 t58 t59 t60 t61 t62 t63 t64 t65 t66 t67 t68 t69 t70 t71 t72 t73 t74 t75 t76 t77 t78 t79 t80 t81 t82 t83 t84 t85 t86 t87 t88 t89 t90 t91 t92 t93 t94 t95 t96 t97 t98 t99 t100 t101 t102 t103 t104 t105 t106 t107 t108 t109 t110 t111 t112 t113 t114 t115 t116 t117 t118 t119 t120 t121 t122 t123 t124 t125 t126 t127 t128 t129 t130 t131 t132 t133 t134 t135 t136 t137 t138 t139 t140 t141 t142 t143 t144 t145 t146 t147 t148 t149 t150 t151 t152 t153 t154 t155 t156 t157 t158 t159 t160 t161 t162 : Value}
    {a : Nat} (hn2 : ps.length = n2 + 1) (hak : a + 3 = q) (hyq : ys.length = q) (hq9 : q ≤ 1000) (hnb : n2 ≤ 1000) (hmm : mm ≤ 900000)
    (K0 : GI w N g mm W lop hip Ap cp ps loi hii Ai ci ys)
    (hQ : ∀ (u73 u74 u75 u76 u77 u78 u79 u80 u81 u82 : Value) (W' : World) (A6 : Option Addr) (c6 lo6 hi6 : Nat) (zs : List Int), zs.length = a + 1 → GI w N g mm W' lop hip Ap cp ps lo6 hi6 A6 c6 zs → Q .normal ⟨#[.pointer (some ⟨g, 0, none⟩), t1, t2, t3, t4, .pointer (some ⟨w.heap.size + 1, 0, none⟩), .slice A6 (a + 1) c6, t7, t8, .int .i64 q, t10, t11, t12, t13, t14, t15, t16, t17, t18, t19, t20, t21, t22, t23, t24, t25, t26, t27, t28, t29, t30, t31, t32, t33, t34, t35, t36, t37, t38, t39, t40, t41, t42, t43, t44, t45, t46, t47, t48, t49, t50, t51, t52, t53, t54, t55, t56, t57, t58, t59, t60, t61, t62, t63, t64, t65, t66, t67, t68, t69, t70, t71, t72, u73, u74, u75, u76, u77, u78, u79, u80, u81, u82, t83, t84, t85, t86, t87, t88, t89, t90, t91, t92, t93, t94, t95, t96, t97, t98, t99, t100, t101, t102, t103, t104, t105, t106, t107, t108, t109, t110, t111, t112, t113, t114, t115, t116, t117, t118, t119, t120, t121, t122, t123, t124, t125, t126, t127, t128, t129, t130, t131, t132, t133, t134, t135, t136, t137, t138, t139, t140, t141, t142, t143, t144, t145, t146, t147, t148, t149, t150, t151, t152, t153, t154, t155, t156, t157, t158, t159, t160, t161, t162], []⟩ W') :
    Code.wp Try.prog (regionAt 14) Q ⟨#[.pointer (some ⟨g, 0, none⟩), t1, t2, t3, t4, .pointer (some ⟨w.heap.size + 1, 0, none⟩), .slice Ai q ci, t7, t8, .int .i64 q, t10, t11, t12, t13, t14, t15, t16, t17, t18, t19, t20, t21, t22, t23, t24, t25, t26, t27, t28, t29, t30, t31, t32, t33, t34, t35, t36, t37, t38, t39, t40, t41, t42, t43, t44, t45, t46, t47, t48, t49, t50, t51, t52, t53, t54, t55, t56, t57, t58, t59, t60, t61, t62, t63, t64, t65, t66, t67, t68, t69, t70, t71, t72, t73, t74, t75, t76, t77, t78, t79, t80, t81, t82, t83, t84, t85, t86, t87, t88, t89, t90, t91, t92, t93, t94, t95, t96, t97, t98, t99, t100, t101, t102, t103, t104, t105, t106, t107, t108, t109, t110, t111, t112, t113, t114, t115, t116, t117, t118, t119, t120, t121, t122, t123, t124, t125, t126, t127, t128, t129, t130, t131, t132, t133, t134, t135, t136, t137, t138, t139, t140, t141, t142, t143, t144, t145, t146, t147, t148, t149, t150, t151, t152, t153, t154, t155, t156, t157, t158, t159, t160, t161, t162], []⟩ W := by
  have hw : IntKind.i64.wrap ((q : Int) - 3) = (a : Int) := by rw [show (q : Int) - 3 = (a : Int) by omega]; exact IntWalk.i64_in _ (by omega)
  obtain ⟨ad, hAd, _, _⟩ := K0.si.rd.at_ (k := a) (by omega)
  subst hAd
  have hle := K0.si.le
  have hl : (0 : Int) ≤ (a : Int) := by omega
  have hr : (a : Int) ≤ (ci : Int) := by omega
  have hcut : SlI W loi hii (some ad) ci (ys.take a) := K0.si.take (by omega)
  have hct : (ys.take a).length = a := by rw [List.length_take]; omega
  obtain ⟨n3, hn3⟩ : ∃ n3, n2 + 1 = n3 := ⟨_, rfl⟩
  rw [hn3] at hn2
  have hwn : IntKind.i64.wrap ((n3 : Int) - 1) = (n2 : Int) := by rw [show (n3 : Int) - 1 = (n2 : Int) by omega]; exact IntWalk.i64_in _ (by omega)
  have K := Lib.hid K0; have HN2 := Lib.hid hn2; have HYQ := Lib.hid hyq; have HQ := Lib.hid hQ
  have c1 := K0.head hn2
  clear K0 hQ
  have KA := Lib.hid (show GI w N g _ (W.alloc (.cells #[.int .i64 (n2 : Int)] 3)).drew _ _ _ _ _ _ _ _ _ _ from (K.out.alloc _).drew)
  obtain ⟨A6, c6, lo6, hi6, w6, hrun, s6, d6, t6⟩ := run_appI1 (w := (W.alloc (.cells #[.int .i64 (n2 : Int)] 3)).drew) 38 (ys.take a) (n2 : Int) hct ((hcut.alloc _).drewN 1) (Blk.new _ _ _).drew (by omega)
  have k6 := Lib.hid (KA.out.putI s6 d6 t6)
  have hzl := Lib.hid (show (ys.take a ++ [(n2 : Int)]).length = a + 1 from by rw [List.length_append, hct]; rfl)
  clear s6 d6 t6 KA hcut hct hn3 hn2 hyq hle hak hq9 hmm hnb
  conv => arg 2; whnf
  refine wp_region_noPanic ?_
  go_region
  refine NoPanic.normal ?_; exact HQ.out _ _ _ _ _ _ _ _ _ _ _ A6 c6 lo6 hi6 _ hzl.out k6.out
set_option maxRecDepth 1000000 in
set_option maxHeartbeats 8000000 in
theorem reg17 {w W : World} {N g mm lop hip cp loi hii ci n2 q : Nat} {Ap Ai : Option Addr} {ps : List Prt} {ys : List Int} {Q : Exit → Act → World → Prop} {t1 t2 t3 t4 t7 t8 t10 t11 t12 t13 t14 t15 t16 t17 t18 t19 t20 t21 t22 t23 t24 t25 t26 t27 t28 t29 t30 t31 t32 t33 t34 t35 t36 t37 t38 t39 t40 t41 t42 t43 t44 t45 t46 t47 t48 t49 t50 t51 t52 t53 t54 t55 t56 t57 t58 t59 t60 t61 t62 t63 t64 t65 t66 t67 t68 t69 t70 t71 t72 t73 t74 t75 t76 t77 t78 t79 t80 t81 t82 t83 t84 t85 t86 t87 t88 t89 t90 t91 t92 t93 t94 t95 t96 t97 t98 t99 t100 t101 t102 t103 t104 t105 t106 t107 t108 t109 t110 t111 t112 t113 t114 t115 t116 t117 t118 t119 t120 t121 t122 t123 t124 t125 t126 t127 t128 t129 t130 t131 t132 t133 t134 t135 t136 t137 t138 t139 t140 t141 t142 t143 t144 t145 t146 t147 t148 t149 t150 t151 t152 t153 t154 t155 t156 t157 t158 t159 t160 t161 t162 : Value}
    {a : Nat} (hn2 : ps.length = n2 + 1) (hak : a + 2 = q) (hyq : ys.length = q) (hq9 : q ≤ 1000) (hnb : n2 ≤ 1000) (hmm : mm ≤ 900000)
    (K0 : GI w N g mm W lop hip Ap cp ps loi hii Ai ci ys)
    (hQ : ∀ (u110 u111 u112 u113 u114 u115 u116 u117 u118 u119 : Value) (W' : World) (A6 : Option Addr) (c6 lo6 hi6 : Nat) (zs : List Int), zs.length = a + 1 → GI w N g mm W' lop hip Ap cp ps lo6 hi6 A6 c6 zs → Q .normal ⟨#[.pointer (some ⟨g, 0, none⟩), t1, t2, t3, t4, .pointer (some ⟨w.heap.size + 1, 0, none⟩), .slice A6 (a + 1) c6, t7, t8, .int .i64 q, t10, t11, t12, t13, t14, t15, t16, t17, t18, t19, t20, t21, t22, t23, t24, t25, t26, t27, t28, t29, t30, t31, t32, t33, t34, t35, t36, t37, t38, t39, t40, t41, t42, t43, t44, t45, t46, t47, t48, t49, t50, t51, t52, t53, t54, t55, t56, t57, t58, t59, t60, t61, t62, t63, t64, t65, t66, t67, t68, t69, t70, t71, t72, t73, t74, t75, t76, t77, t78, t79, t80, t81, t82, t83, t84, t85, t86, t87, t88, t89, t90, t91, t92, t93, t94, t95, t96, t97, t98, t99, t100, t101, t102, t103, t104, t105, t106, t107, t108, t109, u110, u111, u112, u113, u114, u115, u116, u117, u118, u119, t120, t121, t122, t123, t124, t125, t126, t127, t128, t129, t130, t131, t132, t133, t134, t135, t136, t137, t138, t139, t140, t141, t142, t143, t144, t145, t146, t147, t148, t149, t150, t151, t152, t153, t154, t155, t156, t157, t158, t159, t160, t161, t162], []⟩ W') :
    Code.wp Try.prog (regionAt 17) Q ⟨#[.pointer (some ⟨g, 0, none⟩), t1, t2, t3, t4, .pointer (some ⟨w.heap.size + 1, 0, none⟩), .slice Ai q ci, t7, t8, .int .i64 q, t10, t11, t12, t13, t14, t15, t16, t17, t18, t19, t20, t21, t22, t23, t24, t25, t26, t27, t28, t29, t30, t31, t32, t33, t34, t35, t36, t37, t38, t39, t40, t41, t42, t43, t44, t45, t46, t47, t48, t49, t50, t51, t52, t53, t54, t55, t56, t57, t58, t59, t60, t61, t62, t63, t64, t65, t66, t67, t68, t69, t70, t71, t72, t73, t74, t75, t76, t77, t78, t79, t80, t81, t82, t83, t84, t85, t86, t87, t88, t89, t90, t91, t92, t93, t94, t95, t96, t97, t98, t99, t100, t101, t102, t103, t104, t105, t106, t107, t108, t109, t110, t111, t112, t113, t114, t115, t116, t117, t118, t119, t120, t121, t122, t123, t124, t125, t126, t127, t128, t129, t130, t131, t132, t133, t134, t135, t136, t137, t138, t139, t140, t141, t142, t143, t144, t145, t146, t147, t148, t149, t150, t151, t152, t153, t154, t155, t156, t157, t158, t159, t160, t161, t162], []⟩ W := by
  have hw : IntKind.i64.wrap ((q : Int) - 2) = (a : Int) := by rw [show (q : Int) - 2 = (a : Int) by omega]; exact IntWalk.i64_in _ (by omega)
  obtain ⟨ad, hAd, _, _⟩ := K0.si.rd.at_ (k := a) (by omega)
  subst hAd
  have hle := K0.si.le
  have hl : (0 : Int) ≤ (a : Int) := by omega
  have hr : (a : Int) ≤ (ci : Int) := by omega
  have hcut : SlI W loi hii (some ad) ci (ys.take a) := K0.si.take (by omega)
  have hct : (ys.take a).length = a := by rw [List.length_take]; omega
  obtain ⟨n3, hn3⟩ : ∃ n3, n2 + 1 = n3 := ⟨_, rfl⟩
  rw [hn3] at hn2
  have hwn : IntKind.i64.wrap ((n3 : Int) - 1) = (n2 : Int) := by rw [show (n3 : Int) - 1 = (n2 : Int) by omega]; exact IntWalk.i64_in _ (by omega)
  have K := Lib.hid K0; have HN2 := Lib.hid hn2; have HYQ := Lib.hid hyq; have HQ := Lib.hid hQ
  have c1 := K0.head hn2
  clear K0 hQ
  have KA := Lib.hid (show GI w N g _ (W.alloc (.cells #[.int .i64 (n2 : Int)] 3)).drew _ _ _ _ _ _ _ _ _ _ from (K.out.alloc _).drew)
  obtain ⟨A6, c6, lo6, hi6, w6, hrun, s6, d6, t6⟩ := run_appI1 (w := (W.alloc (.cells #[.int .i64 (n2 : Int)] 3)).drew) 38 (ys.take a) (n2 : Int) hct ((hcut.alloc _).drewN 1) (Blk.new _ _ _).drew (by omega)
  have k6 := Lib.hid (KA.out.putI s6 d6 t6)
  have hzl := Lib.hid (show (ys.take a ++ [(n2 : Int)]).length = a + 1 from by rw [List.length_append, hct]; rfl)
  clear s6 d6 t6 KA hcut hct hn3 hn2 hyq hle hak hq9 hmm hnb
  conv => arg 2; whnf
  refine wp_region_noPanic ?_
  go_region
  refine NoPanic.normal ?_; exact HQ.out _ _ _ _ _ _ _ _ _ _ _ A6 c6 lo6 hi6 _ hzl.out k6.out
set_option maxRecDepth 1000000 in
set_option maxHeartbeats 8000000 in
theorem reg21 {w W : World} {N g mm lop hip cp loi hii ci n2 q : Nat} {Ap Ai : Option Addr} {ps : List Prt} {ys : List Int} {Q : Exit → Act → World → Prop} {t1 t2 t3 t4 t7 t8 t9 t11 t12 t13 t14 t15 t16 t17 t18 t19 t20 t21 t22 t23 t24 t25 t26 t27 t28 t29 t30 t31 t32 t33 t34 t35 t36 t37 t38 t39 t40 t41 t42 t43 t44 t45 t46 t47 t48 t49 t50 t51 t52 t53 t54 t55 t56 t57 t58 t59 t60 t61 t62 t63 t64 t65 t66 t67 t68 t69 t70 t71 t72 t73 t74 t75 t76 t77 t78 t79 t80 t81 t82 t83 t84 t85 t86 t87 t88 t89 t90 t91 t92 t93 t94 t95 t96 t97 t98 t99 t100 t101 t102 t103 t104 t105 t106 t107 t108 t109 t110 t111 t112 t113 t114 t115 t116 t117 t118 t119 t120 t121 t122 t123 t124 t125 t126 t127 t128 t129 t130 t131 t132 t133 t134 t135 t136 t137 t138 t139 t140 t141 t142 t143 t144 t145 t146 t147 t148 t149 t150 t151 t152 t153 t154 t155 t156 t157 t158 t159 t160 t161 t162 : Value}
    {a : Nat} (hn2 : ps.length = n2 + 1) (hak : a + 2 = q) (hyq : ys.length = q) (hq9 : q ≤ 1000) (hnb : n2 ≤ 1000) (hmm : mm ≤ 900000)
    (K0 : GI w N g mm W lop hip Ap cp ps loi hii Ai ci ys)
    (hQ : ∀ (u144 u145 u146 u147 u148 u149 u150 u151 u152 u153 : Value) (W' : World) (A6 : Option Addr) (c6 lo6 hi6 : Nat) (zs : List Int), zs.length = a + 1 → GI w N g mm W' lop hip Ap cp ps lo6 hi6 A6 c6 zs → Q .normal ⟨#[.pointer (some ⟨g, 0, none⟩), t1, t2, t3, t4, .pointer (some ⟨w.heap.size + 1, 0, none⟩), .slice A6 (a + 1) c6, t7, t8, t9, .int .i64 q, t11, t12, t13, t14, t15, t16, t17, t18, t19, t20, t21, t22, t23, t24, t25, t26, t27, t28, t29, t30, t31, t32, t33, t34, t35, t36, t37, t38, t39, t40, t41, t42, t43, t44, t45, t46, t47, t48, t49, t50, t51, t52, t53, t54, t55, t56, t57, t58, t59, t60, t61, t62, t63, t64, t65, t66, t67, t68, t69, t70, t71, t72, t73, t74, t75, t76, t77, t78, t79, t80, t81, t82, t83, t84, t85, t86, t87, t88, t89, t90, t91, t92, t93, t94, t95, t96, t97, t98, t99, t100, t101, t102, t103, t104, t105, t106, t107, t108, t109, t110, t111, t112, t113, t114, t115, t116, t117, t118, t119, t120, t121, t122, t123, t124, t125, t126, t127, t128, t129, t130, t131, t132, t133, t134, t135, t136, t137, t138, t139, t140, t141, t142, t143, u144, u145, u146, u147, u148, u149, u150, u151, u152, u153, t154, t155, t156, t157, t158, t159, t160, t161, t162], []⟩ W') :
    Code.wp Try.prog (regionAt 21) Q ⟨#[.pointer (some ⟨g, 0, none⟩), t1, t2, t3, t4, .pointer (some ⟨w.heap.size + 1, 0, none⟩), .slice Ai q ci, t7, t8, t9, .int .i64 q, t11, t12, t13, t14, t15, t16, t17, t18, t19, t20, t21, t22, t23, t24, t25, t26, t27, t28, t29, t30, t31, t32, t33, t34, t35, t36, t37, t38, t39, t40, t41, t42, t43, t44, t45, t46, t47, t48, t49, t50, t51, t52, t53, t54, t55, t56, t57, t58, t59, t60, t61, t62, t63, t64, t65, t66, t67, t68, t69, t70, t71, t72, t73, t74, t75, t76, t77, t78, t79, t80, t81, t82, t83, t84, t85, t86, t87, t88, t89, t90, t91, t92, t93, t94, t95, t96, t97, t98, t99, t100, t101, t102, t103, t104, t105, t106, t107, t108, t109, t110, t111, t112, t113, t114, t115, t116, t117, t118, t119, t120, t121, t122, t123, t124, t125, t126, t127, t128, t129, t130, t131, t132, t133, t134, t135, t136, t137, t138, t139, t140, t141, t142, t143, t144, t145, t146, t147, t148, t149, t150, t151, t152, t153, t154, t155, t156, t157, t158, t159, t160, t161, t162], []⟩ W := by
  have hw : IntKind.i64.wrap ((q : Int) - 2) = (a : Int) := by rw [show (q : Int) - 2 = (a : Int) by omega]; exact IntWalk.i64_in _ (by omega)
  obtain ⟨ad, hAd, _, _⟩ := K0.si.rd.at_ (k := a) (by omega)
  subst hAd
  have hle := K0.si.le
  have hl : (0 : Int) ≤ (a : Int) := by omega
  have hr : (a : Int) ≤ (ci : Int) := by omega
  have hcut : SlI W loi hii (some ad) ci (ys.take a) := K0.si.take (by omega)
  have hct : (ys.take a).length = a := by rw [List.length_take]; omega
  obtain ⟨n3, hn3⟩ : ∃ n3, n2 + 1 = n3 := ⟨_, rfl⟩
  rw [hn3] at hn2
  have hwn : IntKind.i64.wrap ((n3 : Int) - 1) = (n2 : Int) := by rw [show (n3 : Int) - 1 = (n2 : Int) by omega]; exact IntWalk.i64_in _ (by omega)
  have K := Lib.hid K0; have HN2 := Lib.hid hn2; have HYQ := Lib.hid hyq; have HQ := Lib.hid hQ
  have c1 := K0.head hn2
  clear K0 hQ
  have KA := Lib.hid (show GI w N g _ (W.alloc (.cells #[.int .i64 (n2 : Int)] 3)).drew _ _ _ _ _ _ _ _ _ _ from (K.out.alloc _).drew)
  obtain ⟨A6, c6, lo6, hi6, w6, hrun, s6, d6, t6⟩ := run_appI1 (w := (W.alloc (.cells #[.int .i64 (n2 : Int)] 3)).drew) 38 (ys.take a) (n2 : Int) hct ((hcut.alloc _).drewN 1) (Blk.new _ _ _).drew (by omega)
  have k6 := Lib.hid (KA.out.putI s6 d6 t6)
  have hzl := Lib.hid (show (ys.take a ++ [(n2 : Int)]).length = a + 1 from by rw [List.length_append, hct]; rfl)
  clear s6 d6 t6 KA hcut hct hn3 hn2 hyq hle hak hq9 hmm hnb
  conv => arg 2; whnf
  refine wp_region_noPanic ?_
  go_region
  refine NoPanic.normal ?_; exact HQ.out _ _ _ _ _ _ _ _ _ _ _ A6 c6 lo6 hi6 _ hzl.out k6.out
end Go.Proofs.Ytlinngohbghimaa
