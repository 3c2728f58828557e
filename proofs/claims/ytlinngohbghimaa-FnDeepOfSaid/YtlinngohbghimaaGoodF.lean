/-
  spec.goodFormula: a drawn formula.
-/
import Derived.Test.YtlinngohbghimaaGoodR
import Derived.Deep.RegionWith
import Derived.Deep.RegionHeld3
import Derived.Deep.DeepCutAuto
import Derived.Deep.CutBlock
import Derived.Deep.CutRange
import Derived.Deep.LoopGhost
namespace Go.Proofs.Ytlinngohbghimaa
open Go.RowKit
attribute [-go_sem] Builtin.append_
set_option linter.unusedVariables false

theorem GI.fin {w wx : World} {N g m lop hip cp loi hii ci : Nat} {Ap Ai : Option Addr} {ps : List Prt} {xs : List Int} (h : GI w N g m wx lop hip Ap cp ps loi hii Ai ci xs) {lo hi c : Nat} {A : Option Addr} {qs : List Prt}
    (s : SlP wx lo hi A c qs) (h1 : w.heap.size + 1 ≤ lo) (h2 : hi ≤ wx.heap.size) (u : Value) :
    SlP (wx.setCell ⟨w.heap.size, 0, none⟩ u) w.heap.size (wx.setCell ⟨w.heap.size, 0, none⟩ u).heap.size A c qs ∧ Rdr (wx.setCell ⟨w.heap.size, 0, none⟩ u) N g m ∧ Turn g (g + 1) w (wx.setCell ⟨w.heap.size, 0, none⟩ u) := by
  have t2 : Turn w.heap.size (w.heap.size + 1) wx (wx.setCell ⟨w.heap.size, 0, none⟩ u) := (Turn.refl _ _ wx).setCell (p := ⟨w.heap.size, 0, none⟩) (Nat.le_refl _) (.inl (Nat.lt_succ_self _)) _
  have := h.gw
  exact ⟨(s.turn t2 (.inr h1)).mono (by omega) (Nat.le_trans h2 t2.size), h.rd.turn t2 (by omega), h.tn.new t2 (Nat.le_refl _)⟩
def lenV : Value → Nat
  | .slice _ n _ => n
  | _ => 0
/-- a drawn formula of one part or more -/
def DrawF (N g m L : Nat) (w : World) (e : Ending) (w' : World) : Prop :=
  ∃ (A : Option Addr) (c : Nat) (ps : List Prt), e = .returned (.agg #[.slice A ps.length c]) ∧ 1 ≤ ps.length ∧ ps.length ≤ L ∧ SlP w' w.heap.size w'.heap.size A c ps ∧ Rdr w' N g m ∧ Turn g (g + 1) w w'

set_option maxRecDepth 100000 in
set_option maxHeartbeats 20000000 in
theorem goodFormula {A0 : Option Addr} {c0 lon hin N g m : Nat} {w : World} (ns : List Int) (hpos : 0 < ns.length) (hn : ns.length ≤ 1000000) (hm : m ≤ 800000) (h : Rdr w N g m) (ho : SlI w lon hin A0 c0 ns) (hlo : g < lon) :
    Calls Try.prog 62 #[.pointer (some ⟨g, 0, none⟩), .slice A0 ns.length c0] w (DrawF N g (m + 60) 20 w) := by
  have hg := h.lt
  have H0 := Lib.hid h; clear h
  have NSW := Lib.hid (fun (W : World) (t : Turn g (g + 1) w W) => (show SlI W lon hin A0 c0 ns from ho.turn t (.inr (by omega)))); clear ho
  have G0 := Lib.hid (show GI w N g m ((((w.alloc (.cells #[.slice none 0 0] 29)).alloc (.cells #[.slice none 0 0] 29)).alloc (.cells #[] 3)).alloc (.cells (ints [3, 4, 5, 6, 2, 1]).toArray 3)) (w.heap.size + 2) (w.heap.size + 2) none 0 [] (w.heap.size + 2) (w.heap.size + 3) (some ⟨w.heap.size + 2, 0, none⟩) 0 [] from GI.alloc (
    { sp := SlR.nil, si := SlI.newAt (w := ((w.alloc (.cells #[.slice none 0 0] 29)).alloc (.cells #[.slice none 0 0] 29))) (w.heap.size + 2) (by simp) [] (Nat.le_refl _), bf := (Blk.new (w.alloc (.cells #[.slice none 0 0] 29)) 29 #[.slice none 0 0] |> fun b => (by rw [World.size_alloc] at b; exact b.alloc _)), br := ((Blk.new w 29 #[.slice none 0 0]).alloc _).alloc _,
      rd := ((H0.out.below ((Below.refl w.heap.size w).alloc (Nat.le_refl _) _) hg).below ((Below.refl _ _).alloc (Nat.le_refl _) _) (by simp; omega)).below ((Below.refl _ _).alloc (Nat.le_refl _) _) (by simp; omega), tn := (((Turn.refl g (g + 1) w).alloc _).alloc _).alloc _, gw := hg, l1 := Nat.le_refl _, l2 := Nat.le_refl _, l3 := by simp, l4 := by simp, l5 := by simp, l6 := by simp, ap := .inl (Nat.le_refl _) }) _)
  have O4 := Lib.hid (SlI.newAt (lo := w.heap.size) (w := (((w.alloc (.cells #[.slice none 0 0] 29)).alloc (.cells #[.slice none 0 0] 29)).alloc (.cells #[] 3))) (w.heap.size + 3) (by simp) [3, 4, 5, 6, 2, 1] (by omega))
  clear H0
  go_enter Try.func62, Try.ntmps62
  go_wp2_with fail
  refine (one (n := 6) [3, 4, 5, 6, 2, 1] rfl (by omega) (by omega) N g m (by omega) G0.out.rd O4.out hg).mono ?_
  rintro e w1 ⟨q, hq, rfl, r1, t1⟩
  have hq2 : 0 ≤ q ∧ q ≤ 6 := by simp at hq; omega
  obtain ⟨hq0, hq1⟩ := hq2
  obtain ⟨q, rfl⟩ := Int.eq_ofNat_of_zero_le hq0
  have G1 := Lib.hid (G0.out.pick r1 t1)
  clear r1 t1 hq G0 O4 hq0
  go_wp2_with fail
  go_loopw [6, 7] (fun v i wr => ∃ (j m' lop hip : Nat) (Ap : Option Addr) (cp : Nat) (ps : List Prt) (loi hii : Nat) (Ai : Option Addr) (ci : Nat) (xs : List Int), j ≤ 6 ∧ m' + 6 * j ≤ m + 40 ∧ i = .int .i64 j ∧ v = .slice Ai xs.length ci ∧ xs.length + j ≤ 6 ∧ ps.length + 2 * j ≤ 12 ∧ GI w N g m' wr lop hip Ap cp ps loi hii Ai ci xs) (fun _ i _ => (intOf i).toNat)
  case atStart => exact ⟨q, m + 1, _, _, none, 0, [], _, _, _, 0, [], by omega, by omega, rfl, rfl, by simp; omega, by simp; omega, G1.out⟩
  case round =>
    clear G1 hq1
    obtain ⟨j, m', lop, hip, Ap, cp, ps, loi, hii, Ai, ci, xs, hj, hm', rfl, rfl, hxl, hpl, hgi⟩ := hrel
    have K := Lib.hid hgi
    have hci := hgi.si.le
    by_cases hj0 : 0 < j
    case pos =>
      have c1 := hgi.bf.cell 0
      clear hgi hci
      go_wp2_with fail
      refine (readPartOf ns N g m' hpos hn (by omega) K.out.rd (NSW.out _ K.out.tn) hlo).mono ?_; rintro e w3 ⟨x, rfl, r3, t3⟩
      have K3 := Lib.hid (K.out.pick r3 t3)
      obtain ⟨kd, pa, pb, pc, nn⟩ := x
      dsimp only [vP]
      clear r3 t3 K c1
      go_wp2_with fail
      have K4 := Lib.hid (show GI w N g (m' + 1) (w3.alloc (.cells #[.int .i64 kd, .int .i64 pa, .int .i64 pb, .int .i64 pc, .int .i64 nn] 50)) lop hip Ap cp ps loi hii Ai ci xs from K3.out.alloc _)
      have P4 := Lib.hid (show Blk (w3.alloc (.cells #[.int .i64 kd, .int .i64 pa, .int .i64 pb, .int .i64 pc, .int .i64 nn] 50)) w3.heap.size 50 (ints (cP ⟨kd, pa, pb, pc, nn⟩)).toArray from Blk.new _ _ _)
      have hz3 : w.heap.size + 2 ≤ w3.heap.size := by have := K3.out.l1; have := K3.out.l3; omega
      have hp3 := K3.out.l5; have hi3 := K3.out.l6
      refine (pick _ N g (m' + 1) _ (by omega) K4.out.rd).mono ?_; rintro e w5 ⟨v, rfl, hv0, hv, r5, t5⟩
      have K5 := Lib.hid (K4.out.pick r5 t5)
      have P5 := Lib.hid (t5.blk P4.out (.inr (by omega)))
      have hz5 : w3.heap.size < w5.heap.size := P5.out.lt
      clear r5 t5 K3 K4 P4
      go_upto_if 25 with fail
      go_cut [6] from 16 to 119 (fun s6 wx => s6 = .slice Ai xs.length ci ∧ ∃ x : Prt, Blk wx w3.heap.size 50 (ints (cP x)).toArray ∧ GI w N g (m' + 3) wx lop hip Ap cp ps loi hii Ai ci xs)
      case first =>
        by_cases hv1 : v = 0
        · subst hv1
          clear hv hv0
          have K6 := Lib.hid (K5.out.alloc (.cells (ints [0, 1, 2, 5, 99, 10]).toArray 3))
          have O6 := Lib.hid (SlI.newAt (lo := w.heap.size) (w := w5) w5.heap.size rfl [0, 1, 2, 5, 99, 10] (by omega))
          have P6 := Lib.hid (P5.out.alloc (.cells (ints [0, 1, 2, 5, 99, 10]).toArray 3))
          clear K5 P5
          go_wp2_with fail
          refine (one (n := 6) [0, 1, 2, 5, 99, 10] rfl (by omega) (by omega) N g (m' + 1 + 1) (by omega) K6.out.rd O6.out hg).mono ?_
          rintro e w6 ⟨y, _, rfl, r6, t6⟩
          have K7 := Lib.hid (K6.out.pick r6 t6)
          have P7 := Lib.hid (t6.blk P6.out (.inr (by omega)))
          clear r6 t6 K6 P6 O6
          go_wp2_with fail
          refine (numberPart y).mono ?_; rintro e w7 ⟨rfl, b7⟩
          dsimp only [vP, numP]
          have K8 := Lib.hid (K7.out.below b7)
          have p8 := P7.out.below b7 P7.out.lt
          have f0 := p8.frozen 0; have f1 := p8.frozen 1; have f2 := p8.frozen 2; have f3 := p8.frozen 3; have f4 := p8.frozen 4
          have g0 : w7.cell? ⟨w3.heap.size, 0, none⟩ = some (.int .i64 kd) := p8.cell 0
          have g1 : w7.cell? ⟨w3.heap.size, 1, none⟩ = some (.int .i64 pa) := p8.cell 1
          have g2 : w7.cell? ⟨w3.heap.size, 2, none⟩ = some (.int .i64 pb) := p8.cell 2
          have g3 : w7.cell? ⟨w3.heap.size, 3, none⟩ = some (.int .i64 pc) := p8.cell 3
          have g4 : w7.cell? ⟨w3.heap.size, 4, none⟩ = some (.int .i64 nn) := p8.cell 4
          have P8 := Lib.hid p8
          clear b7 p8 K7 P7
          go_wp2_with fail
          go_meet
          refine ⟨rfl, ⟨0, -1, -1, -1, y⟩, ((((P8.out.set_ 0 (.int .i64 0)).set_ 1 (.int .i64 (-1))).set_ 2 (.int .i64 (-1))).set_ 3 (.int .i64 (-1))).set_ 4 (.int .i64 y), ?_⟩
          exact (((((K8.out.setFar (by omega) 0 _).setFar (by omega) 1 _).setFar (by omega) 2 _).setFar (by omega) 3 _).setFar (by omega) 4 _).more (by omega)
        · have hv1' : (v == 0) = false := by rw [beq_eq_false_iff_ne]; exact hv1
          go_wp2_with fail
          go_meet
          exact ⟨rfl, ⟨kd, pa, pb, pc, nn⟩, P5.out, K5.out.more (by omega)⟩
      case rest =>
      obtain ⟨rfl, ⟨kd, pa, pb, pc, nn⟩, hpx, hgx⟩ := hcut
      have K6 := Lib.hid hgx; have P6 := Lib.hid hpx
      have c1 := hgx.head rfl
      clear hgx hpx K5 P5 hz5 hv hv0
      go_upto_region 10 with (at_builtin; refine wpList_appIS (.tmp 30) (.tmp 34) rfl rfl xs [(ps.length : Int)] rfl rfl (K6.out.si.alloc _) rfl rfl (SlI.new wc [(ps.length : Int)] (lo := 0) (Nat.zero_le _)).rd (by simp; omega) ?_; intro A9 c9 lo9 hi9 w9 h9 d9 t9)
      have K9 := Lib.hid ((K6.out.alloc _).putI h9 d9 t9)
      have c9' := K9.out.head rfl
      have p9 := t9.blk (P6.out.alloc _) (by omega)
      have p0 : w9.cell? ⟨w3.heap.size, 0, none⟩ = some (.int .i64 kd) := p9.cell 0
      have p1 : w9.cell? ⟨w3.heap.size, 1, none⟩ = some (.int .i64 pa) := p9.cell 1
      have p2 : w9.cell? ⟨w3.heap.size, 2, none⟩ = some (.int .i64 pb) := p9.cell 2
      have p3 : w9.cell? ⟨w3.heap.size, 3, none⟩ = some (.int .i64 pc) := p9.cell 3
      have p4 : w9.cell? ⟨w3.heap.size, 4, none⟩ = some (.int .i64 nn) := p9.cell 4
      clear K6 P6 c1 h9 d9 t9 p9
      go_upto_region 11 with (at_builtin; refine wpList_appPS (.tmp 37) (.tmp 39) rfl rfl ps ⟨kd, pa, pb, pc, nn⟩ rfl rfl (K9.out.sp.alloc _) rfl (Blk.new _ _ _) (by omega) ?_; intro A10 c10 lo10 hi10 w10 h10 d10 t10; obtain ⟨b10, k10⟩ := (K9.out.alloc _).putP h10 (List.length_append.trans rfl) d10 t10; have c10' := b10.cell 0; have f10 := b10.frozen 0)
      obtain ⟨ps2, hps2⟩ : ∃ z, ps ++ [(⟨kd, pa, pb, pc, nn⟩ : Prt)] = z := ⟨_, rfl⟩
      obtain ⟨ys, hys⟩ : ∃ z, xs ++ [(ps.length : Int)] = z := ⟨_, rfl⟩
      have hn2 : ps2.length = ps.length + 1 := by rw [← hps2]; simp
      have hyq : ys.length = xs.length + 1 := by rw [← hys]; simp
      simp only [List.length_cons, List.length_nil, Nat.zero_add] at k10
      rw [hps2, hys] at k10
      obtain ⟨n2, hn2'⟩ : ∃ n2, ps.length + 1 = n2 := ⟨_, rfl⟩
      obtain ⟨q, hq'⟩ : ∃ q, xs.length + 1 = q := ⟨_, rfl⟩
      rw [hn2'] at k10 hn2 ⊢
      rw [hq'] at hyq ⊢
      obtain ⟨W, hW⟩ : ∃ W, W = w10.setCell ⟨w.heap.size + 1, 0, none⟩ (.slice A10 n2 c10) := ⟨_, rfl⟩
      rw [← hW] at k10 ⊢
      have K := Lib.hid k10
      have c1 := k10.head hn2
      have HN2 := Lib.hid hn2; have HYQ := Lib.hid hyq
      have hjq : q + j ≤ 7 := by omega
      have hjn : n2 + 2 * j ≤ 13 := by omega
      have hmq : m' + 3 + 6 * (j - 1) + 3 ≤ m + 40 := by omega
      clear k10 hW hn2' hq' hps2 hys h10 d10 t10 b10 c10' f10 K9 c9' p0 p1 p2 p3 p4 hn2 hyq hxl hpl
      by_cases hq3 : 3 ≤ q
      case pos =>
        go_wp2_with fail
        refine (pick _ N g (m' + 3) _ (by omega) K.out.rd).mono ?_; rintro e w2 ⟨v2, rfl, hv0, hv, r2, t2⟩
        have K := Lib.hid (K.out.pick r2 t2)
        have c1 := K.out.head HN2.out
        obtain ⟨W, hW⟩ : ∃ W, W = w2 := ⟨_, rfl⟩; subst hW
        clear r2 t2
        by_cases hv2 : v2 = 0
        case pos =>
          subst hv2; clear hv hv0
          as_aux_lemma =>
            go_upto_region 13 with fail
            refine reg13 HN2.out (show 3 ≤ q by omega) HYQ.out (by omega) (by omega) (by omega) K.out ?_
            intro u52 u53 u54 u55 u56 u57 u58 u59 u60 u61 u62 u63 u64 u65 u66 u67 u68 u69 u70 u71 u72 W2 A5 c5 lo5 hi5 ps3 hn3 k5
            have K := Lib.hid k5; have HN3 := Lib.hid hn3
            clear c1 k5 hn3
            obtain ⟨a, ha⟩ : ∃ a, a + 3 = q := ⟨q - 3, by omega⟩
            dsimp only [Exit.then]
            go_upto_region 14 with fail
            refine reg14 (a := a) HN3.out ha HYQ.out (by omega) (by omega) (by omega) K.out ?_
            intro u73 u74 u75 u76 u77 u78 u79 u80 u81 u82 W3 A6 c6 lo6 hi6 zs hzs k6
            have K := Lib.hid k6; have HZ := Lib.hid hzs
            clear k6 hzs
            dsimp only [Exit.then]
            go_wp2_with fail
            go_roundw
            case rel => exact ⟨j - 1, _, lo5, hi5, A5, c5, ps3, lo6, hi6, A6, c6, zs, by omega, by omega, by go_num, by rw [HZ.out], by rw [HZ.out]; omega, by rw [HN3.out]; omega, K.out⟩
            case measure => simp [intOf]; omega
        case neg =>
          have hv2' : (v2 == 0) = false := by rw [beq_eq_false_iff_ne]; exact hv2
          go_wp2_with fail
          refine (pick _ N g (m' + 3 + 1) _ (by omega) K.out.rd).mono ?_; rintro e w2 ⟨v3, rfl, hv0, hv, r2, t2⟩
          have K := Lib.hid (K.out.pick r2 t2)
          have c1 := K.out.head HN2.out
          obtain ⟨W, hW⟩ : ∃ W, W = w2 := ⟨_, rfl⟩; subst hW
          clear r2 t2
          by_cases hv3 : v3 = 0
          case pos =>
            subst hv3; clear hv hv0
            as_aux_lemma =>
              go_upto_region 16 with fail
              refine reg16 HN2.out (show 2 ≤ q by omega) HYQ.out (by omega) (by omega) (by omega) K.out ?_
              intro u91 u92 u93 u94 u95 u96 u97 u98 u99 u100 u101 u102 u103 u104 u105 u106 u107 u108 u109 W2 A5 c5 lo5 hi5 ps3 hn3 k5
              have K := Lib.hid k5; have HN3 := Lib.hid hn3
              clear c1 k5 hn3
              obtain ⟨a, ha⟩ : ∃ a, a + 2 = q := ⟨q - 2, by omega⟩
              dsimp only [Exit.then]
              go_upto_region 17 with fail
              refine reg17 (a := a) HN3.out ha HYQ.out (by omega) (by omega) (by omega) K.out ?_
              intro u110 u111 u112 u113 u114 u115 u116 u117 u118 u119 W3 A6 c6 lo6 hi6 zs hzs k6
              have K := Lib.hid k6; have HZ := Lib.hid hzs
              clear k6 hzs
              dsimp only [Exit.then]
              go_wp2_with fail
              go_roundw
              case rel => exact ⟨j - 1, _, lo5, hi5, A5, c5, ps3, lo6, hi6, A6, c6, zs, by omega, by omega, by go_num, by rw [HZ.out], by rw [HZ.out]; omega, by rw [HN3.out]; omega, K.out⟩
              case measure => simp [intOf]; omega
          case neg =>
            have hv3' : (v3 == 0) = false := by rw [beq_eq_false_iff_ne]; exact hv3
            go_wp2_with fail
            go_roundw
            case rel => exact ⟨j - 1, _, lo10, hi10, A10, c10, ps2, lo9, hi9, A9, c9, ys, by omega, by omega, by go_num, by rw [HYQ.out], by rw [HYQ.out]; omega, by rw [HN2.out]; omega, K.out⟩
            case measure => simp [intOf]; omega
      case neg =>
        by_cases hq2 : 2 ≤ q
        case pos =>
          go_wp2_with fail
          refine (pick _ N g (m' + 3) _ (by omega) K.out.rd).mono ?_; rintro e w2 ⟨v3, rfl, hv0, hv, r2, t2⟩
          have K := Lib.hid (K.out.pick r2 t2)
          have c1 := K.out.head HN2.out
          obtain ⟨W, hW⟩ : ∃ W, W = w2 := ⟨_, rfl⟩; subst hW
          clear r2 t2
          by_cases hv3 : v3 = 0
          case pos =>
            subst hv3; clear hv hv0
            as_aux_lemma =>
              go_upto_region 16 with fail
              refine reg16 HN2.out (show 2 ≤ q by omega) HYQ.out (by omega) (by omega) (by omega) K.out ?_
              intro u91 u92 u93 u94 u95 u96 u97 u98 u99 u100 u101 u102 u103 u104 u105 u106 u107 u108 u109 W2 A5 c5 lo5 hi5 ps3 hn3 k5
              have K := Lib.hid k5; have HN3 := Lib.hid hn3
              clear c1 k5 hn3
              obtain ⟨a, ha⟩ : ∃ a, a + 2 = q := ⟨q - 2, by omega⟩
              dsimp only [Exit.then]
              go_upto_region 17 with fail
              refine reg17 (a := a) HN3.out ha HYQ.out (by omega) (by omega) (by omega) K.out ?_
              intro u110 u111 u112 u113 u114 u115 u116 u117 u118 u119 W3 A6 c6 lo6 hi6 zs hzs k6
              have K := Lib.hid k6; have HZ := Lib.hid hzs
              clear k6 hzs
              dsimp only [Exit.then]
              go_wp2_with fail
              go_roundw
              case rel => exact ⟨j - 1, _, lo5, hi5, A5, c5, ps3, lo6, hi6, A6, c6, zs, by omega, by omega, by go_num, by rw [HZ.out], by rw [HZ.out]; omega, by rw [HN3.out]; omega, K.out⟩
              case measure => simp [intOf]; omega
          case neg =>
            have hv3' : (v3 == 0) = false := by rw [beq_eq_false_iff_ne]; exact hv3
            go_wp2_with fail
            go_roundw
            case rel => exact ⟨j - 1, _, lo10, hi10, A10, c10, ps2, lo9, hi9, A9, c9, ys, by omega, by omega, by go_num, by rw [HYQ.out], by rw [HYQ.out]; omega, by rw [HN2.out]; omega, K.out⟩
            case measure => simp [intOf]; omega
        case neg =>
          go_wp2_with fail
          go_roundw
          case rel => exact ⟨j - 1, _, lo10, hi10, A10, c10, ps2, lo9, hi9, A9, c9, ys, by omega, by omega, by go_num, by rw [HYQ.out], by rw [HYQ.out]; omega, by rw [HN2.out]; omega, K.out⟩
          case measure => simp [intOf]; omega
    case neg =>
      have hj : j = 0 := by omega
      subst hj
      have hm2 : m' ≤ m + 40 := by omega
      clear hgi hci
      go_wp2_with fail
      go_loopw [6] (fun v wr => ∃ (m' lop hip : Nat) (Ap : Option Addr) (cp : Nat) (ps : List Prt) (loi hii : Nat) (Ai : Option Addr) (ci : Nat) (xs : List Int), m' + xs.length ≤ m + 46 ∧ v = .slice Ai xs.length ci ∧ xs.length ≤ 6 ∧ ps.length + xs.length ≤ 18 ∧ GI w N g m' wr lop hip Ap cp ps loi hii Ai ci xs) (fun v _ => lenV v)
      case atStart => exact ⟨m', lop, hip, Ap, cp, ps, loi, hii, Ai, ci, xs, by omega, rfl, by omega, by omega, K.out⟩
      case round =>
        clear K
        obtain ⟨m'', lop2, hip2, Ap2, cp2, ps2, loi2, hii2, Ai2, ci2, xs2, hm3, rfl, hx6, hp18, hgi⟩ := hrel
        have K := Lib.hid hgi
        have c1 := hgi.head rfl
        clear hgi hm' hxl hpl hm2 hj0
        by_cases hx1 : 1 < xs2.length
        case pos =>
          clear c1
          go_upto_region 20 with fail
          refine reg20 rfl (show 2 ≤ xs2.length by omega) rfl (by omega) (by omega) (by omega) K.out ?_
          intro u125 u126 u127 u128 u129 u130 u131 u132 u133 u134 u135 u136 u137 u138 u139 u140 u141 u142 u143 W2 A5 c5 lo5 hi5 ps3 hn3 k5
          have K := Lib.hid k5; have HN3 := Lib.hid hn3
          clear k5 hn3
          obtain ⟨a, ha⟩ : ∃ a, a + 2 = xs2.length := ⟨xs2.length - 2, by omega⟩
          dsimp only [Exit.then]
          go_upto_region 21 with fail
          refine reg21 (a := a) HN3.out ha rfl (by omega) (by omega) (by omega) K.out ?_
          intro u144 u145 u146 u147 u148 u149 u150 u151 u152 u153 W3 A6 c6 lo6 hi6 zs hzs k6
          have K := Lib.hid k6; have HZ := Lib.hid hzs
          clear k6 hzs
          dsimp only [Exit.then]
          go_wp2_with fail
          go_roundw
          case rel => exact ⟨_, lo5, hi5, A5, c5, ps3, lo6, hi6, A6, c6, zs, by rw [HZ.out]; omega, by rw [HZ.out], by rw [HZ.out]; omega, by rw [HZ.out, HN3.out]; omega, K.out⟩
          case measure => simp [lenV]; omega
        case neg =>
          cases hv : validF ps2
          case false =>
            have HV := Lib.hid hv; clear hv
            go_wp2_with fail
            refine (specValid0 ps2 rfl (by omega) K.out.sp.rd K.out.l5).mono ?_; rw [HV.out]; rintro e w3 ⟨rfl, b3⟩
            have K := Lib.hid (K.out.below b3)
            clear b3 c1
            go_wp2_with fail
            refine (readPartOf ns N g m'' hpos hn (by omega) K.out.rd (NSW.out _ K.out.tn) hlo).mono ?_; rintro e w4 ⟨x, rfl, r4, t4⟩
            have K := Lib.hid (K.out.pick r4 t4)
            obtain ⟨kd, pa, pb, pc, nn⟩ := x
            dsimp only [vP]
            have K5 := Lib.hid (show GI w N g _ (w4.alloc (.cells #[.int .i64 kd, .int .i64 pa, .int .i64 pb, .int .i64 pc, .int .i64 nn] 50)) _ _ _ _ _ _ _ _ _ _ from K.out.alloc _)
            have S5 := Lib.hid (show SlP (w4.alloc (.cells #[.int .i64 kd, .int .i64 pa, .int .i64 pb, .int .i64 pc, .int .i64 nn] 50)) w4.heap.size (w4.heap.size + 1) (some ⟨w4.heap.size, 0, none⟩) 1 [⟨kd, pa, pb, pc, nn⟩] from SlR.newAt kP rfl [⟨kd, pa, pb, pc, nn⟩] (Nat.le_refl _))
            have k1 : (w4.alloc (.cells #[.int .i64 kd, .int .i64 pa, .int .i64 pb, .int .i64 pc, .int .i64 nn] 50)).cell? ⟨w.heap.size, 0, none⟩ = some (.slice none 0 0) := K5.out.br.cell 0
            have f1 : (w4.alloc (.cells #[.int .i64 kd, .int .i64 pa, .int .i64 pb, .int .i64 pc, .int .i64 nn] 50)).frozen? ⟨w.heap.size, 0, none⟩ = false := K5.out.br.frozen 0
            have E := Lib.hid ((K5.out.br.set_ 0 (.slice (some ⟨w4.heap.size, 0, none⟩) 1 1)).cell 0)
            have hz4 : w.heap.size + 2 ≤ w4.heap.size := by have := K.out.l1; have := K.out.l3; omega
            clear r4 t4
            go_wp2_with fail
            have HE := E.out
            simp at HE
            refine bodyPost_ret (v := .agg #[.slice (some ⟨w4.heap.size, 0, none⟩) 1 1]) (by simp [results, Try.results62, go_sem, HE]) rfl ?_
            obtain ⟨q1, q2, q3⟩ := K5.out.fin S5.out (by omega) (by simp) (.slice (some ⟨w4.heap.size, 0, none⟩) 1 1)
            exact ⟨_, _, [⟨kd, pa, pb, pc, nn⟩], rfl, by simp, by simp, q1, q2.more (by omega), q3⟩
          case true =>
            have hvl := validF_len hv
            have HV := Lib.hid hv; clear hv
            go_wp2_with fail
            refine (specValid0 ps2 rfl (by omega) K.out.sp.rd K.out.l5).mono ?_; rw [HV.out]; rintro e w3 ⟨rfl, b3⟩
            have K := Lib.hid (K.out.below b3)
            clear b3 c1
            have c1 := K.out.head rfl
            have k1 := K.out.br.cell 0
            have f1 := K.out.br.frozen 0
            have E := Lib.hid ((K.out.br.set_ 0 (.slice Ap2 ps2.length cp2)).cell 0)
            go_wp2_with fail
            have HE := E.out
            simp at HE
            refine bodyPost_ret (v := .agg #[.slice Ap2 ps2.length cp2]) (by simp [results, Try.results62, go_sem, HE]) rfl ?_
            obtain ⟨q1, q2, q3⟩ := K.out.fin K.out.sp (by have := K.out.l1; omega) K.out.l5 (.slice Ap2 ps2.length cp2)
            exact ⟨Ap2, cp2, ps2, rfl, by omega, by omega, q1, q2.more (by omega), q3⟩
end Go.Proofs.Ytlinngohbghimaa
