/-
  spec.clear, RerunOwner, LabelsOf, DisposeOwner.
-/
import Derived.Test.YtnlbmiangbahgaaOwnG
namespace Go.Proofs.Ytnlbmiangbahgaa
open Go.RowKit

/-- the owners are cleared where they lie; the labels are new -/
def Cleared (w : World) (lo hi : Nat) (A : Option Addr) (c : Nat) (p : List Own × List Int) (e : Ending) (w' : World) : Prop :=
  ∃ (A2 : Option Addr) (c2 : Nat) (qs : List (Own × Hd)), e = .returned (.slice A2 p.2.length c2) ∧ qs.map Prod.fst = p.1 ∧ SlP w' lo hi A c qs ∧ SlI w' w.heap.size w'.heap.size A2 c2 p.2 ∧ Turn lo hi w w'
theorem fold_snoc {f : List Own → Int → List Own × List Int} {ks : List Int} {j : Nat} (hj : j < ks.length) (s : List Own × List Int) :
    (ks.reverse.take (ks.length - j)).foldl (stepG f) s = stepG f ((ks.reverse.take (ks.length - (j + 1))).foldl (stepG f) s) ks[j] := by
  have e : ks.length - j = (ks.length - (j + 1)) + 1 := by omega
  rw [e, List.take_succ_eq_append_getElem (by rw [List.length_reverse]; omega), List.foldl_append]
  simp only [List.foldl_cons, List.foldl_nil, List.getElem_reverse]
  congr 1
  congr 1
  omega
theorem rev_snoc {cl : List Int} {j : Nat} (hj : j < cl.length) : cl.reverse.take (cl.length - j) = cl.reverse.take (cl.length - (j + 1)) ++ [cl[j]] := by
  have e : cl.length - j = (cl.length - (j + 1)) + 1 := by omega
  rw [e, List.take_succ_eq_append_getElem (by rw [List.length_reverse]; omega)]
  congr 2
  rw [List.getElem_reverse]
  congr 1
  omega
theorem SlP.len_le {w : World} {lo hi c : Nat} {A : Option Addr} {ps : List (Own × Hd)} (h : SlP w lo hi A c ps) : ps.length ≤ c := h.row.le
/-- the cells that are read and stored at owner k, whatever has turned elsewhere -/
theorem SlP.look {w : World} {lo hi c k : Nat} {A : Option Addr} {ps : List (Own × Hd)} {x : Own × Hd} (h : SlP w lo hi A c ps) (hk : ps[k]? = some x) {g o : Nat} (hA : A = some ⟨g, o, none⟩) :
    (w.cell? ⟨g, o + k * 4 + 1, none⟩ = some (.bool x.1.op) ∧ w.cell? ⟨g, o + k * 4 + 2, none⟩ = some (.slice x.2.clA x.1.cl.length x.2.clC)) ∧ w.frozen? ⟨g, o + k * 4 + 1, none⟩ = false ∧ w.frozen? ⟨g, o + k * 4 + 2, none⟩ = false ∧ lo ≤ g ∧ g < hi := by
  obtain ⟨g', o', hA', h1, h2, _, _, d1, d2, _⟩ := h.cells hk
  rw [hA] at hA'
  simp only [Option.some.injEq, Addr.mk.injEq, and_true] at hA'
  obtain ⟨rfl, rfl⟩ := hA'
  exact ⟨⟨d1 k _ hk 1 _ rfl, d1 k _ hk 2 _ rfl⟩, d2 (k * 4 + 1), d2 (k * 4 + 2), h1, h2⟩

set_option maxRecDepth 100000 in
set_option maxHeartbeats 3200000 in
theorem specClear (m : Nat) : ∀ (ps : List (Own × Hd)) (os : List Own) (A : Option Addr) (c n lo hi P : Nat) (w : World), ps.map Prod.fst = os → os.length = n → n ≤ 1048576 → Ahead os → clTot os ≤ 1099511627776 → P < n → n ≤ P + m → SlP w lo hi A c ps → hi ≤ w.heap.size → lo ≤ hi →
    Calls Try.prog 44 #[.slice A n c, .int .i64 P] w (Cleared w lo hi A c (clearG m os P)) := by
  induction m with
  | zero => intro ps os A c n lo hi P w _ _ _ _ _ h1 h2; omega
  | succ m ih =>
    intro ps os A c n lo hi P w hps hn hnn ha hct hP hm hs hhi hlo
    subst hn
    have IH := Lib.hid ih; clear ih
    have HA := Lib.hid ha
    have HCT := Lib.hid hct
    have HPS := Lib.hid hps
    obtain ⟨hd0, hk0⟩ := at_fst hps hP
    obtain ⟨g, o, rfl⟩ : ∃ g o, A = some ⟨g, o, none⟩ := by obtain ⟨g, o, h, _⟩ := hs.cells hk0; exact ⟨g, o, h⟩
    have RD := Lib.hid (show RdO (w.alloc (.cells #[] 3)) hi (some ⟨g, o, none⟩) os from by rw [← hps]; exact (hs.alloc _).rd)
    have HS := Lib.hid hs
    have hzA : (w.alloc (.cells #[] 3)).heap.size = w.heap.size + 1 := by rw [World.size_alloc]
    have KC := Lib.hid (specKids (c := c) (o := (P : Int)) os rfl hnn ha (by omega) (by omega) RD.out (by rw [hzA]; omega))
    obtain ⟨ks, hks⟩ : ∃ ks, kidsF os (P : Int) = ks := ⟨_, rfl⟩
    have HKS := Lib.hid hks
    have HKL := Lib.hid (show ks.length ≤ os.length from by rw [← hks]; exact selF_le _ _)
    rw [hks] at KC
    have CG := Lib.hid (show clearG (m + 1) os (P : Int) = (wipe (ks.reverse.foldl (stepG (clearG m)) (os, [])).1 P, (ks.reverse.foldl (stepG (clearG m)) (os, [])).2 ++ (clAt (ks.reverse.foldl (stepG (clearG m)) (os, [])).1 P).reverse) from by rw [clearG, hks])
    clear hks hps ha hct hs hk0
    go_enter Try.func44, Try.ntmps44
    go_wp2_with fail
    refine KC.out.mono ?_; rintro e w1 ⟨A3, c3, rfl, s1, b1⟩
    have hz1 := b1.size
    rw [hzA] at hz1
    have BA := Lib.hid ((below1 w (.cells #[] 3)).1.trans (b1.mono (by rw [hzA]; omega)))
    have S1 := Lib.hid (s1.mono (Nat.le_of_eq hzA.symm) (Nat.le_refl _))
    have P1 := Lib.hid (HS.out.below BA.out hhi)
    have T1 := Lib.hid (Below.turn BA.out lo hi)
    have hkl := HKL.out
    clear s1 b1 KC hzA
    go_wp2_with fail
    go_loopw [5, 7] (fun v i wr => ∃ (j : Nat) (z : Int) (A2 : Option Addr) (c2 : Nat) (acc : List Own × List Int) (qs : List (Own × Hd)), j ≤ ks.length ∧ z = (j : Int) - 1 ∧ i = .int .i64 z ∧ v = .slice A2 acc.2.length c2 ∧ acc = (ks.reverse.take (ks.length - j)).foldl (stepG (clearG m)) (os, []) ∧ qs.map Prod.fst = acc.1 ∧ SlP wr lo hi (some ⟨g, o, none⟩) c qs ∧ SlI wr w1.heap.size wr.heap.size A2 c2 acc.2 ∧ SlI wr (w.heap.size + 1) w1.heap.size A3 c3 ks ∧ Turn lo hi w wr ∧ w1.heap.size ≤ wr.heap.size) (fun _ i _ => (intOf i + 1).toNat)
    case atStart => exact ⟨ks.length, _, some ⟨w.heap.size, 0, none⟩, 0, (os, []), ps, Nat.le_refl _, rfl, rfl, rfl, by simp, HPS.out, P1.out, SlI.nil, S1.out, T1.out, Nat.le_refl _⟩
    case round =>
      clear P1 S1 T1
      obtain ⟨j, z, A2, c2, acc, qs, hj, hz, rfl, rfl, hacc, hqs, hp, ho, hk, ht, hzz⟩ := hrel
      have HAC := Lib.hid hacc
      have HQS := Lib.hid hqs
      have HP := Lib.hid hp
      have HO := Lib.hid ho
      have HK := Lib.hid hk
      have HT := Lib.hid ht
      have HKEEP := Lib.hid (show Keep os acc.1 from by rw [hacc]; exact keep_fold (clearG m) (keep_clearG m) _ (os, []))
      have HTOT := Lib.hid (show clTot acc.1 + acc.2.length = clTot os from by rw [hacc]; have := clTot_fold (clearG m) (clTot_clearG m) (ks.reverse.take (ks.length - j)) (os, []); simpa using this)
      have hal : acc.2.length ≤ 1099511627776 := by have := HTOT.out; have := HCT.out; omega
      have hql : qs.length = os.length := by
        have := congrArg List.length hqs
        rw [List.length_map] at this
        rw [this]; exact HKEEP.out.1
      have HQL := Lib.hid hql
      clear hacc hqs hp ho hk ht hql
      cases j with
      | succ j =>
        obtain rfl : z = (j : Int) := by omega
        clear hz
        have hjl : j < ks.length := by omega
        obtain ⟨i, hi1, hi2, x, hx1, hx2, hx3⟩ := kids_in (os := os) (o := (P : Int)) (k := ks[j]) (by rw [HKS.out]; exact List.getElem_mem hjl)
        have hPi : P < i := by have := (HA.out i x hx1).2; omega
        have FS := Lib.hid (fold_snoc (f := clearG m) hjl (os, []))
        obtain ⟨adk, rfl⟩ : ∃ adk, A3 = some adk := by obtain ⟨adk, h, _⟩ := HK.out.rd.at_ hjl; exact ⟨adk, h⟩
        have ck := HK.out.cellAt hjl hi1
        obtain ⟨hdi, hqi⟩ := at_fst HQS.out (show i < acc.1.length by rw [HKEEP.out.1]; exact hi2)
        have IHC := Lib.hid (IH.out qs acc.1 (some ⟨g, o, none⟩) c os.length lo hi i wr HQS.out HKEEP.out.1 hnn (HKEEP.out.ahead HA.out) (by have := HTOT.out; have := HCT.out; omega) hi2 (by omega) HP.out (by omega) hlo)
        have hji : (0 : Int) ≤ (j : Int) := Int.natCast_nonneg _
        have HKT := Lib.hid (clTot_clearG m acc.1 (i : Int))
        have HKK := Lib.hid (keep_clearG m acc.1 (i : Int))
        have HI1 := Lib.hid hi1
        obtain ⟨q, hq⟩ : ∃ q, clearG m acc.1 (i : Int) = q := ⟨_, rfl⟩
        rw [hq] at IHC HKT HKK
        have HQ := Lib.hid hq
        clear hq hx1 hx2 hx3 hi1 hqi
        go_wp2_with fail
        refine IHC.out.mono ?_; rintro e w2 ⟨A4, c4, qs2, rfl, hqs2, p2, s2, t2⟩
        have hz2 := t2.size
        have HQ2 := Lib.hid hqs2
        have O2 := Lib.hid (HO.out.turn t2 (.inr (by omega)))
        have K2 := Lib.hid (HK.out.turn t2 (.inr (by omega)))
        have P2 := Lib.hid p2
        have S2 := Lib.hid s2
        have T2 := Lib.hid (HT.out.trans t2)
        have hq2l : q.2.length ≤ 1099511627776 := by have := HKT.out; have := HTOT.out; have := HCT.out; omega
        have hq1l : i < q.1.length := by rw [HKK.out.1, HKEEP.out.1]; exact hi2
        obtain ⟨hdq, hqq⟩ := at_fst hqs2 hq1l
        have HQQ := Lib.hid hqq
        have HSH := Lib.hid (shut_eq hq1l)
        obtain ⟨y, hy⟩ : ∃ y, q.1[i] = y := ⟨_, rfl⟩
        rw [hy] at HQQ HSH
        have C7 := Lib.hid (fun (w4 : World) (t4 : Turn w1.heap.size wr.heap.size w2 w4) => (show (w4.cell? (adk.add j) = some (.int .i64 (i : Int))) ∧ ((w4.cell? ⟨g, o + i * 4 + 1, none⟩ = some (.bool y.op)) ∧ w4.frozen? ⟨g, o + i * 4 + 1, none⟩ = false) from by
          have k4 := K2.out.turn t4 (.inl (Nat.le_refl _))
          have p4 := P2.out.turn t4 (.inl (by omega))
          have l4 := p4.look HQQ.out rfl
          exact ⟨k4.cellAt hjl HI1.out, l4.1.1, l4.2.1⟩))
        clear hqs2 p2 s2 t2 hqq hy IHC ck
        go_wp2_with (at_builtin; refine wpList_appI (.tmp 20) (.tmp 26) rfl rfl acc.2 q.2 rfl rfl O2.out rfl rfl S2.out.rd (by omega) (by omega) ?_; intro A5 c5 w4 h4 t4 _; obtain ⟨ck, cb, cf⟩ := C7.out w4 t4)
        have hz4 := t4.size
        have s4 := h4.all t4 hz2
        have p4 := P2.out.turn t4 (.inl (by omega))
        have k4 := K2.out.turn t4 (.inl (Nat.le_refl _))
        have T4 : Turn lo hi w w4 := T2.out.new t4 (by omega)
        obtain ⟨p5, t5⟩ := p4.put (hi' := hi) (y := (⟨y.p, false, y.cl, y.cx⟩, hdq)) HQQ.out 1 (.bool false) (by omega) rfl (Nat.le_refl _) (p4.cl i (y, hdq) HQQ.out) (p4.cx i (y, hdq) HQQ.out) (p4.d2 i (y, hdq) HQQ.out) (fun b hb => p4.own_free HQQ.out hb) rfl
        have hgg := p4.look HQQ.out rfl
        have S5 := Lib.hid (s4.turn t5 (.inr (by have := hgg.2.2.2.2; omega)))
        have K5 := Lib.hid (k4.turn t5 (.inr (by have := hgg.2.2.2.2; omega)))
        have T5 := Lib.hid (T4.trans (t5.mono hgg.2.2.2.1 hgg.2.2.2.2))
        have P5 := Lib.hid p5
        have HACC := Lib.hid (show (shut q.1 (i : Int), acc.2 ++ q.2) = (ks.reverse.take (ks.length - j)).foldl (stepG (clearG m)) (os, []) from by rw [FS.out, ← HAC.out, HI1.out]; unfold stepG; rw [HQ.out])
        have HQS5 := Lib.hid (show (qs2.set i (⟨y.p, false, y.cl, y.cx⟩, hdq)).map Prod.fst = shut q.1 (i : Int) from by rw [HSH.out]; exact map_set_fst HQ2.out)
        have hzs : (w4.setCell ⟨g, o + (i * 4 + 1), none⟩ (.bool false)).heap.size = w4.heap.size := by simp [World.setCell]
        clear h4 t4 s4 p4 k4 T4 p5 t5 hgg
        go_wp2_with fail
        go_roundw
        case rel =>
          refine ⟨j, (j : Int) - 1, A5, c5, (shut q.1 (i : Int), acc.2 ++ q.2), qs2.set i (⟨y.p, false, y.cl, y.cx⟩, hdq), by omega, rfl, rfl, by simp, HACC.out, HQS5.out, ?_, ?_, ?_, ?_, ?_⟩
          · have := P5.out; simpa only [Nat.add_assoc] using this
          · have := S5.out; rw [← hzs] at this; simpa only [Nat.add_assoc] using this
          · have := K5.out; simpa only [Nat.add_assoc] using this
          · have := T5.out; simpa only [Nat.add_assoc] using this
          · simp [World.setCell]; omega
        case measure => simp [intOf]
      | zero =>
        obtain rfl : z = -1 := by omega
        clear hz
        have HAC := Lib.hid (show acc = ks.reverse.foldl (stepG (clearG m)) (os, []) from by rw [HAC.out, Nat.sub_zero, List.take_of_length_le (by rw [List.length_reverse]; exact Nat.le_refl _)])
        have hPa : P < acc.1.length := by rw [HKEEP.out.1]; exact hP
        obtain ⟨hdP, hqP⟩ := at_fst HQS.out hPa
        have HCL := Lib.hid (clAt_eq hPa)
        have HW := Lib.hid (wipe_eq hPa)
        have hclT := clTot_wipe acc.1 (P : Int)
        obtain ⟨y, hy⟩ : ∃ y, acc.1[P] = y := ⟨_, rfl⟩
        rw [hy] at hqP HCL HW
        rw [HCL.out] at hclT
        have HQP := Lib.hid hqP
        have cl2 := (HP.out.look hqP rfl).1.2
        have hycl : acc.2.length + y.cl.length ≤ 1099511627776 := by have := HTOT.out; have := HCT.out; omega
        clear hqP hy hclT
        obtain ⟨wx, hwx⟩ : ∃ wo : World, wo = wr := ⟨_, rfl⟩
        subst hwx
        go_wp2_with fail
        go_loopw [5, 8] (fun v i wr => ∃ (j : Nat) (z : Int) (A6 : Option Addr) (c6 : Nat) (ys : List Int), j ≤ y.cl.length ∧ z = (j : Int) - 1 ∧ i = .int .i64 z ∧ v = .slice A6 ys.length c6 ∧ ys = acc.2 ++ y.cl.reverse.take (y.cl.length - j) ∧ SlP wr lo hi (some ⟨g, o, none⟩) c qs ∧ SlI wr w1.heap.size wr.heap.size A6 c6 ys ∧ Turn lo hi w wr ∧ w1.heap.size ≤ wr.heap.size) (fun _ i _ => (intOf i + 1).toNat)
        case atStart => exact ⟨y.cl.length, _, A2, c2, acc.2, Nat.le_refl _, rfl, rfl, rfl, by simp, HP.out, HO.out, HT.out, hzz⟩
        case round =>
          clear cl2 HP HO HK HT
          obtain ⟨j, z, A6, c6, ys, hj2, hz2, rfl, rfl, hys, hp, ho, ht, hzz2⟩ := hrel
          have HYS := Lib.hid hys
          have hyl : ys.length ≤ 1099511627776 := by
            rw [hys, List.length_append, List.length_take, List.length_reverse]; omega
          have HP := Lib.hid hp
          have HO := Lib.hid ho
          have HT := Lib.hid ht
          clear hys hp ho ht
          cases j with
          | succ j =>
            obtain rfl : z = (j : Int) := by omega
            clear hz2
            have hjl : j < y.cl.length := by omega
            have cl2 := (HP.out.look HQP.out rfl).1.2
            obtain ⟨adc, hadc, hcb, hcc⟩ := (HP.out.cl P _ HQP.out).rd.at_ hjl
            have hcj := hcc j hjl
            dsimp only at hadc cl2
            rw [hadc] at cl2
            have RS := Lib.hid (rev_snoc hjl)
            have hji : (0 : Int) ≤ (j : Int) := Int.natCast_nonneg _
            obtain ⟨u, hu⟩ : ∃ u, y.cl[j] = u := ⟨_, rfl⟩
            dsimp only at hcj
            rw [hu] at hcj RS
            clear hcc hu hadc hcb
            go_wp2_with (at_builtin; refine wpList_appI (.tmp 46) (.tmp 55) rfl rfl ys [u] rfl rfl (HO.out.alloc _) rfl rfl (SlI.newAt (w := wr) wr.heap.size rfl [u] (lo := 0) (Nat.zero_le _)).rd (by simp; omega) (by simp; omega) ?_; intro A7 c7 w7 h7 t7 _)
            have hz7 : wr.heap.size + 1 ≤ w7.heap.size := by have := t7.size; simpa using this
            have S7 := Lib.hid (h7.all t7 (by simp))
            have P7 := Lib.hid ((HP.out.alloc (.cells (ints [u]).toArray 3)).turn t7 (.inl (by omega)))
            have T7 := Lib.hid ((HT.out.alloc (.cells (ints [u]).toArray 3)).new t7 (by omega))
            clear h7 t7
            go_wp2_with fail
            go_roundw
            case rel => exact ⟨j, (j : Int) - 1, A7, c7, ys ++ [u], by omega, rfl, rfl, by simp, by rw [HYS.out, RS.out, List.append_assoc], P7.out, S7.out, T7.out, by omega⟩
            case measure => simp [intOf]
          | zero =>
            obtain rfl : z = -1 := by omega
            clear hz2
            obtain ⟨⟨cl1, cl2⟩, cf1, cf2, hgl, hgh⟩ := HP.out.look HQP.out rfl
            clear cl1 cf1
            have p8 := HP.out.alloc (.cells #[] 3)
            obtain ⟨p9, t9⟩ := p8.put (hi' := hi) (y := (⟨y.p, y.op, [], y.cx⟩, ⟨some ⟨wr.heap.size, 0, none⟩, 0, hdP.cxA, hdP.cxC⟩)) HQP.out 2 (.slice (some ⟨wr.heap.size, 0, none⟩) 0 0) (by omega) rfl (Nat.le_refl _) SlI.nil (p8.cx P (y, hdP) HQP.out) (fun b hb => by simp [live_nil] at hb) (fun b hb => by
              unfold foot at hb
              rw [List.mem_append] at hb
              rcases hb with hb | hb
              · simp [live_nil] at hb
              · exact p8.own_free HQP.out (List.mem_append_right _ hb)) rfl
            have S9 := Lib.hid ((HO.out.alloc (.cells #[] 3)).turn t9 (.inr (by omega)))
            have T9 := Lib.hid ((HT.out.alloc (.cells #[] 3)).trans (t9.mono hgl (by omega)))
            have P9 := Lib.hid p9
            have FIN := Lib.hid (show ys = (clearG (m + 1) os (P : Int)).2 from by rw [CG.out, HYS.out, ← HAC.out, HCL.out, Nat.sub_zero, List.take_of_length_le (by rw [List.length_reverse]; exact Nat.le_refl _)])
            have FQ := Lib.hid (show (qs.set P (⟨y.p, y.op, [], y.cx⟩, ⟨some ⟨wr.heap.size, 0, none⟩, 0, hdP.cxA, hdP.cxC⟩)).map Prod.fst = (clearG (m + 1) os (P : Int)).1 from by rw [CG.out, ← HAC.out, HW.out]; exact map_set_fst HQS.out)
            have e2 := (p8.look HQP.out rfl).1.2
            have ef2 := (p8.look HQP.out rfl).2.2.1
            clear p8 p9 t9
            go_wp2_with fail
            go_ret
            refine ⟨A6, c6, qs.set P (⟨y.p, y.op, [], y.cx⟩, ⟨some ⟨wr.heap.size, 0, none⟩, 0, hdP.cxA, hdP.cxC⟩), by rw [← FIN.out]; rfl, FQ.out, ?_, ?_, ?_⟩
            · have := P9.out; simpa only [Nat.add_assoc] using this
            · rw [← FIN.out]
              have := S9.out.mono (lo' := w.heap.size) (hi' := wr.heap.size + 1) (by omega) (by omega)
              simpa [World.setCell, Nat.add_assoc] using this
            · have := T9.out; simpa only [Nat.add_assoc] using this

end Go.Proofs.Ytnlbmiangbahgaa
