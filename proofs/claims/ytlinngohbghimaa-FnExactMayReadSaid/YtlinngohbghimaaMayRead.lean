/-
  impl.MayRead, spec.MayRead: the nodes of all reads, ascending.
-/
import Derived.Test.YtlinngohbghimaaValid
import Derived.Test.YtlinngohbghimaaSortI
import Derived.Test.YtlinngohbghimaaLists
namespace Go.Proofs.Ytlinngohbghimaa
open Go.RowKit

/-- the nodes that are read, as they come -/
def readsF (ps : List Prt) : List Int := (ps.filter fun p => decide (p.kd = 1)).map (·.nn)
def hasR (ps : List Prt) (n : Int) : Bool := ps.any fun p => decide (p.kd = 1 ∧ p.nn = n)
def mayUp (ps : List Prt) (m : Nat) : List Int := ((List.range m).map fun i : Nat => (i : Int)).filter (hasR ps)
def mayF (ps : List Prt) : List Int := if validF ps then mayUp ps 10 else []
theorem readsF_snoc (ps : List Prt) (p : Prt) : readsF (ps ++ [p]) = readsF ps ++ (if p.kd = 1 then [p.nn] else []) := by
  unfold readsF
  rw [List.filter_append, List.map_append]
  congr 1
  by_cases h : p.kd = 1 <;> simp [h]
theorem readsF_len (ps : List Prt) : (readsF ps).length ≤ ps.length := by
  unfold readsF
  rw [List.length_map]
  exact List.length_filter_le _ _
theorem mayUp_succ (ps : List Prt) (m : Nat) : mayUp ps (m + 1) = mayUp ps m ++ (if hasR ps m then [(m : Int)] else []) := by
  unfold mayUp
  rw [List.range_succ, List.map_append, List.filter_append]
  congr 1
  cases h : hasR ps m <;> simp [h]
theorem mayUp_len (ps : List Prt) (m : Nat) : (mayUp ps m).length ≤ m := by
  unfold mayUp
  have := List.length_filter_le (hasR ps) ((List.range m).map fun i : Nat => (i : Int))
  simpa using this
theorem mayF_len (ps : List Prt) : (mayF ps).length ≤ 10 := by
  unfold mayF
  split
  · exact mayUp_len ps 10
  · simp
theorem hasR_take {ps : List Prt} {q : Nat} {n : Int} (hq : q < ps.length) (h : hasR (ps.take q) n = false) (h' : ¬ (ps[q].kd = 1 ∧ ps[q].nn = n)) : hasR (ps.take (q + 1)) n = false := by
  rw [List.take_succ_eq_append_getElem hq]
  unfold hasR at h ⊢
  rw [List.any_append, h, Bool.false_or]
  simp only [List.any_cons, List.any_nil, Bool.or_false]
  exact decide_eq_false h'
theorem hasR_at {ps : List Prt} {q : Nat} {n : Int} (hq : q < ps.length) (h' : ps[q].kd = 1 ∧ ps[q].nn = n) : hasR ps n = true := by
  unfold hasR
  rw [List.any_eq_true]
  exact ⟨ps[q], List.getElem_mem hq, decide_eq_true h'⟩
theorem hasR_reads {ps : List Prt} {n : Int} : hasR ps n = true ↔ n ∈ readsF ps := by
  unfold hasR readsF
  rw [List.any_eq_true]
  simp only [decide_eq_true_eq, List.mem_map, List.mem_filter]
  constructor
  · rintro ⟨p, h1, h2, h3⟩; exact ⟨p, ⟨h1, h2⟩, h3⟩
  · rintro ⟨p, ⟨h1, h2⟩, h3⟩; exact ⟨p, h1, h2, h3⟩
theorem strict_ext : ∀ xs ys : List Int, xs.Pairwise (· < ·) → ys.Pairwise (· < ·) → (∀ x, x ∈ xs ↔ x ∈ ys) → xs = ys := by
  intro xs
  induction xs with
  | nil =>
    intro ys _ _ h
    cases ys with
    | nil => rfl
    | cons y ys => exact absurd ((h y).2 (by simp)) (by simp)
  | cons x xs ih =>
    intro ys h1 h2 h
    cases ys with
    | nil => exact absurd ((h x).1 (by simp)) (by simp)
    | cons y ys =>
      rw [List.pairwise_cons] at h1 h2
      have e : x = y := by
        rcases List.mem_cons.1 ((h x).1 (by simp)) with e | e
        · exact e
        · rcases List.mem_cons.1 ((h y).2 (by simp)) with e2 | e2
          · exact e2.symm
          · have := h1.1 y e2; have := h2.1 x e; omega
      subst e
      congr 1
      refine ih ys h1.2 h2.2 fun z => ⟨fun hz => ?_, fun hz => ?_⟩
      · rcases List.mem_cons.1 ((h z).1 (by simp [hz])) with e | e
        · have := h1.1 z hz; omega
        · exact e
      · rcases List.mem_cons.1 ((h z).2 (by simp [hz])) with e | e
        · have := h2.1 z hz; omega
        · exact e
theorem compact_up (d : Array Int) (hs : ∀ i j, i ≤ j → j < d.size → d[i]! ≤ d[j]!) : ∀ m, m ≤ d.size → (Lib.compactUpTo d m).Pairwise (· < ·) ∧ ∀ x, x ∈ Lib.compactUpTo d m ↔ ∃ j, j < m ∧ d[j]! = x := by
  intro m
  induction m with
  | zero => intro _; exact ⟨by simp [Lib.compactUpTo], fun x => by simp [Lib.compactUpTo]⟩
  | succ m ih =>
    intro hm
    obtain ⟨h1, h2⟩ := ih (by omega)
    rw [Lib.compactUpTo_succ]
    by_cases hk : Lib.keeps d m = true
    · rw [if_pos hk]
      refine ⟨?_, fun x => ?_⟩
      · rw [List.pairwise_append]
        refine ⟨h1, by simp, fun a ha b hb => ?_⟩
        rw [List.mem_singleton] at hb
        subst hb
        obtain ⟨j, hj, rfl⟩ := (h2 a).1 ha
        have hne : d[m]! ≠ d[m - 1]! := by
          unfold Lib.keeps at hk
          simp only [decide_eq_true_eq] at hk
          rcases hk with hk | hk
          · omega
          · exact hk
        have := hs j (m - 1) (by omega) (by omega)
        have := hs (m - 1) m (by omega) (by omega)
        omega
      · rw [List.mem_append, h2, List.mem_singleton]
        constructor
        · rintro (⟨j, hj, e⟩ | e)
          · exact ⟨j, by omega, e⟩
          · exact ⟨m, by omega, e.symm⟩
        · rintro ⟨j, hj, e⟩
          by_cases hjm : j = m
          · subst hjm; exact .inr e.symm
          · exact .inl ⟨j, by omega, e⟩
    · rw [if_neg hk, List.append_nil]
      refine ⟨h1, fun x => ?_⟩
      rw [h2]
      constructor
      · rintro ⟨j, hj, e⟩; exact ⟨j, by omega, e⟩
      · rintro ⟨j, hj, e⟩
        by_cases hjm : j = m
        · subst hjm
          unfold Lib.keeps at hk
          simp only [decide_eq_true_eq, not_or, Decidable.not_not] at hk
          exact ⟨j - 1, by omega, by rw [← hk.2]; exact e⟩
        · exact ⟨j, by omega, e⟩
theorem may_eq {ps : List Prt} (hr : ∀ n ∈ readsF ps, 0 ≤ n ∧ n ≤ 9) : Lib.compact ((readsF ps).mergeSort fun x y => decide (x ≤ y)) = mayUp ps 10 := by
  have hp : ((readsF ps).mergeSort fun x y => decide (x ≤ y)).Pairwise (fun x y => decide (x ≤ y) = true) := List.pairwise_mergeSort (fun a b c h1 h2 => by simp only [decide_eq_true_eq] at *; omega) (fun a b => by simp only [Bool.or_eq_true, decide_eq_true_eq]; omega) _
  have hm : ∀ x, x ∈ ((readsF ps).mergeSort fun x y => decide (x ≤ y)) ↔ x ∈ readsF ps := fun x => List.mem_mergeSort
  obtain ⟨zs, hz⟩ : ∃ zs, ((readsF ps).mergeSort fun x y => decide (x ≤ y)) = zs := ⟨_, rfl⟩
  rw [hz] at hp hm ⊢
  have hb : ∀ i (h : i < zs.length), zs.toArray[i]! = zs[i] := fun i h => by simp [h]
  have hs : ∀ i j, i ≤ j → j < zs.toArray.size → zs.toArray[i]! ≤ zs.toArray[j]! := by
    intro i j hij hj
    have hj' : j < zs.length := by simpa using hj
    rw [hb i (by omega), hb j hj']
    rcases Nat.lt_or_ge i j with h1 | h1
    · have := List.pairwise_iff_getElem.1 hp i j (by omega) hj' h1
      simpa using this
    · have : i = j := by omega
      subst this; exact Int.le_refl _
  obtain ⟨c1, c2⟩ := compact_up zs.toArray hs zs.length (by simp)
  refine strict_ext _ _ c1 ?_ fun x => ?_
  · unfold mayUp
    refine List.Pairwise.filter _ ?_
    rw [List.pairwise_map]
    exact List.pairwise_lt_range.imp fun h => by omega
  · show x ∈ Lib.compactUpTo zs.toArray zs.length ↔ _
    rw [c2]
    have e1 : (∃ j, j < zs.length ∧ zs.toArray[j]! = x) ↔ x ∈ readsF ps := by
      rw [← hm]
      constructor
      · rintro ⟨j, hj, e⟩; rw [hb j hj] at e; exact e ▸ List.getElem_mem hj
      · intro h
        obtain ⟨j, hj, e⟩ := List.getElem_of_mem h
        exact ⟨j, hj, by rw [hb j hj]; exact e⟩
    rw [e1]
    unfold mayUp
    rw [List.mem_filter, hasR_reads]
    constructor
    · intro h
      have := hr x h
      exact ⟨List.mem_map.2 ⟨x.toNat, List.mem_range.2 (by omega), by omega⟩, h⟩
    · exact fun h => h.2
theorem reads_in {ps : List Prt} (h : validF ps = true) : ∀ n ∈ readsF ps, 0 ≤ n ∧ n ≤ 9 := by
  intro n hn
  unfold readsF at hn
  obtain ⟨p, hp, rfl⟩ := List.mem_map.1 hn
  rw [List.mem_filter, decide_eq_true_eq] at hp
  obtain ⟨j, hj, e⟩ := List.getElem_of_mem hp.1
  unfold validF at h
  rw [Bool.and_eq_true, Bool.and_eq_true] at h
  have := goodFrom_at h.1.2 hj
  rw [e] at this
  unfold goodB aloneB at this
  rw [Bool.and_eq_true, hp.2] at this
  have h2 := this.1
  rw [if_neg (by decide), if_pos rfl] at h2
  simp only [Bool.and_eq_true] at h2
  exact inB_iff.1 h2.1.1.1

set_option maxRecDepth 100000 in
set_option maxHeartbeats 1600000 in
theorem implMayRead0 {A : Option Addr} {c n B : Nat} {w : World} (ps : List Prt) (ln : ps.length = n) (hn : n ≤ 1048576) (h : RdP w B A ps) (hB : B ≤ w.heap.size) :
    Calls Try.prog 47 #[.agg #[.slice A n c]] w (MadeI w (Lib.compact ((readsF ps).mergeSort fun x y => decide (x ≤ y)))) := by
  have B1 := Lib.hid (bel1P w (.cells #[.slice A n c] 29))
  have H := Lib.hid h
  have LN := Lib.hid ln
  have RL := Lib.hid (readsF_len ps)
  obtain ⟨fin, hfin⟩ : ∃ fin, Lib.compact ((readsF ps).mergeSort fun x y => decide (x ≤ y)) = fin := ⟨_, rfl⟩
  rw [hfin]
  have HFIN := Lib.hid hfin
  clear h ln hfin
  go_enter Try.func47, Try.ntmps47
  go_wp2_with fail
  go_loopw [3, 9] (fun v i wr => ∃ (j : Nat) (A1 : Option Addr) (c1 : Nat), j ≤ n ∧ i = .int .i64 j ∧ v = .slice A1 (readsF (ps.take j)).length c1 ∧ SlI wr w.heap.size wr.heap.size A1 c1 (readsF (ps.take j)) ∧ Below w.heap.size w wr) (fun _ i _ => n - (intOf i).toNat)
  case atStart => exact ⟨0, none, 0, Nat.zero_le _, rfl, rfl, SlI.nil, B1.out⟩
  case round =>
    obtain ⟨j, A1, c1, hj, rfl, rfl, hs, hb⟩ := hrel
    have S := Lib.hid hs
    have HB := Lib.hid hb
    have hz := hb.size
    clear hs hb
    by_cases hlt : j < n
    · have hlp : j < ps.length := by rw [LN.out]; exact hlt
      obtain ⟨g, o, hA, hgB, k0, k1, k2, k3, k4⟩ := RdP_at (H.out.belowLe HB.out hB) hlp
      subst hA
      have RS := Lib.hid (show readsF (ps.take (j + 1)) = readsF (ps.take j) ++ (if ps[j].kd = 1 then [ps[j].nn] else []) from by rw [List.take_succ_eq_append_getElem hlp, readsF_snoc])
      have hrl : (readsF (ps.take j)).length ≤ n := by have := readsF_len (ps.take j); rw [List.length_take] at this; omega
      obtain ⟨rs, hrs⟩ : ∃ rs, readsF (ps.take j) = rs := ⟨_, rfl⟩
      obtain ⟨x, hx⟩ : ∃ x, ps[j] = x := ⟨_, rfl⟩
      rw [hx] at k0 k1 k2 k3 k4 RS
      rw [hrs] at S RS hrl ⊢
      obtain ⟨kd, pa, pb, pc, nn⟩ := x
      simp only at k0 k1 k2 k3 k4 RS
      have hj0 : (0 : Int) ≤ (j : Int) := Int.natCast_nonneg _
      have hj1 : (j : Int) < (n : Int) := by omega
      have S1 := Lib.hid ((S.out.alloc (.cells #[.int .i64 kd, .int .i64 pa, .int .i64 pb, .int .i64 pc, .int .i64 nn] 50)).mono (Nat.le_refl _) (Nat.le_succ wr.heap.size))
      have HB1 := Lib.hid (HB.out.alloc hz (.cells #[.int .i64 kd, .int .i64 pa, .int .i64 pb, .int .i64 pc, .int .i64 nn] 50))
      clear hrs hx hlp hgB S
      by_cases hk : kd = 1
      · subst hk
        have RS1 := Lib.hid (show readsF (ps.take (j + 1)) = rs ++ [nn] from by rw [RS.out, if_pos rfl])
        clear RS
        go_wp2_with (at_builtin; refine wpList_appI (.tmp 16) (.tmp 19) rfl rfl rs [nn] rfl rfl (S1.out.alloc _) rfl rfl (SlI.newAt (w := wr.alloc (.cells #[.int .i64 1, .int .i64 pa, .int .i64 pb, .int .i64 pc, .int .i64 nn] 50)) (wr.heap.size + 1) (by simp) [nn] (lo := 0) (Nat.zero_le _)).rd (by omega) (by simp; omega) ?_; intro A2 c2 w4 h2 h3 _)
        have HF := Lib.hid (h2.all h3 (by simp))
        have HB2 := Lib.hid ((HB1.out.alloc (by simp; omega) (.cells (ints [nn]).toArray 3)).trans (h3.below (by simp; omega)))
        clear h2 h3
        go_wp2
        go_roundw
        case rel => exact ⟨j + 1, A2, c2, by omega, by go_num, by rw [RS1.out, List.length_append]; rfl, by rw [RS1.out]; exact HF.out, HB2.out⟩
        case measure => simp [intOf]; omega
      · have RS1 := Lib.hid (show readsF (ps.take (j + 1)) = rs from by rw [RS.out, if_neg hk, List.append_nil])
        have hkn : (kd == 1) = false := by simp [hk]
        clear RS hk
        go_wp2_with fail
        go_roundw
        case rel => exact ⟨j + 1, A1, c1, by omega, by go_num, by rw [RS1.out], by rw [RS1.out]; exact S1.out.mono (Nat.le_refl _) (by simp), HB1.out⟩
        case measure => simp [intOf]; omega
    · have hpe : ps.take j = ps := List.take_of_length_le (by rw [LN.out]; omega)
      rw [hpe] at S ⊢
      have hrl : (readsF ps).length ≤ n := by have := RL.out; rw [LN.out] at this; exact this
      obtain ⟨rs, hrs⟩ : ∃ rs, readsF ps = rs := ⟨_, rfl⟩
      rw [hrs] at S hrl HFIN ⊢
      have HML := Lib.hid (List.length_mergeSort (le := fun x y : Int => decide (x ≤ y)) rs)
      clear hpe hrs
      go_wp2_with fail
      refine (slicesSort rs rfl (by omega) S.out).mono ?_; rintro e w5 ⟨rfl, s5, t5⟩
      have hz5 := t5.size
      have S5 := Lib.hid s5
      have HB5 := Lib.hid (HB.out.trans (t5.below hz))
      obtain ⟨ms, hms⟩ : ∃ ms, (rs.mergeSort fun x y => decide (x ≤ y)) = ms := ⟨_, rfl⟩
      rw [hms] at S5 HML HFIN
      have hml := HML.out
      clear s5 t5 hms
      go_wp2_with fail
      refine (slicesCompact ms hml (by omega) S5.out).mono ?_; rintro e w6 ⟨rfl, s6, t6⟩
      have hz6 := t6.size
      have S6 := Lib.hid s6
      have HB6 := Lib.hid (HB5.out.trans (t6.below (by omega)))
      obtain ⟨cs, hcs⟩ : ∃ cs, Lib.compact ms = cs := ⟨_, rfl⟩
      rw [hcs] at S6 HFIN ⊢
      clear s6 t6 hcs
      go_wp2_with fail
      refine (slicesClip cs rfl S6.out).mono ?_; rintro e w7 ⟨rfl, s7, rfl⟩
      have S7 := Lib.hid (s7.mono (Nat.le_refl _) (show wr.heap.size ≤ w6.heap.size by omega)); clear s7
      go_wp2_with fail
      go_ret
      exact ⟨A1, _, by rw [← HFIN.out]; rfl, by rw [← HFIN.out]; exact S7.out, HB6.out⟩

set_option maxRecDepth 100000 in
set_option maxHeartbeats 1600000 in
theorem specMayRead0 {A : Option Addr} {c n B : Nat} {w : World} (ps : List Prt) (ln : ps.length = n) (hn : n ≤ 1048576) (h : RdP w B A ps) (hB : B ≤ w.heap.size) :
    Calls Try.prog 46 #[.agg #[.slice A n c]] w (MadeI w (mayUp ps 10)) := by
  have BB := Lib.hid (fun (W : World) (hb : Below (w.heap.size + 1) (w.alloc (.cells #[.slice A n c] 29)) W) => (show Below w.heap.size w W ∧ W.cell? ⟨w.heap.size, 0, none⟩ = some (.slice A n c) from
    ⟨(bel1P w _).trans (hb.mono (by omega)), ((Blk.new w _ _).below hb (by omega)).cell 0⟩))
  have B2 := Lib.hid ((Below.refl (w.heap.size + 1) (w.alloc (.cells #[.slice A n c] 29))).alloc (by simp) (.cells #[] 3))
  have H := Lib.hid h
  have LN := Lib.hid ln
  clear h ln
  go_enter Try.func46, Try.ntmps46
  go_wp2_with fail
  go_loopw [3, 4] (fun v i wr => ∃ (j : Nat) (A1 : Option Addr) (c1 : Nat), j ≤ 10 ∧ i = .int .i64 j ∧ v = .slice A1 (mayUp ps j).length c1 ∧ SlI wr (w.heap.size + 1) wr.heap.size A1 c1 (mayUp ps j) ∧ Below (w.heap.size + 1) (w.alloc (.cells #[.slice A n c] 29)) wr) (fun _ i _ => 10 - (intOf i).toNat)
  case atStart => exact ⟨0, _, 0, Nat.zero_le _, rfl, rfl, SlI.nil, B2.out⟩
  case round =>
    obtain ⟨j, A1, c1, hj, rfl, rfl, hs, hb⟩ := hrel
    obtain ⟨hbw, bx⟩ := BB.out _ hb
    have hz := hb.size
    rw [World.size_alloc] at hz
    have S := Lib.hid hs
    have HB := Lib.hid hb
    have HBW := Lib.hid hbw
    have ML := mayUp_len ps j
    clear hs hb hbw B2
    by_cases hlt : j < 10
    · have MS := Lib.hid (mayUp_succ ps j)
      obtain ⟨ms, hms⟩ : ∃ ms, mayUp ps j = ms := ⟨_, rfl⟩
      rw [hms] at S MS ML ⊢
      clear hms
      have hj0 : (0 : Int) ≤ (j : Int) := Int.natCast_nonneg _
      have hj1 : (j : Int) < 10 := by omega
      go_wp2_with fail
      go_loopw [3, 5] (fun v i wx => ∃ q : Nat, q ≤ n ∧ i = .int .i64 q ∧ v = .slice A1 ms.length c1 ∧ wx = wr ∧ hasR (ps.take q) (j : Int) = false) (fun _ i _ => n - (intOf i).toNat)
      case atStart => exact ⟨0, Nat.zero_le _, rfl, rfl, rfl, rfl⟩
      case round =>
        obtain ⟨q, hq, rfl, rfl, rfl, hno⟩ := hrel
        have HN := Lib.hid hno; clear hno
        by_cases hqn : q < n
        · have hqp : q < ps.length := by rw [LN.out]; exact hqn
          obtain ⟨g, o, hA, hgB, k0, k1, k2, k3, k4⟩ := RdP_at (H.out.belowLe HBW.out hB) hqp
          subst hA
          have HT := Lib.hid (hasR_take (n := (j : Int)) hqp HN.out)
          have HA := Lib.hid (hasR_at (n := (j : Int)) hqp)
          obtain ⟨x, hx⟩ : ∃ x, ps[q] = x := ⟨_, rfl⟩
          rw [hx] at k0 k4 HT HA
          obtain ⟨kd, pa, pb, pc, nn⟩ := x
          simp only at k0 k4 HT HA
          have hq0 : (0 : Int) ≤ (q : Int) := Int.natCast_nonneg _
          have hq1 : (q : Int) < (n : Int) := by omega
          clear k1 k2 k3 hx hqp hgB
          by_cases hk : kd = 1
          · subst hk
            by_cases hnn : nn = (j : Int)
            · subst hnn
              have HF := Lib.hid (show mayUp ps (j + 1) = ms ++ [(j : Int)] from by rw [MS.out, HA.out ⟨rfl, rfl⟩]; rfl)
              clear HT HA HN MS
              go_wp2_with (at_builtin; refine wpList_appI (.tmp 35) (.tmp 37) rfl rfl ms [(j : Int)] rfl rfl (S.out.alloc _) rfl rfl (SlI.new _ [(j : Int)] (lo := 0) (Nat.zero_le _)).rd (by omega) (by simp; omega) ?_; intro A2 c2 w4 h2 h3 _)
              have HG := Lib.hid (h2.all h3 (by simp))
              have HB2 := Lib.hid ((HB.out.alloc hz (.cells (ints [(j : Int)]).toArray 3)).trans (h3.below (by simp; omega)))
              clear h2 h3
              go_wp2
              go_roundw
              case rel => exact ⟨j + 1, A2, c2, by omega, by go_num, by rw [HF.out, List.length_append]; rfl, by rw [HF.out]; exact HG.out, HB2.out⟩
              case measure => simp [intOf]; omega
            · have HN2 := Lib.hid (HT.out fun h => hnn h.2)
              have hne : (nn == (j : Int)) = false := by simp [hnn]
              clear HT HA HN hnn
              go_wp2_with fail
              go_roundw
              case rel => exact ⟨q + 1, by omega, by go_num, rfl, trivial, HN2.out⟩
              case measure => simp [intOf]; omega
          · have HN2 := Lib.hid (HT.out fun h => hk h.1)
            have hne : (kd == 1) = false := by simp [hk]
            clear HT HA HN hk
            go_wp2_with fail
            go_roundw
            case rel => exact ⟨q + 1, by omega, by go_num, rfl, trivial, HN2.out⟩
            case measure => simp [intOf]; omega
        · have HF := Lib.hid (show mayUp ps (j + 1) = ms from by
            have h := HN.out
            rw [List.take_of_length_le (by rw [LN.out]; omega)] at h
            rw [MS.out, h]; simp)
          clear HN MS
          go_wp2_with fail
          go_roundw
          case rel => exact ⟨j + 1, A1, c1, by omega, by go_num, by rw [HF.out], by rw [HF.out]; exact S.out, HB.out⟩
          case measure => simp [intOf]; omega
    · have hje : j = 10 := by omega
      subst hje
      go_wp2_with fail
      go_ret
      exact ⟨A1, c1, rfl, S.out.mono (by omega) (Nat.le_refl _), HBW.out⟩

theorem implMayRead {A : Option Addr} {c n B : Nat} {w : World} (ps : List Prt) (ln : ps.length = n) (hn : n ≤ 1048576) (h : RdP w B A ps) (hB : B ≤ w.heap.size) :
    Calls Try.prog 20 #[.agg #[.slice A n c]] w (MadeI w (mayF ps)) := by
  have B1 := Lib.hid (bel1P w (.cells #[.slice A n c] 29))
  have BX := Lib.hid (Blk.new w 29 #[.slice A n c])
  have H := Lib.hid (h.belowLe B1.out hB); clear h
  have LN := Lib.hid ln
  cases hv : validF ps
  case false =>
    have HV := Lib.hid hv
    have HF := Lib.hid (show mayF ps = [] from by unfold mayF; rw [hv]; rfl)
    clear hv
    go_enter Try.func20, Try.ntmps20
    go_wp2_with fail
    refine (implValid ps LN.out (by omega) H.out (by simp; omega)).mono ?_; rw [HV.out]; rintro e w2 ⟨rfl, b2⟩
    have B2 := Lib.hid (B1.out.trans (b2.mono (by simp))); clear b2
    go_wp2_with fail
    go_ret
    exact ⟨none, 0, by rw [HF.out]; rfl, by rw [HF.out]; exact SlI.nil, B2.out⟩
  case true =>
    have HV := Lib.hid hv
    have HF := Lib.hid (show Lib.compact ((readsF ps).mergeSort fun x y => decide (x ≤ y)) = mayF ps from by unfold mayF; rw [hv, if_pos rfl]; exact may_eq (reads_in hv))
    clear hv
    go_enter Try.func20, Try.ntmps20
    go_wp2_with fail
    refine (implValid ps LN.out (by omega) H.out (by simp; omega)).mono ?_; rw [HV.out]; rintro e w2 ⟨rfl, b2⟩
    have hz2 := b2.size
    rw [World.size_alloc] at hz2
    have B2 := Lib.hid (B1.out.trans (b2.mono (by simp)))
    have bx : w2.cell? ⟨w.heap.size, 0, none⟩ = some (.slice A n c) := (BX.out.below b2 BX.out.lt).cell 0
    have CM := Lib.hid (implMayRead0 (c := c) ps LN.out hn (H.out.belowLe b2 (by simp; omega)) (by omega))
    rw [HF.out] at CM
    clear b2
    go_wp2_with fail
    refine CM.out.mono ?_; rintro e w8 ⟨A8, c8, rfl, s8, b8⟩
    have B8 := Lib.hid (B2.out.trans (b8.mono (by omega)))
    have S8 := Lib.hid (s8.mono (show w.heap.size ≤ w2.heap.size by omega) (Nat.le_refl _))
    clear b8 s8 bx CM
    go_wp2_with fail
    go_ret
    exact ⟨A8, c8, rfl, S8.out, B8.out⟩

theorem specMayRead {A : Option Addr} {c n B : Nat} {w : World} (ps : List Prt) (ln : ps.length = n) (hn : n ≤ 1048576) (h : RdP w B A ps) (hB : B ≤ w.heap.size) :
    Calls Try.prog 19 #[.agg #[.slice A n c]] w (MadeI w (mayF ps)) := by
  have B1 := Lib.hid (bel1P w (.cells #[.slice A n c] 29))
  have BX := Lib.hid (Blk.new w 29 #[.slice A n c])
  have H := Lib.hid (h.belowLe B1.out hB); clear h
  have LN := Lib.hid ln
  cases hv : validF ps
  case false =>
    have HV := Lib.hid hv
    have HF := Lib.hid (show mayF ps = [] from by unfold mayF; rw [hv]; rfl)
    clear hv
    go_enter Try.func19, Try.ntmps19
    go_wp2_with fail
    refine (specValid0 ps LN.out (by omega) H.out (by simp; omega)).mono ?_; rw [HV.out]; rintro e w2 ⟨rfl, b2⟩
    have B2 := Lib.hid (B1.out.trans (b2.mono (by simp))); clear b2
    go_wp2_with fail
    go_ret
    exact ⟨none, 0, by rw [HF.out]; rfl, by rw [HF.out]; exact SlI.nil, B2.out⟩
  case true =>
    have HV := Lib.hid hv
    have HF := Lib.hid (show mayUp ps 10 = mayF ps from by unfold mayF; rw [hv, if_pos rfl])
    clear hv
    go_enter Try.func19, Try.ntmps19
    go_wp2_with fail
    refine (specValid0 ps LN.out (by omega) H.out (by simp; omega)).mono ?_; rw [HV.out]; rintro e w2 ⟨rfl, b2⟩
    have hz2 := b2.size
    rw [World.size_alloc] at hz2
    have B2 := Lib.hid (B1.out.trans (b2.mono (by simp)))
    have bx : w2.cell? ⟨w.heap.size, 0, none⟩ = some (.slice A n c) := (BX.out.below b2 BX.out.lt).cell 0
    have CM := Lib.hid (specMayRead0 (c := c) ps LN.out hn (H.out.belowLe b2 (by simp; omega)) (by omega))
    rw [HF.out] at CM
    clear b2
    go_wp2_with fail
    refine CM.out.mono ?_; rintro e w8 ⟨A8, c8, rfl, s8, b8⟩
    have B8 := Lib.hid (B2.out.trans (b8.mono (by omega)))
    have S8 := Lib.hid (s8.mono (show w.heap.size ≤ w2.heap.size by omega) (Nat.le_refl _))
    clear b8 s8 bx CM
    go_wp2_with fail
    go_ret
    exact ⟨A8, c8, rfl, S8.out, B8.out⟩
end Go.Proofs.Ytlinngohbghimaa
