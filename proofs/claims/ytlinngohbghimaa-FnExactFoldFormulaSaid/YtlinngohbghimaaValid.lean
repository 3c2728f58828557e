/-
  impl.ValidFormula, spec.ValidFormula.
-/
import Derived.Test.YtlinngohbghimaaFormW
import Derived.Test.YtlinngohbghimaaFormRec
namespace Go.Proofs.Ytlinngohbghimaa
open Go.RowKit

theorem onesB_iff {u : List Int} : onesB u = true ↔ ∀ i (h : i + 1 < u.length), u[i] = 1 := by
  unfold onesB
  rw [List.all_eq_true]
  constructor
  · intro h i hi
    have : u[i] ∈ u.dropLast := by
      rw [List.mem_iff_getElem]
      exact ⟨i, by rw [List.length_dropLast]; omega, by rw [List.getElem_dropLast]⟩
    simpa using h _ this
  · intro h x hx
    obtain ⟨i, hi, rfl⟩ := List.getElem_of_mem hx
    rw [List.getElem_dropLast]
    rw [List.length_dropLast] at hi
    simpa using h i (by omega)
theorem onesB_not {u : List Int} {i : Nat} (h : i + 1 < u.length) (h' : u[i] ≠ 1) : onesB u = false := by
  rw [Bool.eq_false_iff]
  intro hg
  exact h' (onesB_iff.1 hg i h)
theorem all_not {ks : List Int} {f : Int → Bool} {q : Nat} (hq : q < ks.length) (h : f ks[q] = false) : ks.all f = false := by
  rw [Bool.eq_false_iff, ne_eq, List.all_eq_true]
  intro hg
  rw [hg _ (List.getElem_mem hq)] at h
  cases h
theorem all_take {ks : List Int} {f : Int → Bool} {q : Nat} (hq : q < ks.length) (h : (ks.take q).all f = true) (h' : f ks[q] = true) : (ks.take (q + 1)).all f = true := by
  rw [List.take_succ_eq_append_getElem hq, List.all_append, h]
  simp [h']
theorem bumps_take {ks : List Int} {q : Nat} (hq : q < ks.length) (u : List Int) : (ks.take (q + 1)).foldl bump u = bump ((ks.take q).foldl bump u) ks[q] := by
  rw [List.take_succ_eq_append_getElem hq, List.foldl_append]; rfl

theorem bump_at {u : List Int} {k : Nat} (h : k < u.length) : bump u (k : Int) = u.set k (u[k] + 1) := by
  unfold bump
  rw [Int.toNat_natCast, List.getD_eq_getElem?_getD, List.getElem?_eq_getElem h]; rfl

set_option maxRecDepth 100000 in
set_option maxHeartbeats 1600000 in
theorem implValid {A : Option Addr} {c n B : Nat} {w : World} (ps : List Prt) (ln : ps.length = n) (hn : n ≤ 9223372036854775807) (h : RdP w B A ps) (hB : B ≤ w.heap.size) :
    Calls Try.prog 13 #[.agg #[.slice A n c]] w fun e w' => e = .returned (.bool (validF ps)) ∧ Below w.heap.size w w' := by
  have B1 := Lib.hid (bel1P w (.cells #[.slice A n c] 29))
  cases hin : inB n 1 12
  case false =>
    have HI := Lib.hid hin
    have HF := Lib.hid (show validF ps = false from by unfold validF; rw [ln, hin]; rfl)
    clear hin h
    go_enter Try.func13, Try.ntmps13
    go_wp2_with fail
    refine in_.mono ?_; rw [HI.out]; rintro e w2 ⟨rfl, rfl⟩
    go_wp2_with fail
    go_ret
    exact ⟨ret_bool HF.out.symm, B1.out⟩
  case true =>
  obtain ⟨hn1, hn2⟩ := inB_iff.1 hin
  have HI := Lib.hid hin
  have H := Lib.hid h
  have LN := Lib.hid ln
  have hmk := run_makeI n (by omega) (w.alloc (.cells #[.slice A n c] 29))
  have U0 := Lib.hid (SlI.newAt (w := w.alloc (.cells #[.slice A n c] 29)) (lo := w.heap.size + 1) (w.heap.size + 1) (by simp) (List.replicate n 0) (Nat.le_refl _))
  have B2 := Lib.hid (B1.out.alloc (by simp) (.cells (ints (List.replicate n 0)).toArray 3))
  clear hin h ln
  go_enter Try.func13, Try.ntmps13
  go_wp2_with fail
  refine in_.mono ?_; rw [HI.out]; rintro e w2 ⟨rfl, rfl⟩
  go_wp2_with fail
  clear hmk
  go_loopw [22] (fun i wr => ∃ j : Nat, j ≤ n ∧ i = .int .i64 j ∧ SlI wr (w.heap.size + 1) (w.heap.size + 2) (some ⟨w.heap.size + 1, 0, none⟩) n (usesF (List.replicate n 0) (ps.take j)) ∧ goodFrom 0 (ps.take j) = true ∧ Below w.heap.size w wr ∧ w.heap.size + 2 ≤ wr.heap.size) (fun i _ => n - (intOf i).toNat)
  case atStart => exact ⟨0, Nat.zero_le _, rfl, by simpa [usesF] using U0.out, rfl, by simpa [ints] using B2.out, by simp⟩
  case round =>
    obtain ⟨j, hj, rfl, hs, hg, hb, hz⟩ := hrel
    have S := Lib.hid hs
    have G := Lib.hid hg
    have HB := Lib.hid hb
    clear hs hg hb U0 B2
    by_cases hlt : j < n
    · have hlp : j < ps.length := by rw [LN.out]; exact hlt
      obtain ⟨g, o, hA, hgB, c0, c1, c2, c3, c4⟩ := RdP_at (H.out.belowLe HB.out hB) hlp
      subst hA
      have GN := Lib.hid (fun (hv : goodB ps[j] (j : Int) = false) => (show validF ps = false from by unfold validF; rw [goodFrom_not hlp hv]; simp))
      have GS := Lib.hid (fun (hv : goodB ps[j] (j : Int) = true) => (show goodFrom 0 (ps.take (j + 1)) = true from goodFrom_take hlp G.out hv))
      have US := Lib.hid (show usesF (List.replicate n 0) (ps.take (j + 1)) = (belowL ps[j]).foldl bump (usesF (List.replicate n 0) (ps.take j)) from by rw [List.take_succ_eq_append_getElem hlp, usesF_snoc])
      have UB := Lib.hid (show ∀ x ∈ usesF (List.replicate n 0) (ps.take j), 0 ≤ x ∧ x ≤ 36 from fun x hx => by have := usesF_in n (ps.take j) x hx; rw [List.length_take] at this; omega)
      have ULN := Lib.hid (show (usesF (List.replicate n 0) (ps.take j)).length = n from by rw [usesF_len]; simp)
      obtain ⟨U, hU⟩ : ∃ U, usesF (List.replicate n 0) (ps.take j) = U := ⟨_, rfl⟩
      obtain ⟨x, hx⟩ : ∃ x, ps[j] = x := ⟨_, rfl⟩
      rw [hx] at c0 c1 c2 c3 c4 GN GS US
      rw [hU] at S US UB ULN
      have PA := Lib.hid (fun (W : World) => partAlone (w := W) x)
      have PB := Lib.hid (fun (W : World) => partBelow (w := W) x)
      have GA := Lib.hid (fun (hv : aloneB x = false) => GN.out (by unfold goodB; rw [hv]; rfl))
      have GK := Lib.hid (fun (q : Nat) (hq : q < (belowL x).length) (hv : inB (belowL x)[q] 0 ((j : Int) - 1) = false) => GN.out (by unfold goodB; rw [all_not hq hv, Bool.and_false]))
      have GG := Lib.hid (fun (hv : aloneB x = true) (hk : (belowL x).all (fun k => inB k 0 ((j : Int) - 1)) = true) => GS.out (by unfold goodB; rw [hv, hk]; rfl))
      have KL := Lib.hid (belowL_len x)
      obtain ⟨ks, hks⟩ : ∃ ks, belowL x = ks := ⟨_, rfl⟩
      obtain ⟨al, hal⟩ : ∃ al, aloneB x = al := ⟨_, rfl⟩
      obtain ⟨kd, pa, pb, pc, nn⟩ := x
      rw [hks] at GK GG US PB KL
      rw [hal] at GA GG PA
      dsimp only [vP] at PA PB
      simp only at c0 c1 c2 c3 c4
      have hj0 : (0 : Int) ≤ (j : Int) := Int.natCast_nonneg _
      have hj1 : (j : Int) < (n : Int) := by omega
      have hwj : IntKind.i64.wrap ((j : Int) - 1) = (j : Int) - 1 := IntWalk.i64_in _ (by omega)
      have hkl := KL.out
      have P1 := Lib.hid (Blk.new wr 50 #[.int .i64 kd, .int .i64 pa, .int .i64 pb, .int .i64 pc, .int .i64 nn])
      have S1 := Lib.hid (S.out.alloc (.cells #[.int .i64 kd, .int .i64 pa, .int .i64 pb, .int .i64 pc, .int .i64 nn] 50))
      have HB1 := Lib.hid (HB.out.alloc (by omega) (.cells #[.int .i64 kd, .int .i64 pa, .int .i64 pb, .int .i64 pc, .int .i64 nn] 50))
      clear hlp hgB hx hU hks hal GN GS
      go_wp2_with fail
      refine (PA.out _).mono ?_; rintro e w2 ⟨rfl, b2⟩
      have hz2 := b2.size
      rw [World.size_alloc] at hz2
      have HB2 := Lib.hid (HB1.out.trans (b2.mono (by simp; omega)))
      cases al
      case false =>
        have HF := Lib.hid (GA.out rfl)
        clear b2
        go_wp2_with fail
        go_ret
        exact ⟨ret_bool HF.out.symm, HB2.out⟩
      case true =>
      have p2 := P1.out.below b2 (by simp)
      have d0 := p2.cell 0
      have d1 := p2.cell 1
      have d2 := p2.cell 2
      have d3 := p2.cell 3
      have d4 := p2.cell 4
      have S2 := Lib.hid (S1.out.below b2 (by simp; omega))
      clear b2 p2 P1 S1 HB1
      go_wp2_with fail
      refine (PB.out _).mono ?_; rintro e w3 ⟨A3, c3', rfl, s3, b3⟩
      have hz3 := b3.size
      have K := Lib.hid s3
      have S3 := Lib.hid (S2.out.below b3 (by omega))
      have HB3 := Lib.hid (HB2.out.trans (b3.mono (by omega)))
      clear s3 b3 d0 d1 d2 d3 d4 S2 HB2 c0 c1 c2 c3 c4
      go_wp2_with fail
      go_loopw [33] (fun i wx => ∃ q : Nat, q ≤ ks.length ∧ i = .int .i64 q ∧ SlI wx (w.heap.size + 1) (w.heap.size + 2) (some ⟨w.heap.size + 1, 0, none⟩) n ((ks.take q).foldl bump U) ∧ SlI wx w2.heap.size w3.heap.size A3 c3' ks ∧ (ks.take q).all (fun k => inB k 0 ((j : Int) - 1)) = true ∧ Below w.heap.size w wx ∧ w3.heap.size ≤ wx.heap.size) (fun i _ => ks.length - (intOf i).toNat)
      case atStart => exact ⟨0, Nat.zero_le _, rfl, S3.out, K.out, rfl, HB3.out, Nat.le_refl _⟩
      case round =>
        obtain ⟨q, hq, rfl, ss, sk, sa, sb, sz⟩ := hrel
        have SS := Lib.hid ss
        have SK := Lib.hid sk
        have SA := Lib.hid sa
        have SB := Lib.hid sb
        clear ss sk sa sb K S3 HB3
        by_cases hqk : q < ks.length
        · obtain ⟨ad, hA3, _, hc⟩ := SK.out.rd.at_ hqk
          subst hA3
          have kc := hc q hqk
          have BT := Lib.hid (bumps_take hqk U)
          have GKq := Lib.hid (GK.out q hqk)
          have AT := Lib.hid (all_take (f := fun k => inB k 0 ((j : Int) - 1)) hqk SA.out)
          obtain ⟨k, hk⟩ : ∃ k, ks[q] = k := ⟨_, rfl⟩
          rw [hk] at kc BT GKq AT
          have hq0 : (0 : Int) ≤ (q : Int) := Int.natCast_nonneg _
          have hq1 : (q : Int) < (ks.length : Int) := by omega
          clear hc hk
          cases hik : inB k 0 ((j : Int) - 1)
          case false =>
            have HF := Lib.hid (GKq.out hik)
            have HIK := Lib.hid hik
            clear hik
            go_wp2_with fail
            refine in_.mono ?_; rw [HIK.out]; rintro e w4 ⟨rfl, rfl⟩
            go_wp2_with fail
            go_ret
            exact ⟨ret_bool HF.out.symm, SB.out⟩
          case true =>
            obtain ⟨hk0, hk1⟩ := inB_iff.1 hik
            have HIK := Lib.hid hik
            have AT2 := Lib.hid (AT.out hik)
            obtain ⟨kn, rfl⟩ := Int.eq_ofNat_of_zero_le hk0
            have hkn : kn < n := by omega
            have hul : kn < ((ks.take q).foldl bump U).length := by rw [bumps_len, ULN.out]; exact hkn
            obtain ⟨g7, o7, hA7, _, _, hc7, hf7, hs7⟩ := SS.out.at_ hul
            simp only [Option.some.injEq, Addr.mk.injEq, and_true] at hA7
            obtain ⟨rfl, rfl⟩ := hA7
            have e7 := hc7 kn hul
            have f7 := hf7 kn
            have ub : 0 ≤ ((ks.take q).foldl bump U)[kn] ∧ ((ks.take q).foldl bump U)[kn] ≤ 36 + (ks.take q).length := bumps_in _ UB.out (by omega) _ (List.getElem_mem hul)
            obtain ⟨s7, t7⟩ := hs7 kn (((ks.take q).foldl bump U)[kn] + 1) hul
            have hset : ((ks.take q).foldl bump U).set kn (((ks.take q).foldl bump U)[kn] + 1) = (ks.take (q + 1)).foldl bump U := by
              rw [BT.out, bump_at hul]
            rw [hset] at s7
            obtain ⟨u, hu⟩ : ∃ u, ((ks.take q).foldl bump U)[kn] = u := ⟨_, rfl⟩
            rw [hu] at e7 s7 t7 ub
            rw [List.length_take] at ub
            have hwu : IntKind.i64.wrap (u + 1) = u + 1 := IntWalk.i64_in _ (by omega)
            have hkz : (0 : Int) ≤ (kn : Int) := Int.natCast_nonneg _
            have hkz1 : (kn : Int) < (n : Int) := by omega
            simp only [Nat.zero_add] at e7 f7 s7 t7
            have S7 := Lib.hid s7
            have SK7 := Lib.hid (SK.out.turn t7 (.inr (by omega)))
            have SB7 := Lib.hid (Below.new SB.out t7 (by omega) (Nat.le_refl _))
            clear hik s7 t7 hs7 hc7 hf7 hset hu ub hul AT BT GKq hk0
            go_wp2_with fail
            refine in_.mono ?_; rw [HIK.out]; rintro e w4 ⟨rfl, rfl⟩
            go_wp2_with fail
            go_roundw
            case rel => exact ⟨q + 1, by omega, by go_num, S7.out, SK7.out, AT2.out, SB7.out, by simpa [World.setCell] using sz⟩
            case measure => simp [intOf]; omega
        · have hke : ks.take q = ks := List.take_of_length_le (by omega)
          have S8 := Lib.hid (show SlI wr (w.heap.size + 1) (w.heap.size + 2) (some ⟨w.heap.size + 1, 0, none⟩) n (usesF (List.replicate n 0) (ps.take (j + 1))) from by have := SS.out; rw [hke] at this; rw [US.out]; exact this)
          have G8 := Lib.hid (GG.out trivial (by have := SA.out; rw [hke] at this; exact this))
          clear hke
          go_wp2_with fail
          go_roundw
          case rel => exact ⟨j + 1, by omega, by go_num, S8.out, G8.out, SB.out, by omega⟩
          case measure => simp [intOf]; omega
    · have hje : j = n := by omega
      subst hje
      have hpe : ps.take j = ps := List.take_of_length_le (by rw [LN.out]; exact Nat.le_refl _)
      rw [hpe] at S G
      have ULN := Lib.hid (show (usesF (List.replicate j 0) ps).length = j from by rw [usesF_len]; simp)
      have VF := Lib.hid (show validF ps = onesB (usesF (List.replicate j 0) ps) from by unfold validF; rw [LN.out, HI.out, G.out]; rfl)
      obtain ⟨U, hU⟩ : ∃ U, usesF (List.replicate j 0) ps = U := ⟨_, rfl⟩
      rw [hU] at S ULN VF
      obtain ⟨n1, hn1'⟩ : ∃ n1, j = n1 + 1 := ⟨j - 1, by omega⟩
      have ew1 : IntKind.i64.wrap ((j : Int) - 1) = (n1 : Int) := by rw [show (j : Int) - 1 = (n1 : Int) by omega]; exact IntWalk.i64_in _ (by omega)
      have et1 : ((n1 : Int)).toNat = n1 := by omega
      have el0 : (0 : Int) ≤ (n1 : Int) := by omega
      have el1 : (n1 : Int) ≤ (j : Int) := by omega
      have hcc : ¬ j = 0 := by omega
      have HN1 := Lib.hid hn1'
      clear hpe hU hn1'
      go_wp2_with fail
      go_loopw [56] (fun i wx => ∃ q : Nat, q ≤ n1 ∧ i = .int .i64 q ∧ wx = wr ∧ ∀ k (hk : k < U.length), k < q → U[k] = 1) (fun i _ => n1 - (intOf i).toNat)
      case atStart => exact ⟨0, Nat.zero_le _, rfl, rfl, fun k _ hk => absurd hk (by omega)⟩
      case round =>
        obtain ⟨q, hq, rfl, rfl, ho⟩ := hrel
        have HO := Lib.hid ho; clear ho
        by_cases hqn : q < n1
        · have hqu : q < U.length := by rw [ULN.out, HN1.out]; omega
          have e7 := S.out.get (j := q) (List.getElem?_eq_getElem hqu)
          have HOS := Lib.hid (fun (hv : U[q] = 1) => (show ∀ k (hk : k < U.length), k < q + 1 → U[k] = 1 from fun k hk hkq => by
            rcases Nat.lt_or_ge k q with h1 | h1
            · exact HO.out k hk h1
            · have : k = q := by omega
              subst this; exact hv))
          have HON := Lib.hid (fun (hv : U[q] ≠ 1) => (show validF ps = false from by rw [VF.out]; exact onesB_not (by rw [ULN.out, HN1.out]; omega) hv))
          obtain ⟨u, hu⟩ : ∃ u, U[q] = u := ⟨_, rfl⟩
          rw [hu] at e7 HOS HON
          rw [Nat.zero_add] at e7
          have hq0 : (0 : Int) ≤ (q : Int) := Int.natCast_nonneg _
          have hq1 : (q : Int) < (n1 : Int) := by omega
          clear hu hqu
          by_cases hu1 : u = 1
          · have HV := Lib.hid (HOS.out hu1)
            subst hu1
            clear HOS HON
            go_wp2_with fail
            go_roundw
            case rel => exact ⟨q + 1, by omega, by go_num, trivial, HV.out⟩
            case measure => simp [intOf]; omega
          · have HV := Lib.hid (HON.out hu1)
            have hun : (u != 1) = true := by simp [hu1]
            clear HOS HON hu1
            go_wp2_with fail
            go_ret
            exact ⟨ret_bool HV.out.symm, HB.out⟩
        · have HV := Lib.hid (show validF ps = true from by rw [VF.out]; exact onesB_iff.2 fun i hi => HO.out i (by omega) (by have := HN1.out; rw [ULN.out] at hi; omega))
          go_wp2_with fail
          go_ret
          exact ⟨ret_bool HV.out.symm, HB.out⟩

set_option maxRecDepth 100000 in
set_option maxHeartbeats 1600000 in
theorem specValid0 {A : Option Addr} {c n B : Nat} {w : World} (ps : List Prt) (ln : ps.length = n) (hn : n ≤ 1099511627776) (h : RdP w B A ps) (hB : B ≤ w.heap.size) :
    Calls Try.prog 33 #[.agg #[.slice A n c]] w fun e w' => e = .returned (.bool (validF ps)) ∧ Below w.heap.size w w' := by
  have H := Lib.hid h
  have LN := Lib.hid ln
  have hmk := run_makeI n (by omega) (w.alloc (.cells #[.slice A n c] 29))
  have U0 := Lib.hid (SlI.newAt (w := w.alloc (.cells #[.slice A n c] 29)) (lo := w.heap.size + 1) (w.heap.size + 1) (by simp) (List.replicate n 0) (Nat.le_refl _))
  have B2 := Lib.hid ((Below.refl (w.heap.size + 1) (w.alloc (.cells #[.slice A n c] 29))).alloc (by simp) (.cells (ints (List.replicate n 0)).toArray 3))
  have BB := Lib.hid (fun (W : World) (hb : Below (w.heap.size + 1) (w.alloc (.cells #[.slice A n c] 29)) W) => (show Below w.heap.size w W ∧ W.cell? ⟨w.heap.size, 0, none⟩ = some (.slice A n c) from
    ⟨(bel1P w _).trans (hb.mono (by omega)), ((Blk.new w _ _).below hb (by omega)).cell 0⟩))
  clear h ln
  go_enter Try.func33, Try.ntmps33
  go_wp2_with fail
  clear hmk
  go_loopw [4] (fun i wr => ∃ j : Nat, j ≤ n ∧ i = .int .i64 j ∧ SlI wr (w.heap.size + 1) (w.heap.size + 2) (some ⟨w.heap.size + 1, 0, none⟩) n (usesF (List.replicate n 0) (ps.take j)) ∧ goodFrom 0 (ps.take j) = true ∧ Below (w.heap.size + 1) (w.alloc (.cells #[.slice A n c] 29)) wr ∧ w.heap.size + 2 ≤ wr.heap.size) (fun i _ => n - (intOf i).toNat)
  case atStart => exact ⟨0, Nat.zero_le _, rfl, by simpa [usesF] using U0.out, rfl, by simpa [ints] using B2.out, by simp⟩
  case round =>
    obtain ⟨j, hj, rfl, hs, hg, hb, hz⟩ := hrel
    have S := Lib.hid hs
    have G := Lib.hid hg
    have HB := Lib.hid hb
    obtain ⟨hbw, bx⟩ := BB.out _ hb
    have HBW := Lib.hid hbw
    clear hs hg hb U0 B2 hbw
    by_cases hlt : j < n
    · have hlp : j < ps.length := by rw [LN.out]; exact hlt
      obtain ⟨g, o, hA, hgB, c0, c1, c2, c3, c4⟩ := RdP_at (H.out.belowLe HBW.out hB) hlp
      subst hA
      have GN := Lib.hid (fun (hv : goodB ps[j] (j : Int) = false) => (show validF ps = false from by unfold validF; rw [goodFrom_not hlp hv]; simp))
      have GS := Lib.hid (fun (hv : goodB ps[j] (j : Int) = true) => (show goodFrom 0 (ps.take (j + 1)) = true from goodFrom_take hlp G.out hv))
      have GD := Lib.hid (fun (hv : goodB ps[j] (j : Int) = true) => (show ∀ k ∈ belowL ps[j], 0 ≤ k ∧ k < (j : Int) from fun k hk => by
        unfold goodB at hv
        rw [Bool.and_eq_true, List.all_eq_true] at hv
        have := inB_iff.1 (hv.2 k hk)
        omega))
      have US := Lib.hid (show usesF (List.replicate n 0) (ps.take (j + 1)) = (belowL ps[j]).foldl bump (usesF (List.replicate n 0) (ps.take j)) from by rw [List.take_succ_eq_append_getElem hlp, usesF_snoc])
      have UB := Lib.hid (show ∀ x ∈ usesF (List.replicate n 0) (ps.take j), 0 ≤ x ∧ x ≤ 3298534883328 from fun x hx => by have := usesF_in n (ps.take j) x hx; rw [List.length_take] at this; omega)
      have ULN := Lib.hid (show (usesF (List.replicate n 0) (ps.take j)).length = n from by rw [usesF_len]; simp)
      obtain ⟨U, hU⟩ : ∃ U, usesF (List.replicate n 0) (ps.take j) = U := ⟨_, rfl⟩
      obtain ⟨x, hx⟩ : ∃ x, ps[j] = x := ⟨_, rfl⟩
      rw [hx] at c0 c1 c2 c3 c4 GN GS US GD
      rw [hU] at S US UB ULN
      have PA := Lib.hid (fun (W : World) => goodPart (w := W) x (j : Int) (by omega) (by omega))
      have PB := Lib.hid (fun (W : World) => specBelow (w := W) x)
      have KL := Lib.hid (belowL_len x)
      obtain ⟨ks, hks⟩ : ∃ ks, belowL x = ks := ⟨_, rfl⟩
      obtain ⟨gd, hgd⟩ : ∃ gd, goodB x (j : Int) = gd := ⟨_, rfl⟩
      obtain ⟨kd, pa, pb, pc, nn⟩ := x
      rw [hks] at US PB KL GD
      rw [hgd] at GN GS GD PA
      dsimp only [vP] at PA PB
      simp only at c0 c1 c2 c3 c4
      have hj0 : (0 : Int) ≤ (j : Int) := Int.natCast_nonneg _
      have hj1 : (j : Int) < (n : Int) := by omega
      have hkl := KL.out
      have hgw : g < wr.heap.size := by omega
      have hxw : w.heap.size < wr.heap.size := by omega
      have RDS := Lib.hid (fun (W : World) (hb : Below wr.heap.size wr W) => (show (W.cell? ⟨w.heap.size, 0, none⟩ = some (.slice (some ⟨g, o, none⟩) n c)) ∧ (W.cell? ⟨g, o + j * 5, none⟩ = some (.int .i64 kd)) ∧ (W.cell? ⟨g, o + j * 5 + 1, none⟩ = some (.int .i64 pa)) ∧ (W.cell? ⟨g, o + j * 5 + 2, none⟩ = some (.int .i64 pb)) ∧ (W.cell? ⟨g, o + j * 5 + 3, none⟩ = some (.int .i64 pc)) ∧ (W.cell? ⟨g, o + j * 5 + 4, none⟩ = some (.int .i64 nn)) from
        ⟨(hb.cell (p := ⟨w.heap.size, _, none⟩) hxw).trans bx, (hb.cell (p := ⟨g, _, none⟩) hgw).trans c0, (hb.cell (p := ⟨g, _, none⟩) hgw).trans c1, (hb.cell (p := ⟨g, _, none⟩) hgw).trans c2, (hb.cell (p := ⟨g, _, none⟩) hgw).trans c3, (hb.cell (p := ⟨g, _, none⟩) hgw).trans c4⟩))
      clear hlp hgB hx hU hks hgd hgw hxw
      go_wp2_with fail
      refine (PA.out _).mono ?_; rintro e w2 ⟨rfl, b2⟩
      have hz2 := b2.size
      have HB2 := Lib.hid (HB.out.trans (b2.mono (by omega)))
      have HBW2 := Lib.hid (HBW.out.trans (b2.mono (by omega)))
      cases gd
      case false =>
        have HF := Lib.hid (GN.out rfl)
        clear b2 bx c0 c1 c2 c3 c4
        go_wp2_with fail
        go_ret
        exact ⟨ret_bool HF.out.symm, HBW2.out⟩
      case true =>
      obtain ⟨dx, d0, d1, d2, d3, d4⟩ := RDS.out _ b2
      have S2 := Lib.hid (S.out.below b2 (by omega))
      have GD2 := Lib.hid (GD.out rfl)
      have GS2 := Lib.hid (GS.out rfl)
      clear b2 c0 c1 c2 c3 c4 bx RDS GD GS GN HB HBW
      go_wp2_with fail
      refine (PB.out _).mono ?_; rintro e w3 ⟨A3, c3', rfl, s3, b3⟩
      have hz3 := b3.size
      have K := Lib.hid s3
      have S3 := Lib.hid (S2.out.below b3 (by omega))
      have HB3 := Lib.hid (HB2.out.trans (b3.mono (by omega)))
      clear s3 b3 d0 d1 d2 d3 d4 dx S2 HB2 HBW2
      go_wp2_with fail
      go_loopw [6] (fun i wx => ∃ q : Nat, q ≤ ks.length ∧ i = .int .i64 q ∧ SlI wx (w.heap.size + 1) (w.heap.size + 2) (some ⟨w.heap.size + 1, 0, none⟩) n ((ks.take q).foldl bump U) ∧ SlI wx w2.heap.size w3.heap.size A3 c3' ks ∧ Below (w.heap.size + 1) (w.alloc (.cells #[.slice (some ⟨g, o, none⟩) n c] 29)) wx ∧ w3.heap.size ≤ wx.heap.size) (fun i _ => ks.length - (intOf i).toNat)
      case atStart => exact ⟨0, Nat.zero_le _, rfl, S3.out, K.out, HB3.out, Nat.le_refl _⟩
      case round =>
        obtain ⟨q, hq, rfl, ss, sk, sb, sz⟩ := hrel
        have SS := Lib.hid ss
        have SK := Lib.hid sk
        have SB := Lib.hid sb
        clear ss sk sb K S3 HB3
        by_cases hqk : q < ks.length
        · obtain ⟨ad, hA3, _, hc⟩ := SK.out.rd.at_ hqk
          subst hA3
          have kc := hc q hqk
          have BT := Lib.hid (bumps_take hqk U)
          obtain ⟨hk0, hk1⟩ := GD2.out _ (List.getElem_mem hqk)
          obtain ⟨k, hk⟩ : ∃ k, ks[q] = k := ⟨_, rfl⟩
          rw [hk] at kc BT hk0 hk1
          have hq0 : (0 : Int) ≤ (q : Int) := Int.natCast_nonneg _
          have hq1 : (q : Int) < (ks.length : Int) := by omega
          clear hc hk
          obtain ⟨kn, rfl⟩ := Int.eq_ofNat_of_zero_le hk0
          have hkn : kn < n := by omega
          have hul : kn < ((ks.take q).foldl bump U).length := by rw [bumps_len, ULN.out]; exact hkn
          obtain ⟨g7, o7, hA7, _, _, hc7, hf7, hs7⟩ := SS.out.at_ hul
          simp only [Option.some.injEq, Addr.mk.injEq, and_true] at hA7
          obtain ⟨rfl, rfl⟩ := hA7
          have e7 := hc7 kn hul
          have f7 := hf7 kn
          have ub : 0 ≤ ((ks.take q).foldl bump U)[kn] ∧ ((ks.take q).foldl bump U)[kn] ≤ 3298534883328 + (ks.take q).length := bumps_in _ UB.out (by omega) _ (List.getElem_mem hul)
          obtain ⟨s7, t7⟩ := hs7 kn (((ks.take q).foldl bump U)[kn] + 1) hul
          have hset : ((ks.take q).foldl bump U).set kn (((ks.take q).foldl bump U)[kn] + 1) = (ks.take (q + 1)).foldl bump U := by
            rw [BT.out, bump_at hul]
          rw [hset] at s7
          obtain ⟨u, hu⟩ : ∃ u, ((ks.take q).foldl bump U)[kn] = u := ⟨_, rfl⟩
          rw [hu] at e7 s7 t7 ub
          rw [List.length_take] at ub
          have hwu : IntKind.i64.wrap (u + 1) = u + 1 := IntWalk.i64_in _ (by omega)
          have hkz : (0 : Int) ≤ (kn : Int) := Int.natCast_nonneg _
          have hkz1 : (kn : Int) < (n : Int) := by omega
          simp only [Nat.zero_add] at e7 f7 s7 t7
          have S7 := Lib.hid s7
          have SK7 := Lib.hid (SK.out.turn t7 (.inr (by omega)))
          have SB7 := Lib.hid (Below.new SB.out t7 (by omega) (by simp))
          clear s7 t7 hs7 hc7 hf7 hset hu ub hul BT hk0
          go_wp2_with fail
          go_region
          go_wp2_with fail
          go_roundw
          case rel => exact ⟨q + 1, by omega, by go_num, S7.out, SK7.out, ⟨SB7.out.os, SB7.out.tape, SB7.out.output, SB7.out.size, SB7.out.block⟩, by simpa [World.setCell] using sz⟩
          case measure => simp [intOf]; omega
        · have hke : ks.take q = ks := List.take_of_length_le (by omega)
          have S8 := Lib.hid (show SlI wr (w.heap.size + 1) (w.heap.size + 2) (some ⟨w.heap.size + 1, 0, none⟩) n (usesF (List.replicate n 0) (ps.take (j + 1))) from by have := SS.out; rw [hke] at this; rw [US.out]; exact this)
          clear hke
          go_wp2_with fail
          go_roundw
          case rel => exact ⟨j + 1, by omega, by go_num, S8.out, GS2.out, SB.out, by omega⟩
          case measure => simp [intOf]; omega
    · have hje : j = n := by omega
      subst hje
      have hpe : ps.take j = ps := List.take_of_length_le (by rw [LN.out]; exact Nat.le_refl _)
      rw [hpe] at S G
      have ULN := Lib.hid (show (usesF (List.replicate j 0) ps).length = j from by rw [usesF_len]; simp)
      have VF := Lib.hid (show validF ps = (inB (j : Int) 1 12 && onesB (usesF (List.replicate j 0) ps)) from by unfold validF; rw [LN.out, G.out]; simp)
      obtain ⟨U, hU⟩ : ∃ U, usesF (List.replicate j 0) ps = U := ⟨_, rfl⟩
      rw [hU] at S ULN VF
      clear hpe hU
      go_wp2_with fail
      go_loopw [7] (fun i wx => ∃ q : Nat, q ≤ j ∧ i = .int .i64 q ∧ wx = wr ∧ ∀ k (hk : k < U.length), k < q → U[k] = 1) (fun i _ => j - (intOf i).toNat)
      case atStart => exact ⟨0, Nat.zero_le _, rfl, rfl, fun k _ hk => absurd hk (by omega)⟩
      case round =>
        obtain ⟨q, hq, rfl, rfl, ho⟩ := hrel
        have HO := Lib.hid ho; clear ho
        by_cases hqn : q + 1 < j
        · have hqu : q < U.length := by rw [ULN.out]; omega
          have e7 := S.out.get (j := q) (List.getElem?_eq_getElem hqu)
          have HOS := Lib.hid (fun (hv : U[q] = 1) => (show ∀ k (hk : k < U.length), k < q + 1 → U[k] = 1 from fun k hk hkq => by
            rcases Nat.lt_or_ge k q with h1 | h1
            · exact HO.out k hk h1
            · have : k = q := by omega
              subst this; exact hv))
          have HON := Lib.hid (fun (hv : U[q] ≠ 1) => (show validF ps = false from by rw [VF.out, onesB_not (by rw [ULN.out]; omega) hv, Bool.and_false]))
          obtain ⟨u, hu⟩ : ∃ u, U[q] = u := ⟨_, rfl⟩
          rw [hu] at e7 HOS HON
          rw [Nat.zero_add] at e7
          have hq0 : (0 : Int) ≤ (q : Int) := Int.natCast_nonneg _
          have hq1 : (q : Int) < (j : Int) := by omega
          have hq2 : (q : Int) + 1 < (j : Int) := by omega
          clear hu hqu
          by_cases hu1 : u = 1
          · have HV := Lib.hid (HOS.out hu1)
            subst hu1
            clear HOS HON
            go_wp2_with fail
            go_roundw
            case rel => exact ⟨q + 1, by omega, by go_num, trivial, HV.out⟩
            case measure => simp [intOf]; omega
          · have HV := Lib.hid (HON.out hu1)
            have hun : (u != 1) = true := by simp [hu1]
            clear HOS HON hu1
            go_wp2_with fail
            go_ret
            exact ⟨ret_bool HV.out.symm, HBW.out⟩
        · have HV := Lib.hid (show inB (j : Int) 1 12 = validF ps from by rw [VF.out, onesB_iff.2 fun i hi => HO.out i (by omega) (by rw [ULN.out] at hi; omega), Bool.and_true])
          have hq2 : ¬ (q : Int) + 1 < (j : Int) := by omega
          go_wp2_with fail
          refine inRange.mono ?_; rintro e w4 ⟨rfl, rfl⟩
          go_wp2_with fail
          go_ret
          exact ⟨ret_bool HV.out, HBW.out⟩

theorem specValid {A : Option Addr} {c n B : Nat} {w : World} (ps : List Prt) (ln : ps.length = n) (hn : n ≤ 1099511627776) (h : RdP w B A ps) (hB : B ≤ w.heap.size) :
    Calls Try.prog 11 #[.agg #[.slice A n c]] w fun e w' => e = .returned (.bool (validF ps)) ∧ Below w.heap.size w w' := by
  have B1 := Lib.hid (bel1P w (.cells #[.slice A n c] 29))
  have H := Lib.hid (h.belowLe B1.out hB)
  clear h
  go_enter Try.func11, Try.ntmps11
  go_wp2_with fail
  refine (specValid0 ps ln hn H.out (by simp; omega)).mono ?_; rintro e w2 ⟨rfl, b2⟩
  have B2 := Lib.hid (B1.out.trans (b2.mono (by simp)))
  clear b2
  go_wp2_with fail
  go_ret
  exact ⟨rfl, B2.out⟩
end Go.Proofs.Ytlinngohbghimaa
