/-
  impl.DeepOf, spec.DeepOf: a recursion over the parts below.
-/
import Derived.Test.YtlinngohbghimaaValid
import Derived.Deep.RegionHeld3
import Derived.Deep.DeepFit
namespace Go.Proofs.Ytlinngohbghimaa
open Go.RowKit

theorem getD_at {ps : List Prt} {i : Nat} (h : i < ps.length) : ps.getD i zP = ps[i] := by rw [List.getD_eq_getElem?_getD, List.getElem?_eq_getElem h]; rfl
theorem maxs_take {f : Int → Int} {ks : List Int} {q : Nat} (hq : q < ks.length) : maxs f (ks.take (q + 1)) = max (maxs f (ks.take q)) (f ks[q]) := by
  rw [List.take_succ_eq_append_getElem hq, maxs_snoc]

set_option maxRecDepth 100000 in
set_option maxHeartbeats 1600000 in
theorem implDeep {ps : List Prt} (hd : Desc ps) {A : Option Addr} {c n B : Nat} (ln : ps.length = n) (m : Nat) : ∀ (i : Nat) (w : World), i < m → i < n → m ≤ 1099511627776 → RdP w B A ps → B ≤ w.heap.size →
    Calls Try.prog 40 #[.agg #[.slice A n c], .int .i64 i] w fun e w' => e = .returned (.int .i64 (deepG ps m i)) ∧ Below w.heap.size w w' := by
  induction m with
  | zero => intro i w hi; omega
  | succ m ih =>
    intro i w hi hin hm h hB
    have hip : i < ps.length := by omega
    have IH := Lib.hid ih; clear ih
    have H := Lib.hid h
    have B1 := Lib.hid (bel1P w (.cells #[.slice A n c] 29))
    obtain ⟨g, o, hA, hgB, c0, c1, c2, c3, c4⟩ := RdP_at (h.belowLe B1.out hB) hip
    subst hA
    have DG := Lib.hid (show deepG ps (m + 1) i = maxs (fun k => deepG ps m k.toNat) (belowL ps[i]) + 1 from by rw [deepG_succ, getD_at hip])
    have HD := Lib.hid (hd i hip)
    have KL := Lib.hid (belowL_len ps[i])
    obtain ⟨x, hx⟩ : ∃ x, ps[i] = x := ⟨_, rfl⟩
    rw [hx] at c0 c1 c2 c3 c4 DG HD KL
    have PB := Lib.hid (fun (W : World) => partBelow (w := W) x)
    obtain ⟨ks, hks⟩ : ∃ ks, belowL x = ks := ⟨_, rfl⟩
    obtain ⟨kd, pa, pb, pc, nn⟩ := x
    rw [hks] at DG HD KL PB
    dsimp only [vP] at PB
    simp only at c0 c1 c2 c3 c4
    have hi0 : (0 : Int) ≤ (i : Int) := Int.natCast_nonneg _
    have hi1 : (i : Int) < (n : Int) := by omega
    have hkl := KL.out
    have BX := Lib.hid (Blk.new w 29 #[.slice (some ⟨g, o, none⟩) n c])
    have LN := Lib.hid ln
    clear h hx hks hgB ln
    go_enter Try.func40, Try.ntmps40
    go_wp2_with fail
    refine (PB.out _).mono ?_; rintro e w3 ⟨A3, c3', rfl, s3, b3⟩
    have hz3 := b3.size
    rw [World.size_alloc] at hz3
    have K := Lib.hid s3
    have HB := Lib.hid (B1.out.trans (b3.mono (by simp)))
    have BX3 := Lib.hid (BX.out.below b3 BX.out.lt)
    clear s3 b3 c0 c1 c2 c3 c4 BX
    go_wp2_with fail
    go_loopw [5, 15] (fun v j wr => ∃ q : Nat, q ≤ ks.length ∧ j = .int .i64 q ∧ v = .int .i64 (maxs (fun k => deepG ps m k.toNat) (ks.take q)) ∧ Below w3.heap.size w3 wr) (fun _ j _ => ks.length - (intOf j).toNat)
    case atStart => exact ⟨0, Nat.zero_le _, rfl, rfl, Below.refl _ _⟩
    case round =>
      obtain ⟨q, hq, rfl, rfl, hb⟩ := hrel
      have hzb := hb.size
      have HBr := Lib.hid hb
      obtain ⟨hd0, hd1⟩ := maxs_in (f := fun k => deepG ps m k.toNat) (M := m) (ks.take q) (fun k _ => (deepG_in ps m _).2) (by omega)
      by_cases hqk : q < ks.length
      · obtain ⟨ad, hA3, _, hc⟩ := (K.out.below hb (Nat.le_refl _)).rd.at_ hqk
        subst hA3
        have kc := hc q hqk
        have bx := (BX3.out.below hb BX3.out.lt).cell 0
        have MT := Lib.hid (maxs_take (f := fun k => deepG ps m k.toNat) hqk)
        obtain ⟨hk0, hk1⟩ := HD.out _ (List.getElem_mem hqk)
        obtain ⟨k, hk⟩ : ∃ k, ks[q] = k := ⟨_, rfl⟩
        rw [hk] at kc MT hk0 hk1
        obtain ⟨kn, rfl⟩ := Int.eq_ofNat_of_zero_le hk0
        have hq0 : (0 : Int) ≤ (q : Int) := Int.natCast_nonneg _
        have hq1 : (q : Int) < (ks.length : Int) := by omega
        have CI := Lib.hid (IH.out kn wr (by omega) (by omega) (by omega) (H.out.belowLe (HB.out.trans (hb.mono HB.out.size)) hB) (by omega))
        simp only [Int.toNat_natCast] at MT
        obtain ⟨dv, hdv⟩ : ∃ dv, deepG ps m kn = dv := ⟨_, rfl⟩
        obtain ⟨d, hdd⟩ : ∃ d, maxs (fun k => deepG ps m k.toNat) (ks.take q) = d := ⟨_, rfl⟩
        rw [hdv] at CI MT
        rw [hdd] at MT hd0 hd1 ⊢
        clear hc hk hk0 hdv hdd hb
        go_wp2_with fail
        refine CI.out.mono ?_; rintro e w4 ⟨rfl, b4⟩
        have HB4 := Lib.hid (HBr.out.trans (b4.mono hzb))
        clear b4 CI kc bx
        go_wp2_with fail
        go_roundw
        case rel => exact ⟨q + 1, by omega, by go_num, by rw [MT.out]; first | rfl | (congr 1; split <;> omega) | (congr 1; omega), HB4.out⟩
        case measure => simp [intOf]; omega
      · have hke : ks.take q = ks := List.take_of_length_le (by omega)
        rw [hke] at hd0 hd1 ⊢
        obtain ⟨d, hdd⟩ : ∃ d, maxs (fun k => deepG ps m k.toNat) ks = d := ⟨_, rfl⟩
        rw [hdd] at hd0 hd1 DG ⊢
        have hw : IntKind.i64.wrap (d + 1) = d + 1 := IntWalk.i64_in _ (by omega)
        have HF := Lib.hid (HB.out.trans (hb.mono HB.out.size))
        clear hke hdd hb
        go_wp2_with fail
        go_ret
        exact ⟨ret_int DG.out.symm, HF.out⟩

theorem partLast {A : Option Addr} {c n : Nat} {w : World} (hn : 1 ≤ n) (hn2 : n ≤ 1099511627776) :
    Calls Try.prog 41 #[.agg #[.slice A n c]] w fun e w' => e = .returned (.int .i64 ((n - 1 : Nat) : Int)) ∧ Below w.heap.size w w' := by
  obtain ⟨k, rfl⟩ : ∃ k, n = k + 1 := ⟨n - 1, by omega⟩
  have B1 := Lib.hid (bel1P w (.cells #[.slice A (k + 1) c] 29))
  have hw : IntKind.i64.wrap (((k + 1 : Nat) : Int) - 1) = (k : Int) := by rw [show ((k + 1 : Nat) : Int) - 1 = (k : Int) by omega]; exact IntWalk.i64_in _ (by omega)
  obtain ⟨n, hn⟩ : ∃ n, k + 1 = n := ⟨_, rfl⟩
  rw [hn] at hw B1 ⊢
  have HN := Lib.hid hn
  clear hn
  go_enter Try.func41, Try.ntmps41
  go_wp2_with fail
  go_ret
  exact ⟨ret_int (by rw [← HN.out, Nat.add_sub_cancel]), B1.out⟩

set_option maxRecDepth 100000 in
set_option maxHeartbeats 1600000 in
theorem implDeepOf {A : Option Addr} {c n B : Nat} {w : World} (ps : List Prt) (ln : ps.length = n) (hn : n ≤ 9223372036854775807) (h : RdP w B A ps) (hB : B ≤ w.heap.size) :
    Calls Try.prog 16 #[.agg #[.slice A n c]] w fun e w' => e = .returned (.int .i64 (deepF ps)) ∧ Below w.heap.size w w' := by
  have B1 := Lib.hid (bel1P w (.cells #[.slice A n c] 29))
  have BX := Lib.hid (Blk.new w 29 #[.slice A n c])
  have H := Lib.hid (h.belowLe B1.out hB); clear h
  have LN := Lib.hid ln
  cases hv : validF ps
  case false =>
    have HV := Lib.hid hv
    have HF := Lib.hid (show (-1 : Int) = deepF ps from by unfold deepF; rw [hv]; rfl)
    clear hv
    go_enter Try.func16, Try.ntmps16
    go_wp2_with fail
    refine (implValid ps LN.out hn H.out (by simp; omega)).mono ?_; rw [HV.out]; rintro e w2 ⟨rfl, b2⟩
    have B2 := Lib.hid (B1.out.trans (b2.mono (by simp))); clear b2
    go_wp2_with fail
    go_ret
    exact ⟨ret_int HF.out, B2.out⟩
  case true =>
    have hl := validF_len hv
    have HD := Lib.hid (validF_desc hv)
    have HV := Lib.hid hv
    have HF := Lib.hid (show deepG ps n (n - 1) = deepF ps from by unfold deepF; rw [hv, ln]; rfl)
    rw [ln] at hl
    obtain ⟨hl1, hl2⟩ := hl
    clear hv
    go_enter Try.func16, Try.ntmps16
    go_wp2_with fail
    refine (implValid ps LN.out hn H.out (by simp; omega)).mono ?_; rw [HV.out]; rintro e w2 ⟨rfl, b2⟩
    have hz2 := b2.size
    rw [World.size_alloc] at hz2
    have B2 := Lib.hid (B1.out.trans (b2.mono (by simp)))
    have BX2 := Lib.hid (BX.out.below b2 BX.out.lt)
    have H2 := Lib.hid (H.out.belowLe b2 (by simp; omega))
    clear b2
    have bx : w2.cell? ⟨w.heap.size, 0, none⟩ = some (.slice A n c) := BX2.out.cell 0
    have KX := Lib.hid (fun (W : World) (hb : Below w2.heap.size w2 W) => (show W.cell? ⟨w.heap.size, 0, none⟩ = some (.slice A n c) from (BX2.out.below hb BX2.out.lt).cell 0))
    have LA := Lib.hid (fun (W : World) => partLast (A := A) (c := c) (w := W) hl1 (by omega))
    have DP := Lib.hid (fun (W : World) (hb : Below w2.heap.size w2 W) => implDeep (c := c) HD.out LN.out n (n - 1) W (by omega) (by omega) (by omega) (H2.out.belowLe hb (by omega)) (by have := hb.size; omega))
    have hRF := (Below.refl w2.heap.size w2).drew
    go_wp2_with fail
    go_region_held3 (fun w' => w'.cell? ⟨w.heap.size, 0, none⟩ = some (.slice A n c))
      (first | go_keep | exact KX.out _ hb8 | exact KX.out _ hb7 | exact KX.out _ hRF)
      ((first
        | (go_at_call 41; refine (LA.out _).mono ?_; rintro e w7 ⟨rfl, b7⟩; have hb7 := hRF.trans (b7.mono hRF.size))
        | (go_at_call 40; refine (DP.out _ hb7).mono ?_; rintro e w8 ⟨rfl, b8⟩; have hb8 := hb7.trans (b8.mono hb7.size))))
    have B8 := Lib.hid (B2.out.trans (hb8.mono (by omega)))
    clear hb8 hb7 hRF b7 b8 bx KX LA DP
    go_wp2_with fail
    go_ret
    exact ⟨ret_int HF.out, B8.out⟩

set_option maxRecDepth 100000 in
set_option maxHeartbeats 1600000 in
theorem specDeep {ps : List Prt} (hd : Desc ps) {A : Option Addr} {c n B : Nat} (ln : ps.length = n) (m : Nat) : ∀ (i : Nat) (w : World), i < m → i < n → m ≤ 1099511627776 → RdP w B A ps → B ≤ w.heap.size →
    Calls Try.prog 39 #[.agg #[.slice A n c], .int .i64 i] w fun e w' => e = .returned (.int .i64 (deepG ps m i)) ∧ Below w.heap.size w w' := by
  induction m with
  | zero => intro i w hi; omega
  | succ m ih =>
    intro i w hi hin hm h hB
    have hip : i < ps.length := by omega
    have IH := Lib.hid ih; clear ih
    have H := Lib.hid h
    have B1 := Lib.hid (bel1P w (.cells #[.slice A n c] 29))
    obtain ⟨g, o, hA, hgB, c0, c1, c2, c3, c4⟩ := RdP_at (h.belowLe B1.out hB) hip
    subst hA
    have DG := Lib.hid (show deepG ps (m + 1) i = maxs (fun k => deepG ps m k.toNat) (belowL ps[i]) + 1 from by rw [deepG_succ, getD_at hip])
    have HD := Lib.hid (hd i hip)
    have KL := Lib.hid (belowL_len ps[i])
    obtain ⟨x, hx⟩ : ∃ x, ps[i] = x := ⟨_, rfl⟩
    rw [hx] at c0 c1 c2 c3 c4 DG HD KL
    have PB := Lib.hid (fun (W : World) => specBelow (w := W) x)
    obtain ⟨ks, hks⟩ : ∃ ks, belowL x = ks := ⟨_, rfl⟩
    obtain ⟨kd, pa, pb, pc, nn⟩ := x
    rw [hks] at DG HD KL PB
    dsimp only [vP] at PB
    simp only at c0 c1 c2 c3 c4
    have hi0 : (0 : Int) ≤ (i : Int) := Int.natCast_nonneg _
    have hi1 : (i : Int) < (n : Int) := by omega
    have hkl := KL.out
    have BX := Lib.hid (Blk.new w 29 #[.slice (some ⟨g, o, none⟩) n c])
    have LN := Lib.hid ln
    clear h hx hks hgB ln
    go_enter Try.func39, Try.ntmps39
    go_wp2_with fail
    refine (PB.out _).mono ?_; rintro e w3 ⟨A3, c3', rfl, s3, b3⟩
    have hz3 := b3.size
    rw [World.size_alloc] at hz3
    have K := Lib.hid s3
    have HB := Lib.hid (B1.out.trans (b3.mono (by simp)))
    have BX3 := Lib.hid (BX.out.below b3 BX.out.lt)
    clear s3 b3 c0 c1 c2 c3 c4 BX
    go_wp2_with fail
    go_loopw [5, 7] (fun v j wr => ∃ q : Nat, q ≤ ks.length ∧ j = .int .i64 q ∧ v = .int .i64 (maxs (fun k => deepG ps m k.toNat) (ks.take q)) ∧ Below w3.heap.size w3 wr) (fun _ j _ => ks.length - (intOf j).toNat)
    case atStart => exact ⟨0, Nat.zero_le _, rfl, rfl, Below.refl _ _⟩
    case round =>
      obtain ⟨q, hq, rfl, rfl, hb⟩ := hrel
      have hzb := hb.size
      have HBr := Lib.hid hb
      obtain ⟨hd0, hd1⟩ := maxs_in (f := fun k => deepG ps m k.toNat) (M := m) (ks.take q) (fun k _ => (deepG_in ps m _).2) (by omega)
      by_cases hqk : q < ks.length
      · obtain ⟨ad, hA3, _, hc⟩ := (K.out.below hb (Nat.le_refl _)).rd.at_ hqk
        subst hA3
        have kc := hc q hqk
        have bx : wr.cell? ⟨w.heap.size, 0, none⟩ = some (.slice (some ⟨g, o, none⟩) n c) := (BX3.out.below hb BX3.out.lt).cell 0
        have MT := Lib.hid (maxs_take (f := fun k => deepG ps m k.toNat) hqk)
        obtain ⟨hk0, hk1⟩ := HD.out _ (List.getElem_mem hqk)
        obtain ⟨k, hk⟩ : ∃ k, ks[q] = k := ⟨_, rfl⟩
        rw [hk] at kc MT hk0 hk1
        obtain ⟨kn, rfl⟩ := Int.eq_ofNat_of_zero_le hk0
        have hq0 : (0 : Int) ≤ (q : Int) := Int.natCast_nonneg _
        have hq1 : (q : Int) < (ks.length : Int) := by omega
        have CI := Lib.hid (fun (W : World) (hw : Below wr.heap.size wr W) => IH.out kn W (by omega) (by omega) (by omega) (H.out.belowLe ((HB.out.trans (hb.mono HB.out.size)).trans (hw.mono (by omega))) hB) (by have := hw.size; omega))
        have KX := Lib.hid (fun (W : World) (hw : Below wr.heap.size wr W) => (show W.cell? ⟨w.heap.size, 0, none⟩ = some (.slice (some ⟨g, o, none⟩) n c) ∧ W.cell? (ad.add q) = some (.int .i64 (kn : Int)) from
          ⟨((BX3.out.below hb BX3.out.lt).below hw (by have := BX3.out.lt; omega)).cell 0, by
            obtain ⟨ad', hA', _, hc'⟩ := (K.out.below (hb.trans (hw.mono hzb)) (Nat.le_refl _)).rd.at_ hqk
            injection hA' with hA'
            subst hA'
            rw [hc' q hqk, hk]⟩))
        simp only [Int.toNat_natCast] at MT
        obtain ⟨dv, hdv⟩ : ∃ dv, deepG ps m kn = dv := ⟨_, rfl⟩
        obtain ⟨d, hdd⟩ : ∃ d, maxs (fun k => deepG ps m k.toNat) (ks.take q) = d := ⟨_, rfl⟩
        rw [hdv] at CI MT
        rw [hdd] at MT hd0 hd1 ⊢
        have hRF := (Below.refl wr.heap.size wr).drew
        clear hc hk hk0 hdv hdd hb
        go_wp2_with fail
        go_region_held3 (fun w' => w'.cell? ⟨w.heap.size, 0, none⟩ = some (.slice (some ⟨g, o, none⟩) n c) ∧ w'.cell? (ad.add q) = some (.int .i64 (kn : Int)))
          (first | go_keep | exact KX.out _ hb8 | exact KX.out _ hRF)
          ((first
            | (go_at_call 39; refine (CI.out _ hRF).mono ?_; rintro e w8 ⟨rfl, b8⟩; have hb8 := hRF.trans (b8.mono hRF.size))))
        have HB4 := Lib.hid (HBr.out.trans (hb8.mono hzb))
        clear b8 CI kc bx hRF hb8 KX
        go_wp2_with fail
        go_roundw
        case rel => exact ⟨q + 1, by omega, by go_num, by rw [MT.out]; first | rfl | (congr 1; split <;> omega) | (congr 1; omega), HB4.out⟩
        case measure => simp [intOf]; omega
      · have hke : ks.take q = ks := List.take_of_length_le (by omega)
        rw [hke] at hd0 hd1 ⊢
        obtain ⟨d, hdd⟩ : ∃ d, maxs (fun k => deepG ps m k.toNat) ks = d := ⟨_, rfl⟩
        rw [hdd] at hd0 hd1 DG ⊢
        have hw : IntKind.i64.wrap (d + 1) = d + 1 := IntWalk.i64_in _ (by omega)
        have HF := Lib.hid (HB.out.trans (hb.mono HB.out.size))
        clear hke hdd hb
        go_wp2_with fail
        go_ret
        exact ⟨ret_int DG.out.symm, HF.out⟩

set_option maxRecDepth 100000 in
set_option maxHeartbeats 1600000 in
theorem specDeepOf {A : Option Addr} {c n B : Nat} {w : World} (ps : List Prt) (ln : ps.length = n) (hn : n ≤ 1099511627776) (h : RdP w B A ps) (hB : B ≤ w.heap.size) :
    Calls Try.prog 15 #[.agg #[.slice A n c]] w fun e w' => e = .returned (.int .i64 (deepF ps)) ∧ Below w.heap.size w w' := by
  have B1 := Lib.hid (bel1P w (.cells #[.slice A n c] 29))
  have BX := Lib.hid (Blk.new w 29 #[.slice A n c])
  have H := Lib.hid (h.belowLe B1.out hB); clear h
  have LN := Lib.hid ln
  cases hv : validF ps
  case false =>
    have HV := Lib.hid hv
    have HF := Lib.hid (show (-1 : Int) = deepF ps from by unfold deepF; rw [hv]; rfl)
    clear hv
    go_enter Try.func15, Try.ntmps15
    go_wp2_with fail
    refine (specValid0 ps LN.out hn H.out (by simp; omega)).mono ?_; rw [HV.out]; rintro e w2 ⟨rfl, b2⟩
    have B2 := Lib.hid (B1.out.trans (b2.mono (by simp))); clear b2
    go_wp2_with fail
    go_ret
    exact ⟨ret_int HF.out, B2.out⟩
  case true =>
    have hl := validF_len hv
    have HD := Lib.hid (validF_desc hv)
    have HV := Lib.hid hv
    have HF := Lib.hid (show deepG ps n (n - 1) = deepF ps from by unfold deepF; rw [hv, ln]; rfl)
    rw [ln] at hl
    obtain ⟨hl1, hl2⟩ := hl
    obtain ⟨n1, hn1⟩ : ∃ n1, n - 1 = n1 := ⟨_, rfl⟩
    rw [hn1] at HF
    have hw1 : IntKind.i64.wrap ((n : Int) - 1) = (n1 : Int) := by rw [show (n : Int) - 1 = (n1 : Int) by omega]; exact IntWalk.i64_in _ (by omega)
    have HN1 := Lib.hid hn1
    clear hv hn1
    go_enter Try.func15, Try.ntmps15
    go_wp2_with fail
    refine (specValid0 ps LN.out hn H.out (by simp; omega)).mono ?_; rw [HV.out]; rintro e w2 ⟨rfl, b2⟩
    have hz2 := b2.size
    rw [World.size_alloc] at hz2
    have B2 := Lib.hid (B1.out.trans (b2.mono (by simp)))
    have bx : w2.cell? ⟨w.heap.size, 0, none⟩ = some (.slice A n c) := (BX.out.below b2 BX.out.lt).cell 0
    have DP := Lib.hid (specDeep (c := c) HD.out LN.out n n1 w2 (by have := HN1.out; omega) (by have := HN1.out; omega) (by omega) (H.out.belowLe b2 (by simp; omega)) (by omega))
    clear b2
    go_wp2_with fail
    refine DP.out.mono ?_; rintro e w8 ⟨rfl, b8⟩
    have B8 := Lib.hid (B2.out.trans (b8.mono (by omega)))
    clear b8 bx DP
    go_wp2_with fail
    go_ret
    exact ⟨ret_int HF.out, B8.out⟩
end Go.Proofs.Ytlinngohbghimaa
