/-
  spec.showFormula and spec.FormatFormula: the text of a formula.
-/
import Derived.Test.YtdhjejpcppmejaaDoorTextW
import Derived.Test.YtdhjejpcppmejaaDoorOrder
namespace Go.Proofs.YtdhjejpcppmejaaDoor
open Go.RowKit

theorem runField (A : Option Addr) (n c : Nat) (w : World) : (Instr.field 29 (.agg #[.slice A n c]) 0).run Tryd.prog w = .ok (.slice A n c) w := by
  simp [Instr.field, run_underlying Tryd.underlying29, asAgg, go_sem]
theorem textF_take {l : List Prt} {k : Nat} (hk : k < l.length) : joinW ((l.take (k + 1)).map wordP) = if k = 0 then wordP l[k] else joinW ((l.take k).map wordP) ++ [32] ++ wordP l[k] := by
  rw [List.take_succ_eq_append_getElem hk, List.map_append, List.map_cons, List.map_nil, joinW_snoc]
  by_cases h0 : k = 0
  · subst h0; simp
  · rw [if_neg h0, if_neg (by intro e; have := congrArg List.length e; rw [List.length_map, List.length_take_of_le (by omega)] at this; exact h0 this)]
theorem joinW_take_le {ps l : List Prt} (hl : orderF ps = l) (k : Nat) : (joinW ((l.take k).map wordP)).length ≤ 60 := by subst hl; exact words_len ps k

set_option maxRecDepth 100000 in
set_option maxHeartbeats 1600000 in
theorem specShow {A : Option Addr} {c n B : Nat} {w : World} (ps : List Prt) (hv : validF ps = true) (ln : ps.length = n) (h : RdP w B A ps) (hB : B ≤ w.heap.size) :
    Calls Tryd.prog 11 #[.agg #[.slice A n c]] w fun e w' => e = .returned (strV (textF ps)) ∧ Below w.heap.size w w' := by
  have hlen := validF_len hv
  have HD := Lib.hid (validF_desc hv)
  have HB1 := Lib.hid (bel1P w (.cells #[.slice A n c] 29))
  have H := Lib.hid (h.belowLe HB1.out hB)
  have LN := Lib.hid ln
  have HO := Lib.hid (show orderF ps = postG ps n (n - 1) [] from by unfold orderF; rw [hv, ln]; rfl)
  have HT := Lib.hid (show textF ps = joinW ((orderF ps).map wordP) from rfl)
  have h12 := order_twelve ps
  have OK := Lib.hid (order_ok ps)
  have JL := Lib.hid (fun k => words_len ps k)
  have hn1 : 1 ≤ n := by omega
  have hn12 : n ≤ 12 := by omega
  have hw1 : ((n : Int) - 1) = ((n - 1 : Nat) : Int) := by omega
  have SO := Lib.hid (fun (W : World) (hr : RdP W B A ps) (hb : B ≤ W.heap.size) => (show Calls Tryd.prog 20 #[.agg #[.slice A n c], .int .i64 ((n : Int) - 1)] W (MadeF W (orderF ps)) from by
    rw [HO.out, hw1]; exact specOrdered (c := c) HD.out LN.out (by omega) (by omega) hr hb))
  clear h hv ln hlen hw1
  obtain ⟨l, hl⟩ : ∃ l, orderF ps = l := ⟨_, rfl⟩
  rw [hl] at h12 OK JL SO HT
  rw [HT.out]
  clear hl HO HT HD
  go_enter Tryd.func11, Tryd.ntmps11
  go_wp2_with fail
  refine (SO.out _ H.out (by simp; omega)).mono ?_; rintro e w2 ⟨A2, c2, rfl, s2, b2⟩
  have HB2 := Lib.hid (HB1.out.trans (b2.mono (by simp)))
  have S2 := Lib.hid s2
  have hz2 := b2.size
  rw [World.size_alloc] at hz2
  clear s2 b2 H SO HB1
  have hf := runField A2 l.length c2 w2
  go_wp2_with fail
  go_loopw [3, 5] (fun s i wr => ∃ k : Nat, k ≤ l.length ∧ i = .int .i64 k ∧ s = strV (joinW ((l.take k).map wordP)) ∧ Below w2.heap.size w2 wr) (fun _ i _ => l.length - (intOf i).toNat)
  case atStart => exact ⟨0, Nat.zero_le _, rfl, rfl, Below.refl _ _⟩
  case round =>
    obtain ⟨k, hk, rfl, rfl, hb⟩ := hrel
    have HBr := Lib.hid hb
    have hzr := hb.size
    by_cases hlt : k < l.length
    case pos =>
      obtain ⟨g, o, hA, hg, hc⟩ := RdP_at (S2.out.rd.below hb) hlt
      subst hA
      have hokp := OK.out k hlt
      have HTK := Lib.hid (textF_take hlt)
      have hl1 := JL.out k
      have hlw := word_len hokp
      have hc0 := S2.out.le
      obtain ⟨x, hx⟩ : ∃ x, l[k] = x := ⟨_, rfl⟩
      rw [hx] at hc HTK hokp hlw
      have SP := Lib.hid (fun W => showPartC x hokp W)
      obtain ⟨kd, pa, pb, pc, nn⟩ := x
      obtain ⟨c0, c1, c2', c3, c4⟩ := hc
      dsimp only at c0 c1 c2' c3 c4
      obtain ⟨u, hu⟩ : ∃ u, wordP ⟨kd, pa, pb, pc, nn⟩ = u := ⟨_, rfl⟩
      rw [hu] at HTK hlw SP
      dsimp only [vP] at SP
      clear hu hx hb
      by_cases hk0 : k = 0
      case pos =>
        rw [if_pos hk0] at HTK
        subst hk0
        simp only [Nat.zero_mul, Nat.add_zero] at c0 c1 c2' c3 c4
        rw [show joinW ((l.take 0).map wordP) = [] from rfl] at hl1 ⊢
        go_wp2_with fail
        refine (SP.out _).mono ?_; rintro e w5 ⟨rfl, b5⟩
        have HB5 := Lib.hid (HBr.out.trans (b5.mono hzr))
        clear b5
        go_wp2_with fail
        go_roundw
        case rel => exact ⟨0 + 1, by omega, by go_num, by rw [HTK.out]; exact congrArg Value.string (bts_app [] u), HB5.out⟩
        case measure => simp [intOf]; omega
      case neg =>
        rw [if_neg hk0] at HTK
        obtain ⟨y, hy⟩ : ∃ y, joinW ((l.take k).map wordP) = y := ⟨_, rfl⟩
        rw [hy] at HTK hl1 ⊢
        have hkp : 0 < (k : Int) := by omega
        clear hy
        go_wp2_with fail
        refine (SP.out _).mono ?_; rintro e w5 ⟨rfl, b5⟩
        have HB5 := Lib.hid (HBr.out.trans (b5.mono hzr))
        clear b5
        go_wp2_with fail
        go_roundw
        case rel => exact ⟨k + 1, by omega, by go_num, by rw [HTK.out]; show Value.string (bts y ++ bts [32] ++ bts u) = _; rw [bts_app, bts_app], HB5.out⟩
        case measure => simp [intOf]; omega
    case neg =>
      have hke : k = l.length := by omega
      subst hke
      rw [List.take_length]
      clear hb
      go_wp2_with fail
      go_ret
      exact ⟨rfl, HB2.out.trans (HBr.out.mono HB2.out.size)⟩

set_option maxRecDepth 100000 in
theorem specFormat {A : Option Addr} {c n B : Nat} {w : World} (ps : List Prt) (ln : ps.length = n) (hn : n ≤ 1099511627776) (h : RdP w B A ps) (hB : B ≤ w.heap.size) :
    Calls Tryd.prog 5 #[.agg #[.slice A n c]] w fun e w' => e = .returned (strV (textF ps)) ∧ Below w.heap.size w w' := by
  have HB1 := Lib.hid (bel1P w (.cells #[.slice A n c] 29))
  have K0 := Lib.hid (Blk.new w 29 #[.slice A n c])
  have H := Lib.hid (h.belowLe HB1.out hB)
  have LN := Lib.hid ln
  clear h ln
  cases hv : validF ps
  case false =>
    have HV := Lib.hid hv
    have HF := Lib.hid (show textF ps = [] from by unfold textF; rw [show orderF ps = [] from by unfold orderF; rw [hv]; rfl]; rfl)
    clear hv
    go_enter Tryd.func5, Tryd.ntmps5
    go_wp2_with fail
    refine (specValid0 ps LN.out hn H.out (by simp; omega)).mono ?_; rw [HV.out]; rintro e w3 ⟨rfl, b3⟩
    have HB3 := Lib.hid (HB1.out.trans (b3.mono (by simp)))
    clear b3
    go_wp2_with fail
    go_ret
    rw [HF.out]
    exact ⟨rfl, HB3.out⟩
  case true =>
    have HV := Lib.hid hv
    clear hv
    go_enter Tryd.func5, Tryd.ntmps5
    go_wp2_with fail
    refine (specValid0 ps LN.out hn H.out (by simp; omega)).mono ?_; rw [HV.out]; rintro e w3 ⟨rfl, b3⟩
    have HB3 := Lib.hid (HB1.out.trans (b3.mono (by simp)))
    have k3 := (K0.out.below b3 K0.out.lt).cell 0
    have H3 := Lib.hid (H.out.belowLe b3 (by simp; omega))
    have hz3 := b3.size
    rw [World.size_alloc] at hz3
    clear b3
    go_wp2_with fail
    refine (specShow ps HV.out LN.out H3.out (by omega)).mono ?_; rintro e w4 ⟨rfl, b4⟩
    have HB4 := Lib.hid (HB3.out.trans (b4.mono HB3.out.size))
    clear b4 k3
    go_wp2_with fail
    go_ret
    exact ⟨rfl, HB4.out⟩
end Go.Proofs.YtdhjejpcppmejaaDoor
