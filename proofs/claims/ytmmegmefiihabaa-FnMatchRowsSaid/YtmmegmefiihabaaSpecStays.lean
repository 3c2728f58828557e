/-
  spec.shared, spec.stays, spec.StaysOf, spec.MovesOf.
-/
import Derived.Test.YtmmegmefiihabaaLongest
import Derived.Test.YtmmegmefiihabaaNewKeys
namespace Go.Proofs.Ytmmegmefiihabaa
open Go.RowKit

theorem shared {A A' : Option Addr} {c c' n n' B B' : Nat} {w : World} (xs ys : List Int) (ln : xs.length = n) (ln' : ys.length = n') (hn : n ≤ 1099511627776) (hn' : n' ≤ 1099511627776) (h : RdI w B A xs) (h' : RdI w B' A' ys) (hB : B ≤ w.heap.size) (hB' : B' ≤ w.heap.size) :
    Calls Try.prog 96 #[.slice A n c, .slice A' n' c'] w (MadeI w (commF xs ys)) := by
  subst ln ln'
  have H := Lib.hid h; clear h
  have H' := Lib.hid h'; clear h'
  go_enter Try.func96, Try.ntmps96
  go_wp2_with fail
  refine (common xs ys rfl rfl hn hn' H.out H'.out hB hB').mono ?_; rintro e w1 ⟨A1, c1, rfl, s1, b1⟩
  have HF := Lib.hid (show MadeI w (commF xs ys) (.returned (.slice A1 (commF xs ys).length c1)) w1 from ⟨A1, c1, rfl, s1, b1⟩)
  clear s1 b1
  go_wp2_with fail
  go_ret
  exact HF.out

/-- one step of the choice -/
def selStep (keys ps : List Int) (ls : List Nat) (st : List Int × Nat × Int) (i : Nat) : List Int × Nat × Int :=
  match keys[i]?, ps[i]?, ls[i]? with
  | some k, some p, some l => if 0 < st.2.1 ∧ l = st.2.1 ∧ st.2.2 < p then (st.1 ++ [k], st.2.1 - 1, p) else st
  | _, _, _ => st
theorem selF_drop (keys ps : List Int) (ls : List Nat) (i want : Nat) (last : Int) (k p : Int) (l : Nat) (hk : keys[i]? = some k) (hp : ps[i]? = some p) (hl : ls[i]? = some l) :
    selF (keys.drop i) (ps.drop i) (ls.drop i) want last = if 0 < want ∧ l = want ∧ last < p then k :: selF (keys.drop (i + 1)) (ps.drop (i + 1)) (ls.drop (i + 1)) (want - 1) p else selF (keys.drop (i + 1)) (ps.drop (i + 1)) (ls.drop (i + 1)) want last := by
  obtain ⟨h1, e1⟩ := List.getElem?_eq_some_iff.1 hk
  obtain ⟨h2, e2⟩ := List.getElem?_eq_some_iff.1 hp
  obtain ⟨h3, e3⟩ := List.getElem?_eq_some_iff.1 hl
  rw [List.drop_eq_getElem_cons h1, List.drop_eq_getElem_cons h2, List.drop_eq_getElem_cons h3, e1, e2, e3]
  rfl
theorem selF_end (keys ps : List Int) (ls : List Nat) (want : Nat) (last : Int) : selF (keys.drop keys.length) ps ls want last = [] := by
  rw [List.drop_length]
  cases ps <;> cases ls <;> rfl
theorem commF_len (xs ys : List Int) : (commF xs ys).length ≤ xs.length := List.length_filter_le _ _
theorem commF_mem {xs ys : List Int} : ∀ x ∈ commF xs ys, memB x ys = true := fun _ hx => (List.mem_filter.1 hx).2
theorem plc_comm (xs ys : List Int) : ∀ p ∈ (commF xs ys).map (fun x => plc x ys), 0 ≤ p := by
  intro p hp
  obtain ⟨x, hx, rfl⟩ := List.mem_map.1 hp
  have := plc_ge x ys
  rw [commF_mem x hx] at this
  simpa using this
theorem maxN_snoc (ls : List Nat) (k : Nat) (hk : k < ls.length) : maxN (ls.take (k + 1)) = max (maxN (ls.take k)) ls[k] := by
  rw [List.take_succ_eq_append_getElem hk, maxN_append]; congr 1
theorem maxN_le {ls : List Nat} {b : Nat} (h : ∀ l ∈ ls, l ≤ b) : maxN ls ≤ b := by
  induction ls with
  | nil => simp [maxN]
  | cons l ls ih =>
    rw [maxN_cons]
    have := h l List.mem_cons_self
    have := ih (fun m hm => h m (List.mem_cons_of_mem _ hm))
    omega

set_option maxRecDepth 100000 in
set_option maxHeartbeats 3200000 in
theorem specStays {A A' : Option Addr} {c n B c' n' B' : Nat} {w : World} (xs ys : List Int) (ln : xs.length = n) (ln' : ys.length = n') (hn : n ≤ 1048576) (hn' : n' ≤ 1048576) (h : RdI w B A xs) (h' : RdI w B' A' ys) (hB : B ≤ w.heap.size) (hB' : B' ≤ w.heap.size) :
    Calls Try.prog 83 #[.slice A n c, .slice A' n' c'] w (MadeI w (staysF xs ys)) := by
  subst ln ln'
  have H := Lib.hid h; clear h
  have H' := Lib.hid h'; clear h'
  have hspec := staysF_spec xs ys
  have hcl := commF_len ys xs
  have hcp := plc_comm ys xs
  obtain ⟨ks, hks⟩ : ∃ ks, ks = commF ys xs := ⟨_, rfl⟩
  have hks' : ks = ys.filter (fun k => memB k xs) := hks
  rw [← hks'] at hspec
  rw [← hks] at hcl hcp
  obtain ⟨ps, hps⟩ : ∃ ps, ps = ks.map (fun x => plc x xs) := ⟨_, rfl⟩
  rw [← hps] at hspec hcp
  have hpl : ps.length = ks.length := by rw [hps, List.length_map]
  have hpat : ∀ k (hk : k < ks.length), ps[k]? = some (plc ks[k] xs) := fun k hk => by rw [hps, List.getElem?_map, List.getElem?_eq_getElem hk]; rfl
  have hptake : ∀ k (hk : k < ks.length), ps.take (k + 1) = ps.take k ++ [plc ks[k] xs] := fun k hk => by
    rw [List.take_succ_eq_append_getElem (by omega)]
    congr 2
    have h1 := hpat k hk
    rw [List.getElem?_eq_getElem (by omega)] at h1
    injection h1
  obtain ⟨ls, hls⟩ : ∃ ls, ls = lensF ps := ⟨_, rfl⟩
  rw [← hls] at hspec
  have hll : ls.length = ks.length := by rw [hls, lensF_len, hpl]
  have hlb : ∀ l ∈ ls, l ≤ ks.length := by rw [hls, ← hpl]; exact lensF_le ps
  have HSPEC := Lib.hid hspec
  have HKS := Lib.hid hks
  have HPL := Lib.hid hpl
  have HLL := Lib.hid hll
  have HPAT := Lib.hid hpat
  have HPT := Lib.hid hptake
  have HCP := Lib.hid hcp
  have HLB := Lib.hid hlb
  have HLS := Lib.hid hls
  clear hspec hks hks' hpl hll hpat hptake hcp hlb hls hps
  go_enter Try.func83, Try.ntmps83
  go_wp2_with fail
  refine (shared ys xs rfl rfl (by omega) (by omega) H'.out H.out hB' hB).mono ?_; rw [← HKS.out]; rintro e w1 ⟨A1, c1, rfl, s1, b1⟩
  have z1 := b1.size
  have S1 := Lib.hid s1; clear s1
  have B1 := Lib.hid b1; clear b1
  have P0 := Lib.hid (SlI.new w1 [] (lo := w1.heap.size) (Nat.le_refl _))
  go_wp2_with fail
  go_loopw [6, 8] (fun v i wr => ∃ (k : Nat) (A2 : Option Addr) (c2 : Nat), k ≤ ks.length ∧ i = .int .i64 k ∧ v = .slice A2 (ps.take k).length c2 ∧ SlI wr w1.heap.size wr.heap.size A2 c2 (ps.take k) ∧ Below w1.heap.size w1 wr) (fun _ i _ => ks.length - (intOf i).toNat)
  case atStart => exact ⟨0, _, 0, Nat.zero_le _, rfl, rfl, by simpa using P0.out, (Below.refl _ _).alloc (Nat.le_refl _) _⟩
  case round =>
    obtain ⟨k, A2, c2, hk, rfl, rfl, hs, hb⟩ := hrel
    have hz := hb.size
    have HS := Lib.hid hs; clear hs
    have HB := Lib.hid hb; clear hb
    have S1' := Lib.hid (S1.out.below HB.out (Nat.le_refl _))
    have hptl : (ps.take k).length ≤ k := by rw [List.length_take]; omega
    obtain ⟨qs, hqs⟩ : ∃ qs, qs = ps.take k := ⟨_, rfl⟩
    rw [← hqs] at HS hptl ⊢
    have HQ := Lib.hid hqs; clear hqs
    by_cases hlt : k < ks.length
    · obtain ⟨ad, rfl, _, hc⟩ := S1'.out.rd.at_ hlt
      have hcell := hc k hlt
      have HT := Lib.hid (show ps.take (k + 1) = qs ++ [plc ks[k] xs] by rw [HQ.out]; exact HPT.out k hlt)
      clear hc
      obtain ⟨x, hx⟩ : ∃ x, ks[k] = x := ⟨_, rfl⟩
      rw [hx] at hcell HT
      clear hx
      go_wp2_with (first | (go_at_call 80; refine (placeIn xs rfl (by omega) ((H.out.belowLe B1.out hB).belowLe HB.out (by omega))).mono ?_; rintro e w' ⟨rfl, rfl⟩) | (at_builtin; refine wpList_appI (.tmp 24) (.tmp 31) rfl rfl qs [plc x xs] rfl rfl (HS.out.alloc _) rfl rfl (SlI.new wr [plc x xs] (lo := 0) (Nat.zero_le _)).rd (by omega) (by simp; omega) ?_; intro A3 c3 w3 h3 t3 _))
      have h4 := h3.all t3 (by simp)
      have HF := Lib.hid h4
      have HG := Lib.hid (Below.new (HB.out.alloc hz (.cells (ints [plc x xs]).toArray 3)) t3 (Nat.le_refl _) (Nat.le_refl _))
      clear h3 t3 h4
      go_wp2
      go_roundw
      case rel => exact ⟨k + 1, A3, c3, by omega, by go_num, by rw [HT.out, List.length_append]; rfl, by rw [HT.out]; exact HF.out, HG.out⟩
      case measure => simp [intOf]; omega
    · have hkl : k = ks.length := by omega
      have e : qs = ps := by rw [HQ.out, hkl, ← HPL.out, List.take_length]
      rw [e] at HS ⊢
      clear e
      go_wp2_with fail
      refine (longest ps rfl (by have := HPL.out; omega) HCP.out HS.out.rd (Nat.le_refl _)).mono ?_; rw [← HLS.out]; rintro e w2 ⟨A4, c4, hv, s4, b4⟩
      have hnl := natsI_len ls
      rw [hnl] at hv
      subst hv
      have z4 := b4.size
      have hllb : ls.length ≤ 1048576 := by rw [HLL.out]; omega
      have S2 := Lib.hid ((S1'.out).below b4 (by omega))
      have P2 := Lib.hid (HS.out.below b4 (Nat.le_refl _))
      have L2 := Lib.hid s4
      have B4 := Lib.hid (B1.out.trans ((HB.out.trans (b4.mono hz)).mono z1))
      clear s4 b4 hkl
      go_wp2_with fail
      go_loop [7, 10] (fun m i => ∃ k : Nat, k ≤ ls.length ∧ i = .int .i64 k ∧ m = .int .i64 (maxN (ls.take k) : Nat)) (fun _ i => ls.length - (intOf i).toNat)
      case atStart => exact ⟨0, Nat.zero_le _, rfl, rfl⟩
      case round =>
        obtain ⟨k, hk, rfl, rfl⟩ := hrel
        by_cases hlt : k < ls.length
        · obtain ⟨ad, rfl, _, hc⟩ := L2.out.rd.at_ (k := k) (by rw [natsI_len]; exact hlt)
          have hcell := hc k (by rw [natsI_len]; exact hlt)
          rw [natsI_at] at hcell
          have HM := Lib.hid (maxN_snoc ls k hlt)
          obtain ⟨l, hl⟩ : ∃ l, ls[k] = l := ⟨_, rfl⟩
          rw [hl] at hcell HM
          clear hc hl
          go_wp2
          go_round
          case rel => exact ⟨k + 1, by omega, by go_num, by rw [HM.out]; simp; split <;> omega⟩
          case measure => simp [intOf]; omega
        · have hkl : k = ls.length := by omega
          have e : maxN (ls.take k) = maxN ls := by rw [hkl, List.take_length]
          rw [e]
          have hmx := maxN_le HLB.out
          have O2 := Lib.hid (SlI.new w2 [] (lo := w2.heap.size) (Nat.le_refl _))
          clear e hkl hk
          go_wp2_with fail
          go_loopw [7, 11, 12, 13] (fun mv v av i wr => ∃ (k want : Nat) (last : Int) (A6 : Option Addr) (c6 : Nat) (out : List Int), k ≤ ks.length ∧ out.length ≤ k ∧ i = .int .i64 k ∧ mv = .int .i64 (want : Nat) ∧ av = .int .i64 last ∧ v = .slice A6 out.length c6 ∧ out ++ selF (ks.drop k) (ps.drop k) (ls.drop k) want last = staysF xs ys ∧ SlI wr w2.heap.size wr.heap.size A6 c6 out ∧ Below w2.heap.size w2 wr) (fun _ _ _ i _ => ks.length - (intOf i).toNat)
          case atStart => exact ⟨0, maxN ls, -1, _, 0, [], Nat.zero_le _, Nat.le_refl _, rfl, rfl, rfl, rfl, HSPEC.out, by simpa using O2.out, (Below.refl _ _).alloc (Nat.le_refl _) _⟩
          case round =>
            obtain ⟨k, want, last, A6, c6, out, hk, hol, rfl, rfl, rfl, rfl, hsel, hs6, hb6⟩ := hrel
            have hz6 := hb6.size
            have HS6 := Lib.hid hs6; clear hs6
            have HB6 := Lib.hid hb6; clear hb6
            by_cases hlt : k < ks.length
            · have hll := HLL.out
              have hpl := HPL.out
              have hkl : k < ls.length := by omega
              have hkp : k < ps.length := by omega
              obtain ⟨p, hp⟩ : ∃ p, ps[k] = p := ⟨_, rfl⟩
              obtain ⟨l, hl⟩ : ∃ l, ls[k] = l := ⟨_, rfl⟩
              obtain ⟨x, hx⟩ : ∃ x, ks[k] = x := ⟨_, rfl⟩
              have hlm : l ≤ ks.length := by rw [← hl]; exact HLB.out _ (List.getElem_mem hkl)
              have SEL := Lib.hid (show out ++ (if 0 < want ∧ l = want ∧ last < p then x :: selF (ks.drop (k + 1)) (ps.drop (k + 1)) (ls.drop (k + 1)) (want - 1) p else selF (ks.drop (k + 1)) (ps.drop (k + 1)) (ls.drop (k + 1)) want last) = staysF xs ys by
                rw [← hsel, selF_drop ks ps ls k want last x p l (by rw [List.getElem?_eq_getElem hlt, hx]) (by rw [List.getElem?_eq_getElem hkp, hp]) (by rw [List.getElem?_eq_getElem hkl, hl])])
              clear hsel
              have P6 := P2.out.below HB6.out (by omega)
              have S6 := S2.out.below HB6.out (by omega)
              have L6 := L2.out.below HB6.out (by omega)
              obtain ⟨ad1, rfl, _, hc1⟩ := S6.rd.at_ hlt
              obtain ⟨ad2, rfl, _, hc2⟩ := P6.rd.at_ hkp
              obtain ⟨ad3, rfl, _, hc3⟩ := L6.rd.at_ (k := k) (by rw [natsI_len]; exact hkl)
              have hcell1 := hc1 k hlt
              have hcell2 := hc2 k hkp
              have hcell3 := hc3 k (by rw [natsI_len]; exact hkl)
              rw [natsI_at] at hcell3
              rw [hx] at hcell1
              rw [hp] at hcell2
              rw [hl] at hcell3
              have hkpI : (k : Int) < (ps.length : Int) := by omega
              have hklI : (k : Int) < (ls.length : Int) := by omega
              have HP := Lib.hid hp
              clear hc1 hc2 hc3 P6 S6 L6 hx hp hl hll hpl
              by_cases hw : 0 < want
              · by_cases hlw : l = want
                · have ht : ((l : Int) == (want : Int)) = true := by rw [hlw]; simp
                  have hwb : want ≤ ks.length := by omega
                  have HLW := Lib.hid hlw; clear hlw
                  by_cases hpl : last < p
                  · have hF := SEL.out
                    rw [if_pos ⟨hw, HLW.out, hpl⟩] at hF
                    have HF := Lib.hid hF; clear hF
                    go_wp2_with (at_builtin; refine wpList_appI (.tmp 72) (.tmp 77) rfl rfl out [x] rfl rfl (HS6.out.alloc _) rfl rfl (SlI.new wr [x] (lo := 0) (Nat.zero_le _)).rd (by omega) (by simp; omega) ?_; intro A7 c7 w7 h7 t7 _; have hcell2' := SlI.cellAt (P2.out.below (Below.new (HB6.out.alloc hz6 (.cells (ints [x]).toArray 3)) t7 (Nat.le_refl _) (Nat.le_refl _)) (by omega)) hkp HP.out)
                    have h8 := h7.all t7 (by simp)
                    have H8 := Lib.hid h8
                    have B7 := Lib.hid (Below.new (HB6.out.alloc hz6 (.cells (ints [x]).toArray 3)) t7 (Nat.le_refl _) (Nat.le_refl _))
                    clear h7 t7 h8 hcell1 hcell3 hcell2
                    go_roundw
                    case rel => exact ⟨k + 1, want - 1, p, A7, c7, out ++ [x], by omega, by simp; omega, by go_num, by rw [show ((want - 1 : Nat) : Int) = (want : Int) - 1 by omega], rfl, by simp, by rw [← HF.out, List.append_assoc]; rfl, H8.out, B7.out⟩
                    case measure => simp [intOf]; omega
                  · have hns := SEL.out
                    rw [if_neg (by omega)] at hns
                    have HNS := Lib.hid hns; clear hns
                    go_wp2_with fail
                    go_roundw
                    case rel => exact ⟨k + 1, want, last, A6, c6, out, by omega, by omega, by go_num, rfl, rfl, rfl, HNS.out, HS6.out, HB6.out⟩
                    case measure => simp [intOf]; omega
                · have ht : ((l : Int) == (want : Int)) = false := by rw [beq_eq_false_iff_ne]; omega
                  have hns := SEL.out
                  rw [if_neg (by omega)] at hns
                  have HNS := Lib.hid hns; clear hns hlw
                  go_wp2_with fail
                  go_roundw
                  case rel => exact ⟨k + 1, want, last, A6, c6, out, by omega, by omega, by go_num, rfl, rfl, rfl, HNS.out, HS6.out, HB6.out⟩
                  case measure => simp [intOf]; omega
              · have hns := SEL.out
                rw [if_neg (by omega)] at hns
                have HNS := Lib.hid hns; clear hns
                go_wp2_with fail
                go_roundw
                case rel => exact ⟨k + 1, want, last, A6, c6, out, by omega, by omega, by go_num, rfl, rfl, rfl, HNS.out, HS6.out, HB6.out⟩
                case measure => simp [intOf]; omega
            · have hkl : k = ks.length := by omega
              rw [hkl, selF_end, List.append_nil] at hsel
              have HSEL := Lib.hid hsel
              clear hsel hkl
              go_wp2_with fail
              go_ret
              exact ⟨A6, c6, by rw [← HSEL.out]; rfl, by rw [← HSEL.out]; exact HS6.out.mono (by omega) (Nat.le_refl _), B4.out.trans (HB6.out.mono (by omega))⟩
end Go.Proofs.Ytmmegmefiihabaa
