/-
  The changes from keys to others: what they are; spec.patch, spec.PatchOf.
-/
import Derived.Test.YtmmegmefiihabaaRecC
import Derived.Test.YtmmegmefiihabaaStays
import Derived.Test.YtmmegmefiihabaaStaysMost
namespace Go.Proofs.Ytmmegmefiihabaa
open Go.RowKit

def remF (a b : List Int) : List Chg := (missF a b).reverse.map fun k => ⟨0, k, -1⟩
def stepI (st a : List Int) (p k : Int) : List Chg := if memB k a = false then [⟨1, k, p⟩] else if memB k st = false then [⟨2, k, p⟩] else []
def insG (st a : List Int) : Int → List Int → List Chg
  | _, [] => []
  | p, k :: r => stepI st a p k ++ insG st a k r
def lastP (p : Int) (xs : List Int) : Int := xs.getLastD p
theorem lastP_snoc (p : Int) (xs : List Int) (k : Int) : lastP p (xs ++ [k]) = k := by simp [lastP]
theorem insG_snoc (st a : List Int) (p : Int) (xs : List Int) (k : Int) : insG st a p (xs ++ [k]) = insG st a p xs ++ stepI st a (lastP p xs) k := by
  induction xs generalizing p with
  | nil => simp [insG, lastP]
  | cons x r ih =>
    have e : lastP p (x :: r) = lastP x r := List.getLastD_cons ..
    rw [List.cons_append, insG, ih, insG, e, List.append_assoc]
theorem stepI_len (st a : List Int) (p k : Int) : (stepI st a p k).length ≤ 1 := by
  unfold stepI
  split
  · simp
  · split <;> simp
theorem insG_len (st a : List Int) (p : Int) (xs : List Int) : (insG st a p xs).length ≤ xs.length := by
  induction xs generalizing p with
  | nil => simp [insG]
  | cons x r ih => have := stepI_len st a p x; have := ih x; rw [insG, List.length_append, List.length_cons]; omega
def patchF (a b : List Int) : List Chg := remF a b ++ insG (staysF a b) a (-1) b
def patchOfF (a b : List Int) : List Chg := if vkB a && vkB b then patchF a b else []
theorem missF_len (a b : List Int) : (missF a b).length ≤ a.length := List.length_filter_le _ _
theorem patchF_len (a b : List Int) : (patchF a b).length ≤ a.length + b.length := by
  have h1 := missF_len a b
  have h2 := insG_len (staysF a b) a (-1) b
  unfold patchF remF
  rw [List.length_append, List.length_map, List.length_reverse]; omega
theorem patchOfF_len (a b : List Int) : (patchOfF a b).length ≤ 20 := by
  unfold patchOfF
  split
  · next h =>
    rw [Bool.and_eq_true] at h
    have h1 := (vkB_iff.1 h.1).2.2
    have h2 := (vkB_iff.1 h.2).2.2
    have := patchF_len a b
    omega
  · simp
theorem rev_snocI {cl : List Int} {j : Nat} (hj : j < cl.length) : cl.reverse.take (cl.length - j) = cl.reverse.take (cl.length - (j + 1)) ++ [cl[j]] := by
  have h : cl.length - j = (cl.length - (j + 1)) + 1 := by omega
  rw [h, List.take_succ_eq_append_getElem (by rw [List.length_reverse]; omega), List.getElem_reverse]
  congr 2
  congr 1
  omega

theorem goneFrom {A A' : Option Addr} {c c' n n' B B' : Nat} {w : World} (xs ys : List Int) (ln : xs.length = n) (ln' : ys.length = n') (hn : n ≤ 1099511627776) (hn' : n' ≤ 1099511627776) (h : RdI w B A xs) (h' : RdI w B' A' ys) (hB : B ≤ w.heap.size) (hB' : B' ≤ w.heap.size) :
    Calls Try.prog 82 #[.slice A n c, .slice A' n' c'] w (MadeI w (missF xs ys)) := by
  have CALL := Lib.hid (missing (c := c) (c' := c') xs ys ln ln' hn hn' h h' hB hB')
  clear h h'
  go_enter Try.func82, Try.ntmps82
  go_wp2_with fail
  refine CALL.out.mono ?_; rintro e w1 ⟨A1, c1, rfl, s1, b1⟩
  go_wp2
  go_ret
  exact ⟨A1, c1, rfl, s1, b1⟩

set_option maxRecDepth 100000 in
set_option maxHeartbeats 3200000 in
theorem specPatch {A A' : Option Addr} {c n B c' n' B' : Nat} {w : World} (xs ys : List Int) (ln : xs.length = n) (ln' : ys.length = n') (hn : n ≤ 1048576) (hn' : n' ≤ 1048576) (h : RdI w B A xs) (h' : RdI w B' A' ys) (hB : B ≤ w.heap.size) (hB' : B' ≤ w.heap.size) :
    Calls Try.prog 49 #[.slice A n c, .slice A' n' c'] w (MadeC w (patchF xs ys)) := by
  subst ln ln'
  have b0 : Below w.heap.size w (w.alloc (.cells #[] 32)) := (Below.refl w.heap.size w).alloc (Nat.le_refl _) _
  have H := Lib.hid (h.belowLe b0 hB); clear h
  have H' := Lib.hid (h'.belowLe b0 hB'); clear h'
  have hz0 : (w.alloc (.cells #[] 32)).heap.size = w.heap.size + 1 := by simp
  go_enter Try.func49, Try.ntmps49
  clear b0 hz0
  go_wp2_with fail
  refine (goneFrom (c := c) (c' := c') xs ys rfl rfl (by omega) (by omega) H.out H'.out (by simp; omega) (by simp; omega)).mono ?_; rintro e w1 ⟨A1, c1, rfl, s1, b1⟩
  have b1' : Below w.heap.size w w1 := ((Below.refl w.heap.size w).alloc (Nat.le_refl _) (.cells #[] 32)).trans (b1.mono (by simp))
  have z1 : w.heap.size + 1 ≤ w1.heap.size := by have := b1.size; simpa using this
  have H := Lib.hid (H.out.belowLe b1 (by simp; omega))
  have H' := Lib.hid (H'.out.belowLe b1 (by simp; omega))
  have SG := Lib.hid (show SlI w1 w.heap.size w1.heap.size A1 c1 (missF xs ys) from SlI.mono s1 (by simp) (Nat.le_refl _))
  have B1 := Lib.hid b1'
  have hml := missF_len xs ys
  obtain ⟨gs, hgs⟩ : ∃ gs, missF xs ys = gs := ⟨_, rfl⟩
  rw [hgs] at SG hml ⊢
  have HGS := Lib.hid (show remF xs ys = gs.reverse.map (fun k => ⟨0, k, -1⟩) from by unfold remF; rw [hgs])
  clear s1 b1 b1' hgs
  go_wp2_with fail
  go_loopw [5, 7] (fun v i wr => ∃ (j : Nat) (z : Int) (A2 : Option Addr) (c2 : Nat) (acc : List Chg), j ≤ gs.length ∧ z = (j : Int) - 1 ∧ i = .int .i64 z ∧ v = .slice A2 acc.length c2 ∧ acc = (gs.reverse.take (gs.length - j)).map (fun k => ⟨0, k, -1⟩) ∧ SlC wr w1.heap.size wr.heap.size A2 c2 acc ∧ Below w1.heap.size w1 wr) (fun _ i _ => (intOf i + 1).toNat)
  case atStart => exact ⟨gs.length, _, some ⟨w.heap.size, 0, none⟩, 0, [], Nat.le_refl _, rfl, rfl, rfl, by simp, SlR.nil, Below.refl _ _⟩
  case round =>
    obtain ⟨j, z, A2, c2, acc, hj, hz, rfl, rfl, hacc, sa, hb⟩ := hrel
    have hal : acc.length ≤ 1048576 := by rw [hacc, List.length_map, List.length_take, List.length_reverse]; omega
    have HACC := Lib.hid hacc
    have SA := Lib.hid sa
    have hzb := hb.size
    have XG := Lib.hid (SG.out.below hb (Nat.le_refl _))
    have HB := Lib.hid hb
    clear hacc sa hb
    cases j with
    | succ j =>
      obtain rfl : z = (j : Int) := by omega
      clear hz
      have hjl : j < gs.length := by omega
      have RS := Lib.hid (rev_snocI hjl)
      obtain ⟨adk, rfl⟩ : ∃ adk, A1 = some adk := by obtain ⟨adk, h, _⟩ := XG.out.rd.at_ hjl; exact ⟨adk, h⟩
      have ck := XG.out.cellAt hjl rfl
      obtain ⟨u, hu⟩ : ∃ u, gs[j] = u := ⟨_, rfl⟩
      rw [hu] at RS ck
      have hji : (0 : Int) ≤ (j : Int) := Int.natCast_nonneg _
      clear hu
      go_wp2_with (at_builtin; refine wpList_appC (.tmp 22) (.tmp 28) rfl rfl acc ⟨0, u, -1⟩ rfl rfl (SA.out.alloc _) rfl (Blk.new _ _ _) (by omega) (by simp; omega) ?_; intro A7 c7 w7 h7 t7 _)
      have hz7 : wr.heap.size + 1 ≤ w7.heap.size := by have := t7.size; simpa using this
      have S7 := Lib.hid (SlC_all h7 t7 (by simp))
      have T7 := Lib.hid (show Below w1.heap.size w1 w7 from Below.new (HB.out.alloc hzb _) t7 (Nat.le_refl _) (Nat.le_refl _))
      clear h7 t7
      go_wp2
      go_roundw
      case rel => exact ⟨j, _, A7, c7, acc ++ [⟨0, u, -1⟩], by omega, rfl, by first | rfl | go_num, by simp, by rw [RS.out, HACC.out, List.map_append, List.map_cons, List.map_nil], S7.out, T7.out⟩
      case measure => simp [intOf]
    | zero =>
      obtain rfl : z = -1 := by omega
      clear hz
      have hR : acc = remF xs ys := by rw [HACC.out, HGS.out, Nat.sub_zero, List.take_of_length_le (by simp)]
      have HRF := Lib.hid hR
      have X1 := Lib.hid (H.out.belowLe HB.out (by omega))
      have X2 := Lib.hid (H'.out.belowLe HB.out (by omega))
      have BB := Lib.hid (B1.out.trans (HB.out.mono (by omega)))
      clear HACC HGS XG SG hR H H'
      obtain ⟨wx, hwx⟩ : ∃ wo : World, wo = wr := ⟨_, rfl⟩
      subst hwx
      go_wp2_with fail
      refine (specStays (c := c) (c' := c') xs ys rfl rfl hn hn' X1.out X2.out (by omega) (by omega)).mono ?_; rintro e w2 ⟨A3, c3, rfl, s3, b3⟩
      have z3 := b3.size
      have X1 := Lib.hid (X1.out.belowLe b3 (by omega))
      have X2 := Lib.hid (X2.out.belowLe b3 (by omega))
      have SS := Lib.hid (show SlI w2 wx.heap.size w2.heap.size A3 c3 (staysF xs ys) from s3)
      have SA := Lib.hid (SA.out.below b3 (Nat.le_refl _))
      have BB := Lib.hid (BB.out.trans (b3.mono (by omega)))
      have hsl : (staysF xs ys).length ≤ ys.length := selF_len _ _ _ _ _
      obtain ⟨st, hst⟩ : ∃ st, staysF xs ys = st := ⟨_, rfl⟩
      rw [hst] at SS hsl ⊢
      have HPF := Lib.hid (show patchF xs ys = acc ++ insG st xs (-1) ys from by rw [HRF.out, ← hst]; rfl)
      clear s3 b3 hst HRF
      go_wp2_with fail
      go_loopw [5, 9, 10] (fun v p i wr => ∃ (j : Nat) (A4 : Option Addr) (c4 lo4 hi4 : Nat) (out : List Chg), j ≤ ys.length ∧ i = .int .i64 j ∧ p = .int .i64 (lastP (-1) (ys.take j)) ∧ v = .slice A4 out.length c4 ∧ out = acc ++ insG st xs (-1) (ys.take j) ∧ SlC wr lo4 hi4 A4 c4 out ∧ ((w1.heap.size ≤ lo4 ∧ hi4 ≤ wx.heap.size) ∨ (w2.heap.size ≤ lo4 ∧ hi4 ≤ wr.heap.size)) ∧ lo4 ≤ wr.heap.size ∧ RdI wr B A xs ∧ RdI wr B' A' ys ∧ SlI wr wx.heap.size w2.heap.size A3 c3 st ∧ Below w.heap.size w wr ∧ w2.heap.size ≤ wr.heap.size) (fun _ _ i _ => ys.length - (intOf i).toNat)
      case atStart => exact ⟨0, A2, c2, w1.heap.size, wx.heap.size, acc, Nat.zero_le _, rfl, rfl, rfl, by simp [insG], SA.out, .inl ⟨Nat.le_refl _, Nat.le_refl _⟩, by omega, X1.out, X2.out, SS.out, BB.out, Nat.le_refl _⟩
      case round =>
        clear X1 X2 SS SA BB
        obtain ⟨j, A4, c4, lo4, hi4, out, hj, rfl, rfl, rfl, hout, so, hloc, hlw, r1, r2, r3, hb, hzr⟩ := hrel
        have hol : out.length ≤ 1048576 + 1048576 := by
          rw [hout, List.length_append]
          have := insG_len st xs (-1) (ys.take j)
          rw [List.length_take] at this
          omega
        have HOUT := Lib.hid hout
        have SO := Lib.hid so
        have R1 := Lib.hid r1
        have R2 := Lib.hid r2
        have R3 := Lib.hid r3
        have HB := Lib.hid hb
        clear hout so r1 r2 r3 hb
        by_cases hlt : j < ys.length
        · have HSN := Lib.hid (show insG st xs (-1) (ys.take (j + 1)) = insG st xs (-1) (ys.take j) ++ stepI st xs (lastP (-1) (ys.take j)) ys[j] from by rw [List.take_succ_eq_append_getElem hlt, insG_snoc])
          have HLS := Lib.hid (show lastP (-1) (ys.take (j + 1)) = ys[j] from by rw [List.take_succ_eq_append_getElem hlt, lastP_snoc])
          obtain ⟨adk, rfl, hab, hcc⟩ := R2.out.at_ hlt
          have ck := hcc j hlt
          obtain ⟨k, hk⟩ : ∃ k, ys[j] = k := ⟨_, rfl⟩
          obtain ⟨p, hp⟩ : ∃ p, lastP (-1) (ys.take j) = p := ⟨_, rfl⟩
          rw [hk] at ck HSN HLS
          rw [hp] at HSN ⊢
          have CK := Lib.hid (fun (o : Obj) (w7 : World) (t7 : Turn lo4 hi4 (wr.alloc o) w7) => (show w7.cell? (adk.add j) = some (.int .i64 k) from by
            have := (t7.rdI (R2.out.belowLe ((Below.refl wr.heap.size wr).alloc (Nat.le_refl _) o) (by omega)) (by omega) (by rw [World.size_alloc]; omega)).at_ hlt
            obtain ⟨ad2, e2, _, h2⟩ := this
            injection e2 with e2
            subst e2
            rw [h2 j hlt, hk]))
          have NEXT := Lib.hid (fun (o : Obj) (w7 : World) (A7 : Option Addr) (c7 lo7 hi7 kd : Nat) (h7 : SlC w7 lo7 hi7 A7 c7 (out ++ [⟨kd, k, p⟩])) (d7 : (lo7 = lo4 ∧ hi7 = hi4) ∨ (lo7 = (wr.alloc o).heap.size ∧ hi7 = w7.heap.size)) (t7 : Turn lo4 hi4 (wr.alloc o) w7) => (show ((w1.heap.size ≤ lo7 ∧ hi7 ≤ wx.heap.size) ∨ (w2.heap.size ≤ lo7 ∧ hi7 ≤ w7.heap.size)) ∧ lo7 ≤ w7.heap.size ∧ RdI w7 B (A) xs ∧ RdI w7 B' (some adk) ys ∧ SlI w7 wx.heap.size w2.heap.size A3 c3 st ∧ Below w.heap.size w w7 ∧ w2.heap.size ≤ w7.heap.size from by
            have hz7 := t7.size
            rw [World.size_alloc] at hz7
            refine ⟨?_, ?_, t7.rdI (R1.out.belowLe ((Below.refl wr.heap.size wr).alloc (Nat.le_refl _) o) (by omega)) (by omega) (by rw [World.size_alloc]; omega), t7.rdI (R2.out.belowLe ((Below.refl wr.heap.size wr).alloc (Nat.le_refl _) o) (by omega)) (by omega) (by rw [World.size_alloc]; omega), (R3.out.alloc o).turn t7 (by omega), Below.new (HB.out.alloc (by omega) o) t7 (by omega) (Nat.le_refl _), by omega⟩
            · rw [World.size_alloc] at d7
              omega
            · rw [World.size_alloc] at d7
              omega))
          have P1 := Lib.hid (placeIn (x := k) (c := c) (w := wr) xs rfl (by omega) R1.out)
          have P2 := Lib.hid (placeIn (x := k) (c := c3) (w := wr) st rfl (by omega) R3.out.rd)
          have e1 := plc_neg k xs
          have e2 := plc_neg k st
          clear hk hp hcc
          cases hm1 : memB k xs
          case false =>
            rw [hm1] at e1
            have hp1 : plc k xs < 0 := by simpa using e1
            have HST := Lib.hid (show stepI st xs p k = [⟨1, k, p⟩] from by unfold stepI; rw [if_pos hm1])
            clear e1 e2 hm1
            go_wp2_with (first
              | (go_at_call 80; (with_reducible refine P1.out.mono ?_); rintro e w' ⟨rfl, rfl⟩)
              | (at_builtin; refine wpList_appCS (.tmp 47) (.tmp 54) rfl rfl out ⟨1, k, p⟩ rfl rfl (SO.out.alloc _) rfl (Blk.new _ _ _) (by omega) ?_; intro A7 c7 lo7 hi7 w7 h7 d7 t7; have ck7 := CK.out _ _ t7))
            obtain ⟨q1, q0, q2, q3, q4, q5, q6⟩ := NEXT.out _ _ _ _ _ _ 1 h7 d7 t7
            have S7 := Lib.hid h7
            clear t7 d7
            go_roundw
            case rel => exact ⟨j + 1, A7, c7, lo7, hi7, out ++ [⟨1, k, p⟩], by omega, by go_num, by rw [HLS.out], by simp, by rw [HSN.out, HST.out, HOUT.out, List.append_assoc], S7.out, q1, q0, q2, q3, q4, q5, q6⟩
            case measure => simp [intOf]; omega
          case true =>
            rw [hm1] at e1
            have hp1 : 0 ≤ plc k xs := by simpa using e1
            cases hm2 : memB k st
            case false =>
              rw [hm2] at e2
              have hp2 : plc k st < 0 := by simpa using e2
              have HST := Lib.hid (show stepI st xs p k = [⟨2, k, p⟩] from by unfold stepI; rw [if_neg (by rw [hm1]; simp), if_pos hm2])
              clear e1 e2 hm1 hm2
              go_wp2_with (first
                | (go_at_call 80; (with_reducible refine P1.out.mono ?_); rintro e w' ⟨rfl, rfl⟩)
                | (go_at_call 80; (with_reducible refine P2.out.mono ?_); rintro e w' ⟨rfl, rfl⟩)
                | (at_builtin; refine wpList_appCS (.tmp 64) (.tmp 71) rfl rfl out ⟨2, k, p⟩ rfl rfl (SO.out.alloc _) rfl (Blk.new _ _ _) (by omega) ?_; intro A7 c7 lo7 hi7 w7 h7 d7 t7; have ck7 := CK.out _ _ t7))
              obtain ⟨q1, q0, q2, q3, q4, q5, q6⟩ := NEXT.out _ _ _ _ _ _ 2 h7 d7 t7
              have S7 := Lib.hid h7
              clear t7 d7
              go_roundw
              case rel => exact ⟨j + 1, A7, c7, lo7, hi7, out ++ [⟨2, k, p⟩], by omega, by go_num, by rw [HLS.out], by simp, by rw [HSN.out, HST.out, HOUT.out, List.append_assoc], S7.out, q1, q0, q2, q3, q4, q5, q6⟩
              case measure => simp [intOf]; omega
            case true =>
              rw [hm2] at e2
              have hp2 : 0 ≤ plc k st := by simpa using e2
              have HST := Lib.hid (show stepI st xs p k = [] from by unfold stepI; rw [if_neg (by rw [hm1]; simp), if_neg (by rw [hm2]; simp)])
              clear e1 e2 hm1 hm2
              go_wp2_with (first
                | (go_at_call 80; (with_reducible refine P1.out.mono ?_); rintro e w' ⟨rfl, rfl⟩)
                | (go_at_call 80; (with_reducible refine P2.out.mono ?_); rintro e w' ⟨rfl, rfl⟩))
              go_roundw
              case rel => exact ⟨j + 1, A4, c4, lo4, hi4, out, by omega, by go_num, by rw [HLS.out], rfl, by rw [HSN.out, HST.out, HOUT.out]; simp, SO.out, hloc, hlw, R1.out, R2.out, R3.out, HB.out, hzr⟩
              case measure => simp [intOf]; omega
        · have hjl : ys.take j = ys := List.take_of_length_le (by omega)
          have HF := Lib.hid (show out = patchF xs ys from by rw [HOUT.out, HPF.out, hjl])
          clear hjl
          go_wp2_with fail
          go_ret
          rw [← HF.out]
          exact ⟨A4, c4, rfl, SO.out.mono (by omega) (by omega), HB.out⟩
end Go.Proofs.Ytmmegmefiihabaa
