/-
  impl.stays and its closure.
-/
import Derived.Test.YtmmegmefiihabaaSpecStays
import Derived.WalkSpells
import Derived.BigRegion
namespace Go.Proofs.Ytmmegmefiihabaa
open Go.RowKit

/-- the two slices that the closure has captured -/
def CapS (w : World) (B b : Nat) (A A' : Option Addr) (c c' : Nat) (xs ys : List Int) : Prop :=
  b + 1 < B ∧ Blk w b 23 #[.slice A xs.length c] ∧ Blk w (b + 1) 23 #[.slice A' ys.length c'] ∧ RdI w B A xs ∧ RdI w B A' ys
theorem CapS.below {w w' : World} {B B' b c c' : Nat} {A A' : Option Addr} {xs ys : List Int} (h : CapS w B b A A' c c' xs ys) (hb : Below B' w w') (hB : B ≤ B') : CapS w' B b A A' c c' xs ys := by
  obtain ⟨h1, h2, h3, h4, h5⟩ := h
  exact ⟨h1, h2.below hb (by omega), h3.below hb (by omega), h4.belowLe hb hB, h5.belowLe hb hB⟩
theorem CapS.drewN {w : World} {B b c c' : Nat} {A A' : Option Addr} {xs ys : List Int} (h : CapS w B b A A' c c' xs ys) (n : Nat) : CapS (w.drewN n) B b A A' c c' xs ys := h

def Drewn (w : World) (v : Int) (e : Ending) (w' : World) : Prop := ∃ d, e = .returned (.int .i64 v) ∧ w' = w.drewN d

set_option maxHeartbeats 400000 in
theorem placeClosure {w : World} {B b c c' : Nat} {A A' : Option Addr} (xs ys : List Int) (k : Nat) (p : Int) (hk : k < ys.length) (hn : xs.length ≤ 1099511627776) (h : CapS w B b A A' c c' xs ys) (hp : plc ys[k] xs = p) :
    Calls Try.prog 88 #[.int .i64 k, .pointer (some ⟨b, 0, none⟩), .pointer (some ⟨b + 1, 0, none⟩)] w (Drewn w p) := by
  subst hp
  obtain ⟨_, h1, h2, h3, h4⟩ := h
  have hcell1 : w.cell? ⟨b, 0, none⟩ = some (.slice A xs.length c) := h1.cell 0
  have hcell2 : w.cell? ⟨b + 1, 0, none⟩ = some (.slice A' ys.length c') := h2.cell 0
  obtain ⟨ad, rfl, _, hc⟩ := h4.at_ hk
  have hcell3 := hc k hk
  have hk0 : (0 : Int) ≤ (k : Int) := by omega
  have hk1 : (k : Int) < (ys.length : Int) := by omega
  obtain ⟨x, hx⟩ : ∃ x, ys[k] = x := ⟨_, rfl⟩
  rw [hx] at hcell3 ⊢
  have H3 := Lib.hid h3
  clear h1 h2 h3 h4 hc hx
  have HC := Lib.hid (fun m => quiet_left (n := m) (w := w) (slicesIndex (x := x) (c := c) xs rfl (by omega) (H3.out.drewN m)))
  go_enter Try.func88, Try.ntmps88
  go_wp2_with fail
  go_quiet ((go_at_call 53; exact HC.out _))
  go_wp2_with fail
  go_ret
  exact ⟨_, rfl, rfl⟩

theorem fromB_skip (ps : List Int) (i : Nat) (hi : i < ps.length) (hp : ps[i] < 0) : fromB ps (i + 1) = fromB ps i := by
  unfold fromB
  rw [List.drop_eq_getElem_cons hi]
  simp only [lensF, if_pos hp, natsI, List.map_cons]
  rw [List.replicate_succ', List.append_assoc]
  rfl

/-- the world while the row is filled -/
def Inv (w2 w : World) (g n : Nat) (l : List Int) : Prop := SlI w g (g + 1) (some ⟨g, 0, none⟩) n l ∧ Below g w2 w ∧ w.heap.size = g + 1
theorem Inv.drewN {w2 w w' : World} {g n d : Nat} {l : List Int} (h : Inv w2 w g n l) (e : w' = w.drewN d) : Inv w2 w' g n l := by
  subst e; exact ⟨h.1.drewN d, below_drewN h.2.1 d, h.2.2⟩
theorem Inv.set_ {w2 w : World} {g n k : Nat} {l : List Int} (x : Int) (h : Inv w2 w g n l) (hk : k < l.length) : Inv w2 (w.setCell ⟨g, k, none⟩ (.int .i64 x)) g n (l.set k x) := by
  obtain ⟨g', o, hA, _, _, _, _, hst⟩ := h.1.at_ hk
  simp only [Option.some.injEq, Addr.mk.injEq, and_true] at hA
  obtain ⟨rfl, rfl⟩ := hA
  obtain ⟨h1, _⟩ := hst k x hk
  rw [Nat.zero_add] at h1
  exact ⟨h1, h.2.1.setCell (p := ⟨_, k, none⟩) (Nat.le_refl _) _, by simpa [World.setCell] using h.2.2⟩
theorem Inv.frozen {w2 w : World} {g n k : Nat} {l : List Int} (h : Inv w2 w g n l) (hk : k < l.length) : w.frozen? ⟨g, k, none⟩ = false := by
  obtain ⟨g', o, hA, _, _, _, hff, _⟩ := h.1.at_ hk
  simp only [Option.some.injEq, Addr.mk.injEq, and_true] at hA
  obtain ⟨rfl, rfl⟩ := hA
  have := hff k
  simpa using this
theorem Inv.get {w2 w : World} {g n k : Nat} {l : List Int} {x : Int} (h : Inv w2 w g n l) (hx : l[k]? = some x) : w.cell? ⟨g, k, none⟩ = some (.int .i64 x) := by
  have := h.1.get hx
  simpa using this

set_option maxRecDepth 100000 in
set_option maxHeartbeats 6400000 in
theorem implStays {A A' : Option Addr} {c n B c' n' B' : Nat} {w : World} (xs ys : List Int) (ln : xs.length = n) (ln' : ys.length = n') (hn : n ≤ 1048576) (hn' : n' ≤ 1048576) (h : RdI w B A xs) (h' : RdI w B' A' ys) (hB : B ≤ w.heap.size) (hB' : B' ≤ w.heap.size) :
    Calls Try.prog 64 #[.slice A n c, .slice A' n' c'] w (MadeI w (staysF xs ys)) := by
  subst ln ln'
  have hmk := run_makeI ys.length (by omega)
  obtain ⟨w2, hw2⟩ : ∃ w2, w2 = (w.alloc (.cells #[.slice A xs.length c] 23)).alloc (.cells #[.slice A' ys.length c'] 23) := ⟨_, rfl⟩
  have b2 : Below w.heap.size w w2 := by rw [hw2]; exact ((Below.refl _ _).alloc (Nat.le_refl _) _).alloc (by simp) _
  have z2 : w2.heap.size = w.heap.size + 1 + 1 := by rw [hw2]; simp
  have hb1 : Blk w2 w.heap.size 23 #[.slice A xs.length c] := by rw [hw2]; exact (Blk.new _ _ _).alloc _
  have hb2 : Blk w2 (w.heap.size + 1) 23 #[.slice A' ys.length c'] := by
    rw [hw2]
    have := Blk.new (w.alloc (.cells #[.slice A xs.length c] 23)) 23 #[.slice A' ys.length c']
    simpa using this
  have cap2 : CapS w2 (w.heap.size + 1 + 1) w.heap.size A A' c c' xs ys := ⟨by omega, hb1, hb2, (h.belowLe b2 hB).more (by omega), (h'.belowLe b2 hB').more (by omega)⟩
  obtain ⟨ps, hps⟩ : ∃ ps, ps = ys.map (fun x => plc x xs) := ⟨_, rfl⟩
  have hpl : ps.length = ys.length := by rw [hps, List.length_map]
  have hpat : ∀ k (hk : k < ys.length) (hk' : k < ps.length), plc ys[k] xs = ps[k] := fun k hk hk' => by simp [hps]
  have hst : staysF xs ys = selF ys ps (lensF ps) (maxN (lensF ps)) (-1) := by rw [hps]; rfl
  have i0 : Inv w2 (w2.alloc (.cells (ints (List.replicate ys.length 0)).toArray 3)) (w.heap.size + 1 + 1) ys.length (List.replicate ys.length 0) :=
    ⟨by have := SlI.newAt (w.heap.size + 1 + 1) z2 (List.replicate ys.length 0) (Nat.le_refl _); simpa using this, (Below.refl _ _).alloc (by omega) _, by simp [z2]⟩
  rw [hw2] at i0
  rw [← hw2] at i0
  have I0 := Lib.hid (show Inv w2 (((w.alloc (.cells #[.slice A xs.length c] 23)).alloc (.cells #[.slice A' ys.length c'] 23)).alloc (.cells (ints (List.replicate ys.length 0)).toArray 3)) (w.heap.size + 1 + 1) ys.length (List.replicate ys.length 0) by rw [← hw2]; exact i0)
  have CAP := Lib.hid cap2
  have B2 := Lib.hid b2
  have HPL := Lib.hid hpl
  have HPAT := Lib.hid hpat
  have HST := Lib.hid hst
  clear cap2 b2 hpat hst i0 hb1 hb2 h h' z2 hw2 hps
  go_enter Try.func64, Try.ntmps64
  go_wp2_with fail
  clear hmk
  go_loopw [7] (fun i wr => ∃ j : Nat, j ≤ ys.length ∧ i = .int .i64 (j - 1 : Int) ∧ Inv w2 wr (w.heap.size + 1 + 1) ys.length (fromB ps j)) (fun i _ => (intOf i + 1).toNat)
  case atStart => exact ⟨ys.length, Nat.le_refl _, rfl, by rw [show fromB ps ys.length = List.replicate ys.length 0 by rw [← HPL.out]; simp [fromB, natsI, lensF]]; simpa using I0.out⟩
  case round =>
    obtain ⟨j, hj, rfl, hI⟩ := hrel
    have HI := Lib.hid hI; clear hI
    have CAPR := Lib.hid (CAP.out.below HI.out.2.1 (Nat.le_refl _))
    rcases Nat.eq_zero_or_pos j with h0 | hpos
    · have e0 : fromB ps j = natsI (lensF ps) := by rw [h0]; simp [fromB]
      have hI0 := HI.out.1
      have hz := HI.out.2.2
      have b0 := HI.out.2.1
      rw [e0] at hI0
      obtain ⟨ls, hls⟩ : ∃ ls, ls = lensF ps := ⟨_, rfl⟩
      have hll : ls.length = ys.length := by rw [hls, lensF_len, hpl]
      have hlb : ∀ l ∈ ls, l ≤ ys.length := by rw [hls, ← hpl]; exact lensF_le ps
      have hmx := maxN_le hlb
      have more0 : 0 < maxN ls → More ps 0 (maxN ls) (-1) := by rw [hls]; exact more_start ps
      have hsel0 := HST.out
      rw [← hls] at hI0 hsel0
      have HLS := Lib.hid hls
      have L0 := Lib.hid hI0
      have HLB := Lib.hid hlb
      have HLL := Lib.hid hll
      have MORE0 := Lib.hid more0
      have SEL0 := Lib.hid hsel0
      have B0 := Lib.hid b0
      have HZ := Lib.hid hz
      have hlt : ¬ (0 : Int) ≤ (j : Int) - 1 := by omega
      clear h0 e0 hI0 hls hlb hll more0 hsel0 b0 hz HI
      go_wp2_with (at_builtin; refine wpList_appI (.tmp 59) (.tmp 60) rfl rfl (natsI ls) [0] rfl (by rw [natsI_len]; exact HLL.out) (L0.out.alloc _) rfl rfl (SlI.new wr [0] (lo := 0) (Nat.zero_le _)).rd (by omega) (by have := HZ.out; simp; omega) ?_; intro A3 c3 w3 h3 t3 g3)
      have b3 : Below wr.heap.size wr w3 := (((Below.refl _ _).alloc (Nat.le_refl _) _)).trans (((Turn.grown (lo := (wr.alloc (.cells (ints [0]).toArray 3)).heap.size) (hi := 0) (g3 (by simp)) (fun k e => by cases e) (fun k e => by cases e)).below (Nat.le_refl _)).mono (by simp))
      have R3 := Lib.hid (show RdI w3 _ A3 (natsI (ls ++ [0])) by unfold natsI; rw [List.map_append]; exact h3.rd)
      have B3 := Lib.hid b3
      clear h3 t3 g3 b3
      refine (slicesMax (ls ++ [0]) (by rw [List.length_append, HLL.out]; rfl) (by simp) (by omega) R3.out).mono ?_; rw [show maxN (ls ++ [0]) = maxN ls by rw [maxN_append]; simp [maxN]]; rintro e w4 ⟨rfl, rfl⟩
      have B02 := Lib.hid (B0.out.trans (B3.out.mono (by rw [HZ.out]; omega)))
      have z3 := B3.out.size
      have hz3 : w.heap.size + 1 + 1 + 1 ≤ w3.heap.size := by have := HZ.out; omega
      have L3 := Lib.hid (L0.out.below B3.out (by rw [HZ.out]; exact Nat.le_refl _))
      have O3 := Lib.hid (SlI.nil (w := w3) (lo := w3.heap.size) (hi := w3.heap.size) (A := none))
      clear R3 B3 z3 I0
      go_wp2_with fail
      go_loopw [9, 10, 11, 12] (fun v av mv i wr => ∃ (k want : Nat) (last : Int) (A6 : Option Addr) (c6 : Nat) (out : List Int), k ≤ ys.length ∧ out.length ≤ k ∧ i = .int .i64 k ∧ mv = .int .i64 (want : Nat) ∧ av = .int .i64 last ∧ v = .slice A6 out.length c6 ∧ out ++ selF (ys.drop k) (ps.drop k) (ls.drop k) want last = staysF xs ys ∧ (0 < want → More ps k want last) ∧ SlI wr w3.heap.size wr.heap.size A6 c6 out ∧ Below w3.heap.size w3 wr) (fun _ _ _ i _ => ys.length - (intOf i).toNat)
      case atStart => exact ⟨0, maxN ls, -1, _, 0, [], Nat.zero_le _, Nat.le_refl _, rfl, rfl, rfl, rfl, by rw [SEL0.out]; rfl, MORE0.out, O3.out, Below.refl _ _⟩
      case round =>
        obtain ⟨k, want, last, A6, c6, out, hk, hol, rfl, rfl, rfl, rfl, hsel, hmore, hs6, hb6⟩ := hrel
        have hz6 := hb6.size
        have HS6 := Lib.hid hs6; clear hs6
        have HB6 := Lib.hid hb6; clear hb6
        by_cases hw : 0 < want
        · obtain ⟨hlt, hkp⟩ : k < ys.length ∧ k < ps.length := by obtain ⟨j, hj, h1, _⟩ := hmore hw; omega
          have MORE := Lib.hid (hmore hw)
          have hkl : k < ls.length := by rw [HLL.out]; exact hlt
          have HLEN := HLS.out
          have HPLC := HPAT.out k hlt hkp
          have hmt : ls[k] = want → 0 < want - 1 → More ps (k + 1) (want - 1) ps[k] := fun e hw' => more_take ps k want hkp (by rw [← e]; congr 1; rw [HLEN]) hw'
          have hms : ¬ (ls[k] = want ∧ last < ps[k]) → More ps (k + 1) want last := fun hn => more_skip ps k want last hkp MORE.out (by rintro ⟨e1, e2⟩; exact hn ⟨by rw [← e1]; congr 1, e2⟩)
          obtain ⟨p, hp⟩ : ∃ p, ps[k] = p := ⟨_, rfl⟩
          obtain ⟨l, hl⟩ : ∃ l, ls[k] = l := ⟨_, rfl⟩
          obtain ⟨x, hx⟩ : ∃ x, ys[k] = x := ⟨_, rfl⟩
          have hlm : l ≤ ys.length := by rw [← hl]; exact HLB.out _ (List.getElem_mem hkl)
          have SEL := Lib.hid (show out ++ (if 0 < want ∧ l = want ∧ last < p then x :: selF (ys.drop (k + 1)) (ps.drop (k + 1)) (ls.drop (k + 1)) (want - 1) p else selF (ys.drop (k + 1)) (ps.drop (k + 1)) (ls.drop (k + 1)) want last) = staysF xs ys by
            rw [← hsel, selF_drop ys ps ls k want last x p l (by rw [List.getElem?_eq_getElem hlt, hx]) (by rw [List.getElem?_eq_getElem hkp, hp]) (by rw [List.getElem?_eq_getElem hkl, hl])])
          rw [hp] at HPLC hmt hms
          rw [hl] at hmt hms
          have HMT := Lib.hid hmt
          have HMS := Lib.hid hms
          have HPC := Lib.hid HPLC
          have HX := Lib.hid hx
          have L6 := L3.out.below HB6.out hz3
          have hcl := L6.get (j := k) (x := (l : Int)) (by rw [List.getElem?_eq_getElem (by rw [natsI_len]; exact hkl), natsI_at, hl])
          rw [Nat.zero_add] at hcl
          have CAP6 := Lib.hid ((CAP.out.below B02.out (Nat.le_refl _)).below HB6.out (by omega))
          clear hsel hmore hmt hms HPLC HLEN hp hl hx L6
          by_cases hlw : l = want
          · have ht : ((l : Int) == (want : Int)) = true := by rw [hlw]; simp
            have hwb : want ≤ ys.length := by omega
            have HLW := Lib.hid hlw; clear hlw
            go_wp2_with fail
            refine (placeClosure (c := c) (c' := c') xs ys k p hlt (by omega) CAP6.out HPC.out).mono ?_; rintro e w7 ⟨d7, rfl, hw7⟩
            have S7 := Lib.hid (show SlI w7 w3.heap.size w7.heap.size A6 c6 out by rw [hw7]; exact HS6.out.drewN d7)
            have B7 := Lib.hid (show Below w3.heap.size w3 w7 by rw [hw7]; exact below_drewN HB6.out d7)
            have CAP7 := Lib.hid (show CapS w7 (w.heap.size + 1 + 1) w.heap.size A A' c c' xs ys by rw [hw7]; exact CAP6.out.drewN d7)
            have hz7 : w3.heap.size ≤ w7.heap.size := B7.out.size
            clear hw7 hcl ht
            by_cases hpl : last < p
            · have hF := SEL.out
              rw [if_pos ⟨hw, HLW.out, hpl⟩] at hF
              have HF := Lib.hid hF; clear hF
              have hcb := CAP7.out.2.2.1.cell 0
              obtain ⟨ad, rfl, _, hca⟩ := CAP7.out.2.2.2.2.at_ hlt
              have hcx := hca k hlt
              rw [HX.out] at hcx
              clear hca
              go_wp2_with (at_builtin; refine wpList_appI (.tmp 80) (.tmp 85) rfl rfl out [x] rfl rfl (S7.out.alloc _) rfl rfl (SlI.new w7 [x] (lo := 0) (Nat.zero_le _)).rd (by omega) (by simp; omega) ?_; intro A8 c8 w8 h8 t8 _)
              have h9 := h8.all t8 (by simp)
              have H8 := Lib.hid h9
              have B8 := Lib.hid (Below.new (B7.out.alloc hz7 (.cells (ints [x]).toArray 3)) t8 (Nat.le_refl _) (Nat.le_refl _))
              have CAP8 := Lib.hid ((CAP.out.below B02.out (Nat.le_refl _)).below B8.out (by omega))
              clear h8 t8 h9
              refine (placeClosure (c := c) (c' := c') xs ys k p hlt (by omega) CAP8.out HPC.out).mono ?_; rintro e w9 ⟨d9, rfl, hw9⟩
              have S9 := Lib.hid (show SlI w9 w3.heap.size w9.heap.size A8 c8 (out ++ [x]) by rw [hw9]; exact H8.out.drewN d9)
              have B9 := Lib.hid (show Below w3.heap.size w3 w9 by rw [hw9]; exact below_drewN B8.out d9)
              clear hw9
              go_wp2_with fail
              go_roundw
              case rel => exact ⟨k + 1, want - 1, p, A8, c8, out ++ [x], by omega, by simp; omega, by go_num, by rw [show ((want - 1 : Nat) : Int) = (want : Int) - 1 by omega], rfl, by simp, by rw [← HF.out, List.append_assoc]; rfl, HMT.out HLW.out, S9.out, B9.out⟩
              case measure => simp [intOf]; omega
            · have hns := SEL.out
              rw [if_neg (by omega)] at hns
              have HNS := Lib.hid hns; clear hns
              go_wp2_with fail
              go_roundw
              case rel => exact ⟨k + 1, want, last, A6, c6, out, by omega, by omega, by go_num, rfl, rfl, rfl, HNS.out, fun _ => HMS.out (by omega), S7.out, B7.out⟩
              case measure => simp [intOf]; omega
          · have ht : ((l : Int) == (want : Int)) = false := by rw [beq_eq_false_iff_ne]; omega
            have hns := SEL.out
            rw [if_neg (by omega)] at hns
            have HNS := Lib.hid hns; clear hns
            have HM := Lib.hid (HMS.out (by omega))
            clear hlw
            go_wp2_with fail
            go_roundw
            case rel => exact ⟨k + 1, want, last, A6, c6, out, by omega, by omega, by go_num, rfl, rfl, rfl, HNS.out, fun _ => HM.out, HS6.out, HB6.out⟩
            case measure => simp [intOf]; omega
        · have hw0 : want = 0 := by omega
          have e1 : out = staysF xs ys := by rw [← hsel, hw0, selF_zero, List.append_nil]
          have HE := Lib.hid e1
          clear hsel hmore hw0 e1
          go_wp2_with fail
          refine (slicesClip _ rfl HS6.out).mono ?_; rintro e w7 ⟨rfl, s7, rfl⟩
          have S7 := Lib.hid s7; clear s7
          go_wp2_with fail
          go_ret
          rw [← HE.out]
          exact ⟨A6, _, rfl, S7.out.mono (by omega) (Nat.le_refl _), (B2.out.trans (B02.out.mono (by omega))).trans (HB6.out.mono (by omega))⟩
    · obtain ⟨i, rfl⟩ : ∃ i, j = i + 1 := ⟨j - 1, by omega⟩
      have ei : ((i + 1 : Nat) : Int) - 1 = (i : Int) := by omega
      rw [ei]
      have hi : i < ys.length := by omega
      have hip : i < ps.length := by omega
      clear ei hpos
      have HPC := Lib.hid (HPAT.out i hi hip)
      obtain ⟨p, hp⟩ : ∃ p, ps[i] = p := ⟨_, rfl⟩
      rw [hp] at HPC
      have HP := Lib.hid hp; clear hp
      go_wp2_with fail
      refine (placeClosure (c := c) (c' := c') xs ys i p hi (by omega) CAPR.out HPC.out).mono ?_; rintro e w1 ⟨d, rfl, hw1⟩
      have I1 := Lib.hid (HI.out.drewN hw1)
      clear hw1
      by_cases hneg : p < 0
      · go_wp2_with fail
        go_roundw
        case rel => exact ⟨i, by omega, by go_num, by rw [← fromB_skip ps i hip (by rw [HP.out]; exact hneg)]; exact I1.out⟩
        case measure => simp [intOf]
      · have hfl : i < (fromB ps (i + 1)).length := by rw [fromB_len _ _ (by omega)]; exact hip
        have hfr := I1.out.frozen hfl
        have hst1 := I1.out.get (k := i) (x := 0) (by unfold fromB; rw [List.getElem?_append_left (by simp)]; simp)
        have h1' := I1.out.set_ 1 hfl
        rw [show (1 : Int) = ((1 : Nat) : Int) from rfl, fromB_set] at h1'
        have H1 := Lib.hid h1'
        have hbe := best_le ps i hip
        rw [HP.out] at hbe
        have BEST := Lib.hid hbe
        clear h1' hbe
        go_wp2_with fail
        obtain ⟨wo, HWO⟩ : ∃ wo : World, Hid (wo = w1) := ⟨w1, rfl⟩
        go_loopw [8] (fun q wi => ∃ (k acc : Nat), i < k ∧ k ≤ ys.length ∧ q = .int .i64 k ∧ bestF p (ps.drop k) (lensF (ps.drop k)) acc = bestF p (ps.drop (i + 1)) (lensF (ps.drop (i + 1))) 1 ∧ Inv w2 wi (w.heap.size + 1 + 1) ys.length (midB ps i acc)) (fun q _ => ys.length - (intOf q).toNat)
        case atStart => exact ⟨i + 1, 1, by omega, by omega, by go_num, rfl, H1.out⟩
        case round =>
          obtain ⟨k, acc, hik, hk, rfl, hbe, hI⟩ := hrel
          clear HWO
          have hacc : acc ≤ ps.length := acc_le ps p k acc (by rw [hbe]; exact BEST.out)
          have HBE := Lib.hid hbe
          have HI2 := Lib.hid hI
          clear hbe hI
          have CAP2 := Lib.hid (CAP.out.below HI2.out.2.1 (Nat.le_refl _))
          have hcb : wr.cell? ⟨w.heap.size + 1, 0, none⟩ = some (.slice A' ys.length c') := CAP2.out.2.2.1.cell 0
          by_cases hlt : k < ys.length
          · have hltp : k < ps.length := by omega
            have HPK := Lib.hid (HPAT.out k hlt hltp)
            have STEP := Lib.hid (best_step ps p k acc hltp)
            obtain ⟨q, hq⟩ : ∃ q, ps[k] = q := ⟨_, rfl⟩
            rw [hq] at HPK STEP
            clear hq
            have hhd := hdN_le ps k hltp
            have hmk := midB_next ps i acc k hik hltp
            obtain ⟨hd, hhde⟩ : ∃ hd, hdN ps k = hd := ⟨_, rfl⟩
            rw [hhde] at hhd STEP hmk
            have HMK := Lib.hid hmk
            clear hhde hmk
            go_wp2_with fail
            refine (placeClosure (c := c) (c' := c') xs ys k q hlt (by omega) CAP2.out HPK.out).mono ?_; rintro e w3 ⟨d3, rfl, hw3⟩
            have I3 := Lib.hid (HI2.out.drewN hw3)
            have CAP3 := Lib.hid (CAP.out.below I3.out.2.1 (Nat.le_refl _))
            clear hw3 hcb
            go_wp2_with fail
            refine (placeClosure (c := c) (c' := c') xs ys i p hi (by omega) CAP3.out HPC.out).mono ?_; rintro e w4 ⟨d4, rfl, hw4⟩
            have I4 := Lib.hid (I3.out.drewN hw4)
            clear hw4
            by_cases hpq : p < q
            · have STEP' := Lib.hid (show bestF p (ps.drop (k + 1)) (lensF (ps.drop (k + 1))) (max acc (hd + 1)) = bestF p (ps.drop (i + 1)) (lensF (ps.drop (i + 1))) 1 by rw [← HBE.out, STEP.out, if_pos hpq])
              have hwr : IntKind.i64.wrap ((hd : Int) + 1) = (hd : Int) + 1 := IntWalk.i64_in _ (by omega)
              have hSI := I4.out.get (midB_at ps i acc)
              have hSK := I4.out.get HMK.out
              have hml : i < (midB ps i acc).length := by rw [midB_len _ _ _ hip]; exact hip
              have hfr4 := I4.out.frozen hml
              have h5 := I4.out.set_ ((max acc (hd + 1) : Nat) : Int) hml
              rw [midB_set] at h5
              have H5 := Lib.hid h5
              clear h5 hml
              go_wp2_with fail
              go_region
              have hv : (if (acc : Int) < (hd : Int) + 1 then (hd : Int) + 1 else (acc : Int)) = ((max acc (hd + 1) : Nat) : Int) := by split <;> omega
              have HV := Lib.hid hv; clear hv hwr
              go_wp2_with fail
              go_roundw
              case rel =>
                refine ⟨k + 1, max acc (hd + 1), by omega, by omega, by go_num, STEP'.out, ?_⟩
                rw [HV.out]; exact H5.out.drewN rfl
              case measure => simp [intOf]; omega
            · have STEP' := Lib.hid (show bestF p (ps.drop (k + 1)) (lensF (ps.drop (k + 1))) acc = bestF p (ps.drop (i + 1)) (lensF (ps.drop (i + 1))) 1 by rw [← HBE.out, STEP.out, if_neg hpq])
              go_wp2_with fail
              go_roundw
              case rel => exact ⟨k + 1, acc, by omega, by omega, by go_num, STEP'.out, I4.out⟩
              case measure => simp [intOf]; omega
          · have hkl : k = ps.length := by omega
            have e : midB ps i acc = fromB ps i := by
              have h1 := HBE.out
              rw [hkl, List.drop_length] at h1
              rw [← midB_done ps i hip (by rw [HP.out]; omega), HP.out, ← h1]
              simp [bestF]
            have h2 := HI2.out
            rw [e] at h2
            have HI3 := Lib.hid h2
            clear h2 e hkl
            go_wp2_with fail
            go_roundw
            case rel => exact ⟨i, by omega, by go_num, HI3.out⟩
            case measure => simp [intOf]
end Go.Proofs.Ytmmegmefiihabaa
