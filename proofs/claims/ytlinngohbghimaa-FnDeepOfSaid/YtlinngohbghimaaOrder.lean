/-
  impl.OrderParts, spec.OrderParts: a recursion that appends to what it was given.
-/
import Derived.Test.YtlinngohbghimaaDeep
namespace Go.Proofs.Ytlinngohbghimaa
open Go.RowKit

/-- the list that was handed on, grown: where it lay, or in blocks that are new -/
def PutR (w : World) (lo hi : Nat) (xs : List Prt) (e : Ending) (w' : World) : Prop :=
  ∃ A c lo' hi', e = .returned (.slice A xs.length c) ∧ SlP w' lo' hi' A c xs ∧ ((lo' = lo ∧ hi' = hi) ∨ (w.heap.size ≤ lo' ∧ hi' ≤ w'.heap.size)) ∧ lo' ≤ w'.heap.size ∧ Turn lo hi w w'
theorem putF_set (p : Prt) (v : Int) : (ints (cP p)).toArray.setIfInBounds 1 (.int .i64 v) = (ints (cP (putF p 0 v))).toArray ∧ (ints (cP p)).toArray.setIfInBounds 2 (.int .i64 v) = (ints (cP (putF p 1 v))).toArray ∧ (ints (cP p)).toArray.setIfInBounds 3 (.int .i64 v) = (ints (cP (putF p 2 v))).toArray := ⟨rfl, rfl, rfl⟩
theorem kids_take {f : Int → List Prt → List Prt} {ks : List Int} {q : Nat} (hq : q < ks.length) (s : List Prt × Prt) :
    kidsG f (ks.take (q + 1)) 0 s = (f ks[q] (kidsG f (ks.take q) 0 s).1, putF (kidsG f (ks.take q) 0 s).2 q ((f ks[q] (kidsG f (ks.take q) 0 s).1).length - 1)) := by
  rw [List.take_succ_eq_append_getElem hq, kidsG_snoc, List.length_take, Nat.zero_add, Nat.min_eq_left (by omega)]
theorem kids_len {ps : List Prt} {m q : Nat} {ks : List Int} {out : List Prt} {x : Prt} (hq : q ≤ ks.length) :
    (kidsG (fun k o => postG ps m k.toNat o) (ks.take q) 0 (out, x)).1.length ≤ out.length + q * 4 ^ m := by
  have h := (kidsG_len (f := fun k o => postG ps m k.toNat o) (M := 4 ^ m) (fun k o => postG_len ps m _ _) (ks.take q) 0 (out, x)).2
  rw [List.length_take, Nat.min_eq_left hq] at h
  exact h

/-- the state of the loop over the parts below -/
def PInv (w w4 : World) (lo hi : Nat) (A3 : Option Addr) (c3 : Nat) (ks : List Int) (lo3 : Nat) (fh : Value) (lo5 hi5 : Nat) (A5 : Option Addr) (c5 : Nat) (s : List Prt × Prt) (wr : World) : Prop :=
  SlP wr lo5 hi5 A5 c5 s.1 ∧ ((lo5 = lo ∧ hi5 = hi) ∨ (w4.heap.size ≤ lo5 ∧ hi5 ≤ wr.heap.size)) ∧ lo5 ≤ wr.heap.size ∧ Blk wr (w.heap.size + 1) 50 (ints (cP s.2)).toArray ∧
    Blk wr w.heap.size 29 #[fh] ∧ SlI wr lo3 w4.heap.size A3 c3 ks ∧ Turn lo hi w wr ∧ w4.heap.size ≤ wr.heap.size
section
variable {w w4 : World} {lo hi : Nat} {A3 : Option Addr} {c3 : Nat} {ks : List Int} {lo3 : Nat} {fh : Value} {lo5 hi5 : Nat} {A5 : Option Addr} {c5 : Nat} {s : List Prt × Prt} {wr : World}
/-- behind the call for one part below, and the store of its place -/
theorem PInv.call (h : PInv w w4 lo hi A3 c3 ks lo3 fh lo5 hi5 A5 c5 s wr) (hhi : hi ≤ w.heap.size) (h3 : w.heap.size + 2 ≤ lo3) (h4 : lo3 ≤ w4.heap.size) {o : List Prt} {w5 : World} {lo6 hi6 : Nat} {A6 : Option Addr} {c6 : Nat} (s6 : SlP w5 lo6 hi6 A6 c6 o) (d6 : (lo6 = lo5 ∧ hi6 = hi5) ∨ (wr.heap.size ≤ lo6 ∧ hi6 ≤ w5.heap.size)) (l6 : lo6 ≤ w5.heap.size) (t6 : Turn lo5 hi5 wr w5) :
    PInv w w4 lo hi A3 c3 ks lo3 fh lo6 hi6 A6 c6 (o, s.2) w5 := by
  obtain ⟨h1, h2, h2', h5, h6, h7, h8, h9⟩ := h
  have hz := t6.size
  have hw := h8.size
  refine ⟨s6, by omega, l6, t6.blk h5 (by omega), t6.blk h6 (by omega), h7.turn t6 (by omega), ?_, by omega⟩
  rcases h2 with ⟨rfl, rfl⟩ | ⟨h2, _⟩
  · exact h8.trans t6
  · exact h8.new t6 (by omega)
theorem PInv.keep (h : PInv w w4 lo hi A3 c3 ks lo3 fh lo5 hi5 A5 c5 s wr) (hhi : hi ≤ w.heap.size) {w5 : World} (t6 : Turn lo5 hi5 wr w5) {b : Nat} {t : TypeId} {cs : Array Value} (h1 : w.heap.size ≤ b) (h2 : b < w4.heap.size) (hb : Blk wr b t cs) : Blk w5 b t cs := by
  obtain ⟨_, h3, _⟩ := h
  exact t6.blk hb (by omega)
theorem PInv.put (h : PInv w w4 lo hi A3 c3 ks lo3 fh lo5 hi5 A5 c5 s wr) (hhi : hi ≤ w.heap.size) (h3 : w.heap.size + 2 ≤ lo3) (h4 : lo3 ≤ w4.heap.size) (q : Nat) (hq : q < 3) (v : Int) :
    PInv w w4 lo hi A3 c3 ks lo3 fh lo5 hi5 A5 c5 (s.1, putF s.2 q v) (wr.setCell ⟨w.heap.size + 1, q + 1, none⟩ (.int .i64 v)) := by
  obtain ⟨h1, h2, h2', h5, h6, h7, h8, h9⟩ := h
  have hw := h8.size
  have t := (Turn.refl (w.heap.size + 1) (w.heap.size + 2) wr).setCell (p := ⟨w.heap.size + 1, q + 1, none⟩) (Nat.le_refl _) (.inl (Nat.lt_succ_self _)) (.int .i64 v)
  have hz : (wr.setCell ⟨w.heap.size + 1, q + 1, none⟩ (.int .i64 v)).heap.size = wr.heap.size := by simp [World.setCell]
  refine ⟨h1.turn t (by omega), by rw [hz]; exact h2, by rw [hz]; exact h2', ?_, t.blk h6 (by omega), h7.turn t (by omega), h8.new t (by omega), by rw [hz]; exact h9⟩
  have := h5.set_ (q + 1) (.int .i64 v)
  rcases (show q = 0 ∨ q = 1 ∨ q = 2 by omega) with rfl | rfl | rfl
  · rw [(putF_set s.2 v).1] at this; exact this
  · rw [(putF_set s.2 v).2.1] at this; exact this
  · rw [(putF_set s.2 v).2.2] at this; exact this
end

theorem PInv.drew {w w4 : World} {lo hi : Nat} {A3 : Option Addr} {c3 : Nat} {ks : List Int} {lo3 : Nat} {fh : Value} {lo5 hi5 : Nat} {A5 : Option Addr} {c5 : Nat} {s : List Prt × Prt} {wr : World} (h : PInv w w4 lo hi A3 c3 ks lo3 fh lo5 hi5 A5 c5 s wr) : PInv w w4 lo hi A3 c3 ks lo3 fh lo5 hi5 A5 c5 s wr.drew :=
  ⟨h.1, h.2.1, h.2.2.1, h.2.2.2.1, h.2.2.2.2.1, h.2.2.2.2.2.1, h.2.2.2.2.2.2.1.drewN 1, h.2.2.2.2.2.2.2⟩
theorem PInv.rds {w w4 : World} {lo hi : Nat} {ad : Addr} {c3 : Nat} {ks : List Int} {lo3 : Nat} {fh : Value} {lo5 hi5 : Nat} {A5 : Option Addr} {c5 : Nat} {s : List Prt × Prt} {wr : World} (h : PInv w w4 lo hi (some ad) c3 ks lo3 fh lo5 hi5 A5 c5 s wr) {q : Nat} (hq : q < ks.length) {k : Int} (hk : ks[q] = k) :
    wr.cell? ⟨w.heap.size, 0, none⟩ = some fh ∧ wr.cell? (ad.add q) = some (.int .i64 k) :=
  ⟨h.2.2.2.2.1.cell 0, h.2.2.2.2.2.1.cellAt hq hk⟩

set_option maxRecDepth 100000 in
set_option maxHeartbeats 3200000 in
theorem implPut {ps : List Prt} (hd : Desc ps) {A : Option Addr} {c n B : Nat} (ln : ps.length = n) (m : Nat) : ∀ (i : Nat) (out : List Prt) (A' : Option Addr) (c' lo hi : Nat) (w : World), i < m → i < n → out.length + 4 ^ m ≤ 1099511627776 → RdP w B A ps → B ≤ lo → lo ≤ w.heap.size → hi ≤ w.heap.size → SlP w lo hi A' c' out →
    Calls Try.prog 45 #[.agg #[.slice A n c], .int .i64 i, .slice A' out.length c'] w (PutR w lo hi (postG ps m i out)) := by
  induction m with
  | zero => intro i out A' c' lo hi w hi'; omega
  | succ m ih =>
    intro i out A' c' lo hi w him hin hL h hB hlo hhi hout
    have hip : i < ps.length := by omega
    have IH := Lib.hid ih; clear ih
    have H := Lib.hid h
    have hp4 : 4 ^ (m + 1) = 4 ^ m * 4 := Nat.pow_succ 4 m
    obtain ⟨M, hM⟩ : ∃ M, 4 ^ m = M := ⟨_, rfl⟩
    rw [hp4, hM] at hL
    have HM := Lib.hid hM
    clear hp4 hM
    have B1 := Lib.hid (bel1P w (.cells #[.slice A n c] 29))
    obtain ⟨g, o, hA, hgB, c0, c1, c2, c3, c4⟩ := RdP_at (h.belowLe B1.out (by omega)) hip
    subst hA
    have PG := Lib.hid (show postG ps (m + 1) i out = (kidsG (fun k o => postG ps m k.toNat o) (belowL ps[i]) 0 (out, ps[i])).1 ++ [(kidsG (fun k o => postG ps m k.toNat o) (belowL ps[i]) 0 (out, ps[i])).2] from by rw [postG, getD_at hip])
    have HD := Lib.hid (hd i hip)
    have KL := Lib.hid (belowL_len ps[i])
    obtain ⟨x, hx⟩ : ∃ x, ps[i] = x := ⟨_, rfl⟩
    rw [hx] at c0 c1 c2 c3 c4 PG HD KL
    have PB := Lib.hid (fun (W : World) => partBelow (w := W) x)
    obtain ⟨ks, hks⟩ : ∃ ks, belowL x = ks := ⟨_, rfl⟩
    rw [hks] at PG HD KL PB
    have hkl := KL.out
    have HX := Lib.hid hx
    have LN := Lib.hid ln
    obtain ⟨kd, pa, pb, pc, nn⟩ := x
    dsimp only [vP] at PB
    simp only at c0 c1 c2 c3 c4
    have hi0 : (0 : Int) ≤ (i : Int) := Int.natCast_nonneg _
    have hi1 : (i : Int) < (n : Int) := by omega
    have B3 := Lib.hid (show Below w.heap.size w (((w.alloc (.cells #[.slice (some ⟨g, o, none⟩) n c] 29)).alloc (.cells #[.int .i64 kd, .int .i64 pa, .int .i64 pb, .int .i64 pc, .int .i64 nn] 50)).alloc (.cells #[.pointer (some ⟨w.heap.size + 1, 1, none⟩), .pointer (some ⟨w.heap.size + 1, 2, none⟩), .pointer (some ⟨w.heap.size + 1, 3, none⟩)] 78)) from (bel2P w _ _).alloc (by simp; omega) _)
    obtain ⟨g', o', hA', _, d0, d1, d2, d3, d4⟩ := RdP_at (H.out.belowLe B3.out (by omega)) hip
    simp only [Option.some.injEq, Addr.mk.injEq, and_true] at hA'
    obtain ⟨rfl, rfl⟩ := hA'
    rw [hx] at d0 d1 d2 d3 d4
    simp only at d0 d1 d2 d3 d4
    have HOUT := Lib.hid hout
    clear h hx hks ln hout
    go_enter Try.func45, Try.ntmps45
    go_wp2_with fail
    refine (PB.out _).mono ?_; rintro e w4 ⟨A3, c3', rfl, s3, b3⟩
    have hz4 := b3.size
    simp only [World.size_alloc] at hz4
    have I0 := Lib.hid (show PInv w w4 lo hi A3 c3' ks (w.heap.size + 3) (.slice (some ⟨g, o, none⟩) n c) lo hi A' c' (kidsG (fun k o => postG ps m k.toNat o) (ks.take 0) 0 (out, ⟨kd, pa, pb, pc, nn⟩)) w4 from
      ⟨HOUT.out.below (B3.out.trans (b3.mono (by simp; omega))) hhi, .inl ⟨rfl, rfl⟩, by omega,
        ((blkAt (by simp)).alloc _).below b3 (by simp), (((Blk.new w _ _).alloc _).alloc _).below b3 (by simp; omega), s3.mono (by simp) (Nat.le_refl _), Below.turn (B3.out.trans (b3.mono (by simp; omega))) lo hi, Nat.le_refl _⟩)
    have AT4 := Lib.hid (show Blk w4 (w.heap.size + 2) 78 #[.pointer (some ⟨w.heap.size + 1, 1, none⟩), .pointer (some ⟨w.heap.size + 1, 2, none⟩), .pointer (some ⟨w.heap.size + 1, 3, none⟩)] from (blkAt (by simp)).below b3 (by simp))
    clear s3 b3 c0 c1 c2 c3 c4 d0 d1 d2 d3 d4 B1 B3
    go_wp2_with fail
    go_loopw [2, 27] (fun v j wr => ∃ (q lo5 hi5 : Nat) (A5 : Option Addr) (c5 : Nat), q ≤ ks.length ∧ j = .int .i64 q ∧ v = .slice A5 (kidsG (fun k o => postG ps m k.toNat o) (ks.take q) 0 (out, ⟨kd, pa, pb, pc, nn⟩)).1.length c5 ∧ PInv w w4 lo hi A3 c3' ks (w.heap.size + 3) (.slice (some ⟨g, o, none⟩) n c) lo5 hi5 A5 c5 (kidsG (fun k o => postG ps m k.toNat o) (ks.take q) 0 (out, ⟨kd, pa, pb, pc, nn⟩)) wr ∧ Blk wr (w.heap.size + 2) 78 #[.pointer (some ⟨w.heap.size + 1, 1, none⟩), .pointer (some ⟨w.heap.size + 1, 2, none⟩), .pointer (some ⟨w.heap.size + 1, 3, none⟩)]) (fun _ j _ => ks.length - (intOf j).toNat)
    case atStart => exact ⟨0, lo, hi, A', c', Nat.zero_le _, rfl, rfl, I0.out, AT4.out⟩
    case round =>
      obtain ⟨q, lo5, hi5, A5, c5, hq, rfl, rfl, hI, hat⟩ := hrel
      have hlen := kids_len (ps := ps) (m := m) (out := out) (x := ⟨kd, pa, pb, pc, nn⟩) hq
      rw [HM.out] at hlen
      have I5 := Lib.hid hI
      have AT5 := Lib.hid hat
      have hlo5 := hI.2.2.1
      have hdd := hI.2.1
      have htz := hI.2.2.2.2.2.2.1.size
      have hwz := hI.2.2.2.2.2.2.2
      clear hI hat I0 AT4
      have hM0 : 0 < M := by rw [← HM.out]; exact Nat.pow_pos (by decide)
      by_cases hqk : q < ks.length
      · obtain ⟨ad, hA3, _, hc⟩ := I5.out.2.2.2.2.2.1.rd.at_ hqk
        subst hA3
        have kc := hc q hqk
        have bx : wr.cell? ⟨w.heap.size, 0, none⟩ = some (.slice (some ⟨g, o, none⟩) n c) := I5.out.2.2.2.2.1.cell 0
        have KT := Lib.hid (kids_take (f := fun k o => postG ps m k.toNat o) hqk (out, ⟨kd, pa, pb, pc, nn⟩))
        obtain ⟨hk0, hk1⟩ := HD.out _ (List.getElem_mem hqk)
        obtain ⟨k, hk⟩ : ∃ k, ks[q] = k := ⟨_, rfl⟩
        rw [hk] at kc KT hk0 hk1
        obtain ⟨kn, rfl⟩ := Int.eq_ofNat_of_zero_le hk0
        have hq0 : (0 : Int) ≤ (q : Int) := Int.natCast_nonneg _
        have hq1 : (q : Int) < (ks.length : Int) := by omega
        simp only [Int.toNat_natCast] at KT
        obtain ⟨s, hs⟩ : ∃ s, kidsG (fun k o => postG ps m k.toNat o) (ks.take q) 0 (out, ⟨kd, pa, pb, pc, nn⟩) = s := ⟨_, rfl⟩
        rw [hs] at KT hlen I5 ⊢
        have hqM : q * M ≤ 2 * M := Nat.mul_le_mul_right _ (by omega)
        have CI := Lib.hid (IH.out kn s.1 A5 c5 lo5 hi5 wr (by omega) (by omega) (by rw [HM.out]; omega) (H.out.turn I5.out.2.2.2.2.2.2.1 hB hlo) (by omega) hlo5 (by omega) I5.out.1)
        obtain ⟨sl, sp⟩ := s
        have OL := Lib.hid (postG_len ps m kn sl)
        obtain ⟨o2, ho2⟩ : ∃ o2, postG ps m kn sl = o2 := ⟨_, rfl⟩
        simp only at CI KT hlen
        rw [ho2] at CI KT OL
        have hol : o2.length ≤ 1099511627776 := by have := OL.out.2; rw [HM.out] at this; omega
        simp only
        clear hc hk hk0 hs ho2
        go_wp2_with fail
        refine CI.out.mono ?_; rintro e w5 ⟨A6, c6, lo6, hi6, rfl, s6, d6, l6, t6⟩
        have I6 := Lib.hid (I5.out.call hhi (by omega) (by omega) s6 d6 l6 t6)
        have AT6 := Lib.hid (I5.out.keep hhi t6 (by omega) (by omega) AT5.out)
        obtain ⟨kd2, pa2, pb2, pc2, nn2⟩ := sp
        have hwo : IntKind.i64.wrap ((o2.length : Int) - 1) = (o2.length : Int) - 1 := IntWalk.i64_in _ (by omega)
        clear s6 d6 l6 t6 CI kc bx I5 AT5 hdd
        rcases (show q = 0 ∨ q = 1 ∨ q = 2 by omega) with rfl | rfl | rfl
        · have e0 : w5.cell? ⟨w.heap.size + 2, 0, none⟩ = some (.pointer (some ⟨w.heap.size + 1, 1, none⟩)) := AT6.out.cell 0
          have e1 : w5.cell? ⟨w.heap.size + 1, 1, none⟩ = some (.int .i64 pa2) := I6.out.2.2.2.1.cell 1
          have e2 : w5.frozen? ⟨w.heap.size + 1, 1, none⟩ = false := I6.out.2.2.2.1.frozen 1
          go_wp2_with fail
          go_roundw
          case rel => exact ⟨1, lo6, hi6, A6, c6, by omega, by go_num, by rw [KT.out], by rw [KT.out]; exact I6.out.put hhi (by omega) (by omega) 0 (by omega) _, AT6.out.far (by simp) _⟩
          case measure => simp [intOf]; omega
        · have e0 : w5.cell? ⟨w.heap.size + 2, 1, none⟩ = some (.pointer (some ⟨w.heap.size + 1, 2, none⟩)) := AT6.out.cell 1
          have e1 : w5.cell? ⟨w.heap.size + 1, 2, none⟩ = some (.int .i64 pb2) := I6.out.2.2.2.1.cell 2
          have e2 : w5.frozen? ⟨w.heap.size + 1, 2, none⟩ = false := I6.out.2.2.2.1.frozen 2
          go_wp2_with fail
          go_roundw
          case rel => exact ⟨2, lo6, hi6, A6, c6, by omega, by go_num, by rw [KT.out], by rw [KT.out]; exact I6.out.put hhi (by omega) (by omega) 1 (by omega) _, AT6.out.far (by simp) _⟩
          case measure => simp [intOf]; omega
        · have e0 : w5.cell? ⟨w.heap.size + 2, 2, none⟩ = some (.pointer (some ⟨w.heap.size + 1, 3, none⟩)) := AT6.out.cell 2
          have e1 : w5.cell? ⟨w.heap.size + 1, 3, none⟩ = some (.int .i64 pc2) := I6.out.2.2.2.1.cell 3
          have e2 : w5.frozen? ⟨w.heap.size + 1, 3, none⟩ = false := I6.out.2.2.2.1.frozen 3
          go_wp2_with fail
          go_roundw
          case rel => exact ⟨3, lo6, hi6, A6, c6, by omega, by go_num, by rw [KT.out], by rw [KT.out]; exact I6.out.put hhi (by omega) (by omega) 2 (by omega) _, AT6.out.far (by simp) _⟩
          case measure => simp [intOf]; omega
      · have hke : ks.take q = ks := List.take_of_length_le (by omega)
        rw [hke] at hlen I5 ⊢
        obtain ⟨s, hs⟩ : ∃ s, kidsG (fun k o => postG ps m k.toNat o) ks 0 (out, ⟨kd, pa, pb, pc, nn⟩) = s := ⟨_, rfl⟩
        rw [hs] at PG hlen I5 ⊢
        have hqM : q * M ≤ 3 * M := Nat.mul_le_mul_right _ (by omega)
        obtain ⟨sl, kd2, pa2, pb2, pc2, nn2⟩ := s
        simp only at hlen PG ⊢
        have e0 : wr.cell? ⟨w.heap.size + 1, 0, none⟩ = some (.int .i64 kd2) := I5.out.2.2.2.1.cell 0
        have e1 : wr.cell? ⟨w.heap.size + 1, 1, none⟩ = some (.int .i64 pa2) := I5.out.2.2.2.1.cell 1
        have e2 : wr.cell? ⟨w.heap.size + 1, 2, none⟩ = some (.int .i64 pb2) := I5.out.2.2.2.1.cell 2
        have e3 : wr.cell? ⟨w.heap.size + 1, 3, none⟩ = some (.int .i64 pc2) := I5.out.2.2.2.1.cell 3
        have e4 : wr.cell? ⟨w.heap.size + 1, 4, none⟩ = some (.int .i64 nn2) := I5.out.2.2.2.1.cell 4
        have SO := Lib.hid (I5.out.1.alloc (.cells #[.int .i64 kd2, .int .i64 pa2, .int .i64 pb2, .int .i64 pc2, .int .i64 nn2] 50))
        have TT := Lib.hid (I5.out.2.2.2.2.2.2.1.alloc (.cells #[.int .i64 kd2, .int .i64 pa2, .int .i64 pb2, .int .i64 pc2, .int .i64 nn2] 50))
        clear hke hs
        go_wp2_with (at_builtin; refine wpList_appPS (.tmp 45) (.tmp 47) rfl rfl sl ⟨kd2, pa2, pb2, pc2, nn2⟩ rfl rfl SO.out rfl (Blk.new _ _ _) (by omega) ?_; intro A9 c9 lo9 hi9 w9 h9 d9 t9)
        have hz9 := t9.size
        rw [World.size_alloc] at d9 hz9
        have FIN := Lib.hid (show PutR w lo hi (postG ps (m + 1) i out) (.returned (.slice A9 (sl.length + 1) c9)) w9 from by
          rw [PG.out]
          refine ⟨A9, c9, lo9, hi9, by simp, h9, by omega, by omega, ?_⟩
          rcases hdd with ⟨rfl, rfl⟩ | ⟨h2, _⟩
          · exact TT.out.trans t9
          · exact TT.out.new t9 (by omega))
        clear h9 d9 t9 e0 e1 e2 e3 e4 SO TT
        go_wp2
        go_ret
        exact FIN.out
set_option maxRecDepth 100000 in
set_option maxHeartbeats 3200000 in
theorem specPost {ps : List Prt} (hd : Desc ps) {A : Option Addr} {c n B : Nat} (ln : ps.length = n) (m : Nat) : ∀ (i : Nat) (out : List Prt) (A' : Option Addr) (c' lo hi : Nat) (w : World), i < m → i < n → out.length + 4 ^ m ≤ 1099511627776 → RdP w B A ps → B ≤ lo → lo ≤ w.heap.size → hi ≤ w.heap.size → SlP w lo hi A' c' out →
    Calls Try.prog 69 #[.agg #[.slice A n c], .int .i64 i, .slice A' out.length c'] w (PutR w lo hi (postG ps m i out)) := by
  induction m with
  | zero => intro i out A' c' lo hi w hi'; omega
  | succ m ih =>
    intro i out A' c' lo hi w him hin hL h hB hlo hhi hout
    have hip : i < ps.length := by omega
    have IH := Lib.hid ih; clear ih
    have H := Lib.hid h
    have hp4 : 4 ^ (m + 1) = 4 ^ m * 4 := Nat.pow_succ 4 m
    obtain ⟨M, hM⟩ : ∃ M, 4 ^ m = M := ⟨_, rfl⟩
    rw [hp4, hM] at hL
    have HM := Lib.hid hM
    clear hp4 hM
    have B1 := Lib.hid (bel1P w (.cells #[.slice A n c] 29))
    obtain ⟨g, o, hA, hgB, c0, c1, c2, c3, c4⟩ := RdP_at (h.belowLe B1.out (by omega)) hip
    subst hA
    have PG := Lib.hid (show postG ps (m + 1) i out = (kidsG (fun k o => postG ps m k.toNat o) (belowL ps[i]) 0 (out, ps[i])).1 ++ [(kidsG (fun k o => postG ps m k.toNat o) (belowL ps[i]) 0 (out, ps[i])).2] from by rw [postG, getD_at hip])
    have HD := Lib.hid (hd i hip)
    have KL := Lib.hid (belowL_len ps[i])
    obtain ⟨x, hx⟩ : ∃ x, ps[i] = x := ⟨_, rfl⟩
    rw [hx] at c0 c1 c2 c3 c4 PG HD KL
    have PB := Lib.hid (fun (W : World) => specBelow (w := W) x)
    obtain ⟨ks, hks⟩ : ∃ ks, belowL x = ks := ⟨_, rfl⟩
    rw [hks] at PG HD KL PB
    have hkl := KL.out
    have HX := Lib.hid hx
    have LN := Lib.hid ln
    obtain ⟨kd, pa, pb, pc, nn⟩ := x
    dsimp only [vP] at PB
    simp only at c0 c1 c2 c3 c4
    have hi0 : (0 : Int) ≤ (i : Int) := Int.natCast_nonneg _
    have hi1 : (i : Int) < (n : Int) := by omega
    have B3 := Lib.hid (show Below w.heap.size w ((w.alloc (.cells #[.slice (some ⟨g, o, none⟩) n c] 29)).alloc (.cells #[.int .i64 kd, .int .i64 pa, .int .i64 pb, .int .i64 pc, .int .i64 nn] 50)) from bel2P w _ _)
    have HOUT := Lib.hid hout
    clear h hx hks ln hout
    go_enter Try.func69, Try.ntmps69
    go_wp2_with fail
    refine (PB.out _).mono ?_; rintro e w4 ⟨A3, c3', rfl, s3, b3⟩
    have hz4 := b3.size
    simp only [World.size_alloc] at hz4
    have I0 := Lib.hid (show PInv w w4 lo hi A3 c3' ks (w.heap.size + 2) (.slice (some ⟨g, o, none⟩) n c) lo hi A' c' (kidsG (fun k o => postG ps m k.toNat o) (ks.take 0) 0 (out, ⟨kd, pa, pb, pc, nn⟩)) w4 from
      ⟨HOUT.out.below (B3.out.trans (b3.mono (by simp; omega))) hhi, .inl ⟨rfl, rfl⟩, by omega,
        (blkAt (by simp)).below b3 (by simp), ((Blk.new w _ _).alloc _).below b3 (by simp; omega), s3.mono (by simp) (Nat.le_refl _), Below.turn (B3.out.trans (b3.mono (by simp; omega))) lo hi, Nat.le_refl _⟩)
    clear s3 b3 c0 c1 c2 c3 c4 B1 B3
    go_wp2_with fail
    go_loopw [2, 9] (fun v j wr => ∃ (q lo5 hi5 : Nat) (A5 : Option Addr) (c5 : Nat), q ≤ ks.length ∧ j = .int .i64 q ∧ v = .slice A5 (kidsG (fun k o => postG ps m k.toNat o) (ks.take q) 0 (out, ⟨kd, pa, pb, pc, nn⟩)).1.length c5 ∧ PInv w w4 lo hi A3 c3' ks (w.heap.size + 2) (.slice (some ⟨g, o, none⟩) n c) lo5 hi5 A5 c5 (kidsG (fun k o => postG ps m k.toNat o) (ks.take q) 0 (out, ⟨kd, pa, pb, pc, nn⟩)) wr) (fun _ j _ => ks.length - (intOf j).toNat)
    case atStart => exact ⟨0, lo, hi, A', c', Nat.zero_le _, rfl, rfl, I0.out⟩
    case round =>
      obtain ⟨q, lo5, hi5, A5, c5, hq, rfl, rfl, hI⟩ := hrel
      have hlen := kids_len (ps := ps) (m := m) (out := out) (x := ⟨kd, pa, pb, pc, nn⟩) hq
      rw [HM.out] at hlen
      have I5 := Lib.hid hI
      have hlo5 := hI.2.2.1
      have hdd := hI.2.1
      have htz := hI.2.2.2.2.2.2.1.size
      have hwz := hI.2.2.2.2.2.2.2
      clear hI I0
      have hM0 : 0 < M := by rw [← HM.out]; exact Nat.pow_pos (by decide)
      by_cases hqk : q < ks.length
      · obtain ⟨ad, hA3, _, hc⟩ := I5.out.2.2.2.2.2.1.rd.at_ hqk
        subst hA3
        have kc := hc q hqk
        have bx : wr.cell? ⟨w.heap.size, 0, none⟩ = some (.slice (some ⟨g, o, none⟩) n c) := I5.out.2.2.2.2.1.cell 0
        have KT := Lib.hid (kids_take (f := fun k o => postG ps m k.toNat o) hqk (out, ⟨kd, pa, pb, pc, nn⟩))
        obtain ⟨hk0, hk1⟩ := HD.out _ (List.getElem_mem hqk)
        obtain ⟨k, hk⟩ : ∃ k, ks[q] = k := ⟨_, rfl⟩
        rw [hk] at kc KT hk0 hk1
        obtain ⟨kn, rfl⟩ := Int.eq_ofNat_of_zero_le hk0
        have hq0 : (0 : Int) ≤ (q : Int) := Int.natCast_nonneg _
        have hq1 : (q : Int) < (ks.length : Int) := by omega
        simp only [Int.toNat_natCast] at KT
        obtain ⟨s, hs⟩ : ∃ s, kidsG (fun k o => postG ps m k.toNat o) (ks.take q) 0 (out, ⟨kd, pa, pb, pc, nn⟩) = s := ⟨_, rfl⟩
        rw [hs] at KT hlen I5 ⊢
        have hqM : q * M ≤ 2 * M := Nat.mul_le_mul_right _ (by omega)
        have hRF := (Below.refl wr.heap.size wr).drew
        have CI := Lib.hid (fun (W : World) (hw : Below wr.heap.size wr W) => IH.out kn s.1 A5 c5 lo5 hi5 W (by omega) (by omega) (by rw [HM.out]; omega) ((H.out.turn I5.out.2.2.2.2.2.2.1 hB hlo).belowLe hw (by omega)) (by omega) (by have := hw.size; omega) (by have := hw.size; omega) (I5.out.1.below hw (by omega)))
        obtain ⟨sl, sp⟩ := s
        have OL := Lib.hid (postG_len ps m kn sl)
        obtain ⟨o2, ho2⟩ : ∃ o2, postG ps m kn sl = o2 := ⟨_, rfl⟩
        simp only at CI KT hlen
        rw [ho2] at CI KT OL
        have hol : o2.length ≤ 1099511627776 := by have := OL.out.2; rw [HM.out] at this; omega
        simp only
        have RD5 := Lib.hid (I5.out.drew.rds hqk hk)
        have HK := Lib.hid hk
        have CALL := Lib.hid (fun (w5 : World) (A6 : Option Addr) (c6 lo6 hi6 : Nat) (s6 : SlP w5 lo6 hi6 A6 c6 o2) (d6 : (lo6 = lo5 ∧ hi6 = hi5) ∨ (wr.drew.heap.size ≤ lo6 ∧ hi6 ≤ w5.heap.size)) (l6 : lo6 ≤ w5.heap.size) (t6 : Turn lo5 hi5 wr.drew w5) => I5.out.drew.call hhi (by omega) (by omega) s6 d6 l6 t6)
        clear hc hk0 hs ho2 hk
        go_wp2_with fail
        go_region_held3 (fun w' => w'.cell? ⟨w.heap.size, 0, none⟩ = some (.slice (some ⟨g, o, none⟩) n c) ∧ w'.cell? (ad.add q) = some (.int .i64 (kn : Int)))
          (first | go_keep | exact i6.rds hqk HK.out | exact RD5.out)
          ((first
            | (go_at_call 69; refine (CI.out _ hRF).mono ?_; rintro e w5 ⟨A6, c6, lo6, hi6, rfl, s6, d6, l6, t6⟩; have i6 := CALL.out w5 A6 c6 lo6 hi6 s6 d6 l6 t6)))
        have I6 := Lib.hid i6
        obtain ⟨kd2, pa2, pb2, pc2, nn2⟩ := sp
        have hwo : IntKind.i64.wrap ((o2.length : Int) - 1) = (o2.length : Int) - 1 := IntWalk.i64_in _ (by omega)
        clear s6 d6 l6 t6 i6 CI kc bx I5 hdd hRF RD5 CALL
        rcases (show q = 0 ∨ q = 1 ∨ q = 2 by omega) with rfl | rfl | rfl
        · have e1 : w5.cell? ⟨w.heap.size + 1, 1, none⟩ = some (.int .i64 pa2) := I6.out.2.2.2.1.cell 1
          have e2 : w5.frozen? ⟨w.heap.size + 1, 1, none⟩ = false := I6.out.2.2.2.1.frozen 1
          go_wp2_with fail
          go_roundw
          case rel => exact ⟨1, lo6, hi6, A6, c6, by omega, by go_num, by rw [KT.out], by rw [KT.out]; exact I6.out.put hhi (by omega) (by omega) 0 (by omega) _⟩
          case measure => simp [intOf]; omega
        · have e1 : w5.cell? ⟨w.heap.size + 1, 2, none⟩ = some (.int .i64 pb2) := I6.out.2.2.2.1.cell 2
          have e2 : w5.frozen? ⟨w.heap.size + 1, 2, none⟩ = false := I6.out.2.2.2.1.frozen 2
          go_wp2_with fail
          go_roundw
          case rel => exact ⟨2, lo6, hi6, A6, c6, by omega, by go_num, by rw [KT.out], by rw [KT.out]; exact I6.out.put hhi (by omega) (by omega) 1 (by omega) _⟩
          case measure => simp [intOf]; omega
        · have e1 : w5.cell? ⟨w.heap.size + 1, 3, none⟩ = some (.int .i64 pc2) := I6.out.2.2.2.1.cell 3
          have e2 : w5.frozen? ⟨w.heap.size + 1, 3, none⟩ = false := I6.out.2.2.2.1.frozen 3
          go_wp2_with fail
          go_roundw
          case rel => exact ⟨3, lo6, hi6, A6, c6, by omega, by go_num, by rw [KT.out], by rw [KT.out]; exact I6.out.put hhi (by omega) (by omega) 2 (by omega) _⟩
          case measure => simp [intOf]; omega
      · have hke : ks.take q = ks := List.take_of_length_le (by omega)
        rw [hke] at hlen I5 ⊢
        obtain ⟨s, hs⟩ : ∃ s, kidsG (fun k o => postG ps m k.toNat o) ks 0 (out, ⟨kd, pa, pb, pc, nn⟩) = s := ⟨_, rfl⟩
        rw [hs] at PG hlen I5 ⊢
        have hqM : q * M ≤ 3 * M := Nat.mul_le_mul_right _ (by omega)
        obtain ⟨sl, kd2, pa2, pb2, pc2, nn2⟩ := s
        simp only at hlen PG ⊢
        have e0 : wr.cell? ⟨w.heap.size + 1, 0, none⟩ = some (.int .i64 kd2) := I5.out.2.2.2.1.cell 0
        have e1 : wr.cell? ⟨w.heap.size + 1, 1, none⟩ = some (.int .i64 pa2) := I5.out.2.2.2.1.cell 1
        have e2 : wr.cell? ⟨w.heap.size + 1, 2, none⟩ = some (.int .i64 pb2) := I5.out.2.2.2.1.cell 2
        have e3 : wr.cell? ⟨w.heap.size + 1, 3, none⟩ = some (.int .i64 pc2) := I5.out.2.2.2.1.cell 3
        have e4 : wr.cell? ⟨w.heap.size + 1, 4, none⟩ = some (.int .i64 nn2) := I5.out.2.2.2.1.cell 4
        have SO := Lib.hid (I5.out.1.alloc (.cells #[.int .i64 kd2, .int .i64 pa2, .int .i64 pb2, .int .i64 pc2, .int .i64 nn2] 50))
        have TT := Lib.hid (I5.out.2.2.2.2.2.2.1.alloc (.cells #[.int .i64 kd2, .int .i64 pa2, .int .i64 pb2, .int .i64 pc2, .int .i64 nn2] 50))
        clear hke hs
        go_wp2_with (at_builtin; refine wpList_appPS (.tmp 49) (.tmp 51) rfl rfl sl ⟨kd2, pa2, pb2, pc2, nn2⟩ rfl rfl SO.out rfl (Blk.new _ _ _) (by omega) ?_; intro A9 c9 lo9 hi9 w9 h9 d9 t9)
        have hz9 := t9.size
        rw [World.size_alloc] at d9 hz9
        have FIN := Lib.hid (show PutR w lo hi (postG ps (m + 1) i out) (.returned (.slice A9 (sl.length + 1) c9)) w9 from by
          rw [PG.out]
          refine ⟨A9, c9, lo9, hi9, by simp, h9, by omega, by omega, ?_⟩
          rcases hdd with ⟨rfl, rfl⟩ | ⟨h2, _⟩
          · exact TT.out.trans t9
          · exact TT.out.new t9 (by omega))
        clear h9 d9 t9 e0 e1 e2 e3 e4 SO TT
        go_wp2
        go_ret
        exact FIN.out

theorem PutR.made {w w' : World} {xs : List Prt} {e : Ending} (h : PutR w w.heap.size w.heap.size xs e w') :
    ∃ A c, e = .returned (.slice A xs.length c) ∧ SlP w' w.heap.size w'.heap.size A c xs ∧ Below w.heap.size w w' := by
  obtain ⟨A, c, lo', hi', rfl, s, d, l, t⟩ := h
  have := t.size
  exact ⟨A, c, rfl, s.mono (by omega) (by omega), t.below (Nat.le_refl _)⟩

set_option maxRecDepth 100000 in
set_option maxHeartbeats 1600000 in
theorem specOrdered {ps : List Prt} (hd : Desc ps) {A : Option Addr} {c n B i : Nat} {w : World} (ln : ps.length = n) (hin : i < n) (hn : n ≤ 12) (h : RdP w B A ps) (hB : B ≤ w.heap.size) :
    Calls Try.prog 49 #[.agg #[.slice A n c], .int .i64 i] w (MadeF w (postG ps n i [])) := by
  have B3 := Lib.hid (show Below w.heap.size w (((w.alloc (.cells #[.slice A n c] 29)).alloc (.cells #[.slice none 0 0] 29)).alloc (.cells #[] 50)) from (bel2P w _ _).alloc (by simp; omega) _)
  have K1 := Lib.hid (show Blk (((w.alloc (.cells #[.slice A n c] 29)).alloc (.cells #[.slice none 0 0] 29)).alloc (.cells #[] 50)) (w.heap.size + 1) 29 #[.slice none 0 0] from (blkAt (by simp)).alloc _)
  have hp := pow12 hn
  have HP := Lib.hid (specPost (c := c) (A' := some ⟨w.heap.size + 1 + 1, 0, none⟩) (c' := 0) hd ln n i [] _ _ (((w.alloc (.cells #[.slice A n c] 29)).alloc (.cells #[.slice none 0 0] 29)).alloc (.cells #[] 50)) (by omega) hin (by simp; omega) (h.belowLe B3.out hB) (by simp; omega) (Nat.le_refl _) (Nat.le_refl _) SlR.nil)
  clear h hp
  go_enter Try.func49, Try.ntmps49
  go_wp2_with fail
  refine HP.out.mono ?_; intro e w4 hq
  obtain ⟨A4, c4, rfl, s4, b4⟩ := hq.made
  have z4 := b4.size
  simp only [World.size_alloc] at z4
  have k1 := K1.out.below b4 K1.out.lt
  have f1 := k1.frozen 0
  have g1 := k1.cell 0
  have S4 := Lib.hid (s4.mono (show w.heap.size + 3 ≤ _ from by simp) (Nat.le_refl _))
  have B4 := Lib.hid (B3.out.trans (b4.mono (by simp; omega)))
  have E := Lib.hid ((k1.set_ 0 (.slice A4 (postG ps n i []).length c4)).cell 0)
  clear s4 b4 k1 hq
  go_wp2_with fail
  have HE := E.out
  simp at HE
  refine bodyPost_ret (v := .agg #[.slice A4 (postG ps n i []).length c4]) (by simp [results, Try.results49, go_sem, HE]) rfl ⟨A4, c4, rfl, (S4.out.turn ((Turn.refl 0 (w.heap.size + 3) _).setCell (p := ⟨w.heap.size + 1, 0, none⟩) (Nat.zero_le _) (.inl (by simp)) _) (.inr (Nat.le_refl _))).mono (by omega) (by simp), ?_⟩
  exact B4.out.setCell (by simp) _

set_option maxRecDepth 100000 in
set_option maxHeartbeats 1600000 in
theorem specOrderParts {A : Option Addr} {c n B : Nat} {w : World} (ps : List Prt) (ln : ps.length = n) (hn : n ≤ 1099511627776) (h : RdP w B A ps) (hB : B ≤ w.heap.size) :
    Calls Try.prog 25 #[.agg #[.slice A n c]] w (MadeF w (orderF ps)) := by
  have B2 := Lib.hid (show Below w.heap.size w ((w.alloc (.cells #[.slice A n c] 29)).alloc (.cells #[.slice none 0 0] 29)) from bel2P w _ _)
  have K0 := Lib.hid (show Blk ((w.alloc (.cells #[.slice A n c] 29)).alloc (.cells #[.slice none 0 0] 29)) w.heap.size 29 #[.slice A n c] from (Blk.new w _ _).alloc _)
  have K1 := Lib.hid (show Blk ((w.alloc (.cells #[.slice A n c] 29)).alloc (.cells #[.slice none 0 0] 29)) (w.heap.size + 1) 29 #[.slice none 0 0] from blkAt (by simp))
  have H := Lib.hid (h.belowLe B2.out hB)
  have LN := Lib.hid ln
  clear h
  cases hv : validF ps
  case false =>
    have HV := Lib.hid hv
    have HF := Lib.hid (show orderF ps = [] from by unfold orderF; rw [hv]; rfl)
    clear hv
    go_enter Try.func25, Try.ntmps25
    go_wp2_with fail
    refine (specValid0 ps LN.out hn H.out (by simp; omega)).mono ?_; rw [HV.out]; rintro e w3 ⟨rfl, b3⟩
    have k1 := K1.out.below b3 K1.out.lt
    have f1 := k1.frozen 0
    have g1 := k1.cell 0
    have B3 := Lib.hid (B2.out.trans (b3.mono (by simp; omega)))
    have E := Lib.hid ((k1.set_ 0 (.slice none 0 0)).cell 0)
    clear b3 k1
    go_wp2_with fail
    have HE := E.out
    simp at HE
    refine bodyPost_ret (v := .agg #[.slice none 0 0]) (by simp [results, Try.results25, go_sem, HE]) rfl ?_
    rw [HF.out]
    exact MadeF.nil (B3.out.setCell (by simp) _)
  case true =>
    obtain ⟨hl1, hl2⟩ := validF_len hv
    rw [ln] at hl1 hl2
    have HD := Lib.hid (validF_desc hv)
    have HV := Lib.hid hv
    have HF := Lib.hid (show orderF ps = postG ps n (n - 1) [] from by unfold orderF; rw [hv, ln]; rfl)
    obtain ⟨n1, hn1⟩ : ∃ n1, n - 1 = n1 := ⟨_, rfl⟩
    rw [hn1] at HF
    have hw1 : IntKind.i64.wrap ((n : Int) - 1) = (n1 : Int) := by rw [show (n : Int) - 1 = (n1 : Int) by omega]; exact IntWalk.i64_in _ (by omega)
    have HN1 := Lib.hid hn1
    clear hv hn1
    go_enter Try.func25, Try.ntmps25
    go_wp2_with fail
    refine (specValid0 ps LN.out hn H.out (by simp; omega)).mono ?_; rw [HV.out]; rintro e w3 ⟨rfl, b3⟩
    have z3 := b3.size
    simp only [World.size_alloc] at z3
    have B3 := Lib.hid (B2.out.trans (b3.mono (by simp; omega)))
    have k0 := (K0.out.below b3 K0.out.lt).cell 0
    have K13 := Lib.hid (K1.out.below b3 K1.out.lt)
    have OC := Lib.hid (specOrdered (c := c) (w := w3) HD.out LN.out (show n1 < n by have := HN1.out; omega) hl2 (H.out.belowLe b3 (by simp; omega)) (by omega))
    clear b3
    go_wp2_with fail
    refine OC.out.mono ?_; rintro e w4 ⟨A4, c4, rfl, s4, b4⟩
    have z4 := b4.size
    have k1 := K13.out.below b4 K13.out.lt
    have f1 := k1.frozen 0
    have g1 := k1.cell 0
    have B4 := Lib.hid (B3.out.trans (b4.mono (by omega)))
    have S4 := Lib.hid s4
    have E := Lib.hid ((k1.set_ 0 (.slice A4 (postG ps n n1 []).length c4)).cell 0)
    clear s4 b4 k1 k0 OC
    go_wp2_with fail
    have HE := E.out
    simp at HE
    refine bodyPost_ret (v := .agg #[.slice A4 (postG ps n n1 []).length c4]) (by simp [results, Try.results25, go_sem, HE]) rfl ?_
    rw [HF.out]
    refine ⟨A4, c4, rfl, (S4.out.turn ((Turn.refl 0 (w.heap.size + 2) _).setCell (p := ⟨w.heap.size + 1, 0, none⟩) (Nat.zero_le _) (.inl (by simp)) _) (.inr (by omega))).mono (by omega) (by simp), ?_⟩
    exact B4.out.setCell (by simp) _

set_option maxRecDepth 100000 in
set_option maxHeartbeats 1600000 in
theorem implOrderParts {A : Option Addr} {c n B : Nat} {w : World} (ps : List Prt) (ln : ps.length = n) (hn : n ≤ 9223372036854775807) (h : RdP w B A ps) (hB : B ≤ w.heap.size) :
    Calls Try.prog 18 #[.agg #[.slice A n c]] w (MadeF w (orderF ps)) := by
  have B2 := Lib.hid (show Below w.heap.size w ((w.alloc (.cells #[.slice A n c] 29)).alloc (.cells #[.slice none 0 0] 29)) from bel2P w _ _)
  have K0 := Lib.hid (show Blk ((w.alloc (.cells #[.slice A n c] 29)).alloc (.cells #[.slice none 0 0] 29)) w.heap.size 29 #[.slice A n c] from (Blk.new w _ _).alloc _)
  have K1 := Lib.hid (show Blk ((w.alloc (.cells #[.slice A n c] 29)).alloc (.cells #[.slice none 0 0] 29)) (w.heap.size + 1) 29 #[.slice none 0 0] from blkAt (by simp))
  have H := Lib.hid (h.belowLe B2.out hB)
  have LN := Lib.hid ln
  clear h
  cases hv : validF ps
  case false =>
    have HV := Lib.hid hv
    have HF := Lib.hid (show orderF ps = [] from by unfold orderF; rw [hv]; rfl)
    clear hv
    go_enter Try.func18, Try.ntmps18
    go_wp2_with fail
    refine (implValid ps LN.out hn H.out (by simp; omega)).mono ?_; rw [HV.out]; rintro e w3 ⟨rfl, b3⟩
    have k1 := K1.out.below b3 K1.out.lt
    have f1 := k1.frozen 0
    have g1 := k1.cell 0
    have B3 := Lib.hid (B2.out.trans (b3.mono (by simp; omega)))
    have E := Lib.hid ((k1.set_ 0 (.slice none 0 0)).cell 0)
    clear b3 k1
    go_wp2_with fail
    have HE := E.out
    simp at HE
    refine bodyPost_ret (v := .agg #[.slice none 0 0]) (by simp [results, Try.results18, go_sem, HE]) rfl ?_
    rw [HF.out]
    exact MadeF.nil (B3.out.setCell (by simp) _)
  case true =>
    obtain ⟨hl1, hl2⟩ := validF_len hv
    rw [ln] at hl1 hl2
    have HD := Lib.hid (validF_desc hv)
    have HV := Lib.hid hv
    have HF := Lib.hid (show orderF ps = postG ps n (n - 1) [] from by unfold orderF; rw [hv, ln]; rfl)
    clear hv
    go_enter Try.func18, Try.ntmps18
    go_wp2_with fail
    refine (implValid ps LN.out hn H.out (by simp; omega)).mono ?_; rw [HV.out]; rintro e w3 ⟨rfl, b3⟩
    have z3 := b3.size
    simp only [World.size_alloc] at z3
    have B3 := Lib.hid (B2.out.trans (b3.mono (by simp; omega)))
    have K03 := Lib.hid (K0.out.below b3 K0.out.lt)
    have K13 := Lib.hid (K1.out.below b3 K1.out.lt)
    have H3 := Lib.hid (H.out.belowLe b3 (by simp; omega))
    have hp := pow12 hl2
    have KX := Lib.hid (fun (W : World) (hb : Below w3.heap.size w3 W) => (show W.cell? ⟨w.heap.size, 0, none⟩ = some (.slice A n c) from (K03.out.below hb K03.out.lt).cell 0))
    have LA := Lib.hid (fun (W : World) => partLast (A := A) (c := c) (w := W) hl1 (by omega))
    have PT := Lib.hid (fun (W : World) (hb : Below w3.heap.size w3 W) => implPut (c := c) (A' := none) (c' := 0) (lo := W.heap.size) (hi := W.heap.size) HD.out LN.out n (n - 1) [] W (by omega) (by omega) (by simp; omega) (H3.out.belowLe hb (by omega)) (by have := hb.size; omega) (Nat.le_refl _) (Nat.le_refl _) SlR.nil)
    clear b3 hp
    obtain ⟨n1, hn1⟩ : ∃ n1, n - 1 = n1 := ⟨_, rfl⟩
    rw [hn1] at HF PT LA
    clear hn1
    obtain ⟨xs, hxs⟩ : ∃ xs, postG ps n n1 [] = xs := ⟨_, rfl⟩
    rw [hxs] at HF PT
    clear hxs
    have hRF := (Below.refl w3.heap.size w3).drew
    have k0 := K03.out.cell 0
    go_wp2_with fail
    go_region_held3 (fun w' => w'.cell? ⟨w.heap.size, 0, none⟩ = some (.slice A n c))
      (first | go_keep | exact KX.out _ hb8 | exact KX.out _ hb7 | exact KX.out _ hRF)
      ((first
        | (go_at_call 41; refine (LA.out _).mono ?_; rintro e w7 ⟨rfl, b7⟩; have hb7 := hRF.trans (b7.mono hRF.size))
        | (go_at_call 45; refine (PT.out _ hb7).mono ?_; intro e w8 hq; obtain ⟨A4, c4, rfl, s4, b8⟩ := hq.made; have hb8 := hb7.trans (b8.mono hb7.size))
        | (go_at_call 44; refine (slicesClipP xs rfl s4).mono ?_; rintro e w9 ⟨rfl, s5, rfl⟩; have k1 := K13.out.below hb8 K13.out.lt; have f1 := k1.frozen 0; have g1 := k1.cell 0)))
    have z7 := hb7.size
    have z8 := hb8.size
    have B8 := Lib.hid (B3.out.trans (hb8.mono (by omega)))
    have S5 := Lib.hid s5
    have E := Lib.hid ((k1.set_ 0 (.slice A4 xs.length xs.length)).cell 0)
    clear hq s4 b8 hb8 s5 b7 hb7 hRF k0 k1 f1 g1
    go_wp2_with fail
    have HE := E.out
    simp at HE
    refine bodyPost_ret (v := .agg #[.slice A4 xs.length xs.length]) (by simp [results, Try.results18, go_sem, HE]) rfl ?_
    rw [HF.out]
    refine ⟨A4, xs.length, rfl, (S5.out.turn ((Turn.refl 0 (w.heap.size + 2) _).setCell (p := ⟨w.heap.size + 1, 0, none⟩) (Nat.zero_le _) (.inl (by simp)) _) (.inr (by omega))).mono (by omega) (by simp), ?_⟩
    exact B8.out.setCell (by simp) _
end Go.Proofs.Ytlinngohbghimaa
