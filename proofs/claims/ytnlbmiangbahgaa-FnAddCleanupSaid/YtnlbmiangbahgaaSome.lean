/-
  spec.someOwners, ownerOf: drawn owners, which may be invalid.
-/
import Derived.Test.YtnlbmiangbahgaaGood
import Derived.Deep.RegionWith
import Derived.Deep.Cut
namespace Go.Proofs.Ytnlbmiangbahgaa
open Go.RowKit
attribute [-go_sem] Builtin.append_

theorem run_appCl {w : World} (ty : TypeId) {lo hi c k c' B : Nat} {A A' : Option Addr} {v : Int} (ps : List (Own × Hd)) (y : Own × Hd) (hp : SlP w lo hi A c ps) (hk : ps[k]? = some y)
    (hr : RdI w B A' [v]) (hb : y.1.cl.length ≤ 1099511627776) (hhi : hi ≤ w.heap.size) (hlo : lo ≤ hi) :
    ∃ A'' c'' w', (Builtin.append_ #[29, 29] ty #[.slice y.2.clA y.1.cl.length y.2.clC, .slice A' 1 c']).run Try.prog w = .ok (.slice A'' (y.1.cl.length + 1) c'') w' ∧
      SlP w' lo hi A c ps ∧ SlI w' lo w'.heap.size A'' c'' (y.1.cl ++ [v]) ∧ (∀ b ∈ live A'' c'', Free A c ps k b) ∧ (∀ b ∈ live A'' c'', b ∉ live y.2.cxA y.2.cxC) ∧ Turn lo hi w w' := by
  obtain ⟨i0, hi0, hz0, hz1, hz2⟩ := info_parts Try.infoInt
  obtain ⟨l', h', hs1, hs2, hs3, hs4⟩ := Sl.narrow (hp.cl k y hk)
  obtain ⟨A'', c'', w', hrun, ht, hfin⟩ := run_appF (P := Try.prog) w l' h' 29 ty 3 i0 _ 1 8 Try.underlying29 hi0 hz0 hz1 hz2 rfl (by decide)
    y.2.clA y.1.cl.length y.2.clC (ints y.1.cl) hs1 B A' 1 c' (ints [v]) rfl hr (ints_oneCell _ _) (by unfold maxLen; omega) (by omega)
  have hz := ht.size
  have hnew : ints y.1.cl ++ ints [v] = ints (y.1.cl ++ [v]) := by simp [ints]
  have hlen : (y.1.cl ++ [v]).length = y.1.cl.length + 1 := by simp
  rcases hfin with ⟨rfl, rfl, hfin⟩ | ⟨hfin, ht0⟩
  · have hp' : SlP w' lo hi A c ps := by
      have := hp.inner hk rfl ht (Sl.range (hfin.pre (by simp)) (lo' := lo) (hi' := hi) fun b hb => by have := (hp.cl k y hk).live_in b hb; exact ⟨this.1, this.2.1⟩)
        (Sl.apart (hp.cx k y hk) ht fun m hm => by
          have : ¬ (l' ≤ m ∧ m < h') := fun h2 => hp.d2 k y hk m (hs2 m h2.1 h2.2) hm
          omega) (fun m h1 h2 => List.mem_append_left _ (hs2 m h1 h2))
      rwa [set_self hk] at this
    refine ⟨_, _, w', hrun, hp', ?_, fun b hb => hp.own_free hk (List.mem_append_left _ hb), hp.d2 k y hk, hs4 _ _ ht⟩
    unfold SlI
    rw [hlen, ← hnew]
    exact hfin.range fun b hb => by have := (hp.cl k y hk).live_in b hb; exact ⟨this.1, by omega⟩
  · have hp' : SlP w' lo hi A c ps := hp.turn (lo' := 0) (hi' := 0) ht0 (.inr (by omega))
    refine ⟨_, _, w', hrun, hp', ?_, fun b hb => hp.free (by have := (hfin.live_in b hb).1; omega), fun b hb hb2 => by have := (hfin.live_in b hb).1; have := (Sl.live_in (hp.cx k y hk) b hb2).2.1; omega, hs4 _ _ ht⟩
    unfold SlI
    rw [hlen, ← hnew]
    exact hfin.range fun b hb => by have := hfin.live_in b hb; exact ⟨by omega, this.2.2⟩
section
variable {w : World} {ops : Array Oper} {o : Oper} {a : Act} {Q : Exit → Act → World → Prop}
theorem step_appCl {K : Act → World → Prop} {E : Prop} (s x : Operand) (hgd : o.guard = none)
    (ho : o.op = .call { callee := .builtin .append, args := #[s, x], argTypes := #[29, 29] })
    {lo hi c k c' B : Nat} {A A' : Option Addr} {v : Int} (ps : List (Own × Hd)) (y : Own × Hd) (hp : SlP w lo hi A c ps) (hk : ps[k]? = some y) (hs : a.eval s = .slice y.2.clA y.1.cl.length y.2.clC)
    (hx : a.eval x = .slice A' 1 c') (hr : RdI w B A' [v]) (hb : y.1.cl.length ≤ 1099511627776) (hhi : hi ≤ w.heap.size) (hlo : lo ≤ hi)
    (h : ∀ A'' c'' w', SlP w' lo hi A c ps → SlI w' lo w'.heap.size A'' c'' (y.1.cl ++ [v]) → (∀ b ∈ live A'' c'', Free A c ps k b) → (∀ b ∈ live A'' c'', b ∉ live y.2.cxA y.2.cxC) → Turn lo hi w w' →
      K (a.put o.dst (.slice A'' (y.1.cl.length + 1) c'')) w') :
    if Region.wanted o (yielded ops a.tmps) = true then Oper.wp Try.prog o a w K Q else E := by
  have hw : Region.wanted o (yielded ops a.tmps) = true := by simp [Region.wanted, hgd]
  rw [if_pos hw]
  obtain ⟨A'', c'', w', hrun, h1, h2, h3, h4, h5⟩ := run_appCl o.type ps y hp hk hr hb hhi hlo (c' := c')
  unfold Oper.wp execOp
  simp only [ho, resolve, invoke, builtin, Sem.run_bind, Sem.run_pure, Result.andThen_ok, List.map_toArray, List.map_cons, List.map_nil, hs, hx, hrun]
  exact h A'' c'' w' h1 h2 h3 h4 h5
end

/-- drawn owners, fresh, small; the reader has gone on -/
def Smalls (os : List Own) : Prop := (1 ≤ os.length ∧ os.length ≤ 12) ∧ ∀ x ∈ os, x.cl.length ≤ 6 ∧ x.cx.length ≤ 3
def DrawA (N g m : Nat) (w : World) (e : Ending) (w' : World) : Prop :=
  ∃ (A : Option Addr) (c : Nat) (os : List Own), e = .returned (.slice A os.length c) ∧ Smalls os ∧ SlO w' w.heap.size w'.heap.size A c os ∧ Rdr w' N g m ∧ Turn g (g + 1) w w'
theorem smalls_vo {os : List Own} (h : voB os = true) : Smalls os := ⟨(vo_lens h).1, fun x hx => by have := (vo_lens h).2 x hx; omega⟩
theorem smalls_set {os : List Own} {P : Nat} {y : Own} (h : Smalls os) (h1 : y.cl.length ≤ 6) (h2 : y.cx.length ≤ 3) : Smalls (os.set P y) :=
  ⟨by simpa using h.1, fun x hx => (List.mem_or_eq_of_mem_set hx).elim (fun hx => h.2 x hx) (fun e => by subst e; exact ⟨h1, h2⟩)⟩

set_option maxRecDepth 100000 in
set_option maxHeartbeats 3200000 in
theorem someOwners {N g m : Nat} {w : World} (hm : m ≤ 800000) (h : Rdr w N g m) :
    Calls Try.prog 48 #[.pointer (some ⟨g, 0, none⟩)] w (DrawA N g (m + 84) w) := by
  have hg := h.lt
  have H0 := Lib.hid h; clear h
  go_enter Try.func48, Try.ntmps48
  go_wp2_with fail
  refine (goodOwners (by omega) H0.out).mono ?_; rintro e w1 ⟨A1, c1, os, rfl, hv, s1, r1, t1⟩
  have hz1 := t1.size
  obtain ⟨⟨hl1, hl2⟩, _⟩ := vo_lens hv
  have HV := Lib.hid hv
  have S1 := Lib.hid s1
  have R1 := Lib.hid r1
  have T1 := Lib.hid t1
  clear s1 r1 t1 hv H0
  go_wp2_with fail
  refine (pick _ N g (m + 80) _ (by omega) R1.out).mono ?_; rintro e w2 ⟨v, rfl, hv0, hvl, r2, t2⟩
  have hvl2 : v < (os.length : Int) := by omega
  clear hvl
  obtain ⟨P, rfl⟩ := Int.eq_ofNat_of_zero_le hv0
  have hP : P < os.length := by omega
  have hz2 := t2.size
  have S2 := Lib.hid ((S1.out.turn t2 (.inr (by omega))).mono (Nat.le_refl _) hz2)
  have T2 := Lib.hid (T1.out.trans t2)
  have R2 := Lib.hid r2
  clear r2 t2 S1 T1 R1 hv0
  go_wp2_with fail
  refine (pick _ N g (m + 80 + 1) _ (by omega) R2.out).mono ?_; rintro e w3 ⟨s, rfl, hs0, hsl, r3, t3⟩
  have hz3 := t3.size
  have hg3 : w.heap.size ≤ w3.heap.size := by omega
  obtain ⟨ps, hps, s3⟩ := (S2.out.turn t3 (.inr (by omega))).mono (Nat.le_refl _) hz3
  have T3 := Lib.hid (T2.out.trans t3)
  have R3 := Lib.hid r3
  clear r3 t3 S2 T2 R2 hz1 hz2 hz3
  obtain ⟨hd, hk⟩ := at_fst hps hP
  obtain ⟨x, hx⟩ : ∃ x, os[P] = x := ⟨_, rfl⟩
  have HXL := Lib.hid (show x.cl.length ≤ 5 ∧ x.cx.length = 3 from by rw [← hx]; exact (vo_lens HV.out).2 _ (List.getElem_mem hP))
  rw [hx] at hk
  obtain ⟨g2, o2, rfl⟩ : ∃ g o, A1 = some ⟨g, o, none⟩ := by obtain ⟨g, o, h, _⟩ := s3.cells hk; exact ⟨g, o, h⟩
  have CELL := Lib.hid (fun (W : World) (lo hi : Nat) (hs : SlP W lo hi (some ⟨g2, o2, none⟩) c1 ps) => (show ((W.cell? ⟨g2, o2 + P * 4, none⟩ = some (.int .i64 x.p) ∧ W.cell? ⟨g2, o2 + P * 4 + 1, none⟩ = some (.bool x.op)) ∧ W.cell? ⟨g2, o2 + P * 4 + 2, none⟩ = some (.slice hd.clA x.cl.length hd.clC) ∧ W.cell? ⟨g2, o2 + P * 4 + 3, none⟩ = some (.slice hd.cxA x.cx.length hd.cxC)) ∧
      ((W.frozen? ⟨g2, o2 + P * 4, none⟩ = false ∧ W.frozen? ⟨g2, o2 + P * 4 + 1, none⟩ = false) ∧ W.frozen? ⟨g2, o2 + P * 4 + 2, none⟩ = false ∧ W.frozen? ⟨g2, o2 + P * 4 + 3, none⟩ = false) ∧ lo ≤ g2 ∧ g2 < hi from by
    obtain ⟨g', o', hA, e1, e2, _, _, d1, d2, _⟩ := hs.cells hk
    simp only [Option.some.injEq, Addr.mk.injEq, and_true] at hA
    obtain ⟨rfl, rfl⟩ := hA
    exact ⟨⟨⟨d1 P _ hk 0 _ rfl, d1 P _ hk 1 _ rfl⟩, d1 P _ hk 2 _ rfl, d1 P _ hk 3 _ rfl⟩, ⟨⟨d2 (P * 4), d2 (P * 4 + 1)⟩, d2 (P * 4 + 2), d2 (P * 4 + 3)⟩, e1, e2⟩))
  have HPS := Lib.hid hps
  have HK := Lib.hid hk
  have S3 := Lib.hid s3
  have HSM := Lib.hid (smalls_vo HV.out)
  clear hps hk s3 hx
  by_cases h0 : s = 0
  case pos =>
    subst h0
    clear hs0 hsl
    go_wp2_with fail
    have hz4 : w3.heap.size + 1 ≤ (w3.alloc (.cells (ints [-2, (P : Int), 12]).toArray 3)).heap.size := by simp
    refine (one (n := 3) [-2, (P : Int), 12] rfl (by omega) (by omega) N g (m + 80 + 1 + 1) (by omega) (R3.out.below ((Below.refl w3.heap.size w3).alloc (Nat.le_refl _) (.cells (ints [-2, (P : Int), 12]).toArray 3)) (by omega)) (SlI.newAt (lo := w.heap.size) (w := w3) w3.heap.size rfl [-2, (P : Int), 12] (by omega)) hg).mono ?_
    rintro e w4 ⟨q, _, rfl, r4, t4⟩
    have s4 := (S3.out.alloc (.cells (ints [-2, (P : Int), 12]).toArray 3)).turn t4 (.inr (by omega))
    have hz5 := t4.size
    obtain ⟨⟨⟨c0, _⟩, _, _⟩, ⟨⟨f0, _⟩, _, _⟩, e1, e2⟩ := CELL.out w4 _ _ s4
    obtain ⟨p5, t5⟩ := s4.put (hi' := w3.heap.size) (y := (⟨q, x.op, x.cl, x.cx⟩, hd)) HK.out 0 (.int .i64 q) (by omega) rfl (Nat.le_refl _) (s4.cl P (x, hd) HK.out) (s4.cx P (x, hd) HK.out) (s4.d2 P (x, hd) HK.out) (fun b hb => s4.own_free HK.out hb) rfl
    rw [Nat.add_zero] at p5 t5
    have FIN := Lib.hid (show DrawA N g (m + 84) w (.returned (.slice (some ⟨g2, o2, none⟩) os.length c1)) (w4.setCell ⟨g2, o2 + P * 4, none⟩ (.int .i64 q)) from
      ⟨some ⟨g2, o2, none⟩, c1, os.set P ⟨q, x.op, x.cl, x.cx⟩, by rw [List.length_set], smalls_set HSM.out (by have := HXL.out; simp; omega) (by have := HXL.out; simp; omega), ⟨_, map_set_fst HPS.out, p5.mono (Nat.le_refl _) (by simp [World.setCell]; omega)⟩, (r4.turn t5 (by omega)).more (by omega), ((T3.out.alloc _).trans t4).new t5 (by omega)⟩)
    clear p5 t5 s4 r4 t4
    go_wp2_with fail
    go_ret
    exact FIN.out
  have h0' : (s == 0) = false := by rw [beq_eq_false_iff_ne]; exact h0
  by_cases h1 : s = 1
  case pos =>
    subst h1
    clear hs0 hsl h0 h0'
    obtain ⟨⟨⟨_, _⟩, c2, _⟩, _⟩ := CELL.out w3 _ _ S3.out
    have hcl5 : x.cl.length ≤ 1099511627776 := by have := HXL.out; omega
    have ARM1 := Lib.hid (show ∀ (w4 : World) (q : Int), Turn g (g + 1) (w3.alloc (.cells (ints [-1, 51, 1]).toArray 3)).drew w4 → w4.cell? ⟨g2, o2 + P * 4 + 2, none⟩ = some (.slice hd.clA x.cl.length hd.clC) ∧ w3.heap.size + 1 ≤ w4.heap.size ∧
        ∃ A5 c5 w5, (Builtin.append_ #[29, 29] 29 #[.slice hd.clA x.cl.length hd.clC, .slice (some ⟨w4.heap.size, 0, none⟩) 1 1]).run Try.prog (w4.alloc (.cells #[.int .i64 q] 3)) = .ok (.slice A5 (x.cl.length + 1) c5) w5 ∧
          SlP w5 w.heap.size w3.heap.size (some ⟨g2, o2, none⟩) c1 ps ∧ SlI w5 w.heap.size w5.heap.size A5 c5 (x.cl ++ [q]) ∧ (∀ b ∈ live A5 c5, Free (some ⟨g2, o2, none⟩) c1 ps P b) ∧ (∀ b ∈ live A5 c5, b ∉ live hd.cxA hd.cxC) ∧ Turn w.heap.size w3.heap.size (w4.alloc (.cells #[.int .i64 q] 3)) w5 ∧
          (w4.alloc (.cells #[.int .i64 q] 3)).cell? ⟨g2, o2 + P * 4 + 2, none⟩ = some (.slice hd.clA x.cl.length hd.clC) ∧ w5.cell? ⟨g2, o2 + P * 4 + 2, none⟩ = some (.slice hd.clA x.cl.length hd.clC) ∧ w5.frozen? ⟨g2, o2 + P * 4 + 2, none⟩ = false from fun w4 q t4 => by
      have hz : (w3.alloc (.cells (ints [-1, 51, 1]).toArray 3)).heap.size ≤ w4.heap.size := t4.size
      rw [World.size_alloc] at hz
      have p4 := ((S3.out.alloc (.cells (ints [-1, 51, 1]).toArray 3)).drewN 1).turn t4 (.inr (by omega))
      obtain ⟨A5, c5, w5, e5, p5, s5, fr5, dj5, t5⟩ := run_appCl 29 ps (x, hd) (p4.alloc (.cells #[.int .i64 q] 3)) HK.out (SlI.newAt (w := w4) w4.heap.size rfl [q] (lo := 0) (Nat.zero_le _)).rd hcl5 (by simp; omega) hg3 (c' := 1)
      have l5 := CELL.out w5 _ _ p5
      exact ⟨(CELL.out w4 w.heap.size w3.heap.size p4).1.2.1, hz, A5, c5, w5, e5, p5, s5, fr5, dj5, t5, (CELL.out _ _ _ (p4.alloc (.cells #[.int .i64 q] 3))).1.2.1, l5.1.2.1, l5.2.1.2.1⟩)
    have c2a : (w3.alloc (.cells (ints [-1, 51, 1]).toArray 3)).cell? ⟨g2, o2 + P * 4 + 2, none⟩ = some (.slice hd.clA x.cl.length hd.clC) := (CELL.out _ _ _ (S3.out.alloc _)).1.2.1
    go_upto_region 15 with fail
    go_region_with (go_at_call 32; refine (one (n := 3) [-1, 51, 1] rfl (by omega) (by omega) N g (m + 80 + 1 + 1) (by omega) (w := (w3.alloc (.cells (ints [-1, 51, 1]).toArray 3)).drew) (R3.out.below (((Below.refl w3.heap.size w3).alloc (Nat.le_refl _) (.cells (ints [-1, 51, 1]).toArray 3)).drew) (by omega)) ((SlI.newAt (lo := w.heap.size) (w := w3) w3.heap.size rfl [-1, 51, 1] (by omega)).drewN 1) hg).mono ?_; rintro e w4 ⟨q, _, rfl, r4, t4⟩; obtain ⟨cc4, hz4, A5, c5, w5, hrun, p5, s5, fr5, dj5, t5, cc4a, cc5, cf5⟩ := ARM1.out w4 q t4)
    all_goals
      have hz5 : w4.heap.size + 1 ≤ w5.heap.size := by have := t5.size; simpa using this
      have hgg := (CELL.out w5 _ _ p5).2.2
      obtain ⟨p6, t6⟩ := p5.put (hi' := w5.heap.size) (y := (⟨x.p, x.op, x.cl ++ [q], x.cx⟩, ⟨A5, c5, hd.cxA, hd.cxC⟩)) HK.out 2 (.slice A5 (x.cl.length + 1) c5) (by omega) (by simp [ocells]) (by omega) s5 ((p5.cx P (x, hd) HK.out).mono (Nat.le_refl _) (by omega)) dj5 (fun b hb => by
        unfold foot at hb
        rw [List.mem_append] at hb
        rcases hb with hb | hb
        · exact fr5 b hb
        · exact p5.own_free HK.out (List.mem_append_right _ hb)) rfl
      rw [← Nat.add_assoc] at p6 t6
      have FIN := Lib.hid (show DrawA N g (m + 84) w (.returned (.slice (some ⟨g2, o2, none⟩) os.length c1)) (w5.setCell ⟨g2, o2 + P * 4 + 2, none⟩ (.slice A5 (x.cl.length + 1) c5)) from
        ⟨some ⟨g2, o2, none⟩, c1, os.set P ⟨x.p, x.op, x.cl ++ [q], x.cx⟩, by rw [List.length_set], smalls_set HSM.out (by have := HXL.out; simp; omega) (by have := HXL.out; simp; omega), ⟨_, map_set_fst HPS.out, p6.mono (Nat.le_refl _) (by simp [World.setCell])⟩,
          (((r4.below ((Below.refl w4.heap.size w4).alloc (Nat.le_refl _) (.cells #[.int .i64 q] 3)) (by omega)).turn t5 (by omega)).turn t6 (by omega)).more (by omega), ((((((T3.out.alloc (.cells (ints [-1, 51, 1]).toArray 3)).drewN 1).trans t4).alloc (.cells #[.int .i64 q] 3)).new t5 (Nat.le_refl _)).new t6 (by omega))⟩)
      clear p6 t6 s5 r4 t4 t5 p5 fr5 dj5
      go_wp2_with fail
      go_ret
      exact FIN.out
  have h1' : (s == 1) = false := by rw [beq_eq_false_iff_ne]; exact h1
  by_cases h2 : s = 2
  case pos =>
    subst h2
    clear hs0 hsl h0 h0' h1 h1'
    obtain ⟨⟨⟨_, c1'⟩, _, _⟩, ⟨⟨_, f1'⟩, _, _⟩, e1, e2⟩ := CELL.out w3 _ _ S3.out
    obtain ⟨p5, t5⟩ := S3.out.put (hi' := w3.heap.size) (y := (⟨x.p, !x.op, x.cl, x.cx⟩, hd)) HK.out 1 (.bool !x.op) (by omega) rfl (Nat.le_refl _) (S3.out.cl P (x, hd) HK.out) (S3.out.cx P (x, hd) HK.out) (S3.out.d2 P (x, hd) HK.out) (fun b hb => S3.out.own_free HK.out hb) rfl
    rw [← Nat.add_assoc] at p5 t5
    have FIN := Lib.hid (show DrawA N g (m + 84) w (.returned (.slice (some ⟨g2, o2, none⟩) os.length c1)) (w3.setCell ⟨g2, o2 + P * 4 + 1, none⟩ (.bool !x.op)) from
      ⟨some ⟨g2, o2, none⟩, c1, os.set P ⟨x.p, !x.op, x.cl, x.cx⟩, by rw [List.length_set], smalls_set HSM.out (by have := HXL.out; simp; omega) (by have := HXL.out; simp; omega), ⟨_, map_set_fst HPS.out, p5.mono (Nat.le_refl _) (by simp [World.setCell])⟩, (R3.out.turn t5 (by omega)).more (by omega), T3.out.new t5 (by omega)⟩)
    clear p5 t5
    go_wp2_with fail
    go_ret
    exact FIN.out
  have h2' : (s == 2) = false := by rw [beq_eq_false_iff_ne]; exact h2
  by_cases h3 : s = 3
  case pos =>
    subst h3
    clear hs0 hsl h0 h0' h1 h1' h2 h2'
    have hcx := S3.out.cx P (x, hd) HK.out
    have hxl := HXL.out
    have hcl3 : x.cx.length = 3 := hxl.2
    obtain ⟨gx, ox, hA, hx1, hx2, _⟩ := hcx.at_ (k := 0) (by show 0 < x.cx.length; omega)
    have hle : 3 ≤ hd.cxC := by have := hcx.le; simp only at this; omega
    have hlv : ∀ b ∈ live (some ⟨gx, ox + 1, none⟩ : Option Addr) (hd.cxC - 1), b ∈ live hd.cxA hd.cxC := fun b hb => by
      rw [of_live hb]; simp only at hA; rw [hA]; exact mem_live (by omega)
    have hcut : SlI w3 w.heap.size w3.heap.size (some ⟨gx, ox + 1, none⟩) (hd.cxC - 1) (x.cx.drop 1) := by
      have := hcx.cut (l := 1) (h := 3) (m := hd.cxC) (by omega) (by show 3 ≤ x.cx.length; omega) hle (Nat.le_refl _)
      rw [if_neg (by omega)] at this
      simp only at hA
      simp only [hA, Option.map_some, add_lit] at this
      rwa [List.take_of_length_le (by rw [List.length_drop]; omega)] at this
    obtain ⟨p5, t5⟩ := S3.out.put (hi' := w3.heap.size) (y := (⟨x.p, x.op, x.cl, x.cx.drop 1⟩, ⟨hd.clA, hd.clC, some ⟨gx, ox + 1, none⟩, hd.cxC - 1⟩)) HK.out 3 (.slice (some ⟨gx, ox + 1, none⟩) 2 (hd.cxC - 1)) (by omega) (by simp [ocells, hcl3]) (Nat.le_refl _) (S3.out.cl P (x, hd) HK.out) hcut (fun b hb hb2 => S3.out.d2 P (x, hd) HK.out b hb (hlv b hb2)) (fun b hb => by
      unfold foot at hb
      rw [List.mem_append] at hb
      rcases hb with hb | hb
      · exact S3.out.own_free HK.out (List.mem_append_left _ hb)
      · exact S3.out.own_free HK.out (List.mem_append_right _ (hlv b hb))) rfl
    rw [← Nat.add_assoc] at p5 t5
    obtain ⟨⟨⟨_, _⟩, _, c3'⟩, ⟨⟨_, _⟩, _, f3'⟩, e1, e2⟩ := CELL.out w3 _ _ S3.out
    have FIN := Lib.hid (show DrawA N g (m + 84) w (.returned (.slice (some ⟨g2, o2, none⟩) os.length c1)) (w3.setCell ⟨g2, o2 + P * 4 + 3, none⟩ (.slice (some ⟨gx, ox + 1, none⟩) 2 (hd.cxC - 1))) from
      ⟨some ⟨g2, o2, none⟩, c1, os.set P ⟨x.p, x.op, x.cl, x.cx.drop 1⟩, by rw [List.length_set], smalls_set HSM.out (by show x.cl.length ≤ 6; omega) (by show (x.cx.drop 1).length ≤ 3; rw [List.length_drop]; omega), ⟨_, map_set_fst HPS.out, p5.mono (Nat.le_refl _) (by simp [World.setCell])⟩, (R3.out.turn t5 (by omega)).more (by omega), T3.out.new t5 (by omega)⟩)
    simp only at hA
    rw [hA, hcl3] at c3'
    obtain ⟨cc, hcc⟩ : ∃ cc, hd.cxC = cc := ⟨_, rfl⟩
    rw [hcc] at c3' FIN hle
    have hle1 : (1 : Int) ≤ (cc : Int) := by omega
    have hne1 : ¬ cc = 1 := by omega
    clear p5 t5 hcut hlv hcx hxl hcl3 hA hcc
    go_wp2_with fail
    go_ret
    exact FIN.out
  have h3' : (s == 3) = false := by rw [beq_eq_false_iff_ne]; exact h3
  clear hs0 hsl h0 h1 h2 h3
  go_wp2_with fail
  go_ret
  exact ⟨_, c1, os, rfl, HSM.out, ⟨ps, HPS.out, S3.out⟩, R3.out.more (by omega), T3.out⟩
end Go.Proofs.Ytnlbmiangbahgaa
