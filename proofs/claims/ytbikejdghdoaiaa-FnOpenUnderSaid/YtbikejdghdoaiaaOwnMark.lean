/-
  laws.markOwnerS, heldOwnerS: each cell of a list of owners gets a number of its own, and keeps it; laws.eqOwnerS.
-/
import Derived.Test.YtbikejdghdoaiaaOwnSz
import Derived.Test.YtbikejdghdoaiaaLists
import Derived.Deep.RegionHeld3
namespace Go.Proofs.Ytbikejdghdoaiaa
open Go.RowKit

section
variable {w w' : World} {lo hi c a b : Nat} {A : Option Addr} {ps : List (Own × Hd)}
theorem SlP.innerCl (h : SlP w lo hi A c ps) {k : Nat} {x : Own × Hd} (hk : ps[k]? = some x) (xs : List Int) (hl : xs.length = x.1.cl.length) (ht : Turn a b w w')
    (hab : ∀ m, a ≤ m → m < b → m ∈ live x.2.clA x.2.clC) (hs : SlI w' a b x.2.clA x.2.clC xs) : SlP w' lo hi A c (ps.set k (⟨x.1.p, x.1.op, xs, x.1.cx⟩, x.2)) :=
  h.inner hk (by simp [ocells, hl]) ht
    (Sl.range hs fun m hm => by have := (h.cl k x hk).live_in m hm; exact ⟨this.1, this.2.1⟩)
    (Sl.apart (h.cx k x hk) ht fun m hm => by
      have : ¬ (a ≤ m ∧ m < b) := fun h2 => h.d2 k x hk m (hab m h2.1 h2.2) hm
      omega)
    (fun m h1 h2 => List.mem_append_left _ (hab m h1 h2))
theorem SlP.innerCx (h : SlP w lo hi A c ps) {k : Nat} {x : Own × Hd} (hk : ps[k]? = some x) (xs : List Int) (hl : xs.length = x.1.cx.length) (ht : Turn a b w w')
    (hab : ∀ m, a ≤ m → m < b → m ∈ live x.2.cxA x.2.cxC) (hs : SlI w' a b x.2.cxA x.2.cxC xs) : SlP w' lo hi A c (ps.set k (⟨x.1.p, x.1.op, x.1.cl, xs⟩, x.2)) :=
  h.inner hk (by simp [ocells, hl]) ht
    (Sl.apart (h.cl k x hk) ht fun m hm => by
      have : ¬ (a ≤ m ∧ m < b) := fun h2 => h.d2 k x hk m hm (hab m h2.1 h2.2)
      omega)
    (Sl.range hs fun m hm => by have := (h.cx k x hk).live_in m hm; exact ⟨this.1, this.2.1⟩)
    (fun m h1 h2 => List.mem_append_right _ (hab m h1 h2))
end

def markO (k : Int) (o : Own) : Own := ⟨k, (k + 1) % 3 == 0, marks (k + 1 + 1) o.cl.length, marks (k + 1 + 1 + o.cl.length) o.cx.length⟩
def marksO (k : Int) : List Own → List Own
  | [] => []
  | o :: r => markO k o :: marksO (k + 2 + (o.cl.length + o.cx.length : Nat)) r
theorem marksO_len (k : Int) (os : List Own) : (marksO k os).length = os.length := by
  induction os generalizing k with
  | nil => rfl
  | cons o r ih => rw [marksO, List.length_cons, List.length_cons, ih]
/-- the number behind the marks of a list -/
def endO (k : Int) (os : List Own) : Int := k + 2 * os.length + tot os
theorem endO_cons (k : Int) (o : Own) (r : List Own) : endO (k + 2 + (o.cl.length + o.cx.length : Nat)) r = endO k (o :: r) := by
  simp only [endO, tot, List.map_cons, List.sum_cons, List.length_cons]; omega
theorem marksO_snoc (k : Int) (os : List Own) (o : Own) : marksO k (os ++ [o]) = marksO k os ++ [markO (endO k os) o] := by
  induction os generalizing k with
  | nil => simp [marksO, endO, tot]
  | cons x r ih => rw [List.cons_append, marksO, ih, endO_cons, marksO, List.cons_append]
theorem endO_snoc (k : Int) (os : List Own) (o : Own) : endO k (os ++ [o]) = endO k os + 1 + 1 + o.cl.length + o.cx.length := by
  simp only [endO, tot_snoc, List.length_append, List.length_cons, List.length_nil]; omega
theorem endO_take (k : Int) (os : List Own) (j : Nat) (hj : j ≤ os.length) : k ≤ endO k (os.take j) ∧ endO k (os.take j) ≤ endO k os := by
  have := tot_take_le os j
  simp only [endO, List.length_take]
  constructor <;> omega
theorem marksO_at (k : Int) (os : List Own) (j : Nat) (hj : j < os.length) : (marksO k os)[j]'(by rw [marksO_len]; exact hj) = markO (endO k (os.take j)) os[j] := by
  induction os generalizing k j with
  | nil => simp at hj
  | cons x r ih =>
    cases j with
    | zero => simp [marksO, endO, tot]
    | succ j => simp only [marksO, List.getElem_cons_succ, List.take_succ_cons, ← endO_cons]; exact ih _ _ _
theorem tot_marks (k : Int) (os : List Own) : tot (marksO k os) = tot os := by
  induction os generalizing k with
  | nil => rfl
  | cons o r ih =>
    have := ih (k + 2 + (o.cl.length + o.cx.length : Nat))
    simp only [tot, marksO, List.map_cons, List.sum_cons] at this ⊢
    rw [this]
    simp [markO, marks_len]

set_option maxHeartbeats 400000 in
theorem heldOwnerS {A : Option Addr} {c n B : Nat} {w : World} {k : Int} (os : List Own) (ln : os.length = n) (hn : n ≤ 1099511627776) (h0 : 0 ≤ k) (hk : endO k os ≤ 1099511627776) (h : RdO w B A (marksO k os)) :
    Calls Try.prog 17 #[.slice A n c, .int .i64 k] w fun e w' => e = .returned (.int .i64 (endO k os)) ∧ w = w' := by
  subst ln
  go_enter Try.func17, Try.ntmps17
  go_wp2_with fail
  go_loop [1, 5] (fun q i => ∃ j : Nat, j ≤ os.length ∧ i = .int .i64 j ∧ q = .int .i64 (endO k (os.take j))) (fun _ i => os.length - (intOf i).toNat)
  case atStart => exact ⟨0, Nat.zero_le _, rfl, by simp [endO, tot]⟩
  case round =>
    obtain ⟨j, hj, rfl, rfl⟩ := hrel
    by_cases hlt : j < os.length
    · obtain ⟨g, o, hd, rfl, had, hcells, q1, q2, q3, q5⟩ := h.at_ (k := j) (by rw [marksO_len]; exact hlt)
      rw [marksO_at k os j hlt] at hcells q1 q2 q3 q5
      have e1 := endO_snoc k (os.take j) os[j]
      rw [← List.take_succ_eq_append_getElem hlt] at e1
      obtain ⟨b1, b2⟩ := endO_take k os j hj
      obtain ⟨b3, b4⟩ := endO_take k os (j + 1) hlt
      obtain ⟨m, hm⟩ : ∃ m, endO k (os.take j) = m := ⟨_, rfl⟩
      obtain ⟨x, hx⟩ : ∃ x, os[j] = x := ⟨_, rfl⟩
      rw [hm] at hcells q1 q2 q3 q5 e1 b1 b2 ⊢
      rw [hx] at hcells q1 q2 q3 q5 e1
      rw [e1] at b3 b4
      simp only [markO, marks_len] at hcells q1 q2 q3 q5
      obtain ⟨c0, c1, c2, c3⟩ := hcells
      have HQ1 := Lib.hid q1
      have HQ2 := Lib.hid q2
      have HE := Lib.hid e1
      clear q1 q2 e1 hm hx h
      go_wp2_with fail
      refine (heldIntS (k := m + 1 + 1) (by omega) (by omega) (by omega) HQ1.out).mono ?_
      rintro e w1 ⟨rfl, rfl⟩
      go_wp2_with fail
      refine (heldIntS (k := m + 1 + 1 + x.cl.length) (by omega) (by omega) (by omega) HQ2.out).mono ?_
      rintro e w1 ⟨rfl, rfl⟩
      go_wp2_with fail
      go_round
      case rel => exact ⟨j + 1, by omega, by go_num, by rw [HE.out]⟩
      case measure => simp [intOf]; omega
    · have hjl : j = os.length := by omega
      have HJ := Lib.hid hjl
      clear hjl h
      go_wp2_with fail
      go_ret
      exact ⟨ret_int (by rw [HJ.out, List.take_length]), rfl⟩

set_option maxHeartbeats 1600000 in
theorem markOwnerP {A : Option Addr} {c n lo hi : Nat} {w : World} {k : Int} (ps : List (Own × Hd)) (ln : ps.length = n) (hn : n ≤ 1099511627776) (h0 : 0 ≤ k) (hk : endO k (ps.map Prod.fst) ≤ 1099511627776) (h : SlP w lo hi A c ps) :
    Calls Try.prog 16 #[.slice A n c, .int .i64 k] w fun e w' => e = .returned (.int .i64 (endO k (ps.map Prod.fst))) ∧ (∃ qs : List (Own × Hd), qs.map Prod.fst = marksO k (ps.map Prod.fst) ∧ qs.map Prod.snd = ps.map Prod.snd ∧ SlP w' lo hi A c qs) ∧ Turn lo hi w w' ∧ w'.heap.size = w.heap.size := by
  subst ln
  go_enter Try.func16, Try.ntmps16
  go_wp2_with fail
  go_loopw [1, 5] (fun q i wr => ∃ (j : Nat) (qs : List (Own × Hd)), j ≤ ps.length ∧ i = .int .i64 j ∧ q = .int .i64 (endO k ((ps.map Prod.fst).take j)) ∧ qs.length = ps.length ∧ (qs.map Prod.fst).take j = marksO k ((ps.map Prod.fst).take j) ∧ (∀ i, j ≤ i → qs[i]? = ps[i]?) ∧ qs.map Prod.snd = ps.map Prod.snd ∧ SlP wr lo hi A c qs ∧ Turn lo hi w wr ∧ wr.heap.size = w.heap.size) (fun _ i _ => ps.length - (intOf i).toNat)
  case atStart => exact ⟨0, ps, Nat.zero_le _, rfl, by simp [endO, tot], rfl, by simp [marksO], fun _ _ => rfl, rfl, h, Turn.refl _ _ _, rfl⟩
  case round =>
    obtain ⟨j, qs, hj, rfl, rfl, hql, hqt, hqr, hqs, hs, ht, hz⟩ := hrel
    have HQL := Lib.hid hql; clear hql
    have HQT := Lib.hid hqt; clear hqt
    have HQR := Lib.hid hqr; clear hqr
    have HQS := Lib.hid hqs; clear hqs
    have HS := Lib.hid hs; clear hs
    have HT := Lib.hid ht; clear ht
    have HZ := Lib.hid hz; clear hz
    clear h
    by_cases hlt : j < ps.length
    · have e1 := endO_snoc k ((ps.map Prod.fst).take j) ps[j].1
      have e2 : (ps.map Prod.fst).take (j + 1) = (ps.map Prod.fst).take j ++ [ps[j].1] := by rw [List.take_succ_eq_append_getElem (by simpa using hlt), List.getElem_map]
      have hm2 := marksO_snoc k ((ps.map Prod.fst).take j) ps[j].1
      rw [← e2] at e1 hm2
      obtain ⟨b1, b2⟩ := endO_take k (ps.map Prod.fst) j (by simpa using hj)
      obtain ⟨b3, b4⟩ := endO_take k (ps.map Prod.fst) (j + 1) (by rw [List.length_map]; exact hlt)
      have hqj : qs[j]? = some ps[j] := by rw [HQR.out j (Nat.le_refl _)]; exact List.getElem?_eq_getElem hlt
      have hsj : (ps.map Prod.snd)[j]? = some ps[j].2 := by simp [hlt]
      obtain ⟨m, hm⟩ : ∃ m, endO k ((ps.map Prod.fst).take j) = m := ⟨_, rfl⟩
      obtain ⟨x, hx⟩ : ∃ x, ps[j] = x := ⟨_, rfl⟩
      rw [hm] at e1 hm2 b1 b2 ⊢
      rw [hx] at e1 hm2 hqj hsj
      rw [e1] at b3 b4
      have HE := Lib.hid e1
      have HM2 := Lib.hid hm2
      have HSJ := Lib.hid hsj
      clear e1 hm2 hx hm e2 hsj
      -- the two stores
      obtain ⟨g, o, rfl, hg1, hg2, hg3, hg4, d1, d2, d3⟩ := HS.out.cells hqj
      have d10 := d1 j _ hqj 0 _ rfl
      have d11 := d1 j _ hqj 1 _ rfl
      have f0 := d2 (j * 4)
      have f1 := d2 (j * 4 + 1)
      clear d1 d2 d3
      obtain ⟨p1, t1⟩ := HS.out.put (hi' := hi) (x := x) (y := (⟨m, x.1.op, x.1.cl, x.1.cx⟩, x.2)) hqj 0 (.int .i64 m) (by omega) rfl (Nat.le_refl _) (HS.out.cl j x hqj) (HS.out.cx j x hqj) (HS.out.d2 j x hqj) (fun b hb => HS.out.own_free hqj hb) rfl
      have k1 := get_set_self (y := ((⟨m, x.1.op, x.1.cl, x.1.cx⟩, x.2) : Own × Hd)) hqj
      have u1 := p1.cl j _ k1
      have u2 := p1.cx j _ k1
      have u3 := p1.d2 j _ k1
      obtain ⟨p2, t2⟩ := p1.put (hi' := hi) (y := (⟨m, (m + 1) % 3 == 0, x.1.cl, x.1.cx⟩, x.2)) k1 1 (.bool ((m + 1) % 3 == 0)) (by omega) rfl (Nat.le_refl _) u1 u2 u3 (fun b hb => p1.own_free k1 hb) rfl
      rw [List.set_set] at p2
      have k2 := get_set_self (y := ((⟨m, (m + 1) % 3 == 0, x.1.cl, x.1.cx⟩, x.2) : Own × Hd)) hqj
      have t12 := (HT.out.trans (t1.mono (lo' := lo) (hi' := hi) hg1 (by omega))).trans (t2.mono hg1 (by omega))
      obtain ⟨g', o', hA, g1', g2', g3', g4', d1, d2, d3⟩ := p2.cells k2
      simp only [Option.some.injEq, Addr.mk.injEq, and_true] at hA
      obtain ⟨rfl, rfl⟩ := hA
      have d12 := d1 j _ k2 2 _ rfl
      obtain ⟨a, b, n5, n6, n3, n2⟩ := Sl.narrow (p2.cl j _ k2)
      simp only [Nat.add_zero] at d10 d12 p2 t12 n5
      dsimp only at d12 n5 n6
      have P2 := Lib.hid p2
      have T2 := Lib.hid t12
      have K2 := Lib.hid k2
      have N5 := Lib.hid n5
      have N6 := Lib.hid n6
      have N2 := Lib.hid n2
      clear u1 u2 u3 p1 t1 k1 d1 d2 d3 p2 t2 k2 t12 n2 n3 n5 n6 g1' g2' g3' g4'
      simp only [← Nat.add_assoc] at d10 d11 d12 f0 f1
      go_wp2_with fail
      refine (markIntS x.1.cl rfl (by omega) (by omega) (by omega) N5.out).mono ?_
      rintro e w1 ⟨rfl, s1, t1, z1⟩
      have p3 := P2.out.innerCl K2.out (marks (m + 1 + 1) x.1.cl.length) (by rw [marks_len]) t1 N6.out (by rw [SlI, marks_len] at s1; rw [SlI, marks_len]; exact s1)
      rw [List.set_set] at p3
      have k3 := get_set_self (y := ((⟨m, (m + 1) % 3 == 0, marks (m + 1 + 1) x.1.cl.length, x.1.cx⟩, x.2) : Own × Hd)) hqj
      obtain ⟨g', o', hA, g1', g2', g3', g4', d1, d2, d3⟩ := p3.cells k3
      simp only [Option.some.injEq, Addr.mk.injEq, and_true] at hA
      obtain ⟨rfl, rfl⟩ := hA
      have d13 := d1 j _ k3 3 _ rfl
      obtain ⟨a', b', n5, n6, n3, n2⟩ := Sl.narrow (p3.cx j _ k3)
      have T3 := Lib.hid (T2.out.trans (N2.out _ _ t1))
      have Z1 := Lib.hid z1
      dsimp only at n5 n6 d13
      have P3 := Lib.hid p3
      have K3 := Lib.hid k3
      have M2 := Lib.hid n2
      have M5 := Lib.hid n5
      have M6 := Lib.hid n6
      simp only [← Nat.add_assoc] at d13
      clear d1 d2 d3 g1' g2' g3' g4' n5 n6 n2 n3 p3 k3 t1 s1 z1 d10 d11 d12 f0 f1 N2 N5 N6 T2 P2
      go_wp2_with fail
      refine (markIntS x.1.cx rfl (by omega) (by omega) (by omega) M5.out).mono ?_
      rintro e w2 ⟨rfl, s2, t2, z2⟩
      have p4 := P3.out.innerCx K3.out (marks (m + 1 + 1 + x.1.cl.length) x.1.cx.length) (by rw [marks_len]) t2 M6.out (by rw [SlI, marks_len] at s2; rw [SlI, marks_len]; exact s2)
      rw [List.set_set] at p4
      have P4 := Lib.hid p4
      have T4 := Lib.hid (T3.out.trans (M2.out _ _ t2))
      have Z2 := Lib.hid z2
      clear p4 t2 s2 z2 d13 M2 M5 M6 T3 P3 K3
      go_wp2_with fail
      go_roundw
      case rel =>
        have hjq : j < qs.length := by rw [HQL.out]; exact hlt
        refine ⟨j + 1, _, by omega, by go_num, ?_, ?_, ?_, ?_, ?_, P4.out, T4.out, ?_⟩
        · rw [HE.out]
        · rw [List.length_set]; exact HQL.out
        · rw [HM2.out, List.map_set, List.take_succ_eq_append_getElem (by rw [List.length_set, List.length_map]; exact hjq), List.take_set_of_le (Nat.le_refl _), HQT.out, List.getElem_set_self]
          rfl
        · intro i hi
          rw [List.getElem?_set_ne (by omega)]
          exact HQR.out i (by omega)
        · rw [List.map_set, HQS.out]
          exact set_self HSJ.out
        · rw [Z2.out, Z1.out]
          simpa [World.setCell] using HZ.out
      case measure => simp [intOf]; omega
    · have hjl : j = ps.length := by omega
      have HJ := Lib.hid hjl
      clear hjl
      go_wp2_with fail
      go_ret
      refine ⟨ret_int (by rw [HJ.out, List.take_of_length_le (by rw [List.length_map]; exact Nat.le_refl _)]), ⟨qs, ?_, HQS.out, HS.out⟩, HT.out, HZ.out⟩
      have h1 := HQT.out
      rwa [HJ.out, List.take_of_length_le (by rw [List.length_map, HQL.out]; exact Nat.le_refl _), List.take_of_length_le (by rw [List.length_map]; exact Nat.le_refl _)] at h1

theorem markOwnerS {A : Option Addr} {c n lo hi : Nat} {w : World} {k : Int} (os : List Own) (ln : os.length = n) (hn : n ≤ 1099511627776) (h0 : 0 ≤ k) (hk : endO k os ≤ 1099511627776) (h : SlO w lo hi A c os) :
    Calls Try.prog 16 #[.slice A n c, .int .i64 k] w fun e w' => e = .returned (.int .i64 (endO k os)) ∧ SlO w' lo hi A c (marksO k os) ∧ Turn lo hi w w' ∧ w'.heap.size = w.heap.size := by
  obtain ⟨ps, rfl, h⟩ := h
  exact (markOwnerP ps (by rw [← ln, List.length_map]) hn h0 hk h).mono fun e w' ⟨h1, ⟨qs, h2, _, h3⟩, h4⟩ => ⟨h1, ⟨qs, h2, h3⟩, h4⟩

set_option maxHeartbeats 800000 in
theorem eqOwnerS {A A' : Option Addr} {c c' n n' B B' : Nat} {w : World} (os os' : List Own) (ln : os.length = n) (ln' : os'.length = n') (hn : n ≤ 9223372036854775807) (hm : ∀ o ∈ os, o.cl.length ≤ 9223372036854775807 ∧ o.cx.length ≤ 9223372036854775807) (h : RdO w B A os) (h' : RdO w B' A' os') (hB : B ≤ w.heap.size) (hB' : B' ≤ w.heap.size) :
    Calls Try.prog 15 #[.slice A n c, .slice A' n' c'] w fun e w' => e = .returned (.bool (decide (os = os'))) ∧ Below w.heap.size w w' := by
  subst ln ln'
  have HM := Lib.hid hm; clear hm
  by_cases hl : os.length = os'.length
  · have hl' : ((os.length : Int) != (os'.length : Int)) = false := by rw [hl]; simp
    have HL := Lib.hid hl; clear hl
    go_enter Try.func15, Try.ntmps15
    go_wp2_with fail
    clear hl'
    go_loopw [5] (fun i wr => ∃ k : Nat, k ≤ os.length ∧ i = .int .i64 k ∧ os.take k = os'.take k ∧ Below w.heap.size w wr) (fun i _ => os.length - (intOf i).toNat)
    case atStart => exact ⟨0, Nat.zero_le _, rfl, rfl, Below.refl _ _⟩
    case round =>
      obtain ⟨k, hk, rfl, he, hb⟩ := hrel
      have HE := Lib.hid he; clear he
      have HB := Lib.hid hb; clear hb
      by_cases hlt : k < os.length
      · have hlt' : k < os'.length := by have := HL.out; omega
        obtain ⟨g, o, hd, rfl, _, ⟨c0, c1, c2, c3⟩, q1, q2, q3, q5⟩ := (h.belowLe HB.out hB).at_ hlt
        obtain ⟨g', o', hd', rfl, _, ⟨c0', c1', c2', c3'⟩, q1', q2', q3', q5'⟩ := (h'.belowLe HB.out hB').at_ hlt'
        obtain ⟨hm1, hm2⟩ := HM.out _ (List.getElem_mem hlt)
        have HT := Lib.hid (fun (e : os[k] = os'[k]) => take_eq_succ HE.out hlt hlt' e)
        have HN := Lib.hid (fun (e : os[k] ≠ os'[k]) => ne_of_at hlt hlt' e)
        obtain ⟨x, hx⟩ : ∃ x, os[k] = x := ⟨_, rfl⟩
        obtain ⟨x', hx'⟩ : ∃ x', os'[k] = x' := ⟨_, rfl⟩
        rw [hx] at c0 c1 c2 c3 q1 q2 q3 q5 HT HN hm1 hm2
        rw [hx'] at c0' c1' c2' c3' q1' q2' q3' q5' HT HN
        have Q1 := Lib.hid q1
        have Q2 := Lib.hid q2
        have Q3 := Lib.hid q1'
        have Q4 := Lib.hid q2'
        have hz := HB.out.size
        have hk0 : (0 : Int) ≤ (k : Int) := Int.natCast_nonneg _
        have hk1 : (k : Int) < (os.length : Int) := by omega
        have hk2 : (k : Int) < (os'.length : Int) := by omega
        clear h h' hx hx' q1 q2 q1' q2' q3 q5 q3' q5'
        have hgw : g < wr.heap.size := by omega
        have hgw' : g' < wr.heap.size := by omega
        have EQ := Lib.hid (fun (W : World) (hW : Below wr.heap.size wr W) => eqOwner x x' hd hd' hm1 hm2 (Q1.out.belowLe hW (by omega)) (Q2.out.belowLe hW (by omega)) (Q3.out.belowLe hW (by omega)) (Q4.out.belowLe hW (by omega)) (Nat.le_trans hB (Nat.le_trans hz hW.size)) (Nat.le_trans hB' (Nat.le_trans hz hW.size)))
        go_wp2_with fail
        go_region_held3 (fun w' => (w'.cell? ⟨g, o + k * 4, none⟩ = some (.int .i64 x.p) ∧ w'.cell? ⟨g, o + k * 4 + 1, none⟩ = some (.bool x.op) ∧ w'.cell? ⟨g, o + k * 4 + 2, none⟩ = some (.slice hd.clA x.cl.length hd.clC) ∧ w'.cell? ⟨g, o + k * 4 + 3, none⟩ = some (.slice hd.cxA x.cx.length hd.cxC)) ∧
            (w'.cell? ⟨g', o' + k * 4, none⟩ = some (.int .i64 x'.p) ∧ w'.cell? ⟨g', o' + k * 4 + 1, none⟩ = some (.bool x'.op) ∧ w'.cell? ⟨g', o' + k * 4 + 2, none⟩ = some (.slice hd'.clA x'.cl.length hd'.clC) ∧ w'.cell? ⟨g', o' + k * 4 + 3, none⟩ = some (.slice hd'.cxA x'.cx.length hd'.cxC)))
          (first | go_keep | (refine ⟨⟨(b1.cell (p := ⟨g, _, none⟩) hgw).trans c0, (b1.cell (p := ⟨g, _, none⟩) hgw).trans c1, (b1.cell (p := ⟨g, _, none⟩) hgw).trans c2, (b1.cell (p := ⟨g, _, none⟩) hgw).trans c3⟩, ⟨(b1.cell (p := ⟨g', _, none⟩) hgw').trans c0', (b1.cell (p := ⟨g', _, none⟩) hgw').trans c1', (b1.cell (p := ⟨g', _, none⟩) hgw').trans c2', (b1.cell (p := ⟨g', _, none⟩) hgw').trans c3'⟩⟩))
          ((go_at_call 49; refine (EQ.out _ (Below.refl _ _).drew).mono ?_; rintro e w1 ⟨rfl, b1⟩))
        have B1 := Lib.hid (HB.out.trans (((Below.refl wr.heap.size wr).drew.trans b1).mono hz))
        clear b1 c0 c1 c2 c3 c0' c1' c2' c3' EQ hk0 hk1 hk2 hgw hgw'
        cases hq : decide (x = x')
        · have HQ := Lib.hid (HN.out (of_decide_eq_false hq))
          clear hq
          go_wp2_with fail
          go_ret
          exact ⟨ret_bool (decide_eq_false HQ.out).symm, B1.out⟩
        · have HQ := Lib.hid (HT.out (of_decide_eq_true hq))
          clear hq
          go_wp2_with fail
          go_roundw
          case rel => exact ⟨k + 1, by omega, by go_num, HQ.out, B1.out⟩
          case measure => simp [intOf]; omega
      · have hkl : k = os.length := by omega
        have e : os = os' := by
          have h1 := HE.out
          rw [hkl, List.take_length, List.take_of_length_le (by have := HL.out; omega)] at h1
          exact h1
        have H := Lib.hid e; clear e hkl h h'
        go_wp2_with fail
        go_ret
        exact ⟨ret_bool (by rw [H.out]; simp), HB.out⟩
  · have hl' : ((os.length : Int) != (os'.length : Int)) = true := by rw [bne_iff_ne]; omega
    have H := Lib.hid (show os ≠ os' from fun e => hl (by rw [e])); clear hl
    go_enter Try.func15, Try.ntmps15
    go_wp2_with fail
    go_ret
    exact ⟨ret_bool (decide_eq_false H.out).symm, Below.refl _ _⟩
end Go.Proofs.Ytbikejdghdoaiaa
