/-
  laws.szIntS, szOwner, szOwnerS: how much is left of a bound; laws.eqOwner, eqOwnerS: two lists of owners are compared.
-/
import Derived.Test.YtbikejdghdoaiaaOwnTo
import Derived.Test.YtbikejdghdoaiaaEqI
namespace Go.Proofs.Ytbikejdghdoaiaa
open Go.RowKit

/-- what is left of l behind m: -1 where it is too little -/
def Sz (l m v : Int) : Prop := (0 ≤ v ∧ v = l - m) ∨ (v = -1 ∧ l < m)

theorem szIntS {A : Option Addr} {c n : Nat} {w : World} {l : Int} (hn : n ≤ 9223372036854775807) (h0 : 0 ≤ l) (h1 : l ≤ 1099511627776) :
    Calls Try.prog 63 #[.slice A n c, .int .i64 l] w fun e w' => (∃ v : Int, e = .returned (.int .i64 v) ∧ Sz l n v) ∧ w = w' := by
  by_cases hlt : l < (n : Int)
  · go_enter Try.func63, Try.ntmps63
    go_wp2
    go_ret
    exact ⟨⟨-1, rfl, .inr ⟨rfl, hlt⟩⟩, rfl⟩
  · go_enter Try.func63, Try.ntmps63
    go_wp2
    go_ret
    exact ⟨⟨l - n, rfl, .inl ⟨by omega, rfl⟩⟩, rfl⟩

def SzB (l m : Int) (w : World) (e : Ending) (w' : World) : Prop := ∃ v : Int, e = .returned (.int .i64 v) ∧ Sz l m v ∧ Below w.heap.size w w'
theorem szOwner {w : World} {l : Int} (o : Own) (h : Hd) (hn : o.cl.length ≤ 9223372036854775807) (hn' : o.cx.length ≤ 9223372036854775807) (h0 : 0 ≤ l) (h1 : l ≤ 1099511627776) :
    Calls Try.prog 39 #[oval (o, h), .int .i64 l] w (SzB l (o.cl.length + o.cx.length) w) := by
  obtain ⟨p, op, cl, cx⟩ := o
  obtain ⟨clA, clC, cxA, cxC⟩ := h
  simp only at hn hn'
  dsimp only [oval]
  have HB := Lib.hid (below1 w (.cells #[.int .i64 p, .bool op, .slice clA cl.length clC, .slice cxA cx.length cxC] 53)).1
  go_enter Try.func39, Try.ntmps39
  go_wp2_with fail
  refine (szIntS hn h0 h1).mono ?_
  rintro e w' ⟨⟨v, rfl, hv⟩, rfl⟩
  rcases hv with ⟨hv0, hv⟩ | ⟨rfl, hv⟩
  · have HV := Lib.hid hv
    have hv2 : v ≤ 1099511627776 := by omega
    clear hv
    go_wp2_with fail
    refine (szIntS hn' hv0 hv2).mono ?_
    rintro e w' ⟨⟨v2, rfl, hv2⟩, rfl⟩
    rcases hv2 with ⟨hv20, hv2⟩ | ⟨rfl, hv2⟩
    · have HV2 := Lib.hid hv2
      clear hv2
      go_wp2_with fail
      go_ret
      exact ⟨v2, rfl, .inl ⟨hv20, by have := HV.out; have := HV2.out; omega⟩, HB.out⟩
    · go_wp2_with fail
      go_ret
      exact ⟨-1, rfl, .inr ⟨rfl, by have := HV.out; omega⟩, HB.out⟩
  · go_wp2_with fail
    go_ret
    exact ⟨-1, rfl, .inr ⟨rfl, by omega⟩, HB.out⟩

/-- how many numbers lie in the inner lists -/
def tot (os : List Own) : Nat := (os.map fun o => o.cl.length + o.cx.length).sum
theorem tot_snoc (os : List Own) (o : Own) : tot (os ++ [o]) = tot os + (o.cl.length + o.cx.length) := by simp [tot]
theorem tot_take_le (os : List Own) (k : Nat) : tot (os.take k) ≤ tot os := by
  conv => rhs; rw [← List.take_append_drop k os]
  simp only [tot, List.map_append, List.sum_append]
  omega
theorem mem_tot {os : List Own} {o : Own} (h : o ∈ os) : o.cl.length + o.cx.length ≤ tot os := by
  obtain ⟨a, b, rfl⟩ := List.append_of_mem h
  simp only [tot, List.map_append, List.map_cons, List.sum_append, List.sum_cons]
  omega

set_option maxHeartbeats 400000 in
theorem szOwnerS {A : Option Addr} {c n B : Nat} {w : World} {l : Int} (os : List Own) (ln : os.length = n) (hn : n ≤ 9223372036854775807) (hm : ∀ o ∈ os, o.cl.length ≤ 9223372036854775807 ∧ o.cx.length ≤ 9223372036854775807) (h : RdO w B A os) (hB : B ≤ w.heap.size) (h0 : 0 ≤ l) (h1 : l ≤ 1099511627776) :
    Calls Try.prog 11 #[.slice A n c, .int .i64 l] w (SzB l (n + tot os) w) := by
  subst ln
  by_cases hlt : l < (os.length : Int)
  · go_enter Try.func11, Try.ntmps11
    go_wp2
    go_ret
    exact ⟨-1, rfl, .inr ⟨rfl, by omega⟩, Below.refl _ _⟩
  · have hlt' : (os.length : Int) ≤ l := by omega
    have HM := Lib.hid hm; clear hm
    go_enter Try.func11, Try.ntmps11
    go_wp2_with fail
    go_loopw [1, 5] (fun q i wr => ∃ (k : Nat) (v : Int), k ≤ os.length ∧ i = .int .i64 k ∧ q = .int .i64 v ∧ 0 ≤ v ∧ v = l - (os.length + tot (os.take k)) ∧ Below w.heap.size w wr) (fun _ i _ => os.length - (intOf i).toNat)
    case atStart => exact ⟨0, l - os.length, Nat.zero_le _, rfl, by simp, by omega, by simp [tot], Below.refl _ _⟩
    case round =>
      obtain ⟨k, v, hk, rfl, rfl, hv0, hv, hb⟩ := hrel
      have HV := Lib.hid hv
      have HB := Lib.hid hb
      have hvl : v ≤ 1099511627776 := by omega
      clear hv hb
      by_cases hlk : k < os.length
      · obtain ⟨g, o, hd, rfl, had, ⟨c0, c1, c2, c3⟩, q1, q2, q3, q5⟩ := (h.belowLe HB.out hB).at_ hlk
        have hx3 := tot_take_le os (k + 1)
        have hx2 : tot (os.take (k + 1)) = tot (os.take k) + (os[k].cl.length + os[k].cx.length) := by rw [List.take_succ_eq_append_getElem hlk, tot_snoc]
        obtain ⟨hm1, hm2⟩ := HM.out _ (List.getElem_mem hlk)
        obtain ⟨x, hx⟩ : ∃ x, os[k] = x := ⟨_, rfl⟩
        rw [hx] at c0 c1 c2 c3 q3 q5 hx2 hm1 hm2
        have HX := Lib.hid hx2
        have HX3 := Lib.hid hx3
        have hx4 := HV.out
        clear h hx q1 q2 hx2 hx3 hx4
        go_wp2_with fail
        refine (szOwner x hd hm1 hm2 hv0 hvl).mono ?_
        rintro e w1 ⟨v1, rfl, hv1, b1⟩
        have B1 := Lib.hid (HB.out.trans (b1.mono HB.out.size))
        clear b1
        rcases hv1 with ⟨hv10, hv1⟩ | ⟨rfl, hv1⟩
        · have HV1 := Lib.hid hv1
          clear hv1
          go_wp2_with fail
          go_roundw
          case rel => exact ⟨k + 1, v1, by omega, by go_num, rfl, hv10, by have := HV.out; have := HV1.out; have := HX.out; omega, B1.out⟩
          case measure => simp [intOf]; omega
        · go_wp2_with fail
          go_ret
          exact ⟨-1, rfl, .inr ⟨rfl, by have := HV.out; have := HX.out; have := HX3.out; omega⟩, B1.out⟩
      · have hkl : k = os.length := by omega
        have HK := Lib.hid hkl
        clear hkl h
        go_wp2_with fail
        go_ret
        exact ⟨v, rfl, .inl ⟨hv0, by have h1 := HV.out; rw [HK.out, List.take_length] at h1; exact h1⟩, HB.out⟩

set_option maxHeartbeats 800000 in
theorem eqOwner {B B' : Nat} {w : World} (o o' : Own) (h h' : Hd) (hn : o.cl.length ≤ 9223372036854775807) (hn' : o.cx.length ≤ 9223372036854775807) (r1 : RdI w B h.clA o.cl) (r2 : RdI w B h.cxA o.cx) (r3 : RdI w B' h'.clA o'.cl) (r4 : RdI w B' h'.cxA o'.cx) (hB : B ≤ w.heap.size) (hB' : B' ≤ w.heap.size) :
    Calls Try.prog 49 #[oval (o, h), oval (o', h')] w fun e w' => e = .returned (.bool (decide (o = o'))) ∧ Below w.heap.size w w' := by
  obtain ⟨p, op, cl, cx⟩ := o
  obtain ⟨clA, clC, cxA, cxC⟩ := h
  obtain ⟨p', op', cl', cx'⟩ := o'
  obtain ⟨clA', clC', cxA', cxC'⟩ := h'
  simp only at hn hn' r1 r2 r3 r4
  dsimp only [oval]
  have HB2 := Lib.hid (below2 w (.cells #[.int .i64 p, .bool op, .slice clA cl.length clC, .slice cxA cx.length cxC] 43) (.cells #[.int .i64 p', .bool op', .slice clA' cl'.length clC', .slice cxA' cx'.length cxC'] 43)).1
  have R1 := Lib.hid (r1.belowLe HB2.out hB)
  have R2 := Lib.hid (r2.belowLe HB2.out hB)
  have R3 := Lib.hid (r3.belowLe HB2.out hB')
  have R4 := Lib.hid (r4.belowLe HB2.out hB')
  clear r1 r2 r3 r4
  by_cases hp : p = p'
  case neg =>
    have hp' : (p != p') = true := by simp [hp]
    have HD := Lib.hid (show decide ((⟨p, op, cl, cx⟩ : Own) = ⟨p', op', cl', cx'⟩) = false from decide_eq_false fun e => hp (by injection e))
    clear hp
    go_enter Try.func49, Try.ntmps49
    go_wp2_with fail
    go_ret
    exact ⟨ret_bool HD.out.symm, HB2.out⟩
  case pos =>
    subst hp
    by_cases ho : op = op'
    case neg =>
      have ho' : (op == op') = false := by simp [ho]
      have HD := Lib.hid (show decide ((⟨p, op, cl, cx⟩ : Own) = ⟨p, op', cl', cx'⟩) = false from decide_eq_false fun e => ho (by injection e))
      clear ho
      go_enter Try.func49, Try.ntmps49
      go_wp2_with fail
      go_ret
      exact ⟨ret_bool HD.out.symm, HB2.out⟩
    case pos =>
      subst ho
      have HD := Lib.hid (show decide ((⟨p, op, cl, cx⟩ : Own) = ⟨p, op, cl', cx'⟩) = (decide (cl = cl') && decide (cx = cx')) from by simp)
      go_enter Try.func49, Try.ntmps49
      go_wp2_with fail
      refine (eqIntS cl cl' rfl rfl hn R1.out R3.out).mono ?_
      rintro e w1 ⟨d, rfl, rfl⟩
      cases hc : decide (cl = cl')
      · have HC := Lib.hid hc; clear hc
        go_wp2_with fail
        go_ret
        exact ⟨ret_bool (by rw [HD.out, HC.out]; rfl), below_drewN HB2.out _⟩
      · have HC := Lib.hid hc; clear hc
        go_wp2_with fail
        refine (eqIntS cx cx' rfl rfl hn' (R2.out.drewN d) (R4.out.drewN d)).mono ?_
        rintro e w1 ⟨d2, rfl, rfl⟩
        cases hx : decide (cx = cx')
        · have HX := Lib.hid hx; clear hx
          go_wp2_with fail
          go_ret
          exact ⟨ret_bool (by rw [HD.out, HC.out, HX.out]; rfl), below_drewN HB2.out _⟩
        · have HX := Lib.hid hx; clear hx
          go_wp2_with fail
          go_ret
          exact ⟨ret_bool (by rw [HD.out, HC.out, HX.out]; rfl), below_drewN HB2.out _⟩
end Go.Proofs.Ytbikejdghdoaiaa
