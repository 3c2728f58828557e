/-
  kids, KidsOf, LiveOf, AboveOf, LookUp of both sides.
-/
import Derived.Test.YtnlbmiangbahgaaOwnW
namespace Go.Proofs.Ytnlbmiangbahgaa
open Go.RowKit

/-- the numbers below k that f picks, ascending -/
def selF (f : Nat → Bool) : Nat → List Int
  | 0 => []
  | k + 1 => selF f k ++ if f k then [(k : Int)] else []
theorem selF_yes {f : Nat → Bool} {k : Nat} (h : f k = true) : selF f (k + 1) = selF f k ++ [(k : Int)] := by simp [selF, h]
theorem selF_no {f : Nat → Bool} {k : Nat} (h : f k = false) : selF f (k + 1) = selF f k := by simp [selF, h]
theorem selF_le (f : Nat → Bool) (k : Nat) : (selF f k).length ≤ k := by
  induction k with
  | zero => simp [selF]
  | succ k ih => unfold selF; split <;> simp <;> omega
theorem mem_selF {f : Nat → Bool} {n : Nat} {x : Int} : x ∈ selF f n ↔ ∃ i : Nat, i < n ∧ f i = true ∧ x = i := by
  induction n with
  | zero => simp [selF]
  | succ n ih =>
    unfold selF
    rw [List.mem_append, ih]
    constructor
    · rintro (⟨i, h1, h2, h3⟩ | h)
      · exact ⟨i, by omega, h2, h3⟩
      · split at h
        · next hf => exact ⟨n, by omega, hf, by simpa using h⟩
        · simp at h
    · rintro ⟨i, h1, h2, rfl⟩
      rcases Nat.lt_or_ge i n with h | h
      · exact .inl ⟨i, h, h2, rfl⟩
      · have : i = n := by omega
        subst this
        rw [h2]; exact .inr (by simp)
theorem selF_none {f : Nat → Bool} {n : Nat} (h : ∀ i, i < n → f i = false) : selF f n = [] := by
  rw [List.eq_nil_iff_forall_not_mem]
  intro x hx
  obtain ⟨i, h1, h2, _⟩ := mem_selF.1 hx
  rw [h i h1] at h2; cases h2
def kidB (os : List Own) (o : Int) (i : Nat) : Bool := match os[i]? with | some x => x.op && (x.p == o) | none => false
def liveB (os : List Own) (i : Nat) : Bool := match os[i]? with | some x => x.op | none => false
theorem kidB_at {os : List Own} {o : Int} {i : Nat} (h : i < os.length) : kidB os o i = (os[i].op && (os[i].p == o)) := by simp [kidB, h]
theorem liveB_at {os : List Own} {i : Nat} (h : i < os.length) : liveB os i = os[i].op := by simp [liveB, h]
def kidsF (os : List Own) (o : Int) : List Int := selF (kidB os o) os.length
def liveF (os : List Own) : List Int := selF (liveB os) os.length
/-- each parent stands ahead -/
def Ahead (os : List Own) : Prop := ∀ (i : Nat) (x : Own), os[i]? = some x → -1 ≤ x.p ∧ x.p < i
theorem ahead_of_voB {os : List Own} (h : voB os = true) : Ahead os := fun i x hx => by
  obtain ⟨hi, rfl⟩ := List.getElem?_eq_some_iff.1 hx
  have := parB_iff.1 (okO_iff.1 ((voB_iff.1 h).1 i hi)).1.1
  omega
def parAt (os : List Own) (o : Int) : Int := match os[o.toNat]? with | some x => x.p | none => -1
theorem parAt_eq {os : List Own} {k : Nat} (h : k < os.length) : parAt os (k : Int) = os[k].p := by simp [parAt, h]
def aboveG (os : List Own) : Nat → Int → List Int
  | 0, _ => []
  | m + 1, o => if o < 0 then [] else o :: aboveG os m (parAt os o)
def aboveF (os : List Own) (o : Int) : List Int := aboveG os (os.length + 1) o
theorem aboveG_len (os : List Own) (m : Nat) (o : Int) : (aboveG os m o).length ≤ m := by
  induction m generalizing o with
  | zero => simp [aboveG]
  | succ m ih => unfold aboveG; split <;> simp; exact ih _
/-- the first value on the way up -/
def ctxAt (os : List Own) (o key : Int) : Int := match os[o.toNat]? with | some x => x.cx.getD key.toNat (-1) | none => -1
def lookG (os : List Own) (key : Int) : Nat → Int → Int × Bool
  | 0, _ => (0, false)
  | m + 1, o => if o < 0 then (0, false) else if 0 ≤ ctxAt os o key then (ctxAt os o key, true) else lookG os key m (parAt os o)
def lookF (os : List Own) (o key : Int) : Int × Bool := if ofB os o && inB key 0 2 then lookG os key (os.length + 1) o else (0, false)
def kidsOfF (os : List Own) (o : Int) : List Int := if ofB os o then kidsF os o else []
def aboveOfF (os : List Own) (o : Int) : List Int := if ofB os o then aboveF os o else []
def liveOfF (os : List Own) : List Int := if voB os then liveF os else []
theorem MadeI.nil0 (w : World) : MadeI w [] (.returned (.slice none 0 0)) w := ⟨none, 0, rfl, SlI.nil, Below.refl _ _⟩
theorem MadeI.below {w w' w'' : World} {xs : List Int} {e : Ending} (h : MadeI w' xs e w'') (hb : Below w.heap.size w w') : MadeI w xs e w'' := by
  obtain ⟨A, c, h1, h2, h3⟩ := h
  exact ⟨A, c, h1, h2.mono hb.size (Nat.le_refl _), hb.trans (h3.mono hb.size)⟩
/-- the slice so far, and one number more -/
theorem app1 {w wr w4 : World} {A4 : Option Addr} {c4 H : Nat} {ys : List Int} {x : Int} (b : Obj) (hb : Below H w wr) (hH : H ≤ w.heap.size)
    (h4 : SlI w4 H (max wr.heap.size w4.heap.size) A4 c4 (ys ++ [x])) (t4 : Turn H wr.heap.size (wr.alloc b) w4) : SlI w4 H w4.heap.size A4 c4 (ys ++ [x]) ∧ Below H w w4 :=
  ⟨h4.all t4 (by simp), (hb.alloc (Nat.le_trans hH hb.size) _).trans (t4.below (by have := hb.size; simp; omega))⟩
theorem app2 {w wr w4 : World} {A4 : Option Addr} {c4 H : Nat} {ys : List Int} {x : Int} (a b : Obj) (hb : Below H w wr) (hH : H ≤ w.heap.size)
    (h4 : SlI w4 H (max wr.heap.size w4.heap.size) A4 c4 (ys ++ [x])) (t4 : Turn H wr.heap.size ((wr.alloc a).alloc b) w4) : SlI w4 H w4.heap.size A4 c4 (ys ++ [x]) ∧ Below H w w4 :=
  ⟨h4.all t4 (by simp; omega), ((hb.alloc (Nat.le_trans hH hb.size) _).alloc (by have := hb.size; simp; omega) _).trans (t4.below (by have := hb.size; simp; omega))⟩

set_option maxHeartbeats 1600000 in
theorem implKids {A : Option Addr} {c n B : Nat} {w : World} {o : Int} (os : List Own) (ln : os.length = n) (hn : n ≤ 1048576) (h : RdO w B A os) (hB : B ≤ w.heap.size) :
    Calls Try.prog 46 #[.slice A n c, .int .i64 o] w (MadeI w (kidsF os o)) := by
  subst ln
  go_enter Try.func46, Try.ntmps46
  go_wp2_with fail
  go_loopw [5, 10] (fun v i wr => ∃ (k : Nat) (A2 : Option Addr) (c2 : Nat) (ys : List Int), k ≤ os.length ∧ i = .int .i64 k ∧ v = .slice A2 ys.length c2 ∧ ys = selF (kidB os o) k ∧ SlI wr w.heap.size wr.heap.size A2 c2 ys ∧ Below w.heap.size w wr) (fun _ i _ => os.length - (intOf i).toNat)
  case atStart => exact ⟨0, none, 0, [], Nat.zero_le _, rfl, rfl, rfl, SlI.nil, Below.refl _ _⟩
  case round =>
    obtain ⟨k, A2, c2, ys, hk, rfl, rfl, hys, hs, hb⟩ := hrel
    have HY := Lib.hid hys; clear hys
    have HS := Lib.hid hs; clear hs
    have HB := Lib.hid hb; clear hb
    by_cases hlt : k < os.length
    · obtain ⟨g, o2, hd, rfl, hg, ⟨c0, c1, c2', c3⟩, q1, q2, q3, q5⟩ := (h.belowLe HB.out hB).at_ hlt
      have hyl : ys.length ≤ k := by rw [HY.out]; exact selF_le _ _
      have hfk := kidB_at (os := os) (o := o) hlt
      have HY1 := Lib.hid (fun (e : kidB os o k = true) => (show ys ++ [(k : Int)] = selF (kidB os o) (k + 1) from by rw [selF_yes e, HY.out]))
      have HY0 := Lib.hid (fun (e : kidB os o k = false) => (show ys = selF (kidB os o) (k + 1) from by rw [selF_no e, HY.out]))
      obtain ⟨x, hx⟩ : ∃ x, os[k] = x := ⟨_, rfl⟩
      rw [hx] at c0 c1 c2' c3 q3 q5 hfk
      obtain ⟨p, op, cl, cx⟩ := x
      simp only at c0 c1 c2' c3 hfk
      have hgw : g < wr.heap.size := by have := HB.out.size; omega
      have HB1 := Lib.hid (HB.out.alloc (Nat.le_trans (Nat.le_refl _) HB.out.size) (.cells #[.int .i64 p, .bool op, .slice hd.clA cl.length hd.clC, .slice hd.cxA cx.length hd.cxC] 32))
      clear h hx q1 q2 q3 q5
      cases op
      · simp only [Bool.false_and] at hfk
        have HE := Lib.hid (HY0.out hfk)
        clear HY0 HY1 hfk
        go_wp2_with fail
        go_roundw
        case rel => exact ⟨k + 1, A2, c2, ys, by omega, by go_num, rfl, HE.out, (HS.out.alloc _).mono (Nat.le_refl _) (by simp), HB1.out⟩
        case measure => simp [intOf]; omega
      · by_cases hp : p = o
        · have hp' : (p == o) = true := by simp [hp]
          rw [hp'] at hfk
          simp only [Bool.and_true] at hfk
          clear hp
          have HE := Lib.hid (HY1.out hfk)
          clear HY0 HY1 hfk
          go_wp2_with (at_builtin; refine wpList_appI (.tmp 23) (.tmp 25) rfl rfl ys [(k : Int)] rfl rfl ((HS.out.alloc _).alloc _) rfl rfl (SlI.newAt (w := wr.alloc _) (wr.heap.size + 1) (by simp) [(k : Int)] (lo := 0) (Nat.zero_le _)).rd (by simp; omega) (by have := HB.out.size; simp; omega) ?_; intro A4 c4 w4 h4 t4 _)
          obtain ⟨s4, b4⟩ := app2 _ _ HB.out (Nat.le_refl _) h4 t4
          have S4 := Lib.hid s4
          have B4 := Lib.hid b4
          clear h4 t4 s4 b4
          go_wp2_with fail
          go_roundw
          case rel => exact ⟨k + 1, A4, c4, ys ++ [(k : Int)], by omega, by go_num, by simp, HE.out, S4.out, B4.out⟩
          case measure => simp [intOf]; omega
        · have hp' : (p == o) = false := by simp [hp]
          rw [hp'] at hfk
          simp only [Bool.and_false] at hfk
          clear hp
          have HE := Lib.hid (HY0.out hfk)
          clear HY0 HY1 hfk
          go_wp2_with fail
          go_roundw
          case rel => exact ⟨k + 1, A2, c2, ys, by omega, by go_num, rfl, HE.out, (HS.out.alloc _).mono (Nat.le_refl _) (by simp), HB1.out⟩
          case measure => simp [intOf]; omega
    · have hkl : k = os.length := by omega
      have HE := Lib.hid (show ys = kidsF os o by rw [HY.out, hkl]; rfl)
      clear hkl h HY
      go_wp2_with fail
      refine (slicesClip ys rfl HS.out).mono ?_; rintro e w' ⟨rfl, s5, rfl⟩
      have S5 := Lib.hid s5; clear s5
      go_wp2_with fail
      go_ret
      exact ⟨A2, ys.length, by rw [HE.out]; rfl, by rw [← HE.out]; exact S5.out, HB.out⟩

set_option maxHeartbeats 1600000 in
theorem specKids {A : Option Addr} {c n B : Nat} {w : World} {o : Int} (os : List Own) (ln : os.length = n) (hn : n ≤ 1048576) (ha : Ahead os) (h0 : 0 ≤ o) (ho : o < n) (h : RdO w B A os) (hB : B ≤ w.heap.size) :
    Calls Try.prog 55 #[.slice A n c, .int .i64 o] w (MadeI w (kidsF os o)) := by
  subst ln
  obtain ⟨q, rfl⟩ := Int.eq_ofNat_of_zero_le h0
  have hq : q + 1 ≤ os.length := by omega
  have HNONE := Lib.hid (show selF (kidB os (q : Int)) (q + 1) = [] from selF_none fun i hi => by
    rw [kidB_at (by omega)]
    have := (ha i _ (List.getElem?_eq_getElem (show i < os.length by omega))).2
    have : (os[i].p == (q : Int)) = false := by rw [beq_eq_false_iff_ne]; omega
    rw [this, Bool.and_false])
  obtain ⟨o, hoo⟩ : ∃ o : Int, o = (q : Int) := ⟨_, rfl⟩
  rw [← hoo] at HNONE ⊢
  have HO := Lib.hid hoo
  have ho1 : o + 1 ≤ (os.length : Int) := by omega
  have ho0 : 0 ≤ o := by omega
  clear ha ho hoo h0
  go_enter Try.func55, Try.ntmps55
  go_wp2_with fail
  go_loopw [5, 6] (fun v i wr => ∃ (k : Nat) (A2 : Option Addr) (c2 : Nat) (ys : List Int), k ≤ os.length ∧ q < k ∧ i = .int .i64 k ∧ v = .slice A2 ys.length c2 ∧ ys = selF (kidB os o) k ∧ SlI wr w.heap.size wr.heap.size A2 c2 ys ∧ Below w.heap.size w wr) (fun _ i _ => os.length - (intOf i).toNat)
  case atStart => exact ⟨q + 1, some ⟨w.heap.size, 0, none⟩, 0, [], hq, by omega, by rw [HO.out]; simp, rfl, HNONE.out.symm, (SlI.new w [] (Nat.le_refl _)).mono (Nat.le_refl _) (by simp), (below1 w _).1⟩
  case round =>
    obtain ⟨k, A2, c2, ys, hk, hok, rfl, rfl, hys, hs, hb⟩ := hrel
    have HY := Lib.hid hys; clear hys
    have HS := Lib.hid hs; clear hs
    have HB := Lib.hid hb; clear hb
    by_cases hlt : k < os.length
    · obtain ⟨g, o2, hd, rfl, hg, ⟨c0, c1, c2', c3⟩, q1, q2, q3, q5⟩ := (h.belowLe HB.out hB).at_ hlt
      have hyl : ys.length ≤ k := by rw [HY.out]; exact selF_le _ _
      have hfk := kidB_at (os := os) (o := o) hlt
      have HY1 := Lib.hid (fun (e : kidB os o k = true) => (show ys ++ [(k : Int)] = selF (kidB os o) (k + 1) from by rw [selF_yes e, HY.out]))
      have HY0 := Lib.hid (fun (e : kidB os o k = false) => (show ys = selF (kidB os o) (k + 1) from by rw [selF_no e, HY.out]))
      obtain ⟨x, hx⟩ : ∃ x, os[k] = x := ⟨_, rfl⟩
      rw [hx] at c0 c1 c2' c3 q3 q5 hfk
      obtain ⟨p, op, cl, cx⟩ := x
      simp only at c0 c1 c2' c3 hfk
      have hgw : g < wr.heap.size := by have := HB.out.size; omega
      have HB1 := HB
      clear h hx q1 q2 q3 q5
      cases op
      · simp only [Bool.false_and] at hfk
        have HE := Lib.hid (HY0.out hfk)
        clear HY0 HY1 hfk
        go_wp2_with fail
        go_roundw
        case rel => exact ⟨k + 1, A2, c2, ys, by omega, by omega, by go_num, rfl, HE.out, HS.out, HB1.out⟩
        case measure => simp [intOf]; omega
      · by_cases hp : p = o
        · have hp' : (p == o) = true := by simp [hp]
          rw [hp'] at hfk
          simp only [Bool.and_true] at hfk
          clear hp
          have HE := Lib.hid (HY1.out hfk)
          clear HY0 HY1 hfk
          go_wp2_with (at_builtin; refine wpList_appI (.tmp 30) (.tmp 32) rfl rfl ys [(k : Int)] rfl rfl (HS.out.alloc _) rfl rfl (SlI.newAt (w := wr) wr.heap.size rfl [(k : Int)] (lo := 0) (Nat.zero_le _)).rd (by simp; omega) (by have := HB.out.size; simp; omega) ?_; intro A4 c4 w4 h4 t4 _)
          obtain ⟨s4, b4⟩ := app1 _ HB.out (Nat.le_refl _) h4 t4
          have S4 := Lib.hid s4
          have B4 := Lib.hid b4
          clear h4 t4 s4 b4
          go_wp2_with fail
          go_roundw
          case rel => exact ⟨k + 1, A4, c4, ys ++ [(k : Int)], by omega, by omega, by go_num, by simp, HE.out, S4.out, B4.out⟩
          case measure => simp [intOf]; omega
        · have hp' : (p == o) = false := by simp [hp]
          rw [hp'] at hfk
          simp only [Bool.and_false] at hfk
          clear hp
          have HE := Lib.hid (HY0.out hfk)
          clear HY0 HY1 hfk
          go_wp2_with fail
          go_roundw
          case rel => exact ⟨k + 1, A2, c2, ys, by omega, by omega, by go_num, rfl, HE.out, HS.out, HB1.out⟩
          case measure => simp [intOf]; omega
    · have hkl : k = os.length := by omega
      have HE := Lib.hid (show ys = kidsF os o by rw [HY.out, hkl]; rfl)
      clear hkl h HY
      go_wp2_with fail
      go_ret
      exact ⟨A2, c2, by rw [HE.out]; rfl, by rw [← HE.out]; exact HS.out, HB.out⟩



end Go.Proofs.Ytnlbmiangbahgaa
