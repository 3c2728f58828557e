/-
  Records of type Row: words for memory; the laws' own functions on them.
-/
import Derived.Test.YtmmegmefiihabaaApp
import Derived.Test.YtmmegmefiihabaaLists
import Derived.Test.YtmmegmefiihabaaEqI
import Derived.Deep.RegionHeld3
namespace Go.Proofs.Ytmmegmefiihabaa
open Go.RowKit

structure Rwx where
  ky : Int
  no : Int
  deriving DecidableEq
def cQ (x : Rwx) : List Int := [x.ky, x.no]
theorem kQ (x : Rwx) : (cQ x).length = 2 := rfl
def vQ (x : Rwx) : Value := .agg #[.int .i64 x.ky, .int .i64 x.no]
def zQ : Rwx := ⟨0, 0⟩
abbrev RdQ (w : World) (B : Nat) (A : Option Addr) (xs : List Rwx) : Prop := RdR cQ w B A xs
abbrev SlQ (w : World) (lo hi : Nat) (A : Option Addr) (c : Nat) (xs : List Rwx) : Prop := SlR cQ 60 2 w lo hi A c xs
theorem RdQ_at {w : World} {B : Nat} {A : Option Addr} {xs : List Rwx} (h : RdQ w B A xs) {k : Nat} (hk : k < xs.length) :
    ∃ g o, A = some ⟨g, o, none⟩ ∧ g < B ∧ (w.cell? ⟨g, o + k * 2, none⟩ = some (.int .i64 xs[k].ky) ∧ w.cell? ⟨g, o + k * 2 + 1, none⟩ = some (.int .i64 xs[k].no)) := by
  obtain ⟨g, o, hA, hg, hc⟩ := RdR.at_ kQ (by decide) h hk
  exact ⟨g, o, hA, hg, hc 0 _ rfl, hc 1 _ rfl⟩
/-- the cells of one record, and what a store of a whole record does -/
theorem SlQ_at {w : World} {lo hi c : Nat} {A : Option Addr} {xs : List Rwx} (h : SlQ w lo hi A c xs) {k : Nat} (hk : k < xs.length) :
    ∃ g o, A = some ⟨g, o, none⟩ ∧ lo ≤ g ∧ g < hi ∧ g < w.heap.size ∧ (w.cell? ⟨g, o + k * 2, none⟩ = some (.int .i64 xs[k].ky) ∧ w.cell? ⟨g, o + k * 2 + 1, none⟩ = some (.int .i64 xs[k].no)) ∧ (w.frozen? ⟨g, o + k * 2, none⟩ = false ∧ w.frozen? ⟨g, o + k * 2 + 1, none⟩ = false) ∧ ∀ y : Rwx, SlQ ((w.setCell ⟨g, o + k * 2, none⟩ (.int .i64 y.ky)).setCell ⟨g, o + k * 2 + 1, none⟩ (.int .i64 y.no)) lo hi A c (xs.set k y) ∧ Turn g (g + 1) w ((w.setCell ⟨g, o + k * 2, none⟩ (.int .i64 y.ky)).setCell ⟨g, o + k * 2 + 1, none⟩ (.int .i64 y.no)) := by
  obtain ⟨g, o, hA, h1, h2, h3, h4, h5, _, h7⟩ := SlR.at_ kQ h hk
  have c := h4 k xs[k] (List.getElem?_eq_getElem hk)
  refine ⟨g, o, hA, h1, h2, h3, ⟨by simpa only [Nat.add_assoc, Nat.add_zero] using c 0 _ rfl, by simpa only [Nat.add_assoc, Nat.add_zero] using c 1 _ rfl⟩, ⟨h5 (k * 2), by simpa only [Nat.add_assoc] using h5 (k * 2 + 1)⟩, fun y => ?_⟩
  have := h7 y
  simpa only [cQ, ints, List.map_cons, List.map_nil, World.setCells, Nat.add_assoc, Nat.reduceAdd] using this
theorem Try.infoQ : (Try.prog.info? 60).map (fun i => (i.zero, i.size, i.bytes)) = some (some (.agg #[.int .i64 0, .int .i64 0]), 2, 16) := by kernel_rfl
theorem madeQ (n : Nat) : madeCells #[.int .i64 0, .int .i64 0] (n * 2) = (ints (rows cQ (List.replicate n zQ))).toArray := by
  rw [rows_replicate zQ n 0 (K := 2) rfl]
  apply Array.ext'
  apply List.ext_getElem?
  intro i
  simp only [madeCells, Array.toList_map, Array.toList_range, List.getElem?_map, ints, List.map_replicate]
  rcases Nat.lt_or_ge i (n * 2) with h | h
  · rw [List.getElem?_range h, List.getElem?_replicate, if_pos h, Option.map_some]
    have h4 : i % 2 = 0 ∨ i % 2 = 1 := by omega
    rcases h4 with h4 | h4 <;> · show some (_[i % 2]!) = _; rw [h4]; rfl
  · rw [List.getElem?_eq_none (by simpa using h), List.getElem?_eq_none (by simpa using h), Option.map_none]
theorem run_makeQ (n : Nat) (hn : n ≤ 1099511627776) (w : World) : (Instr.makeSlice 50 (.int .i64 (n : Int)) (.int .i64 (n : Int))).run Try.prog w = .ok (.slice (some ⟨w.heap.size, 0, none⟩) n n) (w.alloc (.cells (ints (rows cQ (List.replicate n zQ))).toArray 60)) := by
  obtain ⟨i0, hi, hz0, hz1, hz2⟩ := info_parts Try.infoQ
  have hr := run_make (P := Try.prog) w 50 60 i0 _ Try.underlying50 hi hz0 .i64 .i64 n n (by omega) (by omega) (by rw [hz2]; omega) (by omega)
  rw [hr, hz1]
  simp only [Int.toNat_natCast]
  rw [← madeQ]
  rfl
/-- a list of records that is new -/
def MadeQ (w : World) (xs : List Rwx) (e : Ending) (w' : World) : Prop :=
  ∃ A c, e = .returned (.slice A xs.length c) ∧ SlQ w' w.heap.size w'.heap.size A c xs ∧ Below w.heap.size w w'
section
variable {w : World} {ops : Array Oper} {rest : List Oper} {o : Oper} {a : Act} {Q : Exit → Act → World → Prop}
/-- append(out, y) at records -/
theorem wpList_appQ (s x : Operand) (hgd : o.guard = none)
    (ho : o.op = .call { callee := .builtin .append, args := #[s, x], argTypes := #[50, 50] })
    {lo hi n c gx : Nat} {A : Option Addr} (xs : List Rwx) (y : Rwx) (hs : a.eval s = .slice A n c) (hn : xs.length = n) (hsl : SlQ w lo hi A c xs) (hx : a.eval x = .slice (some ⟨gx, 0, none⟩) 1 1)
    (hgx : Blk w gx 60 (ints (cQ y)).toArray) (hb : n ≤ 1099511627776) (hlo : lo ≤ w.heap.size)
    (h : ∀ A'' c'' w', SlQ w' lo (max hi w'.heap.size) A'' c'' (xs ++ [y]) → Turn lo hi w w' → (c < n + 1 → w.grownBy w' Option.none) → wpList Try.prog ops Q rest (a.put o.dst (.slice A'' (n + 1) c'')) w') : wpList Try.prog ops Q (o :: rest) a w := by
  obtain ⟨i0, hi0, hz0, hz1, hz2⟩ := info_parts Try.infoQ
  exact wpList_appR kQ (by decide) s x 50 60 i0 _ 16 Try.underlying50 hi0 hz0 hz1 hz2 rfl (by decide) hgd ho xs y hs hn hsl hx hgx hb hlo h
/-- .. told so far as to say where the new slice lies -/
theorem wpList_appQS (s x : Operand) (hgd : o.guard = none)
    (ho : o.op = .call { callee := .builtin .append, args := #[s, x], argTypes := #[50, 50] })
    {lo hi n c gx : Nat} {A : Option Addr} (xs : List Rwx) (y : Rwx) (hs : a.eval s = .slice A n c) (hn : xs.length = n) (hsl : SlQ w lo hi A c xs) (hx : a.eval x = .slice (some ⟨gx, 0, none⟩) 1 1)
    (hgx : Blk w gx 60 (ints (cQ y)).toArray) (hb : n ≤ 1099511627776)
    (h : ∀ A'' c'' lo' hi' w', SlQ w' lo' hi' A'' c'' (xs ++ [y]) → ((lo' = lo ∧ hi' = hi) ∨ (lo' = w.heap.size ∧ hi' = w'.heap.size)) → Turn lo hi w w' → wpList Try.prog ops Q rest (a.put o.dst (.slice A'' (n + 1) c'')) w') : wpList Try.prog ops Q (o :: rest) a w := by
  obtain ⟨i0, hi0, hz0, hz1, hz2⟩ := info_parts Try.infoQ
  exact wpList_appRS kQ (by decide) s x 50 60 i0 _ 16 Try.underlying50 hi0 hz0 hz1 hz2 rfl (by decide) hgd ho xs y hs hn hsl hx hgx hb h
/-- a grown slice lies in what is there -/
theorem SlQ_all {w w' : World} {lo hi c : Nat} {A : Option Addr} {xs : List Rwx} (h : SlQ w' lo (max hi w'.heap.size) A c xs) (ht : Turn lo hi w w') (hh : hi ≤ w.heap.size) : SlQ w' lo w'.heap.size A c xs := by
  have := ht.size
  rwa [Nat.max_eq_right (by omega)] at h
end
theorem MadeQ.nil0 (w : World) : MadeQ w [] (.returned (.slice none 0 0)) w := ⟨none, 0, rfl, SlR.nil, Below.refl _ _⟩
theorem MadeQ.below {w w' w'' : World} {xs : List Rwx} {e : Ending} (h : MadeQ w' xs e w'') (hb : Below w.heap.size w w') : MadeQ w xs e w'' := by
  obtain ⟨A, c, h1, h2, h3⟩ := h
  exact ⟨A, c, h1, h2.mono hb.size (Nat.le_refl _), hb.trans (h3.mono hb.size)⟩
theorem bel1Q (w : World) (a : Obj) : Below w.heap.size w (w.alloc a) := (Below.refl _ _).alloc (Nat.le_refl _) _
theorem bel2Q (w : World) (a b : Obj) : Below w.heap.size w ((w.alloc a).alloc b) := (bel1Q w a).alloc (by simp) _
theorem toQ {w : World} (x : Rwx) : Calls Try.prog 72 #[vQ x] w fun e w' => e = .returned (vQ x) ∧ Below w.heap.size w w' := by
  obtain ⟨f0, f1⟩ := x
  dsimp only [vQ]
  go_enter Try.func72, Try.ntmps72
  go_wp2
  refine bodyPost_ret (v := .agg #[.int .i64 f0, .int .i64 f1]) (by simp [results, Try.results72, go_sem]) rfl ⟨rfl, ?_⟩
  repeat first | exact Below.refl _ _ | refine Below.setCell ?_ (by first | (simp; done) | (simp; omega)) _ | refine Below.alloc ?_ (by first | (simp; done) | (simp; omega)) _
set_option maxHeartbeats 800000 in
theorem toQS {A : Option Addr} {c n B : Nat} {w : World} (xs : List Rwx) (ln : xs.length = n) (hn : n ≤ 4294967296) (h : RdQ w B A xs) (hB : B ≤ w.heap.size) :
    Calls Try.prog 38 #[.slice A n c] w (MadeQ w xs) := by
  subst ln
  have hmk := run_makeQ xs.length (by omega) w
  go_enter Try.func38, Try.ntmps38
  go_wp2_with fail
  clear hmk
  go_loopw [4] (fun i wr => ∃ k : Nat, k ≤ xs.length ∧ i = .int .i64 k ∧ SlQ wr w.heap.size (w.heap.size + 1) (some ⟨w.heap.size, 0, none⟩) xs.length (xs.take k ++ List.replicate (xs.length - k) zQ) ∧ Below w.heap.size w wr) (fun i _ => xs.length - (intOf i).toNat)
  case atStart => exact ⟨0, Nat.zero_le _, rfl, by simpa using SlR.newAt (lo := w.heap.size) kQ rfl (List.replicate xs.length zQ) (Nat.le_refl _), bel1Q w _⟩
  case round =>
    obtain ⟨k, hk, rfl, hs, hb⟩ := hrel
    have HS := Lib.hid hs; clear hs
    have HB := Lib.hid hb; clear hb
    by_cases hlt : k < xs.length
    · obtain ⟨g, o, rfl, had, c0, c1⟩ := RdQ_at (h.belowLe HB.out hB) hlt
      obtain ⟨x, hx⟩ : ∃ x, xs[k] = x := ⟨_, rfl⟩
      rw [hx] at c0 c1
      have HT := Lib.hid (show (xs.take k ++ List.replicate (xs.length - k) zQ).set k x = xs.take (k + 1) ++ List.replicate (xs.length - (k + 1)) zQ from by
        rw [List.take_succ_eq_append_getElem hlt, hx, List.set_append_right _ _ (by rw [List.length_take]; omega), List.length_take, Nat.min_eq_left hk, Nat.sub_self, show xs.length - k = (xs.length - (k + 1)) + 1 by omega, List.replicate_succ, List.set_cons_zero, List.append_assoc]; rfl)
      clear h hx
      go_wp2_with fail
      refine (toQ x).mono ?_
      rintro e w1 ⟨rfl, b1⟩
      have hz1 := b1.size
      have hz0 := HB.out.size
      have hzg : w.heap.size < wr.heap.size := by obtain ⟨_, _, hA, _, _, h3, _⟩ := SlQ_at HS.out (k := k) (by simp; omega); injection hA with hA; injection hA with e1 _; omega
      obtain ⟨g', o', hA, _, _, _, ⟨d10, d11⟩, ⟨f0, f1⟩, d2⟩ := SlQ_at (HS.out.below b1 (by omega)) (k := k) (by simp; omega)
      simp only [Option.some.injEq, Addr.mk.injEq, and_true] at hA
      obtain ⟨rfl, rfl⟩ := hA
      obtain ⟨p4, t4⟩ := d2 x
      rw [HT.out] at p4
      simp only [Nat.zero_add] at d10 d11 f0 f1 p4 t4
      have P4 := Lib.hid p4
      have B4 := Lib.hid ((HB.out.trans (b1.mono hz0)).trans ((t4.below (by omega)).mono (Nat.le_refl _)))
      clear b1 p4 t4 d2
      dsimp only [vQ]
      go_wp2_with fail
      go_roundw
      case rel => exact ⟨k + 1, by omega, by go_num, P4.out, B4.out⟩
      case measure => simp [intOf]; omega
    · have hkl : k = xs.length := by omega
      have HZ := Lib.hid (show w.heap.size + 1 ≤ wr.heap.size ∨ xs.length = 0 from by
        rcases Nat.eq_zero_or_pos xs.length with h0 | h0
        · exact .inr h0
        · obtain ⟨_, _, hA, _, _, h3, _⟩ := SlQ_at HS.out (k := 0) (by simp; omega); injection hA with hA; injection hA with e1 _; left; omega)
      have HK := Lib.hid hkl
      clear hkl h
      go_wp2_with fail
      go_ret
      have h1 := HS.out
      rw [HK.out, List.take_length, Nat.sub_self, List.replicate_zero, List.append_nil] at h1
      rcases HZ.out with hz | hz
      · exact ⟨_, _, rfl, h1.mono (Nat.le_refl _) hz, HB.out⟩
      · have : xs = [] := List.eq_nil_of_length_eq_zero hz
        subst this
        exact ⟨_, _, rfl, SlR.nil, HB.out⟩
theorem szQS {A : Option Addr} {c n : Nat} {w : World} {l : Int} (hn : n ≤ 9223372036854775807) (h0 : 0 ≤ l) (h1 : l ≤ 1099511627776) :
    Calls Try.prog 36 #[.slice A n c, .int .i64 l] w fun e w' => (∃ v : Int, e = .returned (.int .i64 v) ∧ ((0 ≤ v ∧ v = l - n) ∨ (v = -1 ∧ l < n))) ∧ w = w' := by
  by_cases hlt : l < (n : Int)
  · go_enter Try.func36, Try.ntmps36
    go_wp2
    go_ret
    exact ⟨⟨-1, rfl, .inr ⟨rfl, hlt⟩⟩, rfl⟩
  · go_enter Try.func36, Try.ntmps36
    go_wp2
    go_ret
    exact ⟨⟨l - n, rfl, .inl ⟨by omega, rfl⟩⟩, rfl⟩
theorem eqQ {w : World} (x y : Rwx) : Calls Try.prog 77 #[vQ x, vQ y] w fun e w' => e = .returned (.bool (decide (x = y))) ∧ Below w.heap.size w w' := by
  obtain ⟨f0, f1⟩ := x
  obtain ⟨g0, g1⟩ := y
  dsimp only [vQ]
  have HB2 := Lib.hid (bel2Q w (.cells #[.int .i64 f0, .int .i64 f1] 60) (.cells #[.int .i64 g0, .int .i64 g1] 60))
  by_cases h0 : f0 = g0
  case neg =>
    have h0' : (f0 != g0) = true := by simp [h0]
    have HD := Lib.hid (show decide ((⟨f0, f1⟩ : Rwx) = ⟨g0, g1⟩) = false from decide_eq_false fun e => h0 (by injection e))
    clear h0
    go_enter Try.func77, Try.ntmps77
    go_wp2_with fail
    go_ret
    exact ⟨ret_bool HD.out.symm, HB2.out⟩
  case pos =>
  subst h0
  by_cases h1 : f1 = g1
  case neg =>
    have h1' : (f1 != g1) = true := by simp [h1]
    have HD := Lib.hid (show decide ((⟨f0, f1⟩ : Rwx) = ⟨f0, g1⟩) = false from decide_eq_false fun e => h1 (by injection e))
    clear h1
    go_enter Try.func77, Try.ntmps77
    go_wp2_with fail
    go_ret
    exact ⟨ret_bool HD.out.symm, HB2.out⟩
  case pos =>
  subst h1
  have HD := Lib.hid (show true = decide ((⟨f0, f1⟩ : Rwx) = ⟨f0, f1⟩) from (decide_eq_true rfl).symm)
  go_enter Try.func77, Try.ntmps77
  go_wp2_with fail
  go_ret
  exact ⟨ret_bool HD.out, HB2.out⟩
set_option maxHeartbeats 800000 in
theorem eqQS {A A' : Option Addr} {c c' n n' B B' : Nat} {w : World} (xs ys : List Rwx) (ln : xs.length = n) (ln' : ys.length = n') (hn : n ≤ 9223372036854775807) (h : RdQ w B A xs) (h' : RdQ w B' A' ys) (hB : B ≤ w.heap.size) (hB' : B' ≤ w.heap.size) :
    Calls Try.prog 40 #[.slice A n c, .slice A' n' c'] w fun e w' => e = .returned (.bool (decide (xs = ys))) ∧ Below w.heap.size w w' := by
  subst ln ln'
  by_cases hl : xs.length = ys.length
  · have hl' : ((xs.length : Int) != (ys.length : Int)) = false := by rw [hl]; simp
    have HL := Lib.hid hl; clear hl
    go_enter Try.func40, Try.ntmps40
    go_wp2_with fail
    clear hl'
    go_loopw [5] (fun i wr => ∃ k : Nat, k ≤ xs.length ∧ i = .int .i64 k ∧ xs.take k = ys.take k ∧ Below w.heap.size w wr) (fun i _ => xs.length - (intOf i).toNat)
    case atStart => exact ⟨0, Nat.zero_le _, rfl, rfl, Below.refl _ _⟩
    case round =>
      obtain ⟨k, hk, rfl, he, hb⟩ := hrel
      have HE := Lib.hid he; clear he
      have HB := Lib.hid hb; clear hb
      by_cases hlt : k < xs.length
      · have hlt' : k < ys.length := by have := HL.out; omega
        obtain ⟨g, o, rfl, hgb, c0, c1⟩ := RdQ_at (h.belowLe HB.out hB) hlt
        obtain ⟨g', o', rfl, hgb', e0, e1⟩ := RdQ_at (h'.belowLe HB.out hB') hlt'
        have HT := Lib.hid (fun (e : xs[k] = ys[k]) => take_eq_succ HE.out hlt hlt' e)
        have HN := Lib.hid (fun (e : xs[k] ≠ ys[k]) => ne_of_at hlt hlt' e)
        obtain ⟨x, hx⟩ : ∃ x, xs[k] = x := ⟨_, rfl⟩
        obtain ⟨x', hx'⟩ : ∃ x', ys[k] = x' := ⟨_, rfl⟩
        rw [hx] at c0 c1 HT HN
        rw [hx'] at e0 e1 HT HN
        have hz := HB.out.size
        have hk0 : (0 : Int) ≤ (k : Int) := Int.natCast_nonneg _
        have hk1 : (k : Int) < (xs.length : Int) := by omega
        have hk2 : (k : Int) < (ys.length : Int) := by omega
        clear h h' hx hx'
        have hgw : g < wr.heap.size := by omega
        have hgw' : g' < wr.heap.size := by omega
        have EQ := Lib.hid (fun (W : World) => eqQ (w := W) x x')
        go_wp2_with fail
        go_region_held3 (fun w' => (w'.cell? ⟨g, o + k * 2, none⟩ = some (.int .i64 x.ky) ∧ w'.cell? ⟨g, o + k * 2 + 1, none⟩ = some (.int .i64 x.no)) ∧ (w'.cell? ⟨g', o' + k * 2, none⟩ = some (.int .i64 x'.ky) ∧ w'.cell? ⟨g', o' + k * 2 + 1, none⟩ = some (.int .i64 x'.no)))
          (first | go_keep | (refine ⟨⟨(b1.cell (p := ⟨g, _, none⟩) hgw).trans c0, (b1.cell (p := ⟨g, _, none⟩) hgw).trans c1⟩, ⟨(b1.cell (p := ⟨g', _, none⟩) hgw').trans e0, (b1.cell (p := ⟨g', _, none⟩) hgw').trans e1⟩⟩))
          ((go_at_call 77; refine (EQ.out _).mono ?_; rintro e w1 ⟨rfl, b1⟩))
        have B1 := Lib.hid (HB.out.trans (((Below.refl wr.heap.size wr).drew.trans b1).mono hz))
        clear b1 c0 c1 e0 e1 EQ hk0 hk1 hk2 hgw hgw'
        cases hq : decide (x = x')
        · have HQ := Lib.hid (HN.out (of_decide_eq_false hq))
          clear hq
          go_wp2_with fail
          go_ret
          exact ⟨ret_bool (decide_eq_false HQ.out).symm, B1.out⟩
        · have HQ := Lib.hid (HT.out (of_decide_eq_true hq))
          clear hq
          go_wp2_with fail
          go_roundw
          case rel => exact ⟨k + 1, by omega, by go_num, HQ.out, B1.out⟩
          case measure => simp [intOf]; omega
      · have hkl : k = xs.length := by omega
        have e : xs = ys := by
          have h1 := HE.out
          rw [hkl, List.take_length, List.take_of_length_le (by have := HL.out; omega)] at h1
          exact h1
        have H := Lib.hid e; clear e hkl h h'
        go_wp2_with fail
        go_ret
        exact ⟨ret_bool (by rw [H.out]; simp), HB.out⟩
  · have hl' : ((xs.length : Int) != (ys.length : Int)) = true := by rw [bne_iff_ne]; omega
    have H := Lib.hid (show xs ≠ ys from fun e => hl (by rw [e])); clear hl
    go_enter Try.func40, Try.ntmps40
    go_wp2_with fail
    go_ret
    exact ⟨ret_bool (decide_eq_false H.out).symm, Below.refl _ _⟩
def mkQ (k : Int) : Rwx := ⟨k, k + 1⟩
def marksQ (k : Int) (n : Nat) : List Rwx := (List.range n).map fun i : Nat => mkQ (k + (i : Int) * 2)
theorem marksQ_len (k : Int) (n : Nat) : (marksQ k n).length = n := by simp [marksQ]
theorem marksQ_at (k : Int) (n j : Nat) (h : j < (marksQ k n).length) : (marksQ k n)[j] = mkQ (k + (j : Int) * 2) := by simp [marksQ]
theorem marksQ_succ (k : Int) (n : Nat) : marksQ k (n + 1) = marksQ k n ++ [mkQ (k + (n : Int) * 2)] := by simp [marksQ, List.range_succ]
set_option maxHeartbeats 800000 in
theorem heldQS {A : Option Addr} {c n B : Nat} {w : World} {k : Int} (hn : n ≤ 1099511627776) (h0 : 0 ≤ k) (hk : k ≤ 1099511627776) (h : RdQ w B A (marksQ k n)) :
    Calls Try.prog 42 #[.slice A n c, .int .i64 k] w fun e w' => e = .returned (.int .i64 (k + (n : Int) * 2)) ∧ w = w' := by
  go_enter Try.func42, Try.ntmps42
  go_wp2_with fail
  go_loop [1, 5] (fun q i => ∃ j : Nat, j ≤ n ∧ i = .int .i64 j ∧ q = .int .i64 (k + (j : Int) * 2)) (fun _ i => n - (intOf i).toNat)
  case atStart => exact ⟨0, Nat.zero_le _, rfl, by simp⟩
  case round =>
    obtain ⟨j, hj, rfl, rfl⟩ := hrel
    by_cases hlt : j < n
    · obtain ⟨g, o, rfl, had, c0, c1⟩ := RdQ_at h (k := j) (by rw [marksQ_len]; exact hlt)
      rw [marksQ_at] at c0 c1
      have hm0 : 0 ≤ k + (j : Int) * 2 := by omega
      have hm1 : k + (j : Int) * 2 ≤ 10995116277760 := by omega
      obtain ⟨m, hm⟩ : ∃ m, k + (j : Int) * 2 = m := ⟨_, rfl⟩
      rw [hm] at c0 c1 hm0 hm1 ⊢
      have HE := Lib.hid (show m + 1 + 1 = k + ((j + 1 : Nat) : Int) * 2 from by omega)
      simp only [mkQ] at c0 c1
      clear h hm
      go_wp2_with fail
      go_round
      case rel => exact ⟨j + 1, by omega, by go_num, by rw [← HE.out]⟩
      case measure => simp [intOf]; omega
    · have hjl : j = n := by omega
      have HJ := Lib.hid hjl
      clear hjl h
      go_wp2_with fail
      go_ret
      exact ⟨ret_int (by rw [HJ.out]), rfl⟩
set_option maxHeartbeats 1600000 in
theorem markQS {A : Option Addr} {c n lo hi : Nat} {w : World} {k : Int} (xs : List Rwx) (ln : xs.length = n) (hn : n ≤ 1099511627776) (h0 : 0 ≤ k) (hk : k ≤ 1099511627776) (h : SlQ w lo hi A c xs) :
    Calls Try.prog 41 #[.slice A n c, .int .i64 k] w fun e w' => e = .returned (.int .i64 (k + (n : Int) * 2)) ∧ SlQ w' lo hi A c (marksQ k n) ∧ Turn lo hi w w' ∧ w'.heap.size = w.heap.size := by
  subst ln
  go_enter Try.func41, Try.ntmps41
  go_wp2_with fail
  go_loopw [1, 5] (fun q i wr => ∃ j : Nat, j ≤ xs.length ∧ i = .int .i64 j ∧ q = .int .i64 (k + (j : Int) * 2) ∧ SlQ wr lo hi A c (marksQ k j ++ xs.drop j) ∧ Turn lo hi w wr ∧ wr.heap.size = w.heap.size) (fun _ i _ => xs.length - (intOf i).toNat)
  case atStart => exact ⟨0, Nat.zero_le _, rfl, by simp, by simpa [marksQ] using h, Turn.refl _ _ _, rfl⟩
  case round =>
    obtain ⟨j, hj, rfl, rfl, hs, ht, hz⟩ := hrel
    have HS := Lib.hid hs; clear hs
    have HT := Lib.hid ht; clear ht
    have HZ := Lib.hid hz; clear hz h
    by_cases hlt : j < xs.length
    · obtain ⟨g, o, rfl, hg1, hg2, _, ⟨d10, d11⟩, ⟨f0, f1⟩, d2⟩ := SlQ_at HS.out (k := j) (by simp [marksQ_len]; omega)
      have hm0 : 0 ≤ k + (j : Int) * 2 := by omega
      have hm1 : k + (j : Int) * 2 ≤ 10995116277760 := by omega
      have e1 : (marksQ k j ++ xs.drop j).set j (mkQ (k + (j : Int) * 2)) = marksQ k (j + 1) ++ xs.drop (j + 1) := by
        rw [marksQ_succ, List.set_append_right _ _ (by rw [marksQ_len]; omega), marksQ_len, Nat.sub_self, List.drop_eq_getElem_cons hlt, List.set_cons_zero, List.append_assoc]; rfl
      obtain ⟨m, hm⟩ : ∃ m, k + (j : Int) * 2 = m := ⟨_, rfl⟩
      obtain ⟨p4, t4⟩ := d2 (mkQ m)
      rw [hm] at e1 hm0 hm1 ⊢
      rw [e1] at p4
      have HE := Lib.hid (show m + 1 + 1 = k + ((j + 1 : Nat) : Int) * 2 from by omega)
      have hzz := HZ.out
      simp only [mkQ] at p4 t4
      have P4 := Lib.hid p4
      have T4 := Lib.hid (HT.out.trans (t4.mono hg1 (by omega)))
      have hzs := hzz
      have HZ4 := Lib.hid (show ∀ (W : World), W.heap.size = wr.heap.size → W.heap.size = w.heap.size from fun W h => h.trans hzz)
      clear p4 t4 d2 hm e1 hzz hzs
      generalize hdx : (marksQ k j ++ xs.drop j)[j]'(by simp [marksQ_len]; omega) = x at d10 d11
      clear hdx
      go_wp2_with fail
      go_roundw
      case rel => exact ⟨j + 1, by omega, by go_num, by rw [← HE.out], P4.out, T4.out, HZ4.out _ (by simp [World.setCell])⟩
      case measure => simp [intOf]; omega
    · have hjl : j = xs.length := by omega
      have HJ := Lib.hid hjl
      clear hjl
      go_wp2_with fail
      go_ret
      refine ⟨ret_int (by rw [HJ.out]), ?_, HT.out, HZ.out⟩
      have h1 := HS.out
      rwa [HJ.out, List.drop_length, List.append_nil] at h1
theorem slicesClipQ {A : Option Addr} {c n lo hi : Nat} {w : World} (xs : List Rwx) (ln : xs.length = n) (h : SlQ w lo hi A c xs) :
    Calls Try.prog 76 #[.slice A n c] w fun e w' => e = .returned (.slice A n n) ∧ SlQ w lo hi A n xs ∧ w = w' := by
  subst ln
  have hle := h.le
  have H := Lib.hid (h.clip kQ)
  cases A with
  | none =>
    have hc : c = 0 := Sl.noAddr h rfl
    have hx : xs = [] := List.eq_nil_of_length_eq_zero (by omega)
    subst hc hx
    clear h hle
    go_enter Try.func76, Try.ntmps76
    go_wp2
    go_ret
    exact ⟨rfl, H.out, rfl⟩
  | some ad =>
    clear h
    by_cases hx : xs = []
    · subst hx
      go_enter Try.func76, Try.ntmps76
      go_wp2
      go_ret
      exact ⟨rfl, H.out, rfl⟩
    · have hp : xs.length ≠ 0 := fun e => hx (List.eq_nil_of_length_eq_zero e)
      go_enter Try.func76, Try.ntmps76
      go_wp2
      go_ret
      exact ⟨rfl, H.out, rfl⟩
end Go.Proofs.Ytmmegmefiihabaa
