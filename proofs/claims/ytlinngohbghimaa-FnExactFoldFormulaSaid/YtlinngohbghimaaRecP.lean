/-
  Records of type Part: words for memory; the laws' own functions on them.
-/
import Derived.Test.YtlinngohbghimaaApp
import Derived.Test.YtlinngohbghimaaLists
import Derived.Test.YtlinngohbghimaaEqI
import Derived.Deep.RegionHeld3
namespace Go.Proofs.Ytlinngohbghimaa
open Go.RowKit

structure Prt where
  kd : Int
  pa : Int
  pb : Int
  pc : Int
  nn : Int
  deriving DecidableEq
def cP (x : Prt) : List Int := [x.kd, x.pa, x.pb, x.pc, x.nn]
theorem kP (x : Prt) : (cP x).length = 5 := rfl
def vP (x : Prt) : Value := .agg #[.int .i64 x.kd, .int .i64 x.pa, .int .i64 x.pb, .int .i64 x.pc, .int .i64 x.nn]
def zP : Prt := ⟨0, 0, 0, 0, 0⟩
abbrev RdP (w : World) (B : Nat) (A : Option Addr) (xs : List Prt) : Prop := RdR cP w B A xs
abbrev SlP (w : World) (lo hi : Nat) (A : Option Addr) (c : Nat) (xs : List Prt) : Prop := SlR cP 50 5 w lo hi A c xs
theorem RdP_at {w : World} {B : Nat} {A : Option Addr} {xs : List Prt} (h : RdP w B A xs) {k : Nat} (hk : k < xs.length) :
    ∃ g o, A = some ⟨g, o, none⟩ ∧ g < B ∧ (w.cell? ⟨g, o + k * 5, none⟩ = some (.int .i64 xs[k].kd) ∧ w.cell? ⟨g, o + k * 5 + 1, none⟩ = some (.int .i64 xs[k].pa) ∧ w.cell? ⟨g, o + k * 5 + 2, none⟩ = some (.int .i64 xs[k].pb) ∧ w.cell? ⟨g, o + k * 5 + 3, none⟩ = some (.int .i64 xs[k].pc) ∧ w.cell? ⟨g, o + k * 5 + 4, none⟩ = some (.int .i64 xs[k].nn)) := by
  obtain ⟨g, o, hA, hg, hc⟩ := RdR.at_ kP (by decide) h hk
  exact ⟨g, o, hA, hg, hc 0 _ rfl, hc 1 _ rfl, hc 2 _ rfl, hc 3 _ rfl, hc 4 _ rfl⟩
/-- the cells of one record, and what a store of a whole record does -/
theorem SlP_at {w : World} {lo hi c : Nat} {A : Option Addr} {xs : List Prt} (h : SlP w lo hi A c xs) {k : Nat} (hk : k < xs.length) :
    ∃ g o, A = some ⟨g, o, none⟩ ∧ lo ≤ g ∧ g < hi ∧ g < w.heap.size ∧ (w.cell? ⟨g, o + k * 5, none⟩ = some (.int .i64 xs[k].kd) ∧ w.cell? ⟨g, o + k * 5 + 1, none⟩ = some (.int .i64 xs[k].pa) ∧ w.cell? ⟨g, o + k * 5 + 2, none⟩ = some (.int .i64 xs[k].pb) ∧ w.cell? ⟨g, o + k * 5 + 3, none⟩ = some (.int .i64 xs[k].pc) ∧ w.cell? ⟨g, o + k * 5 + 4, none⟩ = some (.int .i64 xs[k].nn)) ∧ (w.frozen? ⟨g, o + k * 5, none⟩ = false ∧ w.frozen? ⟨g, o + k * 5 + 1, none⟩ = false ∧ w.frozen? ⟨g, o + k * 5 + 2, none⟩ = false ∧ w.frozen? ⟨g, o + k * 5 + 3, none⟩ = false ∧ w.frozen? ⟨g, o + k * 5 + 4, none⟩ = false) ∧ ∀ y : Prt, SlP (((((w.setCell ⟨g, o + k * 5, none⟩ (.int .i64 y.kd)).setCell ⟨g, o + k * 5 + 1, none⟩ (.int .i64 y.pa)).setCell ⟨g, o + k * 5 + 2, none⟩ (.int .i64 y.pb)).setCell ⟨g, o + k * 5 + 3, none⟩ (.int .i64 y.pc)).setCell ⟨g, o + k * 5 + 4, none⟩ (.int .i64 y.nn)) lo hi A c (xs.set k y) ∧ Turn g (g + 1) w (((((w.setCell ⟨g, o + k * 5, none⟩ (.int .i64 y.kd)).setCell ⟨g, o + k * 5 + 1, none⟩ (.int .i64 y.pa)).setCell ⟨g, o + k * 5 + 2, none⟩ (.int .i64 y.pb)).setCell ⟨g, o + k * 5 + 3, none⟩ (.int .i64 y.pc)).setCell ⟨g, o + k * 5 + 4, none⟩ (.int .i64 y.nn)) := by
  obtain ⟨g, o, hA, h1, h2, h3, h4, h5, _, h7⟩ := SlR.at_ kP h hk
  have c := h4 k xs[k] (List.getElem?_eq_getElem hk)
  refine ⟨g, o, hA, h1, h2, h3, ⟨by simpa only [Nat.add_assoc, Nat.add_zero] using c 0 _ rfl, by simpa only [Nat.add_assoc, Nat.add_zero] using c 1 _ rfl, by simpa only [Nat.add_assoc, Nat.add_zero] using c 2 _ rfl, by simpa only [Nat.add_assoc, Nat.add_zero] using c 3 _ rfl, by simpa only [Nat.add_assoc, Nat.add_zero] using c 4 _ rfl⟩, ⟨h5 (k * 5), by simpa only [Nat.add_assoc] using h5 (k * 5 + 1), by simpa only [Nat.add_assoc] using h5 (k * 5 + 2), by simpa only [Nat.add_assoc] using h5 (k * 5 + 3), by simpa only [Nat.add_assoc] using h5 (k * 5 + 4)⟩, fun y => ?_⟩
  have := h7 y
  simpa only [cP, ints, List.map_cons, List.map_nil, World.setCells, Nat.add_assoc, Nat.reduceAdd] using this
theorem Try.infoP : (Try.prog.info? 50).map (fun i => (i.zero, i.size, i.bytes)) = some (some (.agg #[.int .i64 0, .int .i64 0, .int .i64 0, .int .i64 0, .int .i64 0]), 5, 40) := by kernel_rfl
theorem madeP (n : Nat) : madeCells #[.int .i64 0, .int .i64 0, .int .i64 0, .int .i64 0, .int .i64 0] (n * 5) = (ints (rows cP (List.replicate n zP))).toArray := by
  rw [rows_replicate zP n 0 (K := 5) rfl]
  apply Array.ext'
  apply List.ext_getElem?
  intro i
  simp only [madeCells, Array.toList_map, Array.toList_range, List.getElem?_map, ints, List.map_replicate]
  rcases Nat.lt_or_ge i (n * 5) with h | h
  · rw [List.getElem?_range h, List.getElem?_replicate, if_pos h, Option.map_some]
    have h4 : i % 5 = 0 ∨ i % 5 = 1 ∨ i % 5 = 2 ∨ i % 5 = 3 ∨ i % 5 = 4 := by omega
    rcases h4 with h4 | h4 | h4 | h4 | h4 <;> · show some (_[i % 5]!) = _; rw [h4]; rfl
  · rw [List.getElem?_eq_none (by simpa using h), List.getElem?_eq_none (by simpa using h), Option.map_none]
theorem run_makeP (n : Nat) (hn : n ≤ 1099511627776) (w : World) : (Instr.makeSlice 27 (.int .i64 (n : Int)) (.int .i64 (n : Int))).run Try.prog w = .ok (.slice (some ⟨w.heap.size, 0, none⟩) n n) (w.alloc (.cells (ints (rows cP (List.replicate n zP))).toArray 50)) := by
  obtain ⟨i0, hi, hz0, hz1, hz2⟩ := info_parts Try.infoP
  have hr := run_make (P := Try.prog) w 27 50 i0 _ Try.underlying27 hi hz0 .i64 .i64 n n (by omega) (by omega) (by rw [hz2]; omega) (by omega)
  rw [hr, hz1]
  simp only [Int.toNat_natCast]
  rw [← madeP]
  rfl
/-- a list of records that is new -/
def MadeP (w : World) (xs : List Prt) (e : Ending) (w' : World) : Prop :=
  ∃ A c, e = .returned (.slice A xs.length c) ∧ SlP w' w.heap.size w'.heap.size A c xs ∧ Below w.heap.size w w'
section
variable {w : World} {ops : Array Oper} {rest : List Oper} {o : Oper} {a : Act} {Q : Exit → Act → World → Prop}
/-- append(out, y) at records -/
theorem wpList_appP (s x : Operand) (hgd : o.guard = none)
    (ho : o.op = .call { callee := .builtin .append, args := #[s, x], argTypes := #[27, 27] })
    {lo hi n c gx : Nat} {A : Option Addr} (xs : List Prt) (y : Prt) (hs : a.eval s = .slice A n c) (hn : xs.length = n) (hsl : SlP w lo hi A c xs) (hx : a.eval x = .slice (some ⟨gx, 0, none⟩) 1 1)
    (hgx : Blk w gx 50 (ints (cP y)).toArray) (hb : n ≤ 1099511627776) (hlo : lo ≤ w.heap.size)
    (h : ∀ A'' c'' w', SlP w' lo (max hi w'.heap.size) A'' c'' (xs ++ [y]) → Turn lo hi w w' → (c < n + 1 → w.grownBy w' Option.none) → wpList Try.prog ops Q rest (a.put o.dst (.slice A'' (n + 1) c'')) w') : wpList Try.prog ops Q (o :: rest) a w := by
  obtain ⟨i0, hi0, hz0, hz1, hz2⟩ := info_parts Try.infoP
  exact wpList_appR kP (by decide) s x 27 50 i0 _ 40 Try.underlying27 hi0 hz0 hz1 hz2 rfl (by decide) hgd ho xs y hs hn hsl hx hgx hb hlo h
/-- .. told so far as to say where the new slice lies -/
theorem wpList_appPS (s x : Operand) (hgd : o.guard = none)
    (ho : o.op = .call { callee := .builtin .append, args := #[s, x], argTypes := #[27, 27] })
    {lo hi n c gx : Nat} {A : Option Addr} (xs : List Prt) (y : Prt) (hs : a.eval s = .slice A n c) (hn : xs.length = n) (hsl : SlP w lo hi A c xs) (hx : a.eval x = .slice (some ⟨gx, 0, none⟩) 1 1)
    (hgx : Blk w gx 50 (ints (cP y)).toArray) (hb : n ≤ 1099511627776)
    (h : ∀ A'' c'' lo' hi' w', SlP w' lo' hi' A'' c'' (xs ++ [y]) → ((lo' = lo ∧ hi' = hi) ∨ (lo' = w.heap.size ∧ hi' = w'.heap.size)) → Turn lo hi w w' → wpList Try.prog ops Q rest (a.put o.dst (.slice A'' (n + 1) c'')) w') : wpList Try.prog ops Q (o :: rest) a w := by
  obtain ⟨i0, hi0, hz0, hz1, hz2⟩ := info_parts Try.infoP
  exact wpList_appRS kP (by decide) s x 27 50 i0 _ 40 Try.underlying27 hi0 hz0 hz1 hz2 rfl (by decide) hgd ho xs y hs hn hsl hx hgx hb h
/-- a grown slice lies in what is there -/
theorem SlP_all {w w' : World} {lo hi c : Nat} {A : Option Addr} {xs : List Prt} (h : SlP w' lo (max hi w'.heap.size) A c xs) (ht : Turn lo hi w w') (hh : hi ≤ w.heap.size) : SlP w' lo w'.heap.size A c xs := by
  have := ht.size
  rwa [Nat.max_eq_right (by omega)] at h
end
theorem MadeP.nil0 (w : World) : MadeP w [] (.returned (.slice none 0 0)) w := ⟨none, 0, rfl, SlR.nil, Below.refl _ _⟩
theorem MadeP.below {w w' w'' : World} {xs : List Prt} {e : Ending} (h : MadeP w' xs e w'') (hb : Below w.heap.size w w') : MadeP w xs e w'' := by
  obtain ⟨A, c, h1, h2, h3⟩ := h
  exact ⟨A, c, h1, h2.mono hb.size (Nat.le_refl _), hb.trans (h3.mono hb.size)⟩
theorem bel1P (w : World) (a : Obj) : Below w.heap.size w (w.alloc a) := (Below.refl _ _).alloc (Nat.le_refl _) _
theorem bel2P (w : World) (a b : Obj) : Below w.heap.size w ((w.alloc a).alloc b) := (bel1P w a).alloc (by simp) _
theorem toP {w : World} (x : Prt) : Calls Try.prog 60 #[vP x] w fun e w' => e = .returned (vP x) ∧ Below w.heap.size w w' := by
  obtain ⟨f0, f1, f2, f3, f4⟩ := x
  dsimp only [vP]
  go_enter Try.func60, Try.ntmps60
  go_wp2
  refine bodyPost_ret (v := .agg #[.int .i64 f0, .int .i64 f1, .int .i64 f2, .int .i64 f3, .int .i64 f4]) (by simp [results, Try.results60, go_sem]) rfl ⟨rfl, ?_⟩
  repeat first | exact Below.refl _ _ | refine Below.setCell ?_ (by first | (simp; done) | (simp; omega)) _ | refine Below.alloc ?_ (by first | (simp; done) | (simp; omega)) _
set_option maxHeartbeats 800000 in
theorem toPS {A : Option Addr} {c n B : Nat} {w : World} (xs : List Prt) (ln : xs.length = n) (hn : n ≤ 4294967296) (h : RdP w B A xs) (hB : B ≤ w.heap.size) :
    Calls Try.prog 34 #[.slice A n c] w (MadeP w xs) := by
  subst ln
  have hmk := run_makeP xs.length (by omega) w
  go_enter Try.func34, Try.ntmps34
  go_wp2_with fail
  clear hmk
  go_loopw [4] (fun i wr => ∃ k : Nat, k ≤ xs.length ∧ i = .int .i64 k ∧ SlP wr w.heap.size (w.heap.size + 1) (some ⟨w.heap.size, 0, none⟩) xs.length (xs.take k ++ List.replicate (xs.length - k) zP) ∧ Below w.heap.size w wr) (fun i _ => xs.length - (intOf i).toNat)
  case atStart => exact ⟨0, Nat.zero_le _, rfl, by simpa using SlR.newAt (lo := w.heap.size) kP rfl (List.replicate xs.length zP) (Nat.le_refl _), bel1P w _⟩
  case round =>
    obtain ⟨k, hk, rfl, hs, hb⟩ := hrel
    have HS := Lib.hid hs; clear hs
    have HB := Lib.hid hb; clear hb
    by_cases hlt : k < xs.length
    · obtain ⟨g, o, rfl, had, c0, c1, c2, c3, c4⟩ := RdP_at (h.belowLe HB.out hB) hlt
      obtain ⟨x, hx⟩ : ∃ x, xs[k] = x := ⟨_, rfl⟩
      rw [hx] at c0 c1 c2 c3 c4
      have HT := Lib.hid (show (xs.take k ++ List.replicate (xs.length - k) zP).set k x = xs.take (k + 1) ++ List.replicate (xs.length - (k + 1)) zP from by
        rw [List.take_succ_eq_append_getElem hlt, hx, List.set_append_right _ _ (by rw [List.length_take]; omega), List.length_take, Nat.min_eq_left hk, Nat.sub_self, show xs.length - k = (xs.length - (k + 1)) + 1 by omega, List.replicate_succ, List.set_cons_zero, List.append_assoc]; rfl)
      clear h hx
      go_wp2_with fail
      refine (toP x).mono ?_
      rintro e w1 ⟨rfl, b1⟩
      have hz1 := b1.size
      have hz0 := HB.out.size
      have hzg : w.heap.size < wr.heap.size := by obtain ⟨_, _, hA, _, _, h3, _⟩ := SlP_at HS.out (k := k) (by simp; omega); injection hA with hA; injection hA with e1 _; omega
      obtain ⟨g', o', hA, _, _, _, ⟨d10, d11, d12, d13, d14⟩, ⟨f0, f1, f2, f3, f4⟩, d2⟩ := SlP_at (HS.out.below b1 (by omega)) (k := k) (by simp; omega)
      simp only [Option.some.injEq, Addr.mk.injEq, and_true] at hA
      obtain ⟨rfl, rfl⟩ := hA
      obtain ⟨p4, t4⟩ := d2 x
      rw [HT.out] at p4
      simp only [Nat.zero_add] at d10 d11 d12 d13 d14 f0 f1 f2 f3 f4 p4 t4
      have P4 := Lib.hid p4
      have B4 := Lib.hid ((HB.out.trans (b1.mono hz0)).trans ((t4.below (by omega)).mono (Nat.le_refl _)))
      clear b1 p4 t4 d2
      dsimp only [vP]
      go_wp2_with fail
      go_roundw
      case rel => exact ⟨k + 1, by omega, by go_num, P4.out, B4.out⟩
      case measure => simp [intOf]; omega
    · have hkl : k = xs.length := by omega
      have HZ := Lib.hid (show w.heap.size + 1 ≤ wr.heap.size ∨ xs.length = 0 from by
        rcases Nat.eq_zero_or_pos xs.length with h0 | h0
        · exact .inr h0
        · obtain ⟨_, _, hA, _, _, h3, _⟩ := SlP_at HS.out (k := 0) (by simp; omega); injection hA with hA; injection hA with e1 _; left; omega)
      have HK := Lib.hid hkl
      clear hkl h
      go_wp2_with fail
      go_ret
      have h1 := HS.out
      rw [HK.out, List.take_length, Nat.sub_self, List.replicate_zero, List.append_nil] at h1
      rcases HZ.out with hz | hz
      · exact ⟨_, _, rfl, h1.mono (Nat.le_refl _) hz, HB.out⟩
      · have : xs = [] := List.eq_nil_of_length_eq_zero hz
        subst this
        exact ⟨_, _, rfl, SlR.nil, HB.out⟩
theorem szPS {A : Option Addr} {c n : Nat} {w : World} {l : Int} (hn : n ≤ 9223372036854775807) (h0 : 0 ≤ l) (h1 : l ≤ 1099511627776) :
    Calls Try.prog 32 #[.slice A n c, .int .i64 l] w fun e w' => (∃ v : Int, e = .returned (.int .i64 v) ∧ ((0 ≤ v ∧ v = l - n) ∨ (v = -1 ∧ l < n))) ∧ w = w' := by
  by_cases hlt : l < (n : Int)
  · go_enter Try.func32, Try.ntmps32
    go_wp2
    go_ret
    exact ⟨⟨-1, rfl, .inr ⟨rfl, hlt⟩⟩, rfl⟩
  · go_enter Try.func32, Try.ntmps32
    go_wp2
    go_ret
    exact ⟨⟨l - n, rfl, .inl ⟨by omega, rfl⟩⟩, rfl⟩
theorem eqP {w : World} (x y : Prt) : Calls Try.prog 61 #[vP x, vP y] w fun e w' => e = .returned (.bool (decide (x = y))) ∧ Below w.heap.size w w' := by
  obtain ⟨f0, f1, f2, f3, f4⟩ := x
  obtain ⟨g0, g1, g2, g3, g4⟩ := y
  dsimp only [vP]
  have HB2 := Lib.hid (bel2P w (.cells #[.int .i64 f0, .int .i64 f1, .int .i64 f2, .int .i64 f3, .int .i64 f4] 50) (.cells #[.int .i64 g0, .int .i64 g1, .int .i64 g2, .int .i64 g3, .int .i64 g4] 50))
  by_cases h0 : f0 = g0
  case neg =>
    have h0' : (f0 != g0) = true := by simp [h0]
    have HD := Lib.hid (show decide ((⟨f0, f1, f2, f3, f4⟩ : Prt) = ⟨g0, g1, g2, g3, g4⟩) = false from decide_eq_false fun e => h0 (by injection e))
    clear h0
    go_enter Try.func61, Try.ntmps61
    go_wp2_with fail
    go_ret
    exact ⟨ret_bool HD.out.symm, HB2.out⟩
  case pos =>
  subst h0
  by_cases h1 : f1 = g1
  case neg =>
    have h1' : (f1 != g1) = true := by simp [h1]
    have HD := Lib.hid (show decide ((⟨f0, f1, f2, f3, f4⟩ : Prt) = ⟨f0, g1, g2, g3, g4⟩) = false from decide_eq_false fun e => h1 (by injection e))
    clear h1
    go_enter Try.func61, Try.ntmps61
    go_wp2_with fail
    go_ret
    exact ⟨ret_bool HD.out.symm, HB2.out⟩
  case pos =>
  subst h1
  by_cases h2 : f2 = g2
  case neg =>
    have h2' : (f2 != g2) = true := by simp [h2]
    have HD := Lib.hid (show decide ((⟨f0, f1, f2, f3, f4⟩ : Prt) = ⟨f0, f1, g2, g3, g4⟩) = false from decide_eq_false fun e => h2 (by injection e))
    clear h2
    go_enter Try.func61, Try.ntmps61
    go_wp2_with fail
    go_ret
    exact ⟨ret_bool HD.out.symm, HB2.out⟩
  case pos =>
  subst h2
  by_cases h3 : f3 = g3
  case neg =>
    have h3' : (f3 != g3) = true := by simp [h3]
    have HD := Lib.hid (show decide ((⟨f0, f1, f2, f3, f4⟩ : Prt) = ⟨f0, f1, f2, g3, g4⟩) = false from decide_eq_false fun e => h3 (by injection e))
    clear h3
    go_enter Try.func61, Try.ntmps61
    go_wp2_with fail
    go_ret
    exact ⟨ret_bool HD.out.symm, HB2.out⟩
  case pos =>
  subst h3
  by_cases h4 : f4 = g4
  case neg =>
    have h4' : (f4 != g4) = true := by simp [h4]
    have HD := Lib.hid (show decide ((⟨f0, f1, f2, f3, f4⟩ : Prt) = ⟨f0, f1, f2, f3, g4⟩) = false from decide_eq_false fun e => h4 (by injection e))
    clear h4
    go_enter Try.func61, Try.ntmps61
    go_wp2_with fail
    go_ret
    exact ⟨ret_bool HD.out.symm, HB2.out⟩
  case pos =>
  subst h4
  have HD := Lib.hid (show true = decide ((⟨f0, f1, f2, f3, f4⟩ : Prt) = ⟨f0, f1, f2, f3, f4⟩) from (decide_eq_true rfl).symm)
  go_enter Try.func61, Try.ntmps61
  go_wp2_with fail
  go_ret
  exact ⟨ret_bool HD.out, HB2.out⟩
set_option maxHeartbeats 800000 in
theorem eqPS {A A' : Option Addr} {c c' n n' B B' : Nat} {w : World} (xs ys : List Prt) (ln : xs.length = n) (ln' : ys.length = n') (hn : n ≤ 9223372036854775807) (h : RdP w B A xs) (h' : RdP w B' A' ys) (hB : B ≤ w.heap.size) (hB' : B' ≤ w.heap.size) :
    Calls Try.prog 38 #[.slice A n c, .slice A' n' c'] w fun e w' => e = .returned (.bool (decide (xs = ys))) ∧ Below w.heap.size w w' := by
  subst ln ln'
  by_cases hl : xs.length = ys.length
  · have hl' : ((xs.length : Int) != (ys.length : Int)) = false := by rw [hl]; simp
    have HL := Lib.hid hl; clear hl
    go_enter Try.func38, Try.ntmps38
    go_wp2_with fail
    clear hl'
    go_loopw [5] (fun i wr => ∃ k : Nat, k ≤ xs.length ∧ i = .int .i64 k ∧ xs.take k = ys.take k ∧ Below w.heap.size w wr) (fun i _ => xs.length - (intOf i).toNat)
    case atStart => exact ⟨0, Nat.zero_le _, rfl, rfl, Below.refl _ _⟩
    case round =>
      obtain ⟨k, hk, rfl, he, hb⟩ := hrel
      have HE := Lib.hid he; clear he
      have HB := Lib.hid hb; clear hb
      by_cases hlt : k < xs.length
      · have hlt' : k < ys.length := by have := HL.out; omega
        obtain ⟨g, o, rfl, hgb, c0, c1, c2, c3, c4⟩ := RdP_at (h.belowLe HB.out hB) hlt
        obtain ⟨g', o', rfl, hgb', e0, e1, e2, e3, e4⟩ := RdP_at (h'.belowLe HB.out hB') hlt'
        have HT := Lib.hid (fun (e : xs[k] = ys[k]) => take_eq_succ HE.out hlt hlt' e)
        have HN := Lib.hid (fun (e : xs[k] ≠ ys[k]) => ne_of_at hlt hlt' e)
        obtain ⟨x, hx⟩ : ∃ x, xs[k] = x := ⟨_, rfl⟩
        obtain ⟨x', hx'⟩ : ∃ x', ys[k] = x' := ⟨_, rfl⟩
        rw [hx] at c0 c1 c2 c3 c4 HT HN
        rw [hx'] at e0 e1 e2 e3 e4 HT HN
        have hz := HB.out.size
        have hk0 : (0 : Int) ≤ (k : Int) := Int.natCast_nonneg _
        have hk1 : (k : Int) < (xs.length : Int) := by omega
        have hk2 : (k : Int) < (ys.length : Int) := by omega
        clear h h' hx hx'
        have hgw : g < wr.heap.size := by omega
        have hgw' : g' < wr.heap.size := by omega
        have EQ := Lib.hid (fun (W : World) => eqP (w := W) x x')
        go_wp2_with fail
        go_region_held3 (fun w' => (w'.cell? ⟨g, o + k * 5, none⟩ = some (.int .i64 x.kd) ∧ w'.cell? ⟨g, o + k * 5 + 1, none⟩ = some (.int .i64 x.pa) ∧ w'.cell? ⟨g, o + k * 5 + 2, none⟩ = some (.int .i64 x.pb) ∧ w'.cell? ⟨g, o + k * 5 + 3, none⟩ = some (.int .i64 x.pc) ∧ w'.cell? ⟨g, o + k * 5 + 4, none⟩ = some (.int .i64 x.nn)) ∧ (w'.cell? ⟨g', o' + k * 5, none⟩ = some (.int .i64 x'.kd) ∧ w'.cell? ⟨g', o' + k * 5 + 1, none⟩ = some (.int .i64 x'.pa) ∧ w'.cell? ⟨g', o' + k * 5 + 2, none⟩ = some (.int .i64 x'.pb) ∧ w'.cell? ⟨g', o' + k * 5 + 3, none⟩ = some (.int .i64 x'.pc) ∧ w'.cell? ⟨g', o' + k * 5 + 4, none⟩ = some (.int .i64 x'.nn)))
          (first | go_keep | (refine ⟨⟨(b1.cell (p := ⟨g, _, none⟩) hgw).trans c0, (b1.cell (p := ⟨g, _, none⟩) hgw).trans c1, (b1.cell (p := ⟨g, _, none⟩) hgw).trans c2, (b1.cell (p := ⟨g, _, none⟩) hgw).trans c3, (b1.cell (p := ⟨g, _, none⟩) hgw).trans c4⟩, ⟨(b1.cell (p := ⟨g', _, none⟩) hgw').trans e0, (b1.cell (p := ⟨g', _, none⟩) hgw').trans e1, (b1.cell (p := ⟨g', _, none⟩) hgw').trans e2, (b1.cell (p := ⟨g', _, none⟩) hgw').trans e3, (b1.cell (p := ⟨g', _, none⟩) hgw').trans e4⟩⟩))
          ((go_at_call 61; refine (EQ.out _).mono ?_; rintro e w1 ⟨rfl, b1⟩))
        have B1 := Lib.hid (HB.out.trans (((Below.refl wr.heap.size wr).drew.trans b1).mono hz))
        clear b1 c0 c1 c2 c3 c4 e0 e1 e2 e3 e4 EQ hk0 hk1 hk2 hgw hgw'
        cases hq : decide (x = x')
        · have HQ := Lib.hid (HN.out (of_decide_eq_false hq))
          clear hq
          go_wp2_with fail
          go_ret
          exact ⟨ret_bool (decide_eq_false HQ.out).symm, B1.out⟩
        · have HQ := Lib.hid (HT.out (of_decide_eq_true hq))
          clear hq
          go_wp2_with fail
          go_roundw
          case rel => exact ⟨k + 1, by omega, by go_num, HQ.out, B1.out⟩
          case measure => simp [intOf]; omega
      · have hkl : k = xs.length := by omega
        have e : xs = ys := by
          have h1 := HE.out
          rw [hkl, List.take_length, List.take_of_length_le (by have := HL.out; omega)] at h1
          exact h1
        have H := Lib.hid e; clear e hkl h h'
        go_wp2_with fail
        go_ret
        exact ⟨ret_bool (by rw [H.out]; simp), HB.out⟩
  · have hl' : ((xs.length : Int) != (ys.length : Int)) = true := by rw [bne_iff_ne]; omega
    have H := Lib.hid (show xs ≠ ys from fun e => hl (by rw [e])); clear hl
    go_enter Try.func38, Try.ntmps38
    go_wp2_with fail
    go_ret
    exact ⟨ret_bool (decide_eq_false H.out).symm, Below.refl _ _⟩
def mkP (k : Int) : Prt := ⟨k, k + 1, k + 1 + 1, k + 1 + 1 + 1, k + 1 + 1 + 1 + 1⟩
def marksP (k : Int) (n : Nat) : List Prt := (List.range n).map fun i : Nat => mkP (k + (i : Int) * 5)
theorem marksP_len (k : Int) (n : Nat) : (marksP k n).length = n := by simp [marksP]
theorem marksP_at (k : Int) (n j : Nat) (h : j < (marksP k n).length) : (marksP k n)[j] = mkP (k + (j : Int) * 5) := by simp [marksP]
theorem marksP_succ (k : Int) (n : Nat) : marksP k (n + 1) = marksP k n ++ [mkP (k + (n : Int) * 5)] := by simp [marksP, List.range_succ]
set_option maxHeartbeats 800000 in
theorem heldPS {A : Option Addr} {c n B : Nat} {w : World} {k : Int} (hn : n ≤ 1099511627776) (h0 : 0 ≤ k) (hk : k ≤ 1099511627776) (h : RdP w B A (marksP k n)) :
    Calls Try.prog 50 #[.slice A n c, .int .i64 k] w fun e w' => e = .returned (.int .i64 (k + (n : Int) * 5)) ∧ w = w' := by
  go_enter Try.func50, Try.ntmps50
  go_wp2_with fail
  go_loop [1, 5] (fun q i => ∃ j : Nat, j ≤ n ∧ i = .int .i64 j ∧ q = .int .i64 (k + (j : Int) * 5)) (fun _ i => n - (intOf i).toNat)
  case atStart => exact ⟨0, Nat.zero_le _, rfl, by simp⟩
  case round =>
    obtain ⟨j, hj, rfl, rfl⟩ := hrel
    by_cases hlt : j < n
    · obtain ⟨g, o, rfl, had, c0, c1, c2, c3, c4⟩ := RdP_at h (k := j) (by rw [marksP_len]; exact hlt)
      rw [marksP_at] at c0 c1 c2 c3 c4
      have hm0 : 0 ≤ k + (j : Int) * 5 := by omega
      have hm1 : k + (j : Int) * 5 ≤ 10995116277760 := by omega
      obtain ⟨m, hm⟩ : ∃ m, k + (j : Int) * 5 = m := ⟨_, rfl⟩
      rw [hm] at c0 c1 c2 c3 c4 hm0 hm1 ⊢
      have HE := Lib.hid (show m + 1 + 1 + 1 + 1 + 1 = k + ((j + 1 : Nat) : Int) * 5 from by omega)
      simp only [mkP] at c0 c1 c2 c3 c4
      clear h hm
      go_wp2_with fail
      go_round
      case rel => exact ⟨j + 1, by omega, by go_num, by rw [← HE.out]⟩
      case measure => simp [intOf]; omega
    · have hjl : j = n := by omega
      have HJ := Lib.hid hjl
      clear hjl h
      go_wp2_with fail
      go_ret
      exact ⟨ret_int (by rw [HJ.out]), rfl⟩
set_option maxHeartbeats 1600000 in
theorem markPS {A : Option Addr} {c n lo hi : Nat} {w : World} {k : Int} (xs : List Prt) (ln : xs.length = n) (hn : n ≤ 1099511627776) (h0 : 0 ≤ k) (hk : k ≤ 1099511627776) (h : SlP w lo hi A c xs) :
    Calls Try.prog 48 #[.slice A n c, .int .i64 k] w fun e w' => e = .returned (.int .i64 (k + (n : Int) * 5)) ∧ SlP w' lo hi A c (marksP k n) ∧ Turn lo hi w w' ∧ w'.heap.size = w.heap.size := by
  subst ln
  go_enter Try.func48, Try.ntmps48
  go_wp2_with fail
  go_loopw [1, 5] (fun q i wr => ∃ j : Nat, j ≤ xs.length ∧ i = .int .i64 j ∧ q = .int .i64 (k + (j : Int) * 5) ∧ SlP wr lo hi A c (marksP k j ++ xs.drop j) ∧ Turn lo hi w wr ∧ wr.heap.size = w.heap.size) (fun _ i _ => xs.length - (intOf i).toNat)
  case atStart => exact ⟨0, Nat.zero_le _, rfl, by simp, by simpa [marksP] using h, Turn.refl _ _ _, rfl⟩
  case round =>
    obtain ⟨j, hj, rfl, rfl, hs, ht, hz⟩ := hrel
    have HS := Lib.hid hs; clear hs
    have HT := Lib.hid ht; clear ht
    have HZ := Lib.hid hz; clear hz h
    by_cases hlt : j < xs.length
    · obtain ⟨g, o, rfl, hg1, hg2, _, ⟨d10, d11, d12, d13, d14⟩, ⟨f0, f1, f2, f3, f4⟩, d2⟩ := SlP_at HS.out (k := j) (by simp [marksP_len]; omega)
      have hm0 : 0 ≤ k + (j : Int) * 5 := by omega
      have hm1 : k + (j : Int) * 5 ≤ 10995116277760 := by omega
      have e1 : (marksP k j ++ xs.drop j).set j (mkP (k + (j : Int) * 5)) = marksP k (j + 1) ++ xs.drop (j + 1) := by
        rw [marksP_succ, List.set_append_right _ _ (by rw [marksP_len]; omega), marksP_len, Nat.sub_self, List.drop_eq_getElem_cons hlt, List.set_cons_zero, List.append_assoc]; rfl
      obtain ⟨m, hm⟩ : ∃ m, k + (j : Int) * 5 = m := ⟨_, rfl⟩
      obtain ⟨p4, t4⟩ := d2 (mkP m)
      rw [hm] at e1 hm0 hm1 ⊢
      rw [e1] at p4
      have HE := Lib.hid (show m + 1 + 1 + 1 + 1 + 1 = k + ((j + 1 : Nat) : Int) * 5 from by omega)
      have hzz := HZ.out
      simp only [mkP] at p4 t4
      have P4 := Lib.hid p4
      have T4 := Lib.hid (HT.out.trans (t4.mono hg1 (by omega)))
      have hzs := hzz
      have HZ4 := Lib.hid (show ∀ (W : World), W.heap.size = wr.heap.size → W.heap.size = w.heap.size from fun W h => h.trans hzz)
      clear p4 t4 d2 hm e1 hzz hzs
      generalize hdx : (marksP k j ++ xs.drop j)[j]'(by simp [marksP_len]; omega) = x at d10 d11 d12 d13 d14
      clear hdx
      go_wp2_with fail
      go_roundw
      case rel => exact ⟨j + 1, by omega, by go_num, by rw [← HE.out], P4.out, T4.out, HZ4.out _ (by simp [World.setCell])⟩
      case measure => simp [intOf]; omega
    · have hjl : j = xs.length := by omega
      have HJ := Lib.hid hjl
      clear hjl
      go_wp2_with fail
      go_ret
      refine ⟨ret_int (by rw [HJ.out]), ?_, HT.out, HZ.out⟩
      have h1 := HS.out
      rwa [HJ.out, List.drop_length, List.append_nil] at h1
theorem slicesClipP {A : Option Addr} {c n lo hi : Nat} {w : World} (xs : List Prt) (ln : xs.length = n) (h : SlP w lo hi A c xs) :
    Calls Try.prog 44 #[.slice A n c] w fun e w' => e = .returned (.slice A n n) ∧ SlP w lo hi A n xs ∧ w = w' := by
  subst ln
  have hle := h.le
  have H := Lib.hid (h.clip kP)
  cases A with
  | none =>
    have hc : c = 0 := Sl.noAddr h rfl
    have hx : xs = [] := List.eq_nil_of_length_eq_zero (by omega)
    subst hc hx
    clear h hle
    go_enter Try.func44, Try.ntmps44
    go_wp2
    go_ret
    exact ⟨rfl, H.out, rfl⟩
  | some ad =>
    clear h
    by_cases hx : xs = []
    · subst hx
      go_enter Try.func44, Try.ntmps44
      go_wp2
      go_ret
      exact ⟨rfl, H.out, rfl⟩
    · have hp : xs.length ≠ 0 := fun e => hx (List.eq_nil_of_length_eq_zero e)
      go_enter Try.func44, Try.ntmps44
      go_wp2
      go_ret
      exact ⟨rfl, H.out, rfl⟩
end Go.Proofs.Ytlinngohbghimaa
