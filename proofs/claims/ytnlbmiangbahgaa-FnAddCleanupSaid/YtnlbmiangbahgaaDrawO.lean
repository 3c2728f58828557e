/-
  spec.ownerOf; the arguments that are drawn for laws over owners.
-/
import Derived.Test.YtnlbmiangbahgaaSome
namespace Go.Proofs.Ytnlbmiangbahgaa
open Go.RowKit

theorem results_tmp4 {fn : Func} {t u v x : Tmp} (h : fn.results = #[.tmp t, .tmp u, .tmp v, .tmp x]) (tmps : Array Value) (P : Program) (w : World) :
    (results fn tmps).run P w = .ok (.tuple #[tmps.getD t undef, tmps.getD u undef, tmps.getD v undef, tmps.getD x undef]) w := by
  simp [results, h]
def DrawAI (N g m : Nat) (w : World) (e : Ending) (w' : World) : Prop :=
  ∃ (A : Option Addr) (c : Nat) (os : List Own) (k : Int), e = .returned (.tuple #[.slice A os.length c, .int .i64 k]) ∧ (-1 ≤ k ∧ k ≤ 12) ∧ Smalls os ∧ SlO w' w.heap.size w'.heap.size A c os ∧ Rdr w' N g m ∧ Turn g (g + 1) w w'
/-- what is handed out: owners; owners and numbers -/
def DrawnO (w : World) (e : Ending) (w' : World) : Prop := ∃ (A : Option Addr) (c : Nat) (os : List Own), e = .returned (.slice A os.length c) ∧ Smalls os ∧ SlO w' w.heap.size w'.heap.size A c os ∧ Below w.heap.size w w'
def DrawnOi (w : World) (e : Ending) (w' : World) : Prop := ∃ (A : Option Addr) (c : Nat) (os : List Own) (k : Int), e = .returned (.tuple #[.slice A os.length c, .int .i64 k]) ∧ (-1 ≤ k ∧ k ≤ 12) ∧ Smalls os ∧ SlO w' w.heap.size w'.heap.size A c os ∧ Below w.heap.size w w'
def DrawnOii (w : World) (e : Ending) (w' : World) : Prop := ∃ (A : Option Addr) (c : Nat) (os : List Own) (k u : Int), e = .returned (.tuple #[.slice A os.length c, .int .i64 k, .int .i64 u]) ∧ (-1 ≤ k ∧ k ≤ 12) ∧ (-1 ≤ u ∧ u ≤ 51) ∧ Smalls os ∧ SlO w' w.heap.size w'.heap.size A c os ∧ Below w.heap.size w w'
def DrawnOiii (w : World) (e : Ending) (w' : World) : Prop := ∃ (A : Option Addr) (c : Nat) (os : List Own) (k u v : Int), e = .returned (.tuple #[.slice A os.length c, .int .i64 k, .int .i64 u, .int .i64 v]) ∧ (-1 ≤ k ∧ k ≤ 12) ∧ (-1 ≤ u ∧ u ≤ 51) ∧ (-1 ≤ v ∧ v ≤ 51) ∧ Smalls os ∧ SlO w' w.heap.size w'.heap.size A c os ∧ Below w.heap.size w w'

set_option maxHeartbeats 1600000 in
theorem spOwnerOf {N g m : Nat} {w : World} (hm : m ≤ 700000) (h : Rdr w N g m) :
    Calls Try.prog 31 #[.pointer (some ⟨g, 0, none⟩)] w (DrawAI N g (m + 87) w) := by
  have hg := h.lt
  have H0 := Lib.hid h; clear h
  go_enter Try.func31, Try.ntmps31
  go_wp2_with fail
  refine (someOwners (by omega) H0.out).mono ?_; rintro e w1 ⟨A1, c1, os, rfl, hsm, s1, r1, t1⟩
  have hz1 := t1.size
  obtain ⟨hl1, hl2⟩ := hsm.1
  have HSM := Lib.hid hsm
  have S1 := Lib.hid s1
  have R1 := Lib.hid r1
  have T1 := Lib.hid t1
  clear s1 r1 t1 hsm H0
  go_wp2_with fail
  refine (pick _ N g (m + 84) _ (by omega) R1.out).mono ?_; rintro e w2 ⟨x, rfl, hx0, hxl, r2, t2⟩
  have hz2 := t2.size
  have S2 := Lib.hid ((S1.out.turn t2 (.inr (by omega))).mono (Nat.le_refl _) hz2)
  have T2 := Lib.hid (T1.out.trans t2)
  have R2 := Lib.hid r2
  clear r2 t2 S1 T1 R1
  go_wp2_with fail
  refine (pick _ N g (m + 84 + 1) _ (by omega) R2.out).mono ?_; rintro e w3 ⟨y, rfl, hy0, hyl, r3, t3⟩
  have hz3 := t3.size
  have S3 := Lib.hid ((S2.out.turn t3 (.inr (by omega))).mono (Nat.le_refl _) hz3)
  have T3 := Lib.hid (T2.out.trans t3)
  have R3 := Lib.hid (r3.below ((Below.refl w3.heap.size w3).alloc (Nat.le_refl _) (.cells (ints [x, 0, y, 1, -1, 12]).toArray 3)) (by omega))
  clear r3 t3 S2 T2 R2
  go_wp2_with fail
  refine (one (n := 6) [x, 0, y, 1, -1, 12] rfl (by omega) (by omega) N g (m + 84 + 1 + 1) (by omega) R3.out (SlI.newAt (lo := w.heap.size) (w := w3) w3.heap.size rfl [x, 0, y, 1, -1, 12] (by omega)) hg).mono ?_
  rintro e w4 ⟨k, hk, rfl, r4, t4⟩
  have hz4 := t4.size
  rw [World.size_alloc] at hz4
  have HF := Lib.hid (show DrawAI N g (m + 87) w (.returned (.tuple #[.slice A1 os.length c1, .int .i64 k])) w4 from
    ⟨A1, c1, os, k, rfl, by simp at hk; omega, HSM.out, ((S3.out.alloc (.cells (ints [x, 0, y, 1, -1, 12]).toArray 3)).turn t4 (.inr (by omega))).mono (Nat.le_refl _) (by omega), r4, (T3.out.alloc (.cells (ints [x, 0, y, 1, -1, 12]).toArray 3)).trans t4⟩)
  clear r4 t4 hk S3 T3 R3
  go_wp2_with fail
  go_ret2
  exact HF.out


set_option maxHeartbeats 1600000 in
theorem drawValidOwners {A : Option Addr} {c n : Nat} {w : World} (bs : List Int) (ln : bs.length = n) (hn : n ≤ c) (hc : c ≤ 9223372036854775807) (hx : ∀ x ∈ bs, (Lit.int .u8 x).wf = true) (hr : Rd w w.heap.size A (bytes8 bs)) :
    Calls Try.prog 28 #[.slice A n c] w (DrawnO w) := by
  subst ln
  have HR := Lib.hid hr; clear hr
  have HX := Lib.hid hx; clear hx
  go_enter Try.func28, Try.ntmps28
  go_wp2_with fail
  refine (newReader bs rfl hn hc HX.out HR.out).mono ?_; rintro e w1 ⟨rfl, hr1, b1, s1⟩
  have R1 := Lib.hid hr1
  have B1 := Lib.hid b1
  have hz1 : w1.heap.size = w.heap.size + 1 := s1
  clear hr1 b1 s1 HX HR
  go_wp2_with fail
  refine (someOwners (by omega) R1.out).mono ?_; rintro e w2 ⟨A2, c2, os, rfl, hsm, s2, r2, t2⟩
  have HF := Lib.hid (show DrawnO w (.returned (.slice A2 os.length c2)) w2 from ⟨A2, c2, os, rfl, hsm, s2.mono (by omega) (Nat.le_refl _), B1.out.trans (t2.below (by omega))⟩)
  clear hsm s2 r2 t2
  go_wp2_with fail
  go_ret
  exact HF.out




set_option maxHeartbeats 1600000 in
theorem drawRerunOwner {A : Option Addr} {c n : Nat} {w : World} (bs : List Int) (ln : bs.length = n) (hn : n ≤ c) (hc : c ≤ 9223372036854775807) (hx : ∀ x ∈ bs, (Lit.int .u8 x).wf = true) (hr : Rd w w.heap.size A (bytes8 bs)) :
    Calls Try.prog 20 #[.slice A n c] w (DrawnOi w) := by
  subst ln
  have HR := Lib.hid hr; clear hr
  have HX := Lib.hid hx; clear hx
  go_enter Try.func20, Try.ntmps20
  go_wp2_with fail
  refine (newReader bs rfl hn hc HX.out HR.out).mono ?_; rintro e w1 ⟨rfl, hr1, b1, s1⟩
  have R1 := Lib.hid hr1
  have B1 := Lib.hid b1
  have hz1 : w1.heap.size = w.heap.size + 1 := s1
  clear hr1 b1 s1 HX HR
  go_wp2_with fail
  refine (spOwnerOf (by omega) R1.out).mono ?_; rintro e w2 ⟨A2, c2, os, k, rfl, hk, hsm, s2, r2, t2⟩
  have HF := Lib.hid (show DrawnOi w (.returned (.tuple #[.slice A2 os.length c2, .int .i64 k])) w2 from ⟨A2, c2, os, k, rfl, hk, hsm, s2.mono (by omega) (Nat.le_refl _), B1.out.trans (t2.below (by omega))⟩)
  clear hsm s2 r2 t2 hk
  go_wp2_with fail
  go_ret2
  exact HF.out

set_option maxHeartbeats 1600000 in
theorem drawDisposeOwner {A : Option Addr} {c n : Nat} {w : World} (bs : List Int) (ln : bs.length = n) (hn : n ≤ c) (hc : c ≤ 9223372036854775807) (hx : ∀ x ∈ bs, (Lit.int .u8 x).wf = true) (hr : Rd w w.heap.size A (bytes8 bs)) :
    Calls Try.prog 23 #[.slice A n c] w (DrawnOi w) := by
  subst ln
  have HR := Lib.hid hr; clear hr
  have HX := Lib.hid hx; clear hx
  go_enter Try.func23, Try.ntmps23
  go_wp2_with fail
  refine (newReader bs rfl hn hc HX.out HR.out).mono ?_; rintro e w1 ⟨rfl, hr1, b1, s1⟩
  have R1 := Lib.hid hr1
  have B1 := Lib.hid b1
  have hz1 : w1.heap.size = w.heap.size + 1 := s1
  clear hr1 b1 s1 HX HR
  go_wp2_with fail
  refine (spOwnerOf (by omega) R1.out).mono ?_; rintro e w2 ⟨A2, c2, os, k, rfl, hk, hsm, s2, r2, t2⟩
  have HF := Lib.hid (show DrawnOi w (.returned (.tuple #[.slice A2 os.length c2, .int .i64 k])) w2 from ⟨A2, c2, os, k, rfl, hk, hsm, s2.mono (by omega) (Nat.le_refl _), B1.out.trans (t2.below (by omega))⟩)
  clear hsm s2 r2 t2 hk
  go_wp2_with fail
  go_ret2
  exact HF.out

set_option maxHeartbeats 1600000 in
theorem drawLabelsOf {A : Option Addr} {c n : Nat} {w : World} (bs : List Int) (ln : bs.length = n) (hn : n ≤ c) (hc : c ≤ 9223372036854775807) (hx : ∀ x ∈ bs, (Lit.int .u8 x).wf = true) (hr : Rd w w.heap.size A (bytes8 bs)) :
    Calls Try.prog 17 #[.slice A n c] w (DrawnOi w) := by
  subst ln
  have HR := Lib.hid hr; clear hr
  have HX := Lib.hid hx; clear hx
  go_enter Try.func17, Try.ntmps17
  go_wp2_with fail
  refine (newReader bs rfl hn hc HX.out HR.out).mono ?_; rintro e w1 ⟨rfl, hr1, b1, s1⟩
  have R1 := Lib.hid hr1
  have B1 := Lib.hid b1
  have hz1 : w1.heap.size = w.heap.size + 1 := s1
  clear hr1 b1 s1 HX HR
  go_wp2_with fail
  refine (spOwnerOf (by omega) R1.out).mono ?_; rintro e w2 ⟨A2, c2, os, k, rfl, hk, hsm, s2, r2, t2⟩
  have HF := Lib.hid (show DrawnOi w (.returned (.tuple #[.slice A2 os.length c2, .int .i64 k])) w2 from ⟨A2, c2, os, k, rfl, hk, hsm, s2.mono (by omega) (Nat.le_refl _), B1.out.trans (t2.below (by omega))⟩)
  clear hsm s2 r2 t2 hk
  go_wp2_with fail
  go_ret2
  exact HF.out


set_option maxHeartbeats 1600000 in
theorem drawAddCleanup {A : Option Addr} {c n : Nat} {w : World} (bs : List Int) (ln : bs.length = n) (hn : n ≤ c) (hc : c ≤ 9223372036854775807) (hx : ∀ x ∈ bs, (Lit.int .u8 x).wf = true) (hr : Rd w w.heap.size A (bytes8 bs)) :
    Calls Try.prog 9 #[.slice A n c] w (DrawnOii w) := by
  subst ln
  have HR := Lib.hid hr; clear hr
  have HX := Lib.hid hx; clear hx
  go_enter Try.func9, Try.ntmps9
  go_wp2_with fail
  refine (newReader bs rfl hn hc HX.out HR.out).mono ?_; rintro e w1 ⟨rfl, hr1, b1, s1⟩
  have R1 := Lib.hid hr1
  have B1 := Lib.hid b1
  have hz1 : w1.heap.size = w.heap.size + 1 := s1
  clear hr1 b1 s1 HX HR
  go_wp2_with fail
  refine (spOwnerOf (by omega) R1.out).mono ?_; rintro e w2 ⟨A2, c2, os, k, rfl, hk, hsm, s2, r2, t2⟩
  have hz2 := t2.size
  have HK := Lib.hid hk
  have HSM := Lib.hid hsm
  have S2 := Lib.hid (show SlO w2 (w.heap.size + 1) w2.heap.size A2 c2 os from s2.mono (by omega) (Nat.le_refl _))
  have R2 := Lib.hid r2
  have B2 := Lib.hid (B1.out.trans (t2.below (by omega)))
  clear hsm s2 r2 t2 hk R1 B1
  have R2' := Lib.hid (R2.out.below ((Below.refl w2.heap.size w2).alloc (Nat.le_refl _) (.cells (ints [7, 0, 50, 51, -1]).toArray 3)) (by omega))
  go_wp2_with fail
  refine (one (n := 5) [7, 0, 50, 51, -1] rfl (by omega) (by omega) w.heap.size w.heap.size (0 + 87) (by omega) R2'.out (SlI.newAt (lo := w.heap.size + 1) (w := w2) w2.heap.size rfl [7, 0, 50, 51, -1] (by omega)) (by omega)).mono ?_
  rintro e w3 ⟨u, hu, rfl, r3, t3⟩
  have hz3 := t3.size
  rw [World.size_alloc] at hz3
  have Hu := Lib.hid (show -1 ≤ u ∧ u ≤ 51 from by simp at hu; omega)
  have t3' : Turn w.heap.size (w.heap.size + 1) w2 w3 := ((Turn.refl _ _ _).alloc (.cells (ints [7, 0, 50, 51, -1]).toArray 3)).trans t3
  have b3 : Below w.heap.size w2 w3 := ((Below.refl w.heap.size w2).alloc (by omega) (.cells (ints [7, 0, 50, 51, -1]).toArray 3)).trans (t3.below (by simp; omega))
  have S3 := Lib.hid (show SlO w3 (w.heap.size + 1) w3.heap.size A2 c2 os from (S2.out.turn t3' (.inr (Nat.le_refl _))).mono (Nat.le_refl _) (by omega))
  have R3 := Lib.hid r3
  have B3 := Lib.hid (B2.out.trans b3)
  clear r3 t3 t3' b3 hu S2 R2 B2 R2'
  have HF := Lib.hid (show DrawnOii w (.returned (.tuple #[.slice A2 os.length c2, .int .i64 k, .int .i64 u])) w3 from ⟨A2, c2, os, k, u, rfl, HK.out, Hu.out, HSM.out, S3.out.mono (by omega) (Nat.le_refl _), B3.out⟩)
  go_wp2_with fail
  go_ret3
  exact HF.out


end Go.Proofs.Ytnlbmiangbahgaa
