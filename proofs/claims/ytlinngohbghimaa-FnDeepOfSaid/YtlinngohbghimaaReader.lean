/-
  spec.newReader, (*spec.reader).one.
-/
import Derived.Test.YtlinngohbghimaaPick
import Derived.Test.YtlinngohbghimaaInts
namespace Go.Proofs.Ytlinngohbghimaa
open Go.RowKit

def NewRdr (w : World) (e : Ending) (w' : World) : Prop :=
  e = .returned (.pointer (some ⟨w.heap.size, 0, none⟩)) ∧ Rdr w' w.heap.size w.heap.size 0 ∧ Below w.heap.size w w' ∧ w'.heap.size = w.heap.size + 1

theorem new_rdr {A : Option Addr} {c : Nat} (bs : List Int) (w : World) (hl : bs.length ≤ 2000) (hx : ∀ x ∈ bs, 0 ≤ x ∧ x ≤ 255) (hr : Rd w w.heap.size A (bytes8 bs)) :
    Rdr (w.alloc (.cells #[.slice A bs.length c, .int .i64 0] 77)) w.heap.size w.heap.size 0 :=
  ⟨A, c, 0, bs, Nat.le_refl _, Nat.le_refl _, hl, hx, hr.below ((Below.refl _ _).alloc (Nat.le_refl _) _), Blk.new _ _ _⟩

set_option maxHeartbeats 400000 in
theorem newReader {A : Option Addr} {c n : Nat} {w : World} (bs : List Int) (ln : bs.length = n) (hn : n ≤ c) (hc : c ≤ 9223372036854775807) (hx : ∀ x ∈ bs, (Lit.int .u8 x).wf = true) (hr : Rd w w.heap.size A (bytes8 bs)) :
    Calls Try.prog 43 #[.slice A n c] w (NewRdr w) := by
  subst ln
  have hx' : ∀ x ∈ bs, 0 ≤ x ∧ x ≤ 255 := fun x h => by simpa [Lit.wf, IntKind.min, IntKind.max, IntKind.signed, IntKind.bits] using hx x h
  by_cases hbig : 2000 < bs.length
  · have hlen : (bs.take 2000).length = 2000 := by rw [List.length_take]; omega
    have hrt : Rd w w.heap.size A (bytes8 (bs.take 2000)) := by have := hr.take 2000; rwa [← List.map_take] at this
    have H := Lib.hid (new_rdr (A := A) (c := c) (bs.take 2000) w (by omega) (fun x h => hx' x (List.mem_of_mem_take h)) hrt)
    rw [hlen] at H
    have hne : bs ≠ [] := by rintro rfl; simp at hbig
    have hcc : ¬ c = 0 := by omega
    clear hr hrt hx hx' hlen
    go_enter Try.func43, Try.ntmps43
    go_wp2
    go_ret
    exact ⟨rfl, H.out, (Below.refl _ _).alloc (Nat.le_refl _) _, by simp⟩
  · have H := Lib.hid (new_rdr (A := A) (c := c) bs w (by omega) hx' hr)
    clear hr hx hx'
    go_enter Try.func43, Try.ntmps43
    go_wp2
    go_ret
    exact ⟨rfl, H.out, (Below.refl _ _).alloc (Nat.le_refl _) _, by simp⟩

def One (xs : List Int) (N g m : Nat) (w : World) (e : Ending) (w' : World) : Prop :=
  ∃ v ∈ xs, e = .returned (.int .i64 v) ∧ Rdr w' N g (m + 1) ∧ Turn g (g + 1) w w'

set_option maxHeartbeats 400000 in
/-- one of a list that is not empty, and lies above the reader -/
theorem one {A : Option Addr} {c n lo hi : Nat} (xs : List Int) (ln : xs.length = n) (hpos : 0 < n) (hn : n ≤ 1000000) (N g m : Nat) {w : World} (hm : m ≤ 1000000) (h : Rdr w N g m) (ho : SlI w lo hi A c xs) (hlo : g < lo) :
    Calls Try.prog 64 #[.pointer (some ⟨g, 0, none⟩), .slice A n c] w (One xs N g m w) := by
  subst ln
  have HR := Lib.hid h; clear h
  have HO := Lib.hid ho; clear ho
  go_enter Try.func64, Try.ntmps64
  go_wp2_with fail
  refine (pick _ N g m _ hm HR.out).mono ?_; rintro e w1 ⟨v, rfl, h0, hv, hr1, ht1⟩
  have hv' : v < (xs.length : Int) := by omega
  obtain ⟨k, rfl⟩ := Int.eq_ofNat_of_zero_le h0
  have hk : k < xs.length := by omega
  have o1 := HO.out.turn ht1 (.inr (by omega))
  obtain ⟨ad, rfl, _, hc⟩ := o1.rd.at_ hk
  have hcell := hc k hk
  have HF := Lib.hid (show One xs N g m w (.returned (.int .i64 xs[k])) w1 from ⟨_, List.getElem_mem hk, rfl, hr1, ht1⟩)
  clear hr1 ht1 o1 hc hv
  go_wp2
  go_ret
  exact HF.out

/-- a drawn list of ints, fresh, of at most L; the reader has gone on -/
def DrawI (N g m L : Nat) (w : World) (e : Ending) (w' : World) : Prop :=
  ∃ (A : Option Addr) (c : Nat) (xs : List Int), e = .returned (.slice A xs.length c) ∧ xs.length ≤ L ∧ SlI w' w.heap.size w'.heap.size A c xs ∧ Rdr w' N g m ∧ Turn g (g + 1) w w'
/-- a slice of ints that is handed out -/
def DrawnI (L : Nat) (w : World) (e : Ending) (w' : World) : Prop :=
  ∃ (A : Option Addr) (c : Nat) (xs : List Int), e = .returned (.slice A xs.length c) ∧ xs.length ≤ L ∧ xs.length ≤ c ∧ RdI w' w'.heap.size A xs ∧ Below w.heap.size w w'
def DrawnII (L : Nat) (w : World) (e : Ending) (w' : World) : Prop :=
  ∃ (A : Option Addr) (c : Nat) (xs : List Int) (A' : Option Addr) (c' : Nat) (ys : List Int), e = .returned (.tuple #[.slice A xs.length c, .slice A' ys.length c']) ∧ xs.length ≤ L ∧ ys.length ≤ L ∧ xs.length ≤ c ∧ ys.length ≤ c' ∧ RdI w' w'.heap.size A xs ∧ RdI w' w'.heap.size A' ys ∧ Below w.heap.size w w'
end Go.Proofs.Ytlinngohbghimaa
