/-
  Small functions on slices of ints.
-/
import Derived.Test.YtmmegmefiihabaaInts
import Derived.Test.YtmmegmefiihabaaSmall
import Derived.WalkSpells
namespace Go.Proofs.Ytmmegmefiihabaa
open Go.RowKit

theorem plc_ge (x : Int) (xs : List Int) : decide (0 ≤ plc x xs) = memB x xs := by
  unfold plc memB
  split
  · next h => rw [decide_eq_true (by omega), decide_eq_true h]
  · next h => rw [decide_eq_false (by omega), decide_eq_false h]
theorem plc_neg (x : Int) (xs : List Int) : decide (plc x xs < 0) = !memB x xs := by
  unfold plc memB
  split
  · next h => rw [decide_eq_false (by omega), decide_eq_true h]; rfl
  · next h => rw [decide_eq_true (by omega), decide_eq_false h]; rfl
def withinB (xs ys : List Int) : Bool := xs.all fun x => memB x ys
theorem withinB_iff {xs ys : List Int} : withinB xs ys = true ↔ ∀ x ∈ xs, x ∈ ys := by simp [withinB, memB]
def nodupB (xs : List Int) : Bool := decide xs.Nodup
theorem idx_eq_of_nodup {xs : List Int} (h : xs.Nodup) (k : Nat) (hk : k < xs.length) : idx xs[k] xs = k :=
  idx_at _ _ k hk (fun j hj e => List.pairwise_iff_getElem.1 h j k (by omega) hk hj e) rfl
theorem nodup_of_idx {xs : List Int} (h : ∀ k (hk : k < xs.length), idx xs[k] xs = k) : xs.Nodup :=
  List.pairwise_iff_getElem.2 fun i j hi hj hij e => by
    have h1 := h i hi
    have h2 := h j hj
    rw [e] at h1
    omega

/-- the numbers k, k + 1, .. -/
def marks (k : Int) (n : Nat) : List Int := (List.range n).map fun i : Nat => k + (i : Int)
theorem marks_len (k : Int) (n : Nat) : (marks k n).length = n := by simp [marks]
theorem marks_at (k : Int) (n j : Nat) (h : j < (marks k n).length) : (marks k n)[j] = k + j := by simp [marks]
theorem marks_succ (k : Int) (n : Nat) : marks k (n + 1) = marks k n ++ [k + n] := by simp [marks, List.range_succ]
theorem marks_set (k : Int) (xs : List Int) (j : Nat) (h : j < xs.length) : (marks k j ++ xs.drop j).set j (k + j) = marks k (j + 1) ++ xs.drop (j + 1) := by
  rw [List.set_append_right _ _ (by rw [marks_len]; exact Nat.le_refl _), marks_len, Nat.sub_self, List.drop_eq_getElem_cons h, List.set_cons_zero, marks_succ, List.append_assoc]
  rfl
theorem marks_row (k : Int) (xs : List Int) (j : Nat) (h : j ≤ xs.length) : (marks k j ++ xs.drop j).length = xs.length := by rw [List.length_append, marks_len, List.length_drop]; omega

set_option maxHeartbeats 400000 in
theorem slicesIndex {A : Option Addr} {c n B : Nat} {w : World} {x : Int} (xs : List Int) (ln : xs.length = n) (hn : n ≤ 9223372036854775807) (h : RdI w B A xs) :
    Calls Try.prog 53 #[.slice A n c, .int .i64 x] w fun e w' => e = .returned (.int .i64 (plc x xs)) ∧ w = w' := by
  subst ln
  go_enter Try.func53, Try.ntmps53
  go_wp2
  go_loop [8] (fun i => ∃ k : Nat, k ≤ xs.length ∧ i = .int .i64 k ∧ ∀ j (hj : j < k) (hl : j < xs.length), xs[j] ≠ x) (fun i => xs.length - (intOf i).toNat)
  case atStart => exact ⟨0, Nat.zero_le _, rfl, fun j hj => absurd hj (by omega)⟩
  case round =>
    obtain ⟨k, hk, rfl, hno⟩ := hrel
    have HN := Lib.hid hno; clear hno
    by_cases hlt : k < xs.length
    · obtain ⟨ad, rfl, _, hc⟩ := h.at_ hlt
      have hcell := hc k hlt
      clear hc h
      by_cases he : xs[k] = x
      · have ht : (x == xs[k]) = true := by simp [he]
        have HE := Lib.hid he; clear he
        go_wp2
        go_ret
        have hm : x ∈ xs := HE.out ▸ List.getElem_mem hlt
        exact ⟨ret_int (by unfold plc; rw [if_pos hm, idx_at x xs k hlt (fun j hj => HN.out j hj (by omega)) HE.out]), rfl⟩
      · have ht : (x == xs[k]) = false := by rw [beq_eq_false_iff_ne]; exact fun e => he e.symm
        have HE := Lib.hid he; clear he
        go_wp2
        go_round
        case rel => exact ⟨k + 1, by omega, by go_num, fun j hj hl => by
          rcases Nat.lt_or_ge j k with h1 | h1
          · exact HN.out j h1 hl
          · have : j = k := by omega
            subst this; exact HE.out⟩
        case measure => simp [intOf]; omega
    · go_wp2
      go_ret
      have hnone : ¬ x ∈ xs := idx_none x xs fun j hj => HN.out j (by omega) hj
      exact ⟨ret_int (by unfold plc; rw [if_neg hnone]), rfl⟩

theorem slicesContains {A : Option Addr} {c n B : Nat} {w : World} {x : Int} (xs : List Int) (ln : xs.length = n) (hn : n ≤ 9223372036854775807) (h : RdI w B A xs) :
    Calls Try.prog 61 #[.slice A n c, .int .i64 x] w fun e w' => e = .returned (.bool (memB x xs)) ∧ w = w' := by
  subst ln
  have H := Lib.hid h; clear h
  go_enter Try.func61, Try.ntmps61
  go_wp2_with fail
  refine (slicesIndex xs rfl hn H.out).mono ?_; rintro e w1 ⟨rfl, rfl⟩
  go_wp2_with fail
  go_ret
  exact ⟨ret_bool (plc_ge x xs), rfl⟩

set_option maxHeartbeats 400000 in
theorem within {A A' : Option Addr} {c c' n n' B B' : Nat} {w : World} (xs ys : List Int) (ln : xs.length = n) (ln' : ys.length = n') (hn : n ≤ 9223372036854775807) (hn' : n' ≤ 9223372036854775807) (h : RdI w B A xs) (h' : RdI w B' A' ys) :
    Calls Try.prog 19 #[.slice A n c, .slice A' n' c'] w fun e w' => e = .returned (.bool (withinB xs ys)) ∧ w = w' := by
  subst ln
  have H' := Lib.hid h'; clear h'
  go_enter Try.func19, Try.ntmps19
  go_wp2_with fail
  go_loop [5] (fun i => ∃ k : Nat, k ≤ xs.length ∧ i = .int .i64 k ∧ ∀ x ∈ xs.take k, x ∈ ys) (fun i => xs.length - (intOf i).toNat)
  case atStart => exact ⟨0, Nat.zero_le _, rfl, by simp⟩
  case round =>
    obtain ⟨k, hk, rfl, hall⟩ := hrel
    have HN := Lib.hid hall; clear hall
    by_cases hlt : k < xs.length
    · obtain ⟨ad, rfl, _, hc⟩ := h.at_ hlt
      have hcell := hc k hlt
      clear hc h
      cases hb : memB xs[k] ys
      · have HB := Lib.hid hb
        go_wp2_with (go_at_call 17; refine (isIn ys ln' hn' H'.out).mono ?_; rintro e w' ⟨rfl, rfl⟩)
        go_ret
        have hno : withinB xs ys = false := by
          rw [Bool.eq_false_iff]; intro hw
          have := withinB_iff.1 hw _ (List.getElem_mem hlt)
          have h2 := HB.out
          simp [memB] at h2
          exact h2 this
        exact ⟨ret_bool hno.symm, rfl⟩
      · have HB := Lib.hid hb
        go_wp2_with (go_at_call 17; refine (isIn ys ln' hn' H'.out).mono ?_; rintro e w' ⟨rfl, rfl⟩)
        go_round
        case rel => exact ⟨k + 1, by omega, by go_num, fun x hx => by
          rw [List.take_succ_eq_append_getElem hlt, List.mem_append, List.mem_singleton] at hx
          rcases hx with hx | rfl
          · exact HN.out x hx
          · have h2 := HB.out
            simpa [memB] using h2⟩
        case measure => simp [intOf]; omega
    · go_wp2
      go_ret
      have hkl : k = xs.length := by omega
      have hw : withinB xs ys = true := withinB_iff.2 (by have h2 := HN.out; rwa [hkl, List.take_length] at h2)
      exact ⟨ret_bool hw.symm, rfl⟩

set_option maxHeartbeats 400000 in
theorem noTwice {A : Option Addr} {c n B : Nat} {w : World} (xs : List Int) (ln : xs.length = n) (hn : n ≤ 9223372036854775807) (h : RdI w B A xs) :
    Calls Try.prog 45 #[.slice A n c] w fun e w' => e = .returned (.bool (nodupB xs)) ∧ w = w' := by
  subst ln
  have H := Lib.hid h
  go_enter Try.func45, Try.ntmps45
  go_wp2_with fail
  go_loop [3] (fun i => ∃ k : Nat, k ≤ xs.length ∧ i = .int .i64 k ∧ ∀ j (hj : j < k) (hl : j < xs.length), idx xs[j] xs = j) (fun i => xs.length - (intOf i).toNat)
  case atStart => exact ⟨0, Nat.zero_le _, rfl, fun j hj => absurd hj (by omega)⟩
  case round =>
    obtain ⟨k, hk, rfl, hall⟩ := hrel
    have HN := Lib.hid hall; clear hall
    by_cases hlt : k < xs.length
    · obtain ⟨ad, rfl, _, hc⟩ := h.at_ hlt
      have hcell := hc k hlt
      clear hc h
      have hpl : plc xs[k] xs = (idx xs[k] xs : Int) := by unfold plc; rw [if_pos (List.getElem_mem hlt)]
      have HP := Lib.hid hpl; clear hpl
      by_cases hi : idx xs[k] xs = k
      · have HI := Lib.hid hi; clear hi
        go_wp2_with fail
        refine (place xs rfl hn H.out).mono ?_; rintro e w' ⟨rfl, rfl⟩
        rw [HP.out, HI.out]
        go_wp2_with fail
        go_round
        case rel => exact ⟨k + 1, by omega, by go_num, fun j hj hl => by
          rcases Nat.lt_or_ge j k with h1 | h1
          · exact HN.out j h1 hl
          · have : j = k := by omega
            subst this; exact HI.out⟩
        case measure => simp [intOf]; omega
      · have ht : ((idx xs[k] xs : Int) != (k : Int)) = true := by rw [bne_iff_ne]; omega
        have HI := Lib.hid hi; clear hi
        go_wp2_with fail
        refine (place xs rfl hn H.out).mono ?_; rintro e w' ⟨rfl, rfl⟩
        rw [HP.out]
        go_wp2_with fail
        go_ret
        have hno : nodupB xs = false := decide_eq_false fun hd => HI.out (idx_eq_of_nodup hd k hlt)
        exact ⟨ret_bool hno.symm, rfl⟩
    · go_wp2
      go_ret
      have hd : nodupB xs = true := decide_eq_true (nodup_of_idx fun j hj => HN.out j (by omega) hj)
      exact ⟨ret_bool hd.symm, rfl⟩

set_option maxHeartbeats 400000 in
theorem markIntS {A : Option Addr} {c n lo hi : Nat} {w : World} {k : Int} (xs : List Int) (ln : xs.length = n) (hn : n ≤ 1099511627776) (h0 : 0 ≤ k) (hk : k ≤ 1099511627776) (h : SlI w lo hi A c xs) :
    Calls Try.prog 25 #[.slice A n c, .int .i64 k] w fun e w' => e = .returned (.int .i64 (k + n)) ∧ SlI w' lo hi A c (marks k n) ∧ Turn lo hi w w' ∧ w'.heap.size = w.heap.size := by
  subst ln
  go_enter Try.func25, Try.ntmps25
  go_wp2
  go_loopw [1, 5] (fun q i wr => ∃ j : Nat, j ≤ xs.length ∧ i = .int .i64 j ∧ q = .int .i64 (k + j) ∧ SlI wr lo hi A c (marks k j ++ xs.drop j) ∧ Turn lo hi w wr ∧ wr.heap.size = w.heap.size) (fun _ i _ => xs.length - (intOf i).toNat)
  case atStart => exact ⟨0, Nat.zero_le _, rfl, by simp, by simpa [marks] using h, Turn.refl _ _ _, rfl⟩
  case round =>
    obtain ⟨j, hj, rfl, rfl, hs, ht, hz⟩ := hrel
    clear h
    by_cases hlt : j < xs.length
    · have hrow := marks_row k xs j hj
      obtain ⟨g, o, rfl, hg1, hg2, hc, hf, hst⟩ := hs.at_ (k := j) (by rw [hrow]; exact hlt)
      have hcell := hc j (by rw [hrow]; exact hlt)
      obtain ⟨v, hv⟩ : ∃ v, (marks k j ++ xs.drop j)[j]'(by rw [hrow]; exact hlt) = v := ⟨_, rfl⟩
      rw [hv] at hcell
      have hfr := hf j
      obtain ⟨h1, h2⟩ := hst j (k + j) (by rw [hrow]; exact hlt)
      rw [marks_set k xs j hlt] at h1
      have H1 := Lib.hid h1
      have H2 := Lib.hid (ht.trans h2)
      have HZ := Lib.hid hz
      clear hc hf hst h1 h2 ht hs hz hv hrow
      go_wp2
      go_roundw
      case rel => exact ⟨j + 1, by omega, by go_num, by simp; omega, H1.out, H2.out, by simp [HZ.out]⟩
      case measure => simp [intOf]; omega
    · have hjl : j = xs.length := by omega
      have e : marks k j ++ xs.drop j = marks k xs.length := by rw [hjl, List.drop_length, List.append_nil]
      rw [e] at hs
      have HS := Lib.hid hs
      have HT := Lib.hid ht
      have HZ := Lib.hid hz
      have HJ := Lib.hid hjl
      clear hs ht hz hjl e
      go_wp2
      go_ret
      exact ⟨ret_int (by rw [HJ.out]), HS.out, HT.out, HZ.out⟩

set_option maxHeartbeats 400000 in
theorem heldIntS {A : Option Addr} {c n B : Nat} {w : World} {k : Int} (hn : n ≤ 1099511627776) (h0 : 0 ≤ k) (hk : k ≤ 1099511627776) (h : RdI w B A (marks k n)) :
    Calls Try.prog 27 #[.slice A n c, .int .i64 k] w fun e w' => e = .returned (.int .i64 (k + n)) ∧ w = w' := by
  go_enter Try.func27, Try.ntmps27
  go_wp2
  go_loop [1, 5] (fun q i => ∃ j : Nat, j ≤ n ∧ i = .int .i64 j ∧ q = .int .i64 (k + j)) (fun _ i => n - (intOf i).toNat)
  case atStart => exact ⟨0, Nat.zero_le _, rfl, by simp⟩
  case round =>
    obtain ⟨j, hj, rfl, rfl⟩ := hrel
    by_cases hlt : j < n
    · obtain ⟨ad, rfl, _, hc⟩ := h.at_ (k := j) (by rw [marks_len]; exact hlt)
      have hcell := hc j (by rw [marks_len]; exact hlt)
      rw [marks_at] at hcell
      clear hc h
      go_wp2
      go_round
      case rel => exact ⟨j + 1, by omega, by go_num, by simp; omega⟩
      case measure => simp [intOf]; omega
    · have hjl : j = n := by omega
      have HJ := Lib.hid hjl
      clear hjl h
      go_wp2
      go_ret
      exact ⟨ret_int (by rw [HJ.out]), rfl⟩

set_option maxHeartbeats 400000 in
theorem copyInts {A : Option Addr} {c n B : Nat} {w : World} (xs : List Int) (ln : xs.length = n) (hn : n ≤ 17592186044416) (h : RdI w B A xs) (hB : B ≤ w.heap.size) :
    Calls Try.prog 57 #[.slice A n c] w (MadeI w xs) := by
  subst ln
  have H := Lib.hid (h.belowLe ((Below.refl w.heap.size w).alloc (Nat.le_refl _) (.cells #[] 3)) hB); clear h
  have H0 := Lib.hid (SlI.new w [] (lo := w.heap.size) (Nat.le_refl _))
  go_enter Try.func57, Try.ntmps57
  go_wp2_with (at_builtin; refine wpList_appI (.tmp 3) (.tmp 4) rfl rfl [] xs rfl rfl H0.out rfl rfl H.out (by omega) (by simp) ?_; intro A1 c1 w1 h1 h2 _)
  have h3 := h1.all h2 (by simp)
  rw [List.nil_append] at h3
  have HF := Lib.hid (show MadeI w xs (.returned (.slice A1 xs.length c1)) w1 from ⟨_, _, rfl, h3, ((Below.refl _ _).alloc (Nat.le_refl _) _).trans (h2.below (by simp))⟩)
  clear h1 h2 h3
  go_wp2
  go_ret
  simpa using HF.out

def missF (xs ys : List Int) : List Int := xs.filter fun x => !memB x ys

set_option maxHeartbeats 800000 in
theorem missing {A A' : Option Addr} {c c' n n' B B' : Nat} {w : World} (xs ys : List Int) (ln : xs.length = n) (ln' : ys.length = n') (hn : n ≤ 1099511627776) (hn' : n' ≤ 1099511627776) (h : RdI w B A xs) (h' : RdI w B' A' ys) (hB : B ≤ w.heap.size) (hB' : B' ≤ w.heap.size) :
    Calls Try.prog 95 #[.slice A n c, .slice A' n' c'] w (MadeI w (missF xs ys)) := by
  subst ln
  have H' := Lib.hid h'; clear h'
  have G0 := Lib.hid (SlI.new w [] (lo := w.heap.size) (Nat.le_refl _))
  go_enter Try.func95, Try.ntmps95
  go_wp2_with fail
  go_loopw [5, 6] (fun v i wr => ∃ (k : Nat) (A1 : Option Addr) (c1 : Nat), k ≤ xs.length ∧ i = .int .i64 k ∧ v = .slice A1 (missF (xs.take k) ys).length c1 ∧ SlI wr w.heap.size wr.heap.size A1 c1 (missF (xs.take k) ys) ∧ Below w.heap.size w wr) (fun _ i _ => xs.length - (intOf i).toNat)
  case atStart => exact ⟨0, _, 0, Nat.zero_le _, rfl, rfl, by simpa [missF] using G0.out, (Below.refl _ _).alloc (Nat.le_refl _) _⟩
  case round =>
    obtain ⟨k, A1, c1, hk, rfl, rfl, hs, hb⟩ := hrel
    have hsz := hb.size
    have HS := Lib.hid hs; clear hs
    have HB := Lib.hid hb; clear hb
    by_cases hlt : k < xs.length
    · obtain ⟨ad, rfl, had, hc⟩ := h.at_ hlt
      have hcell : wr.cell? (ad.add k) = some (.int .i64 xs[k]) := (HB.out.cell (by rw [block_of_add]; omega)).trans (hc k hlt)
      have hlen := List.length_filter_le (fun x => !memB x ys) (xs.take k)
      have hlen2 : (missF (xs.take k) ys).length ≤ k := by unfold missF; rw [List.length_take] at hlen; omega
      clear hc h hlen
      by_cases hm : memB xs[k] ys = false
      · have ht : decide (plc xs[k] ys < 0) = true := by rw [plc_neg, hm]; rfl
        have hstep : missF (xs.take (k + 1)) ys = missF (xs.take k) ys ++ [xs[k]] := by
          unfold missF; rw [List.take_succ_eq_append_getElem hlt, List.filter_append]; simp [hm]
        have HT := Lib.hid hstep; clear hstep hm
        go_wp2_with (first | (go_at_call 80; refine (placeIn ys ln' (by omega) (H'.out.belowLe HB.out hB')).mono ?_; rintro e w' ⟨rfl, rfl⟩) | (at_builtin; refine wpList_appI (.tmp 21) (.tmp 26) rfl rfl (missF (xs.take k) ys) [xs[k]] rfl rfl (HS.out.alloc _) rfl rfl (SlI.new wr [xs[k]] (lo := 0) (Nat.zero_le _)).rd (by omega) (by simp; omega) ?_; intro A2 c2 w2 h2 h3 _))
        have h4 := h2.all h3 (by simp)
        have HF := Lib.hid h4
        have HG := Lib.hid ((HB.out.alloc hsz (.cells (ints [xs[k]]).toArray 3)).trans (h3.below (by simp; omega)))
        clear h2 h3 h4
        go_wp2
        go_roundw
        case rel => exact ⟨k + 1, A2, c2, by omega, by go_num, by rw [HT.out, List.length_append]; rfl, by rw [HT.out]; exact HF.out, HG.out⟩
        case measure => simp [intOf]; omega
      · have hm2 : memB xs[k] ys = true := by revert hm; cases memB xs[k] ys <;> simp
        have ht : decide (plc xs[k] ys < 0) = false := by rw [plc_neg, hm2]; rfl
        have hstep : missF (xs.take (k + 1)) ys = missF (xs.take k) ys := by
          unfold missF; rw [List.take_succ_eq_append_getElem hlt, List.filter_append]; simp [hm2]
        have HT := Lib.hid hstep; clear hstep hm hm2
        go_wp2_with (go_at_call 80; refine (placeIn ys ln' (by omega) (H'.out.belowLe HB.out hB')).mono ?_; rintro e w' ⟨rfl, rfl⟩)
        go_roundw
        case rel => exact ⟨k + 1, A1, c1, by omega, by go_num, by rw [HT.out], by rw [HT.out]; exact HS.out, HB.out⟩
        case measure => simp [intOf]; omega
    · have hkl : k = xs.length := by omega
      have e : xs.take k = xs := by rw [hkl, List.take_length]
      have HE := Lib.hid e; clear e hkl
      go_wp2
      go_ret
      exact ⟨A1, c1, by rw [HE.out]; rfl, by have := HS.out; rwa [HE.out] at this, HB.out⟩

def commF (xs ys : List Int) : List Int := xs.filter fun x => memB x ys

set_option maxHeartbeats 800000 in
theorem common {A A' : Option Addr} {c c' n n' B B' : Nat} {w : World} (xs ys : List Int) (ln : xs.length = n) (ln' : ys.length = n') (hn : n ≤ 1099511627776) (hn' : n' ≤ 1099511627776) (h : RdI w B A xs) (h' : RdI w B' A' ys) (hB : B ≤ w.heap.size) (hB' : B' ≤ w.heap.size) :
    Calls Try.prog 99 #[.slice A n c, .slice A' n' c'] w (MadeI w (commF xs ys)) := by
  subst ln
  have H' := Lib.hid h'; clear h'
  have G0 := Lib.hid (SlI.new w [] (lo := w.heap.size) (Nat.le_refl _))
  go_enter Try.func99, Try.ntmps99
  go_wp2_with fail
  go_loopw [5, 6] (fun v i wr => ∃ (k : Nat) (A1 : Option Addr) (c1 : Nat), k ≤ xs.length ∧ i = .int .i64 k ∧ v = .slice A1 (commF (xs.take k) ys).length c1 ∧ SlI wr w.heap.size wr.heap.size A1 c1 (commF (xs.take k) ys) ∧ Below w.heap.size w wr) (fun _ i _ => xs.length - (intOf i).toNat)
  case atStart => exact ⟨0, _, 0, Nat.zero_le _, rfl, rfl, by simpa [commF] using G0.out, (Below.refl _ _).alloc (Nat.le_refl _) _⟩
  case round =>
    obtain ⟨k, A1, c1, hk, rfl, rfl, hs, hb⟩ := hrel
    have hsz := hb.size
    have HS := Lib.hid hs; clear hs
    have HB := Lib.hid hb; clear hb
    by_cases hlt : k < xs.length
    · obtain ⟨ad, rfl, had, hc⟩ := h.at_ hlt
      have hcell : wr.cell? (ad.add k) = some (.int .i64 xs[k]) := (HB.out.cell (by rw [block_of_add]; omega)).trans (hc k hlt)
      have hlen := List.length_filter_le (fun x => memB x ys) (xs.take k)
      have hlen2 : (commF (xs.take k) ys).length ≤ k := by unfold commF; rw [List.length_take] at hlen; omega
      clear hc h hlen
      by_cases hm : memB xs[k] ys = true
      · have ht : decide (0 ≤ plc xs[k] ys) = true := by rw [plc_ge, hm]
        have hstep : commF (xs.take (k + 1)) ys = commF (xs.take k) ys ++ [xs[k]] := by
          unfold commF; rw [List.take_succ_eq_append_getElem hlt, List.filter_append]; simp [hm]
        have HT := Lib.hid hstep; clear hstep hm
        go_wp2_with (first | (go_at_call 80; refine (placeIn ys ln' (by omega) (H'.out.belowLe HB.out hB')).mono ?_; rintro e w' ⟨rfl, rfl⟩) | (at_builtin; refine wpList_appI (.tmp 21) (.tmp 26) rfl rfl (commF (xs.take k) ys) [xs[k]] rfl rfl (HS.out.alloc _) rfl rfl (SlI.new wr [xs[k]] (lo := 0) (Nat.zero_le _)).rd (by omega) (by simp; omega) ?_; intro A2 c2 w2 h2 h3 _))
        have h4 := h2.all h3 (by simp)
        have HF := Lib.hid h4
        have HG := Lib.hid ((HB.out.alloc hsz (.cells (ints [xs[k]]).toArray 3)).trans (h3.below (by simp; omega)))
        clear h2 h3 h4
        go_wp2
        go_roundw
        case rel => exact ⟨k + 1, A2, c2, by omega, by go_num, by rw [HT.out, List.length_append]; rfl, by rw [HT.out]; exact HF.out, HG.out⟩
        case measure => simp [intOf]; omega
      · have hm2 : memB xs[k] ys = false := by revert hm; cases memB xs[k] ys <;> simp
        have ht : decide (0 ≤ plc xs[k] ys) = false := by rw [plc_ge, hm2]
        have hstep : commF (xs.take (k + 1)) ys = commF (xs.take k) ys := by
          unfold commF; rw [List.take_succ_eq_append_getElem hlt, List.filter_append]; simp [hm2]
        have HT := Lib.hid hstep; clear hstep hm hm2
        go_wp2_with (go_at_call 80; refine (placeIn ys ln' (by omega) (H'.out.belowLe HB.out hB')).mono ?_; rintro e w' ⟨rfl, rfl⟩)
        go_roundw
        case rel => exact ⟨k + 1, A1, c1, by omega, by go_num, by rw [HT.out], by rw [HT.out]; exact HS.out, HB.out⟩
        case measure => simp [intOf]; omega
    · have hkl : k = xs.length := by omega
      have e : xs.take k = xs := by rw [hkl, List.take_length]
      have HE := Lib.hid e; clear e hkl
      go_wp2
      go_ret
      exact ⟨A1, c1, by rw [HE.out]; rfl, by have := HS.out; rwa [HE.out] at this, HB.out⟩

theorem slicesClip {A : Option Addr} {c n lo hi : Nat} {w : World} (xs : List Int) (ln : xs.length = n) (h : SlI w lo hi A c xs) :
    Calls Try.prog 66 #[.slice A n c] w fun e w' => e = .returned (.slice A n n) ∧ SlI w lo hi A n xs ∧ w = w' := by
  subst ln
  have hle := h.le
  have H := Lib.hid h.clip
  cases A with
  | none =>
    have hc : c = 0 := Sl.noAddr h rfl
    have hx : xs = [] := List.eq_nil_of_length_eq_zero (by omega)
    subst hc hx
    clear h hle
    go_enter Try.func66, Try.ntmps66
    go_wp2
    go_ret
    exact ⟨rfl, H.out, rfl⟩
  | some ad =>
    clear h
    by_cases hx : xs = []
    · subst hx
      go_enter Try.func66, Try.ntmps66
      go_wp2
      go_ret
      exact ⟨rfl, H.out, rfl⟩
    · have hp : xs.length ≠ 0 := fun e => hx (List.eq_nil_of_length_eq_zero e)
      go_enter Try.func66, Try.ntmps66
      go_wp2
      go_ret
      exact ⟨rfl, H.out, rfl⟩

set_option maxHeartbeats 400000 in
theorem slicesClone {A : Option Addr} {c n B : Nat} {w : World} (xs : List Int) (ln : xs.length = n) (hn : n ≤ 17592186044416) (h : RdI w B A xs) (hB : B ≤ w.heap.size) :
    Calls Try.prog 68 #[.slice A n c] w (MadeI w xs) := by
  subst ln
  have H := Lib.hid (h.belowLe ((Below.refl w.heap.size w).alloc (Nat.le_refl _) (.cells #[] 3)) hB)
  have H0 := Lib.hid (SlI.new w [] (lo := w.heap.size) (Nat.le_refl _))
  cases A with
  | none =>
    have hx : xs = [] := Classical.byContradiction fun hne => by
      obtain ⟨ad, e, _⟩ := h.at_ (List.length_pos_iff.2 hne)
      cases e
    subst hx
    have HF := Lib.hid (show MadeI w [] (.returned (.slice none 0 0)) w from ⟨none, 0, rfl, SlI.nil, Below.refl _ _⟩)
    clear h H
    have hq := fun (W : World) (a : Option Addr) (l c : Nat) => Lib.run_eql_slice_nil (P := Try.prog) W 23 3 a l c 0 0 Try.underlying23
    go_enter Try.func68, Try.ntmps68
    go_wp2
    go_ret
    exact HF.out
  | some ad =>
    clear h
    have hq := fun (W : World) (a : Option Addr) (l c : Nat) => Lib.run_eql_slice_nil (P := Try.prog) W 23 3 a l c 0 0 Try.underlying23
    go_enter Try.func68, Try.ntmps68
    go_wp2_with (at_builtin; refine wpList_appI (.tmp 5) (.tmp 6) rfl rfl [] xs rfl rfl H0.out rfl rfl H.out (by omega) (by simp) ?_; intro A1 c1 w1 h1 h2 _)
    have h3 := h1.all h2 (by simp)
    rw [List.nil_append] at h3
    have HF := Lib.hid (show MadeI w xs (.returned (.slice A1 xs.length c1)) w1 from ⟨_, _, rfl, h3, ((Below.refl _ _).alloc (Nat.le_refl _) _).trans (h2.below (by simp))⟩)
    clear h1 h2 h3
    go_wp2
    go_ret
    simpa using HF.out

end Go.Proofs.Ytmmegmefiihabaa
