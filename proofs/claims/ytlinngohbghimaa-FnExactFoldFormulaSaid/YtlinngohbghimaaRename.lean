/-
  impl.RenameReads, spec.RenameReads.
-/
import Derived.Test.YtlinngohbghimaaValid
import Derived.Deep.RegionHeld3
namespace Go.Proofs.Ytlinngohbghimaa
open Go.RowKit

def okP (to : List Int) (p : Prt) : Bool := if p.kd = 1 then decide (p.nn < to.length) else true
def renP (to : List Int) (p : Prt) : Prt := if p.kd = 1 then { p with nn := to.getD p.nn.toNat 0 } else p
def renG (ps : List Prt) (to : List Int) : List Prt := if ps.all (okP to) then ps.map (renP to) else []
def renameF (ps : List Prt) (to : List Int) : List Prt := if validF ps && decide (to.length ≤ 10) && allB 0 9 to then renG ps to else []
theorem renameF_len (ps : List Prt) (to : List Int) : (renameF ps to).length ≤ 12 := by
  unfold renameF renG
  split
  · next h =>
    rw [Bool.and_eq_true, Bool.and_eq_true] at h
    have := validF_len h.1.1
    split
    · simp; omega
    · simp
  · simp
/-- the parts, of which the first j are renamed -/
def mixR (ps : List Prt) (to : List Int) (j : Nat) : List Prt := (ps.take j).map (renP to) ++ ps.drop j
theorem mixR_len (ps : List Prt) (to : List Int) (j : Nat) : (mixR ps to j).length = ps.length := by simp [mixR]; omega
theorem mixR_at {ps : List Prt} {to : List Int} {j : Nat} (h : j < ps.length) (h' : j < (mixR ps to j).length) : (mixR ps to j)[j] = ps[j] := by
  have : (mixR ps to j)[j]? = some ps[j] := by
    unfold mixR
    rw [List.getElem?_append_right (by simp; omega), List.getElem?_drop, List.length_map, List.length_take, Nat.min_eq_left (Nat.le_of_lt h), Nat.sub_self, Nat.add_zero, List.getElem?_eq_getElem h]
  rw [List.getElem?_eq_getElem h'] at this
  exact Option.some.inj this
theorem mixR_set {ps : List Prt} {to : List Int} {j : Nat} (h : j < ps.length) : (mixR ps to j).set j (renP to ps[j]) = mixR ps to (j + 1) := by
  have e : (ps.drop j).set 0 (renP to ps[j]) = renP to ps[j] :: ps.drop (j + 1) := by rw [List.drop_eq_getElem_cons h]; rfl
  unfold mixR
  rw [List.set_append_right _ _ (by simp; omega), List.length_map, List.length_take, Nat.min_eq_left (Nat.le_of_lt h), Nat.sub_self, e, List.take_succ_eq_append_getElem h, List.map_append, List.append_assoc]
  rfl
theorem mixR_skip {ps : List Prt} {to : List Int} {j : Nat} (h : j < ps.length) (hk : ps[j].kd ≠ 1) : mixR ps to j = mixR ps to (j + 1) := by
  have h' : j < (mixR ps to j).length := by rw [mixR_len]; exact h
  have e : renP to ps[j] = ps[j] := by unfold renP; rw [if_neg hk]
  rw [← mixR_set h, e]
  have := mixR_at (to := to) h h'
  exact (by rw [← this]; exact (List.set_getElem_self h').symm)
theorem okP_not {ps : List Prt} {to : List Int} {j : Nat} (h : j < ps.length) (h' : okP to ps[j] = false) : renG ps to = [] := by
  unfold renG
  rw [if_neg]
  intro hg
  rw [List.all_eq_true] at hg
  rw [hg _ (List.getElem_mem h)] at h'
  cases h'
theorem okP_take {ps : List Prt} {to : List Int} {j : Nat} (h : j < ps.length) (hg : (ps.take j).all (okP to) = true) (h' : okP to ps[j] = true) : (ps.take (j + 1)).all (okP to) = true := by
  rw [List.take_succ_eq_append_getElem h, List.all_append, hg]
  simp [h']
theorem renG_end {ps : List Prt} {to : List Int} (hg : (ps.take ps.length).all (okP to) = true) : renG ps to = mixR ps to ps.length := by
  rw [List.take_length] at hg
  unfold renG mixR
  rw [if_pos hg]
  simp
theorem read_in {ps : List Prt} (h : validF ps = true) {j : Nat} (hj : j < ps.length) (hk : ps[j].kd = 1) : 0 ≤ ps[j].nn ∧ ps[j].nn ≤ 9 := by
  unfold validF at h
  rw [Bool.and_eq_true, Bool.and_eq_true] at h
  have := goodFrom_at h.1.2 hj
  unfold goodB aloneB at this
  rw [Bool.and_eq_true, hk] at this
  have h2 := this.1
  rw [if_neg (by decide), if_pos rfl] at h2
  simp only [Bool.and_eq_true] at h2
  exact inB_iff.1 h2.1.1.1

section
variable {w : World} {ops : Array Oper} {rest : List Oper} {o : Oper} {a : Act} {Q : Exit → Act → World → Prop}
/-- append(out, ys...) at parts -/
theorem wpList_appPA (s x : Operand) (hgd : o.guard = none)
    (ho : o.op = .call { callee := .builtin .append, args := #[s, x], argTypes := #[27, 27] })
    {lo hi n c m c' B : Nat} {A A' : Option Addr} (xs ys : List Prt) (hs : a.eval s = .slice A n c) (hn : xs.length = n) (hsl : SlP w lo hi A c xs) (hx : a.eval x = .slice A' m c') (hm : ys.length = m) (hr : RdP w B A' ys)
    (hb : n + m ≤ 1099511627776)
    (h : ∀ A'' c'' lo' hi' w', SlP w' lo' hi' A'' c'' (xs ++ ys) → ((lo' = lo ∧ hi' = hi) ∨ (lo' = w.heap.size ∧ hi' = w'.heap.size)) → Turn lo hi w w' → wpList Try.prog ops Q rest (a.put o.dst (.slice A'' (n + m) c'')) w') : wpList Try.prog ops Q (o :: rest) a w := by
  subst hn hm
  obtain ⟨i0, hi0, hz0, hz1, hz2⟩ := info_parts Try.infoP
  refine wpList_appS s x 27 hgd ho 50 i0 _ 5 40 Try.underlying27 hi0 hz0 hz1 hz2 rfl (by decide) (ints (rows cP xs)) (ints (rows cP ys)) hs hsl hx (by simp [rows_len kP]) hr (ints_oneCell _ _) (by unfold maxLen; omega) (by omega) ?_
  intro A'' c'' lo' hi' w' h2 h3 h4
  refine h A'' c'' lo' hi' w' ?_ h3 h4
  unfold SlP SlR
  rw [List.length_append, rows_append]
  simpa [ints] using h2
end

theorem slicesCloneP {A : Option Addr} {c n B : Nat} {w : World} (xs : List Prt) (ln : xs.length = n) (hn : n ≤ 1099511627776) (h : RdP w B A xs) (hB : B ≤ w.heap.size) :
    Calls Try.prog 71 #[.slice A n c] w (MadeP w xs) := by
  subst ln
  have H := Lib.hid (h.belowLe ((Below.refl w.heap.size w).alloc (Nat.le_refl _) (.cells #[] 50)) hB)
  cases A with
  | none =>
    have hx : xs = [] := Classical.byContradiction fun hne => by
      obtain ⟨g, o, e, _⟩ := RdP_at h (k := 0) (List.length_pos_iff.2 hne)
      cases e
    subst hx
    have HF := Lib.hid (MadeP.nil0 w)
    clear h H
    have hq := fun (W : World) (a : Option Addr) (l c : Nat) => Lib.run_eql_slice_nil (P := Try.prog) W 27 50 a l c 0 0 Try.underlying27
    go_enter Try.func71, Try.ntmps71
    go_wp2
    go_ret
    exact HF.out
  | some ad =>
    clear h
    have hq := fun (W : World) (a : Option Addr) (l c : Nat) => Lib.run_eql_slice_nil (P := Try.prog) W 27 50 a l c 0 0 Try.underlying27
    go_enter Try.func71, Try.ntmps71
    go_wp2_with (at_builtin; refine wpList_appPA (.tmp 5) (.tmp 6) rfl rfl (lo := w.heap.size) (hi := w.heap.size + 1) [] xs rfl rfl SlR.nil rfl rfl H.out (by omega) ?_; intro A1 c1 lo1 hi1 w1 h1 d1 h2)
    rw [List.nil_append] at h1
    have hz := h2.size
    rw [World.size_alloc] at d1 hz
    have HF := Lib.hid (show MadeP w xs (.returned (.slice A1 xs.length c1)) w1 from ⟨_, _, rfl, h1.mono (by omega) (by omega), ((Below.refl _ _).alloc (Nat.le_refl _) _).trans (h2.below (by simp))⟩)
    clear h1 h2 d1
    go_wp2
    go_ret
    simpa using HF.out

theorem cloneP {A : Option Addr} {c n B : Nat} {w : World} (xs : List Prt) (ln : xs.length = n) (hn : n ≤ 1099511627776) (h : RdP w B A xs) (hB : B ≤ w.heap.size) :
    Calls Try.prog 54 #[.slice A n c] w (MadeP w xs) := by
  subst ln
  have CALL := Lib.hid (slicesCloneP (c := c) xs rfl hn h hB)
  clear h
  go_enter Try.func54, Try.ntmps54
  go_wp2_with fail
  refine CALL.out.mono ?_; rintro e w1 ⟨A1, c1, rfl, s1, b1⟩
  have S1 := Lib.hid s1
  have B1 := Lib.hid b1
  clear s1 b1 CALL
  go_wp2_with fail
  refine (slicesClipP xs rfl S1.out).mono ?_; rintro e w' ⟨rfl, s5, rfl⟩
  have FIN := Lib.hid (show MadeP w xs (.returned (.slice A1 xs.length xs.length)) w1 from ⟨A1, _, rfl, s5, B1.out⟩)
  clear s5
  go_wp2_with fail
  go_ret
  exact FIN.out

theorem renFn {w : World} {x : Int} : Calls Try.prog 53 #[.int .i64 x] w fun e w' => e = .returned (.bool (!inB x (0) 9)) ∧ w = w' := by
  go_enter Try.func53, Try.ntmps53
  go_wp2_with fail
  refine in_.mono ?_; rintro e w' ⟨rfl, rfl⟩
  go_wp2_with fail
  go_ret
  exact ⟨rfl, rfl⟩
set_option maxHeartbeats 400000 in
theorem renIdx {A : Option Addr} {c n B : Nat} {w : World} (xs : List Int) (ln : xs.length = n) (hn : n ≤ 1099511627776) (h : RdI w B A xs) :
    Calls Try.prog 70 #[.slice A n c, .func (.func 53) #[] #[]] w fun e w' => (∃ v : Int, e = .returned (.int .i64 v) ∧ decide (0 ≤ v) = !allB (0) 9 xs) ∧ w = w' := by
  subst ln
  go_enter Try.func70, Try.ntmps70
  go_wp2_with fail
  go_loop [8] (fun i => ∃ k : Nat, k ≤ xs.length ∧ i = .int .i64 k ∧ allB (0) 9 (xs.take k) = true) (fun i => xs.length - (intOf i).toNat)
  case atStart => exact ⟨0, Nat.zero_le _, rfl, rfl⟩
  case round =>
    obtain ⟨k, hk, rfl, hno⟩ := hrel
    have HN := Lib.hid hno; clear hno
    by_cases hlt : k < xs.length
    · obtain ⟨ad, rfl, _, hcc⟩ := h.at_ hlt
      have hcell := hcc k hlt
      clear hcc h
      cases hp : inB xs[k] (0) 9
      · have HP := Lib.hid hp
        go_wp2_with (go_at_call 53; refine renFn.mono ?_; rintro e w' ⟨rfl, rfl⟩)
        go_ret
        exact ⟨⟨k, rfl, by rw [allB_not (0) 9 xs k hlt HP.out]; simp⟩, rfl⟩
      · have HP := Lib.hid hp
        go_wp2_with (go_at_call 53; refine renFn.mono ?_; rintro e w' ⟨rfl, rfl⟩)
        go_round
        case rel => exact ⟨k + 1, by omega, by go_num, allB_snoc (0) 9 xs k hlt HN.out HP.out⟩
        case measure => simp [intOf]; omega
    · have hkl : k = xs.length := by omega
      have HK := Lib.hid hkl
      clear hkl h
      go_wp2_with fail
      go_ret
      exact ⟨⟨-1, rfl, by rw [allB_take (0) 9 xs (HK.out ▸ HN.out)]; rfl⟩, rfl⟩
theorem renHas {A : Option Addr} {c n B : Nat} {w : World} (xs : List Int) (ln : xs.length = n) (hn : n ≤ 1099511627776) (h : RdI w B A xs) :
    Calls Try.prog 52 #[.slice A n c, .func (.func 53) #[] #[]] w fun e w' => e = .returned (.bool (!allB (0) 9 xs)) ∧ w = w' := by
  subst ln
  have H := Lib.hid h; clear h
  go_enter Try.func52, Try.ntmps52
  go_wp2_with fail
  refine (renIdx xs rfl hn H.out).mono ?_; rintro e w' ⟨⟨v, rfl, hv⟩, rfl⟩
  have HV := Lib.hid hv; clear hv
  go_wp2_with fail
  go_ret
  exact ⟨ret_bool HV.out, rfl⟩
set_option maxRecDepth 100000 in
set_option maxHeartbeats 3200000 in
theorem implRenameReads {A A' : Option Addr} {c c' n n' B B' : Nat} {w : World} (ps : List Prt) (to : List Int) (ln : ps.length = n) (ln' : to.length = n') (hn : n ≤ 1048576) (hn' : n' ≤ 1048576) (h : RdP w B A ps) (h' : RdI w B' A' to) (hB : B ≤ w.heap.size) (hB' : B' ≤ w.heap.size) :
    Calls Try.prog 29 #[.agg #[.slice A n c], .slice A' n' c'] w (MadeF w (renameF ps to)) := by
  have B2 := Lib.hid (show Below w.heap.size w ((w.alloc (.cells #[.slice A n c] 29)).alloc (.cells #[.slice none 0 0] 29)) from bel2P w _ _)
  have K0 := Lib.hid (show Blk ((w.alloc (.cells #[.slice A n c] 29)).alloc (.cells #[.slice none 0 0] 29)) w.heap.size 29 #[.slice A n c] from (Blk.new w _ _).alloc _)
  have K1 := Lib.hid (show Blk ((w.alloc (.cells #[.slice A n c] 29)).alloc (.cells #[.slice none 0 0] 29)) (w.heap.size + 1) 29 #[.slice none 0 0] from blkAt (by simp))
  have H := Lib.hid (h.belowLe B2.out hB)
  have H' := Lib.hid (h'.belowLe B2.out hB')
  have LN := Lib.hid ln
  have LN' := Lib.hid ln'
  have HTO := Lib.hid (fun (W : World) (hb : Below w.heap.size w W) => (show RdI W B' A' to from h'.belowLe hb hB'))
  clear h h'
  cases hv : validF ps
  case false =>
    have HV := Lib.hid hv
    have HF := Lib.hid (show renameF ps to = [] from by unfold renameF; rw [hv]; rfl)
    clear hv
    go_enter Try.func29, Try.ntmps29
    go_wp2_with fail
    refine (implValid ps LN.out (by omega) H.out (by simp; omega)).mono ?_; rw [HV.out]; rintro e w3 ⟨rfl, b3⟩
    have z3 := b3.size
    simp only [World.size_alloc] at z3
    have B3 := Lib.hid (B2.out.trans (b3.mono (by simp; omega)))
    have K03 := Lib.hid (K0.out.below b3 K0.out.lt)
    have K13 := Lib.hid (K1.out.below b3 K1.out.lt)
    have H3 := Lib.hid (H.out.belowLe b3 (by simp; omega))
    have H3' := Lib.hid (H'.out.belowLe b3 (by simp; omega))
    clear b3
    have f1 := K13.out.frozen 0
    have g1 := K13.out.cell 0
    have E := Lib.hid ((K13.out.set_ 0 (.slice none 0 0)).cell 0)
    go_wp2_with fail
    have HE := E.out
    simp at HE
    refine bodyPost_ret (v := .agg #[.slice none 0 0]) (by simp [results, Try.results29, go_sem, HE]) rfl ?_
    rw [HF.out]
    exact MadeF.nil (B3.out.setCell (by simp) _)
  case true =>
  have HV := Lib.hid hv
  obtain ⟨hl1, hl2⟩ := validF_len hv
  rw [ln] at hl1 hl2
  by_cases ht : n' ≤ 10
  case neg =>
    have HF := Lib.hid (show renameF ps to = [] from by unfold renameF; rw [ln', decide_eq_false ht]; simp)
    clear hv
    go_enter Try.func29, Try.ntmps29
    go_wp2_with fail
    refine (implValid ps LN.out (by omega) H.out (by simp; omega)).mono ?_; rw [HV.out]; rintro e w3 ⟨rfl, b3⟩
    have z3 := b3.size
    simp only [World.size_alloc] at z3
    have B3 := Lib.hid (B2.out.trans (b3.mono (by simp; omega)))
    have K03 := Lib.hid (K0.out.below b3 K0.out.lt)
    have K13 := Lib.hid (K1.out.below b3 K1.out.lt)
    have H3 := Lib.hid (H.out.belowLe b3 (by simp; omega))
    have H3' := Lib.hid (H'.out.belowLe b3 (by simp; omega))
    clear b3
    have f1 := K13.out.frozen 0
    have g1 := K13.out.cell 0
    have E := Lib.hid ((K13.out.set_ 0 (.slice none 0 0)).cell 0)
    go_wp2_with fail
    have HE := E.out
    simp at HE
    refine bodyPost_ret (v := .agg #[.slice none 0 0]) (by simp [results, Try.results29, go_sem, HE]) rfl ?_
    rw [HF.out]
    exact MadeF.nil (B3.out.setCell (by simp) _)
  case pos =>
  cases hc : allB 0 9 to
  case false =>
    have HC := Lib.hid hc
    have HF := Lib.hid (show renameF ps to = [] from by unfold renameF; rw [hc]; simp)
    clear hc hv
    go_enter Try.func29, Try.ntmps29
    go_wp2_with fail
    refine (implValid ps LN.out (by omega) H.out (by simp; omega)).mono ?_; rw [HV.out]; rintro e w3 ⟨rfl, b3⟩
    have z3 := b3.size
    simp only [World.size_alloc] at z3
    have B3 := Lib.hid (B2.out.trans (b3.mono (by simp; omega)))
    have K03 := Lib.hid (K0.out.below b3 K0.out.lt)
    have K13 := Lib.hid (K1.out.below b3 K1.out.lt)
    have H3 := Lib.hid (H.out.belowLe b3 (by simp; omega))
    have H3' := Lib.hid (H'.out.belowLe b3 (by simp; omega))
    clear b3
    go_wp2_with fail
    refine (renHas to LN'.out (by omega) H3'.out).mono ?_; rw [HC.out]; rintro e w3' ⟨rfl, rfl⟩
    have f1 := K13.out.frozen 0
    have g1 := K13.out.cell 0
    have E := Lib.hid ((K13.out.set_ 0 (.slice none 0 0)).cell 0)
    go_wp2_with fail
    have HE := E.out
    simp at HE
    refine bodyPost_ret (v := .agg #[.slice none 0 0]) (by simp [results, Try.results29, go_sem, HE]) rfl ?_
    rw [HF.out]
    exact MadeF.nil (B3.out.setCell (by simp) _)
  case true =>
  have HC := Lib.hid hc
  have HF := Lib.hid (show renameF ps to = renG ps to from by unfold renameF; rw [hv, hc, ln', decide_eq_true ht]; rfl)
  clear hc hv
  go_enter Try.func29, Try.ntmps29
  go_wp2_with fail
  refine (implValid ps LN.out (by omega) H.out (by simp; omega)).mono ?_; rw [HV.out]; rintro e w3 ⟨rfl, b3⟩
  have z3 := b3.size
  simp only [World.size_alloc] at z3
  have B3 := Lib.hid (B2.out.trans (b3.mono (by simp; omega)))
  have K03 := Lib.hid (K0.out.below b3 K0.out.lt)
  have K13 := Lib.hid (K1.out.below b3 K1.out.lt)
  have H3 := Lib.hid (H.out.belowLe b3 (by simp; omega))
  have H3' := Lib.hid (H'.out.belowLe b3 (by simp; omega))
  clear b3
  go_wp2_with fail
  refine (renHas to LN'.out (by omega) H3'.out).mono ?_; rw [HC.out]; rintro e w3' ⟨rfl, rfl⟩
  have k0 := K03.out.cell 0
  go_wp2_with fail
  refine (cloneP (c := c) ps LN.out (by omega) H3.out (by omega)).mono ?_; rintro e w4 ⟨A5, c5, rfl, s5, b4⟩
  rw [LN.out]
  have z4 := b4.size
  have B4 := Lib.hid (B3.out.trans (b4.mono (by omega)))
  have K14 := Lib.hid (K13.out.below b4 K13.out.lt)
  have H4' := Lib.hid (H3'.out.belowLe b4 (by omega))
  have S5 := Lib.hid s5
  clear s5 b4 k0
  have J0 := Lib.hid (show SlP (w4.alloc (.cells #[.slice A5 n c5] 29)) w3.heap.size w4.heap.size A5 c5 (mixR ps to 0) ∧ Blk (w4.alloc (.cells #[.slice A5 n c5] 29)) (w.heap.size + 1) 29 #[.slice none 0 0] ∧ Blk (w4.alloc (.cells #[.slice A5 n c5] 29)) w4.heap.size 29 #[.slice A5 n c5] ∧ Below w.heap.size w (w4.alloc (.cells #[.slice A5 n c5] 29)) from ⟨S5.out.alloc _, K14.out.alloc _, Blk.new _ _ _, B4.out.alloc (by omega) _⟩)
  clear S5 K14 H4' H3 H3' K03 K13
  go_wp2_with fail
  go_loopw [28] (fun i wr => ∃ j : Nat, j ≤ n ∧ i = .int .i64 j ∧ (ps.take j).all (okP to) = true ∧ SlP wr w3.heap.size w4.heap.size A5 c5 (mixR ps to j) ∧ Blk wr (w.heap.size + 1) 29 #[.slice none 0 0] ∧ Blk wr w4.heap.size 29 #[.slice A5 n c5] ∧ Below w.heap.size w wr) (fun i _ => n - (intOf i).toNat)
  case atStart => exact ⟨0, Nat.zero_le _, rfl, rfl, J0.out.1, J0.out.2.1, J0.out.2.2.1, J0.out.2.2.2⟩
  case round =>
    obtain ⟨j, hj, rfl, hok, hs, hk1, hk2, hb⟩ := hrel
    have OK := Lib.hid hok
    have S := Lib.hid hs
    have KR := Lib.hid hk1
    have KB := Lib.hid hk2
    have HB := Lib.hid hb
    have kb : wr.cell? ⟨w4.heap.size, 0, none⟩ = some (.slice A5 n c5) := hk2.cell 0
    have hzr := hk2.lt
    clear hok hs hk1 hk2 hb J0
    by_cases hlt : j < n
    · have hlp : j < ps.length := by rw [LN.out]; exact hlt
      have hlm : j < (mixR ps to j).length := by rw [mixR_len]; exact hlp
      obtain ⟨g, o, hA, hg1, hg2, hg3, h4, h5, h6, _⟩ := SlR.at_ kP S.out hlm
      subst hA
      have hmx : (mixR ps to j)[j]? = some ps[j] := by rw [List.getElem?_eq_getElem hlm, mixR_at hlp hlm]
      have c0 := h4 j _ hmx 0 _ rfl
      have c4 := h4 j _ hmx 4 _ rfl
      have f4 := h5 (j * 5 + 4)
      have MS := Lib.hid (mixR_set (to := to) hlp)
      have MK := Lib.hid (mixR_skip (to := to) hlp)
      have ON := Lib.hid (okP_not (to := to) hlp)
      have OT := Lib.hid (okP_take (to := to) hlp OK.out)
      have RI := Lib.hid (read_in HV.out hlp)
      have S6 := Lib.hid (fun (v : Int) => h6 4 v { ps[j] with nn := v } (by decide) (by rw [mixR_at hlp hlm]; rfl))
      obtain ⟨x, hx⟩ : ∃ x, ps[j] = x := ⟨_, rfl⟩
      rw [hx] at c0 c4 MS MK ON OT RI S6
      obtain ⟨kd, pa, pb, pc, nn⟩ := x
      simp only [Nat.add_zero] at c0 c4 MK RI S6
      have c0' : wr.cell? ⟨g, o + j * 5, none⟩ = some (.int .i64 kd) := c0
      have c4' : wr.cell? ⟨g, o + j * 5 + 4, none⟩ = some (.int .i64 nn) := by rw [Nat.add_assoc]; exact c4
      have f4' : wr.frozen? ⟨g, o + j * 5 + 4, none⟩ = false := by rw [Nat.add_assoc]; exact f4
      have hj0 : (0 : Int) ≤ (j : Int) := Int.natCast_nonneg _
      have hj1 : (j : Int) < (n : Int) := by omega
      clear c0 c4 f4 h4 h5 h6 hmx hx hlm hlp
      by_cases hk : kd = 1
      · subst hk
        obtain ⟨hn0, hn9⟩ := RI.out rfl
        by_cases hto : nn < (n' : Int)
        · have OK2 := Lib.hid (OT.out (by unfold okP; rw [if_pos rfl]; exact decide_eq_true (by rw [LN'.out]; exact hto)))
          obtain ⟨nk, rfl⟩ := Int.eq_ofNat_of_zero_le hn0
          have hnk : nk < to.length := by have := LN'.out; omega
          obtain ⟨ad, hA', _, hcc⟩ := (HTO.out wr HB.out).at_ hnk
          subst hA'
          have tc := hcc nk hnk
          have RE : renP to ⟨1, pa, pb, pc, (nk : Int)⟩ = ⟨1, pa, pb, pc, to[nk]⟩ := by unfold renP; simp [List.getElem?_eq_getElem hnk]
          obtain ⟨v, hv⟩ : ∃ v, to[nk] = v := ⟨_, rfl⟩
          rw [hv] at tc RE
          obtain ⟨s6, t6⟩ := S6.out v
          have hse : (mixR ps to j).set j ⟨1, pa, pb, pc, v⟩ = mixR ps to (j + 1) := by rw [← RE]; exact MS.out
          try simp only at s6
          rw [hse] at s6
          rw [← Nat.add_assoc] at s6 t6
          have hn0' : (0 : Int) ≤ (nk : Int) := Int.natCast_nonneg _
          have S7 := Lib.hid s6
          have KR7 := Lib.hid (t6.blk KR.out (by omega))
          have KB7 := Lib.hid (t6.blk KB.out (by omega))
          have HB7 := Lib.hid (Below.new HB.out t6 (by omega) (Nat.le_refl _))
          clear s6 t6 hse RE hcc hv S6 MS MK ON OT RI S KR KB OK hnk hn0
          go_wp2_with fail
          go_roundw
          case rel => exact ⟨j + 1, by omega, by go_num, OK2.out, S7.out, KR7.out, KB7.out, HB7.out⟩
          case measure => simp [intOf]; omega
        · have HE2 := Lib.hid (ON.out (by unfold okP; rw [if_pos rfl]; exact decide_eq_false (by rw [LN'.out]; exact hto)))
          have HF := Lib.hid (HF.out.trans HE2.out)
          have hge : (n' : Int) ≤ nn := by omega
          clear S6 MS MK ON OT RI S KB OK hto
          have f1 := KR.out.frozen 0
          have g1 := KR.out.cell 0
          have E := Lib.hid ((KR.out.set_ 0 (.slice none 0 0)).cell 0)
          go_wp2_with fail
          have HE := E.out
          simp at HE
          refine bodyPost_ret (v := .agg #[.slice none 0 0]) (by simp [results, Try.results29, go_sem, HE]) rfl ?_
          rw [HF.out]
          exact MadeF.nil (HB.out.setCell (by simp) _)
      · have hkn : (kd != 1) = true := by simp [hk]
        have OK2 := Lib.hid (OT.out (by unfold okP; rw [if_neg hk]))
        have S7 := Lib.hid (show SlP wr w3.heap.size w4.heap.size (some ⟨g, o, none⟩) c5 (mixR ps to (j + 1)) from by rw [← MK.out hk]; exact S.out)
        clear S6 MS MK ON OT RI S OK hk
        go_wp2_with fail
        go_roundw
        case rel => exact ⟨j + 1, by omega, by go_num, OK2.out, S7.out, KR.out, KB.out, HB.out⟩
        case measure => simp [intOf]; omega
    · have hje : j = n := by omega
      subst hje
      have HM := Lib.hid (show renameF ps to = mixR ps to j from by rw [HF.out, ← LN.out]; exact renG_end (by rw [LN.out]; exact OK.out))
      have HLM := Lib.hid (show (mixR ps to j).length = j from by rw [mixR_len, LN.out])
      have f1 := KR.out.frozen 0
      have g1 := KR.out.cell 0
      have E := Lib.hid ((KR.out.set_ 0 (.slice A5 j c5)).cell 0)
      go_wp2_with fail
      have HE := E.out
      simp at HE
      refine bodyPost_ret (v := .agg #[.slice A5 j c5]) (by simp [results, Try.results29, go_sem, HE]) rfl ?_
      rw [HM.out]
      refine ⟨A5, c5, by rw [HLM.out], (S.out.turn ((Turn.refl 0 (w.heap.size + 2) _).setCell (p := ⟨w.heap.size + 1, 0, none⟩) (Nat.zero_le _) (.inl (by simp)) _) (.inr (by omega))).mono (by omega) (by simp; omega), ?_⟩
      exact HB.out.setCell (by simp) _

set_option maxRecDepth 100000 in
set_option maxHeartbeats 3200000 in
theorem specRenameReads {A A' : Option Addr} {c c' n n' B B' : Nat} {w : World} (ps : List Prt) (to : List Int) (ln : ps.length = n) (ln' : to.length = n') (hn : n ≤ 1048576) (hn' : n' ≤ 1048576) (h : RdP w B A ps) (h' : RdI w B' A' to) (hB : B ≤ w.heap.size) (hB' : B' ≤ w.heap.size) :
    Calls Try.prog 27 #[.agg #[.slice A n c], .slice A' n' c'] w (MadeF w (renameF ps to)) := by
  have B2 := Lib.hid (show Below w.heap.size w ((w.alloc (.cells #[.slice A n c] 29)).alloc (.cells #[.slice none 0 0] 29)) from bel2P w _ _)
  have K0 := Lib.hid (show Blk ((w.alloc (.cells #[.slice A n c] 29)).alloc (.cells #[.slice none 0 0] 29)) w.heap.size 29 #[.slice A n c] from (Blk.new w _ _).alloc _)
  have K1 := Lib.hid (show Blk ((w.alloc (.cells #[.slice A n c] 29)).alloc (.cells #[.slice none 0 0] 29)) (w.heap.size + 1) 29 #[.slice none 0 0] from blkAt (by simp))
  have H := Lib.hid (h.belowLe B2.out hB)
  have H' := Lib.hid (h'.belowLe B2.out hB')
  have LN := Lib.hid ln
  have LN' := Lib.hid ln'
  have HTO := Lib.hid (fun (W : World) (hb : Below w.heap.size w W) => (show RdI W B' A' to from h'.belowLe hb hB'))
  clear h h'
  cases hv : validF ps
  case false =>
    have HV := Lib.hid hv
    have HF := Lib.hid (show renameF ps to = [] from by unfold renameF; rw [hv]; rfl)
    clear hv
    go_enter Try.func27, Try.ntmps27
    go_wp2_with fail
    refine (specValid0 ps LN.out (by omega) H.out (by simp; omega)).mono ?_; rw [HV.out]; rintro e w3 ⟨rfl, b3⟩
    have z3 := b3.size
    simp only [World.size_alloc] at z3
    have B3 := Lib.hid (B2.out.trans (b3.mono (by simp; omega)))
    have K03 := Lib.hid (K0.out.below b3 K0.out.lt)
    have K13 := Lib.hid (K1.out.below b3 K1.out.lt)
    have H3 := Lib.hid (H.out.belowLe b3 (by simp; omega))
    have H3' := Lib.hid (H'.out.belowLe b3 (by simp; omega))
    clear b3
    have f1 := K13.out.frozen 0
    have g1 := K13.out.cell 0
    have E := Lib.hid ((K13.out.set_ 0 (.slice none 0 0)).cell 0)
    go_wp2_with fail
    have HE := E.out
    simp at HE
    refine bodyPost_ret (v := .agg #[.slice none 0 0]) (by simp [results, Try.results27, go_sem, HE]) rfl ?_
    rw [HF.out]
    exact MadeF.nil (B3.out.setCell (by simp) _)
  case true =>
  have HV := Lib.hid hv
  obtain ⟨hl1, hl2⟩ := validF_len hv
  rw [ln] at hl1 hl2
  by_cases ht : n' ≤ 10
  case neg =>
    have HF := Lib.hid (show renameF ps to = [] from by unfold renameF; rw [ln', decide_eq_false ht]; simp)
    clear hv
    go_enter Try.func27, Try.ntmps27
    go_wp2_with fail
    refine (specValid0 ps LN.out (by omega) H.out (by simp; omega)).mono ?_; rw [HV.out]; rintro e w3 ⟨rfl, b3⟩
    have z3 := b3.size
    simp only [World.size_alloc] at z3
    have B3 := Lib.hid (B2.out.trans (b3.mono (by simp; omega)))
    have K03 := Lib.hid (K0.out.below b3 K0.out.lt)
    have K13 := Lib.hid (K1.out.below b3 K1.out.lt)
    have H3 := Lib.hid (H.out.belowLe b3 (by simp; omega))
    have H3' := Lib.hid (H'.out.belowLe b3 (by simp; omega))
    clear b3
    have f1 := K13.out.frozen 0
    have g1 := K13.out.cell 0
    have E := Lib.hid ((K13.out.set_ 0 (.slice none 0 0)).cell 0)
    go_wp2_with fail
    have HE := E.out
    simp at HE
    refine bodyPost_ret (v := .agg #[.slice none 0 0]) (by simp [results, Try.results27, go_sem, HE]) rfl ?_
    rw [HF.out]
    exact MadeF.nil (B3.out.setCell (by simp) _)
  case pos =>
  cases hc : allB 0 9 to
  case false =>
    have HC := Lib.hid hc
    have HF := Lib.hid (show renameF ps to = [] from by unfold renameF; rw [hc]; simp)
    clear hc hv
    go_enter Try.func27, Try.ntmps27
    go_wp2_with fail
    refine (specValid0 ps LN.out (by omega) H.out (by simp; omega)).mono ?_; rw [HV.out]; rintro e w3 ⟨rfl, b3⟩
    have z3 := b3.size
    simp only [World.size_alloc] at z3
    have B3 := Lib.hid (B2.out.trans (b3.mono (by simp; omega)))
    have K03 := Lib.hid (K0.out.below b3 K0.out.lt)
    have K13 := Lib.hid (K1.out.below b3 K1.out.lt)
    have H3 := Lib.hid (H.out.belowLe b3 (by simp; omega))
    have H3' := Lib.hid (H'.out.belowLe b3 (by simp; omega))
    clear b3
    go_wp2_with fail
    refine (allIn to LN'.out (by omega) H3'.out).mono ?_; rw [HC.out]; rintro e w3' ⟨rfl, rfl⟩
    have f1 := K13.out.frozen 0
    have g1 := K13.out.cell 0
    have E := Lib.hid ((K13.out.set_ 0 (.slice none 0 0)).cell 0)
    go_wp2_with fail
    have HE := E.out
    simp at HE
    refine bodyPost_ret (v := .agg #[.slice none 0 0]) (by simp [results, Try.results27, go_sem, HE]) rfl ?_
    rw [HF.out]
    exact MadeF.nil (B3.out.setCell (by simp) _)
  case true =>
  have HC := Lib.hid hc
  have HF := Lib.hid (show renameF ps to = renG ps to from by unfold renameF; rw [hv, hc, ln', decide_eq_true ht]; rfl)
  clear hc hv
  go_enter Try.func27, Try.ntmps27
  go_wp2_with fail
  refine (specValid0 ps LN.out (by omega) H.out (by simp; omega)).mono ?_; rw [HV.out]; rintro e w3 ⟨rfl, b3⟩
  have z3 := b3.size
  simp only [World.size_alloc] at z3
  have B3 := Lib.hid (B2.out.trans (b3.mono (by simp; omega)))
  have K03 := Lib.hid (K0.out.below b3 K0.out.lt)
  have K13 := Lib.hid (K1.out.below b3 K1.out.lt)
  have H3 := Lib.hid (H.out.belowLe b3 (by simp; omega))
  have H3' := Lib.hid (H'.out.belowLe b3 (by simp; omega))
  clear b3
  go_wp2_with fail
  refine (allIn to LN'.out (by omega) H3'.out).mono ?_; rw [HC.out]; rintro e w3' ⟨rfl, rfl⟩
  have k0 := K03.out.cell 0
  have H3b := Lib.hid (H3.out.belowLe ((Below.refl w3.heap.size w3).alloc (Nat.le_refl _) (.cells #[] 50)) (by omega))
  have k0' : (w3.alloc (.cells #[] 50)).cell? ⟨w.heap.size, 0, none⟩ = some (.slice A n c) := (K03.out.alloc _).cell 0
  go_wp2_with (at_builtin; refine wpList_appPA (.tmp 21) (.tmp 23) rfl rfl (lo := w3.heap.size) (hi := w3.heap.size + 1) [] ps rfl rfl SlR.nil rfl LN.out H3b.out (by omega) ?_; intro A5 c5 lo5 hi5 w4 h5 d5 t5)
  rw [List.nil_append] at h5
  have z4 := t5.size
  rw [World.size_alloc] at d5 z4
  have b4 : Below w3.heap.size w3 w4 := ((Below.refl _ _).alloc (Nat.le_refl _) _).trans (t5.below (by simp))
  have B4 := Lib.hid (B3.out.trans (b4.mono (by omega)))
  have K14 := Lib.hid (K13.out.below b4 K13.out.lt)
  have H4' := Lib.hid (H3'.out.belowLe b4 (by omega))
  have S5 := Lib.hid (h5.mono (lo' := w3.heap.size) (hi' := w4.heap.size) (by omega) (by omega))
  clear h5 d5 t5 b4 k0 k0'
  try simp only [Nat.zero_add]
  have J0 := Lib.hid (show SlP (w4.alloc (.cells #[.slice A5 n c5] 29)) w3.heap.size w4.heap.size A5 c5 (mixR ps to 0) ∧ Blk (w4.alloc (.cells #[.slice A5 n c5] 29)) (w.heap.size + 1) 29 #[.slice none 0 0] ∧ Blk (w4.alloc (.cells #[.slice A5 n c5] 29)) w4.heap.size 29 #[.slice A5 n c5] ∧ Below w.heap.size w (w4.alloc (.cells #[.slice A5 n c5] 29)) from ⟨S5.out.alloc _, K14.out.alloc _, Blk.new _ _ _, B4.out.alloc (by omega) _⟩)
  clear S5 K14 H4' H3 H3' K03 K13
  go_wp2_with fail
  go_loopw [6] (fun i wr => ∃ j : Nat, j ≤ n ∧ i = .int .i64 j ∧ (ps.take j).all (okP to) = true ∧ SlP wr w3.heap.size w4.heap.size A5 c5 (mixR ps to j) ∧ Blk wr (w.heap.size + 1) 29 #[.slice none 0 0] ∧ Blk wr w4.heap.size 29 #[.slice A5 n c5] ∧ Below w.heap.size w wr) (fun i _ => n - (intOf i).toNat)
  case atStart => exact ⟨0, Nat.zero_le _, rfl, rfl, J0.out.1, J0.out.2.1, J0.out.2.2.1, J0.out.2.2.2⟩
  case round =>
    obtain ⟨j, hj, rfl, hok, hs, hk1, hk2, hb⟩ := hrel
    have OK := Lib.hid hok
    have S := Lib.hid hs
    have KR := Lib.hid hk1
    have KB := Lib.hid hk2
    have HB := Lib.hid hb
    have kb : wr.cell? ⟨w4.heap.size, 0, none⟩ = some (.slice A5 n c5) := hk2.cell 0
    have hzr := hk2.lt
    clear hok hs hk1 hk2 hb J0
    by_cases hlt : j < n
    · have hlp : j < ps.length := by rw [LN.out]; exact hlt
      have hlm : j < (mixR ps to j).length := by rw [mixR_len]; exact hlp
      obtain ⟨g, o, hA, hg1, hg2, hg3, h4, h5, h6, _⟩ := SlR.at_ kP S.out hlm
      subst hA
      have hmx : (mixR ps to j)[j]? = some ps[j] := by rw [List.getElem?_eq_getElem hlm, mixR_at hlp hlm]
      have c0 := h4 j _ hmx 0 _ rfl
      have c4 := h4 j _ hmx 4 _ rfl
      have f4 := h5 (j * 5 + 4)
      have MS := Lib.hid (mixR_set (to := to) hlp)
      have MK := Lib.hid (mixR_skip (to := to) hlp)
      have ON := Lib.hid (okP_not (to := to) hlp)
      have OT := Lib.hid (okP_take (to := to) hlp OK.out)
      have RI := Lib.hid (read_in HV.out hlp)
      have S6 := Lib.hid (fun (v : Int) => h6 4 v { ps[j] with nn := v } (by decide) (by rw [mixR_at hlp hlm]; rfl))
      obtain ⟨x, hx⟩ : ∃ x, ps[j] = x := ⟨_, rfl⟩
      rw [hx] at c0 c4 MS MK ON OT RI S6
      obtain ⟨kd, pa, pb, pc, nn⟩ := x
      simp only [Nat.add_zero] at c0 c4 MK RI S6
      have c0' : wr.cell? ⟨g, o + j * 5, none⟩ = some (.int .i64 kd) := c0
      have c4' : wr.cell? ⟨g, o + j * 5 + 4, none⟩ = some (.int .i64 nn) := by rw [Nat.add_assoc]; exact c4
      have f4' : wr.frozen? ⟨g, o + j * 5 + 4, none⟩ = false := by rw [Nat.add_assoc]; exact f4
      have hj0 : (0 : Int) ≤ (j : Int) := Int.natCast_nonneg _
      have hj1 : (j : Int) < (n : Int) := by omega
      clear c0 c4 f4 h4 h5 h6 hmx hx hlm hlp
      by_cases hk : kd = 1
      · subst hk
        obtain ⟨hn0, hn9⟩ := RI.out rfl
        by_cases hto : nn < (n' : Int)
        · have OK2 := Lib.hid (OT.out (by unfold okP; rw [if_pos rfl]; exact decide_eq_true (by rw [LN'.out]; exact hto)))
          obtain ⟨nk, rfl⟩ := Int.eq_ofNat_of_zero_le hn0
          have hnk : nk < to.length := by have := LN'.out; omega
          obtain ⟨ad, hA', _, hcc⟩ := (HTO.out wr HB.out).at_ hnk
          subst hA'
          have tc := hcc nk hnk
          have RE : renP to ⟨1, pa, pb, pc, (nk : Int)⟩ = ⟨1, pa, pb, pc, to[nk]⟩ := by unfold renP; simp [List.getElem?_eq_getElem hnk]
          obtain ⟨v, hv⟩ : ∃ v, to[nk] = v := ⟨_, rfl⟩
          rw [hv] at tc RE
          obtain ⟨s6, t6⟩ := S6.out v
          have hse : (mixR ps to j).set j ⟨1, pa, pb, pc, v⟩ = mixR ps to (j + 1) := by rw [← RE]; exact MS.out
          try simp only at s6
          rw [hse] at s6
          rw [← Nat.add_assoc] at s6 t6
          have hn0' : (0 : Int) ≤ (nk : Int) := Int.natCast_nonneg _
          have S7 := Lib.hid s6
          have KR7 := Lib.hid (t6.blk KR.out (by omega))
          have KB7 := Lib.hid (t6.blk KB.out (by omega))
          have HB7 := Lib.hid (Below.new HB.out t6 (by omega) (Nat.le_refl _))
          clear s6 t6 hse RE hcc hv S6 MS MK ON OT RI S KR KB OK hnk hn0
          go_wp2_with fail
          go_region
          go_wp2_with fail
          go_roundw
          case rel => exact ⟨j + 1, by omega, by go_num, OK2.out, S7.out, KR7.out, KB7.out, ⟨HB7.out.os, HB7.out.tape, HB7.out.output, HB7.out.size, HB7.out.block⟩⟩
          case measure => simp [intOf]; omega
        · have HE2 := Lib.hid (ON.out (by unfold okP; rw [if_pos rfl]; exact decide_eq_false (by rw [LN'.out]; exact hto)))
          have HF := Lib.hid (HF.out.trans HE2.out)
          have hge : (n' : Int) ≤ nn := by omega
          clear S6 MS MK ON OT RI S KB OK hto
          have f1 := KR.out.frozen 0
          have g1 := KR.out.cell 0
          have E := Lib.hid ((KR.out.set_ 0 (.slice none 0 0)).cell 0)
          go_wp2_with fail
          have HE := E.out
          simp at HE
          refine bodyPost_ret (v := .agg #[.slice none 0 0]) (by simp [results, Try.results27, go_sem, HE]) rfl ?_
          rw [HF.out]
          exact MadeF.nil (HB.out.setCell (by simp) _)
      · have hkn : (kd != 1) = true := by simp [hk]
        have OK2 := Lib.hid (OT.out (by unfold okP; rw [if_neg hk]))
        have S7 := Lib.hid (show SlP wr w3.heap.size w4.heap.size (some ⟨g, o, none⟩) c5 (mixR ps to (j + 1)) from by rw [← MK.out hk]; exact S.out)
        clear S6 MS MK ON OT RI S OK hk
        go_wp2_with fail
        go_roundw
        case rel => exact ⟨j + 1, by omega, by go_num, OK2.out, S7.out, KR.out, KB.out, HB.out⟩
        case measure => simp [intOf]; omega
    · have hje : j = n := by omega
      subst hje
      have HM := Lib.hid (show renameF ps to = mixR ps to j from by rw [HF.out, ← LN.out]; exact renG_end (by rw [LN.out]; exact OK.out))
      have HLM := Lib.hid (show (mixR ps to j).length = j from by rw [mixR_len, LN.out])
      have f1 := KR.out.frozen 0
      have g1 := KR.out.cell 0
      have E := Lib.hid ((KR.out.set_ 0 (.slice A5 j c5)).cell 0)
      go_wp2_with fail
      have HE := E.out
      simp at HE
      refine bodyPost_ret (v := .agg #[.slice A5 j c5]) (by simp [results, Try.results27, go_sem, HE]) rfl ?_
      rw [HM.out]
      refine ⟨A5, c5, by rw [HLM.out], (S.out.turn ((Turn.refl 0 (w.heap.size + 2) _).setCell (p := ⟨w.heap.size + 1, 0, none⟩) (Nat.zero_le _) (.inl (by simp)) _) (.inr (by omega))).mono (by omega) (by simp; omega), ?_⟩
      exact HB.out.setCell (by simp) _

end Go.Proofs.Ytlinngohbghimaa
