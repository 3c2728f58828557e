/-
  slices.IndexFunc, slices.DeleteFunc at the program's closures.
-/
import Derived.Test.YtmmegmefiihabaaDelete0
namespace Go.Proofs.Ytmmegmefiihabaa
open Go.RowKit

/-- the slice that the closure has captured -/
def Cap (w : World) (B : Nat) (b : Nat) (ys : List Int) : Prop := b < B ∧ ∃ (A : Option Addr) (c : Nat), Blk w b 23 #[.slice A ys.length c] ∧ RdI w B A ys
theorem Cap.below {w w' : World} {B B' b : Nat} {ys : List Int} (h : Cap w B b ys) (hb : Below B' w w') (hB : B ≤ B') : Cap w' B b ys := by
  obtain ⟨h1, A, c, h2, h3⟩ := h
  exact ⟨h1, A, c, h2.below hb (by omega), h3.belowLe hb hB⟩
def fIdx (p : Int → Bool) (xs : List Int) : Int := if xs.any p then (xs.findIdx p : Int) else -1
theorem findIdx_take {p : Int → Bool} {xs : List Int} {k : Nat} (hk : k < xs.length) (h : ∀ j, j < k → ∀ (hl : j < xs.length), p xs[j] = false) (h1 : p xs[k] = true) : xs.findIdx p = k := by
  rw [List.findIdx_eq hk]
  exact ⟨h1, fun j hj => by simpa using h j hj (by omega)⟩
theorem filt_take {p : Int → Bool} {xs : List Int} {k : Nat} (h : ∀ j, j < k → ∀ (hl : j < xs.length), p xs[j] = false) : (xs.take k).filter (fun x => !p x) = xs.take k := by
  rw [List.filter_eq_self]
  intro x hx
  obtain ⟨j, hj, rfl⟩ := List.getElem_of_mem hx
  rw [List.length_take] at hj
  rw [List.getElem_take, h j (by omega) (by omega)]
  rfl
theorem filt_snoc (p : Int → Bool) {xs : List Int} {j : Nat} (hj : j < xs.length) : (xs.take (j + 1)).filter (fun x => !p x) = (xs.take j).filter (fun x => !p x) ++ if p xs[j] then [] else [xs[j]] := by
  rw [List.take_succ_eq_append_getElem hj, List.filter_append]
  cases h : p xs[j] <;> simp [h]
theorem filt_le (p : Int → Bool) (xs : List Int) (j : Nat) : ((xs.take j).filter (fun x => !p x)).length ≤ j := Nat.le_trans (List.length_filter_le _ _) (by rw [List.length_take]; omega)
theorem set_step {zs xs ys : List Int} {j : Nat} {x : Int} (hz : zs.length = xs.length) (hj : j < xs.length) (h1 : zs.take ys.length = ys) (h2 : zs.drop j = xs.drop j) (hy : ys.length ≤ j) :
    (zs.set ys.length x).take (ys.length + 1) = ys ++ [x] ∧ (zs.set ys.length x).drop (j + 1) = xs.drop (j + 1) := by
  constructor
  · rw [List.take_set, List.take_succ_eq_append_getElem (by omega), List.set_append_right _ _ (by rw [h1]; exact Nat.le_refl _), h1, Nat.sub_self]
    rfl
  · rw [List.drop_set_of_lt (by omega)]
    have : zs.drop (j + 1) = (zs.drop j).drop 1 := by rw [List.drop_drop]
    rw [this, h2, List.drop_drop]
theorem at_of_drop {zs xs : List Int} {j : Nat} (hz : zs.length = xs.length) (hj : j < xs.length) (h2 : zs.drop j = xs.drop j) : zs[j]'(by omega) = xs[j] := by
  rw [List.drop_eq_getElem_cons (by omega : j < zs.length), List.drop_eq_getElem_cons hj] at h2
  injection h2

theorem NewKeysClosure {w : World} {B b : Nat} {x : Int} (ys : List Int) (hn : ys.length ≤ 9223372036854775807) (h : Cap w B b ys) :
    Calls Try.prog 69 #[.int .i64 x, .pointer (some ⟨b, 0, none⟩)] w fun e w' => e = .returned (.bool (memB x ys)) ∧ w = w' := by
  obtain ⟨_, A, c, h1, h2⟩ := h
  have hcell : w.cell? ⟨b, 0, none⟩ = some (.slice A ys.length c) := h1.cell 0
  have H := Lib.hid h2
  clear h1 h2
  go_enter Try.func69, Try.ntmps69
  go_wp2_with fail
  refine (slicesContains ys rfl hn H.out).mono ?_; rintro e w' ⟨rfl, rfl⟩
  go_wp2_with fail
  go_ret
  exact ⟨rfl, rfl⟩

set_option maxHeartbeats 800000 in
theorem NewKeysIndexFunc {A : Option Addr} {c n B B' b : Nat} {w : World} (xs ys : List Int) (ln : xs.length = n) (hn : n ≤ 1099511627776) (hn' : ys.length ≤ 1099511627776) (h : RdI w B A xs) (hc : Cap w B' b ys) :
    Calls Try.prog 90 #[.slice A n c, .func (.func 69) #[] #[.pointer (some ⟨b, 0, none⟩)]] w fun e w' => e = .returned (.int .i64 (fIdx (fun x => memB x ys) xs)) ∧ w = w' := by
  subst ln
  have HC := Lib.hid hc; clear hc
  go_enter Try.func90, Try.ntmps90
  go_wp2_with fail
  go_loop [8] (fun i => ∃ k : Nat, k ≤ xs.length ∧ i = .int .i64 k ∧ ∀ j (hj : j < k) (hl : j < xs.length), (fun x => memB x ys) xs[j] = false) (fun i => xs.length - (intOf i).toNat)
  case atStart => exact ⟨0, Nat.zero_le _, rfl, fun j hj => absurd hj (by omega)⟩
  case round =>
    obtain ⟨k, hk, rfl, hno⟩ := hrel
    have HN := Lib.hid hno; clear hno
    by_cases hlt : k < xs.length
    · obtain ⟨ad, rfl, _, hcc⟩ := h.at_ hlt
      have hcell := hcc k hlt
      clear hcc h
      obtain ⟨x, hx⟩ : ∃ x, xs[k] = x := ⟨_, rfl⟩
      rw [hx] at hcell
      have HX := Lib.hid hx; clear hx
      cases hp : (memB x ys)
      · have HP := Lib.hid hp; clear hp
        go_wp2_with (go_at_call 69; refine (NewKeysClosure ys (by omega) HC.out).mono ?_; rw [HP.out]; rintro e w' ⟨rfl, rfl⟩)
        go_round
        case rel => exact ⟨k + 1, by omega, by go_num, fun j hj hl => by
          rcases Nat.lt_or_ge j k with h1 | h1
          · exact HN.out j h1 hl
          · have : j = k := by omega
            subst this; rw [HX.out]; exact HP.out⟩
        case measure => simp [intOf]; omega
      · have HP := Lib.hid hp; clear hp
        go_wp2_with (go_at_call 69; refine (NewKeysClosure ys (by omega) HC.out).mono ?_; rw [HP.out]; rintro e w' ⟨rfl, rfl⟩)
        go_ret
        have hany : xs.any (fun x => memB x ys) = true := List.any_eq_true.2 ⟨xs[k], List.getElem_mem hlt, by rw [HX.out]; exact HP.out⟩
        exact ⟨ret_int (by unfold fIdx; rw [if_pos hany, findIdx_take hlt (fun j hj hl => HN.out j hj hl) (by rw [HX.out]; exact HP.out)]), rfl⟩
    · go_wp2
      go_ret
      have hany : ¬ xs.any (fun x => memB x ys) = true := by
        intro h1
        obtain ⟨x, hx, hp⟩ := List.any_eq_true.1 h1
        obtain ⟨j, hj, rfl⟩ := List.getElem_of_mem hx
        rw [HN.out j (by omega) hj] at hp
        cases hp
      exact ⟨ret_int (by unfold fIdx; rw [if_neg hany]), rfl⟩

set_option maxHeartbeats 1600000 in
theorem NewKeysDeleteFunc {A : Option Addr} {c n lo hi b : Nat} {w : World} (xs ys : List Int) (ln : xs.length = n) (hn : n ≤ 1099511627776) (hn' : ys.length ≤ 1099511627776) (h : SlI w lo hi A c xs) (hlo : lo ≤ w.heap.size) (hc : Cap w lo b ys) :
    Calls Try.prog 67 #[.slice A n c, .func (.func 69) #[] #[.pointer (some ⟨b, 0, none⟩)]] w fun e w' => e = .returned (.slice A (xs.filter fun x => !(memB x ys)).length c) ∧ SlI w' lo hi A c (xs.filter fun x => !(memB x ys)) ∧ Turn lo hi w w' ∧ w'.heap.size = w.heap.size := by
  subst ln
  have HC := Lib.hid hc; clear hc
  have H := Lib.hid h; clear h
  by_cases hany : xs.any (fun x => memB x ys) = true
  · obtain ⟨i0, hi0⟩ : ∃ i0, i0 = xs.findIdx (fun x => memB x ys) := ⟨_, rfl⟩
    have hlt0 : i0 < xs.length := by rw [hi0]; exact List.findIdx_lt_length_of_exists (by simpa using hany)
    have hp0 : (fun x => memB x ys) xs[i0] = true := by subst hi0; exact List.findIdx_getElem (w := hlt0)
    have hno0 : ∀ j (hj : j < i0) (hl : j < xs.length), (fun x => memB x ys) xs[j] = false := fun j hj hl => by
      subst hi0; simpa using List.not_of_lt_findIdx hj
    have hf : fIdx (fun x => memB x ys) xs = (i0 : Int) := by unfold fIdx; rw [if_pos hany, hi0]
    have hfl : (xs.take (i0 + 1)).filter (fun x => !(memB x ys)) = xs.take i0 := by
      have := filt_snoc (fun x => memB x ys) hlt0
      have hp1 : (memB xs[i0] ys) = true := hp0
      rw [this, if_pos hp1, filt_take hno0]; simp
    have HF := Lib.hid hf; have HFL := Lib.hid hfl
    clear hf hfl hno0 hp0 hi0 hany
    go_enter Try.func67, Try.ntmps67
    go_wp2_with fail
    refine (NewKeysIndexFunc xs ys rfl hn hn' H.out.rd HC.out).mono ?_; rw [HF.out]; rintro e w' ⟨rfl, rfl⟩
    have hne : ((i0 : Int) == -1) = false := by rw [beq_eq_false_iff_ne]; omega
    go_wp2_with fail
    clear hne
    go_loopw [5, 6] (fun iv jv wr => ∃ (j : Nat) (zs : List Int), j ≤ xs.length ∧ i0 < j ∧ jv = .int .i64 j ∧ iv = .int .i64 ((xs.take j).filter (fun x => !(memB x ys))).length ∧ ((xs.take j).filter (fun x => !(memB x ys))).length < j ∧ zs.length = xs.length ∧ zs.take ((xs.take j).filter (fun x => !(memB x ys))).length = (xs.take j).filter (fun x => !(memB x ys)) ∧ zs.drop j = xs.drop j ∧ SlI wr lo hi A c zs ∧ Turn lo hi w wr ∧ wr.heap.size = w.heap.size) (fun _ jv _ => xs.length - (intOf jv).toNat)
    case atStart =>
      refine ⟨i0 + 1, xs, by omega, by omega, by go_num, ?_, ?_, rfl, ?_, rfl, H.out, Turn.refl _ _ _, rfl⟩
      · rw [HFL.out, List.length_take, Nat.min_eq_left (by omega)]
      · rw [HFL.out, List.length_take]; omega
      · rw [HFL.out, List.length_take, Nat.min_eq_left (by omega)]
    case round =>
      obtain ⟨j, zs, hj, hij, rfl, rfl, hlj, hzl, hz1, hz2, hs, ht, hsz⟩ := hrel
      obtain ⟨fs, hfs⟩ : ∃ fs, fs = (xs.take j).filter (fun x => !(memB x ys)) := ⟨_, rfl⟩
      rw [← hfs] at hlj hz1 ⊢
      have HFS := Lib.hid hfs; clear hfs
      have HZL := Lib.hid hzl
      have HZ1 := Lib.hid hz1; clear hz1
      have HZ2 := Lib.hid hz2; clear hz2
      have HT := Lib.hid ht; clear ht
      have HSZ := Lib.hid hsz; clear hsz
      by_cases hlt : j < xs.length
      · obtain ⟨g, o, rfl, hg1, hg2, hcc, hff, hst⟩ := hs.at_ (k := j) (by omega)
        have hcell := hcc j (by omega)
        rw [at_of_drop hzl hlt HZ2.out] at hcell
        have hcell2 := hcc fs.length (by omega)
        have hfr := hff fs.length
        obtain ⟨h1, h2⟩ := hst fs.length xs[j] (by omega)
        have HS := Lib.hid hs
        have H1 := Lib.hid h1
        have H2 := Lib.hid (HT.out.trans h2)
        have HSTEP := Lib.hid (set_step (x := xs[j]) hzl hlt HZ1.out HZ2.out (by omega))
        have HSNOC := Lib.hid (filt_snoc (fun x => memB x ys) hlt)
        obtain ⟨v2, hv2⟩ : ∃ v2, zs[fs.length] = v2 := ⟨_, rfl⟩
        rw [hv2] at hcell2
        have HZL2 := Lib.hid (show (zs.set fs.length xs[j]).length = xs.length by rw [List.length_set]; exact hzl)
        have hdrop2 : zs.drop (j + 1) = xs.drop (j + 1) := by
          have : zs.drop (j + 1) = (zs.drop j).drop 1 := by rw [List.drop_drop]
          rw [this, HZ2.out, List.drop_drop]
        have HD2 := Lib.hid hdrop2
        clear hdrop2 hcc hff hst h1 h2 hs hzl hv2
        obtain ⟨x, hx⟩ : ∃ x, xs[j] = x := ⟨_, rfl⟩
        rw [hx] at hcell H1 H2 HSTEP HSNOC HZL2
        have HX := Lib.hid hx; clear hx
        cases hp : (memB x ys)
        · have HP := Lib.hid hp; clear hp
          go_wp2_with (go_at_call 69; refine (NewKeysClosure ys (by omega) (HC.out.below (HT.out.below hlo) (Nat.le_refl _))).mono ?_; rw [HP.out]; rintro e w' ⟨rfl, rfl⟩)
          go_roundw
          case rel =>
            have e1 := HSNOC.out
            simp only [HP.out] at e1
            rw [← HFS.out] at e1
            simp only [Bool.false_eq_true, if_false] at e1
            refine ⟨j + 1, zs.set fs.length x, by omega, by omega, by go_num, ?_, ?_, HZL2.out, ?_, HSTEP.out.2, H1.out, H2.out, by simpa [World.setCell] using HSZ.out⟩
            · rw [e1]; simp
            · rw [e1]; simp; omega
            · rw [e1, List.length_append]; exact HSTEP.out.1
          case measure => simp [intOf]; omega
        · have HP := Lib.hid hp; clear hp
          go_wp2_with (go_at_call 69; refine (NewKeysClosure ys (by omega) (HC.out.below (HT.out.below hlo) (Nat.le_refl _))).mono ?_; rw [HP.out]; rintro e w' ⟨rfl, rfl⟩)
          go_roundw
          case rel =>
            have e1 := HSNOC.out
            simp only [HP.out] at e1
            rw [← HFS.out] at e1
            simp only [if_true, List.append_nil] at e1
            refine ⟨j + 1, zs, by omega, by omega, by go_num, ?_, ?_, HZL.out, ?_, HD2.out, HS.out, HT.out, HSZ.out⟩
            · rw [e1]
            · rw [e1]; omega
            · rw [e1]; exact HZ1.out
          case measure => simp [intOf]; omega
      · have hjl : j = xs.length := by omega
        have hfin : fs = xs.filter (fun x => !(memB x ys)) := by rw [HFS.out, hjl, List.take_length]
        have HFIN := Lib.hid hfin
        have hfl : fs.length < zs.length := by omega
        have hle := hs.le
        have HS := Lib.hid hs
        obtain ⟨g, o, rfl, hg1, hg2, _⟩ := hs.at_ (k := fs.length) hfl
        have hcfs : ¬ c = fs.length := by omega
        have hc0 : ¬ c = 0 := by omega
        clear hfin hs hjl
        go_wp2_with (refine wpList_clearI (i := fs.length) (m := xs.length - fs.length) (A' := some ⟨g, o + fs.length, none⟩) (.tmp 38) rfl rfl zs rfl HS.out (by omega) (by omega) (fun _ => by rw [Option.map_some, add_lit]) ?_; intro w2 h2 t2 z2)
        have h3 := h2.take (h := fs.length) (by simp; omega)
        have e2 : (zs.take fs.length ++ List.replicate (xs.length - fs.length) 0).take fs.length = fs := by
          have h4 := HZ1.out
          rw [List.take_append_of_le_length (by rw [h4]; exact Nat.le_refl _), h4, List.take_length]
        rw [e2] at h3
        have H3 := Lib.hid h3
        have T3 := Lib.hid (HT.out.trans t2)
        have Z3 := Lib.hid (z2.trans HSZ.out)
        clear h2 t2 z2 h3 e2
        go_wp2
        go_ret
        rw [← HFIN.out]
        exact ⟨rfl, H3.out, T3.out, Z3.out⟩
  · have hf : fIdx (fun x => memB x ys) xs = -1 := by unfold fIdx; rw [if_neg hany]
    have hfl : xs.filter (fun x => !(memB x ys)) = xs := by
      rw [List.filter_eq_self]
      intro x hx
      rw [List.any_eq_true] at hany
      simpa using fun e => hany ⟨x, hx, e⟩
    have HF := Lib.hid hf; have HFL := Lib.hid hfl
    clear hf hfl hany
    go_enter Try.func67, Try.ntmps67
    go_wp2_with fail
    refine (NewKeysIndexFunc xs ys rfl hn hn' H.out.rd HC.out).mono ?_; rw [HF.out]; rintro e w' ⟨rfl, rfl⟩
    go_wp2_with fail
    go_ret
    rw [HFL.out]
    exact ⟨rfl, H.out, Turn.refl _ _ _, rfl⟩


theorem CommonClosure {w : World} {B b : Nat} {x : Int} (ys : List Int) (hn : ys.length ≤ 9223372036854775807) (h : Cap w B b ys) :
    Calls Try.prog 91 #[.int .i64 x, .pointer (some ⟨b, 0, none⟩)] w fun e w' => e = .returned (.bool (!memB x ys)) ∧ w = w' := by
  obtain ⟨_, A, c, h1, h2⟩ := h
  have hcell : w.cell? ⟨b, 0, none⟩ = some (.slice A ys.length c) := h1.cell 0
  have H := Lib.hid h2
  clear h1 h2
  go_enter Try.func91, Try.ntmps91
  go_wp2_with fail
  refine (slicesContains ys rfl hn H.out).mono ?_; rintro e w' ⟨rfl, rfl⟩
  go_wp2_with fail
  go_ret
  exact ⟨rfl, rfl⟩

set_option maxHeartbeats 800000 in
theorem CommonIndexFunc {A : Option Addr} {c n B B' b : Nat} {w : World} (xs ys : List Int) (ln : xs.length = n) (hn : n ≤ 1099511627776) (hn' : ys.length ≤ 1099511627776) (h : RdI w B A xs) (hc : Cap w B' b ys) :
    Calls Try.prog 90 #[.slice A n c, .func (.func 91) #[] #[.pointer (some ⟨b, 0, none⟩)]] w fun e w' => e = .returned (.int .i64 (fIdx (fun x => !memB x ys) xs)) ∧ w = w' := by
  subst ln
  have HC := Lib.hid hc; clear hc
  go_enter Try.func90, Try.ntmps90
  go_wp2_with fail
  go_loop [8] (fun i => ∃ k : Nat, k ≤ xs.length ∧ i = .int .i64 k ∧ ∀ j (hj : j < k) (hl : j < xs.length), (fun x => !memB x ys) xs[j] = false) (fun i => xs.length - (intOf i).toNat)
  case atStart => exact ⟨0, Nat.zero_le _, rfl, fun j hj => absurd hj (by omega)⟩
  case round =>
    obtain ⟨k, hk, rfl, hno⟩ := hrel
    have HN := Lib.hid hno; clear hno
    by_cases hlt : k < xs.length
    · obtain ⟨ad, rfl, _, hcc⟩ := h.at_ hlt
      have hcell := hcc k hlt
      clear hcc h
      obtain ⟨x, hx⟩ : ∃ x, xs[k] = x := ⟨_, rfl⟩
      rw [hx] at hcell
      have HX := Lib.hid hx; clear hx
      cases hp : (!memB x ys)
      · have HP := Lib.hid hp; clear hp
        go_wp2_with (go_at_call 91; refine (CommonClosure ys (by omega) HC.out).mono ?_; rw [HP.out]; rintro e w' ⟨rfl, rfl⟩)
        go_round
        case rel => exact ⟨k + 1, by omega, by go_num, fun j hj hl => by
          rcases Nat.lt_or_ge j k with h1 | h1
          · exact HN.out j h1 hl
          · have : j = k := by omega
            subst this; rw [HX.out]; exact HP.out⟩
        case measure => simp [intOf]; omega
      · have HP := Lib.hid hp; clear hp
        go_wp2_with (go_at_call 91; refine (CommonClosure ys (by omega) HC.out).mono ?_; rw [HP.out]; rintro e w' ⟨rfl, rfl⟩)
        go_ret
        have hany : xs.any (fun x => !memB x ys) = true := List.any_eq_true.2 ⟨xs[k], List.getElem_mem hlt, by rw [HX.out]; exact HP.out⟩
        exact ⟨ret_int (by unfold fIdx; rw [if_pos hany, findIdx_take hlt (fun j hj hl => HN.out j hj hl) (by rw [HX.out]; exact HP.out)]), rfl⟩
    · go_wp2
      go_ret
      have hany : ¬ xs.any (fun x => !memB x ys) = true := by
        intro h1
        obtain ⟨x, hx, hp⟩ := List.any_eq_true.1 h1
        obtain ⟨j, hj, rfl⟩ := List.getElem_of_mem hx
        rw [HN.out j (by omega) hj] at hp
        cases hp
      exact ⟨ret_int (by unfold fIdx; rw [if_neg hany]), rfl⟩

set_option maxHeartbeats 1600000 in
theorem CommonDeleteFunc {A : Option Addr} {c n lo hi b : Nat} {w : World} (xs ys : List Int) (ln : xs.length = n) (hn : n ≤ 1099511627776) (hn' : ys.length ≤ 1099511627776) (h : SlI w lo hi A c xs) (hlo : lo ≤ w.heap.size) (hc : Cap w lo b ys) :
    Calls Try.prog 67 #[.slice A n c, .func (.func 91) #[] #[.pointer (some ⟨b, 0, none⟩)]] w fun e w' => e = .returned (.slice A (xs.filter fun x => !(!memB x ys)).length c) ∧ SlI w' lo hi A c (xs.filter fun x => !(!memB x ys)) ∧ Turn lo hi w w' ∧ w'.heap.size = w.heap.size := by
  subst ln
  have HC := Lib.hid hc; clear hc
  have H := Lib.hid h; clear h
  by_cases hany : xs.any (fun x => !memB x ys) = true
  · obtain ⟨i0, hi0⟩ : ∃ i0, i0 = xs.findIdx (fun x => !memB x ys) := ⟨_, rfl⟩
    have hlt0 : i0 < xs.length := by rw [hi0]; exact List.findIdx_lt_length_of_exists (by simpa using hany)
    have hp0 : (fun x => !memB x ys) xs[i0] = true := by subst hi0; exact List.findIdx_getElem (w := hlt0)
    have hno0 : ∀ j (hj : j < i0) (hl : j < xs.length), (fun x => !memB x ys) xs[j] = false := fun j hj hl => by
      subst hi0; simpa using List.not_of_lt_findIdx hj
    have hf : fIdx (fun x => !memB x ys) xs = (i0 : Int) := by unfold fIdx; rw [if_pos hany, hi0]
    have hfl : (xs.take (i0 + 1)).filter (fun x => !(!memB x ys)) = xs.take i0 := by
      have := filt_snoc (fun x => !memB x ys) hlt0
      have hp1 : (!memB xs[i0] ys) = true := hp0
      rw [this, if_pos hp1, filt_take hno0]; simp
    have HF := Lib.hid hf; have HFL := Lib.hid hfl
    clear hf hfl hno0 hp0 hi0 hany
    go_enter Try.func67, Try.ntmps67
    go_wp2_with fail
    refine (CommonIndexFunc xs ys rfl hn hn' H.out.rd HC.out).mono ?_; rw [HF.out]; rintro e w' ⟨rfl, rfl⟩
    have hne : ((i0 : Int) == -1) = false := by rw [beq_eq_false_iff_ne]; omega
    go_wp2_with fail
    clear hne
    go_loopw [5, 6] (fun iv jv wr => ∃ (j : Nat) (zs : List Int), j ≤ xs.length ∧ i0 < j ∧ jv = .int .i64 j ∧ iv = .int .i64 ((xs.take j).filter (fun x => !(!memB x ys))).length ∧ ((xs.take j).filter (fun x => !(!memB x ys))).length < j ∧ zs.length = xs.length ∧ zs.take ((xs.take j).filter (fun x => !(!memB x ys))).length = (xs.take j).filter (fun x => !(!memB x ys)) ∧ zs.drop j = xs.drop j ∧ SlI wr lo hi A c zs ∧ Turn lo hi w wr ∧ wr.heap.size = w.heap.size) (fun _ jv _ => xs.length - (intOf jv).toNat)
    case atStart =>
      refine ⟨i0 + 1, xs, by omega, by omega, by go_num, ?_, ?_, rfl, ?_, rfl, H.out, Turn.refl _ _ _, rfl⟩
      · rw [HFL.out, List.length_take, Nat.min_eq_left (by omega)]
      · rw [HFL.out, List.length_take]; omega
      · rw [HFL.out, List.length_take, Nat.min_eq_left (by omega)]
    case round =>
      obtain ⟨j, zs, hj, hij, rfl, rfl, hlj, hzl, hz1, hz2, hs, ht, hsz⟩ := hrel
      obtain ⟨fs, hfs⟩ : ∃ fs, fs = (xs.take j).filter (fun x => !(!memB x ys)) := ⟨_, rfl⟩
      rw [← hfs] at hlj hz1 ⊢
      have HFS := Lib.hid hfs; clear hfs
      have HZL := Lib.hid hzl
      have HZ1 := Lib.hid hz1; clear hz1
      have HZ2 := Lib.hid hz2; clear hz2
      have HT := Lib.hid ht; clear ht
      have HSZ := Lib.hid hsz; clear hsz
      by_cases hlt : j < xs.length
      · obtain ⟨g, o, rfl, hg1, hg2, hcc, hff, hst⟩ := hs.at_ (k := j) (by omega)
        have hcell := hcc j (by omega)
        rw [at_of_drop hzl hlt HZ2.out] at hcell
        have hcell2 := hcc fs.length (by omega)
        have hfr := hff fs.length
        obtain ⟨h1, h2⟩ := hst fs.length xs[j] (by omega)
        have HS := Lib.hid hs
        have H1 := Lib.hid h1
        have H2 := Lib.hid (HT.out.trans h2)
        have HSTEP := Lib.hid (set_step (x := xs[j]) hzl hlt HZ1.out HZ2.out (by omega))
        have HSNOC := Lib.hid (filt_snoc (fun x => !memB x ys) hlt)
        obtain ⟨v2, hv2⟩ : ∃ v2, zs[fs.length] = v2 := ⟨_, rfl⟩
        rw [hv2] at hcell2
        have HZL2 := Lib.hid (show (zs.set fs.length xs[j]).length = xs.length by rw [List.length_set]; exact hzl)
        have hdrop2 : zs.drop (j + 1) = xs.drop (j + 1) := by
          have : zs.drop (j + 1) = (zs.drop j).drop 1 := by rw [List.drop_drop]
          rw [this, HZ2.out, List.drop_drop]
        have HD2 := Lib.hid hdrop2
        clear hdrop2 hcc hff hst h1 h2 hs hzl hv2
        obtain ⟨x, hx⟩ : ∃ x, xs[j] = x := ⟨_, rfl⟩
        rw [hx] at hcell H1 H2 HSTEP HSNOC HZL2
        have HX := Lib.hid hx; clear hx
        cases hp : (!memB x ys)
        · have HP := Lib.hid hp; clear hp
          go_wp2_with (go_at_call 91; refine (CommonClosure ys (by omega) (HC.out.below (HT.out.below hlo) (Nat.le_refl _))).mono ?_; rw [HP.out]; rintro e w' ⟨rfl, rfl⟩)
          go_roundw
          case rel =>
            have e1 := HSNOC.out
            simp only [HP.out] at e1
            rw [← HFS.out] at e1
            simp only [Bool.false_eq_true, if_false] at e1
            refine ⟨j + 1, zs.set fs.length x, by omega, by omega, by go_num, ?_, ?_, HZL2.out, ?_, HSTEP.out.2, H1.out, H2.out, by simpa [World.setCell] using HSZ.out⟩
            · rw [e1]; simp
            · rw [e1]; simp; omega
            · rw [e1, List.length_append]; exact HSTEP.out.1
          case measure => simp [intOf]; omega
        · have HP := Lib.hid hp; clear hp
          go_wp2_with (go_at_call 91; refine (CommonClosure ys (by omega) (HC.out.below (HT.out.below hlo) (Nat.le_refl _))).mono ?_; rw [HP.out]; rintro e w' ⟨rfl, rfl⟩)
          go_roundw
          case rel =>
            have e1 := HSNOC.out
            simp only [HP.out] at e1
            rw [← HFS.out] at e1
            simp only [if_true, List.append_nil] at e1
            refine ⟨j + 1, zs, by omega, by omega, by go_num, ?_, ?_, HZL.out, ?_, HD2.out, HS.out, HT.out, HSZ.out⟩
            · rw [e1]
            · rw [e1]; omega
            · rw [e1]; exact HZ1.out
          case measure => simp [intOf]; omega
      · have hjl : j = xs.length := by omega
        have hfin : fs = xs.filter (fun x => !(!memB x ys)) := by rw [HFS.out, hjl, List.take_length]
        have HFIN := Lib.hid hfin
        have hfl : fs.length < zs.length := by omega
        have hle := hs.le
        have HS := Lib.hid hs
        obtain ⟨g, o, rfl, hg1, hg2, _⟩ := hs.at_ (k := fs.length) hfl
        have hcfs : ¬ c = fs.length := by omega
        have hc0 : ¬ c = 0 := by omega
        clear hfin hs hjl
        go_wp2_with (refine wpList_clearI (i := fs.length) (m := xs.length - fs.length) (A' := some ⟨g, o + fs.length, none⟩) (.tmp 38) rfl rfl zs rfl HS.out (by omega) (by omega) (fun _ => by rw [Option.map_some, add_lit]) ?_; intro w2 h2 t2 z2)
        have h3 := h2.take (h := fs.length) (by simp; omega)
        have e2 : (zs.take fs.length ++ List.replicate (xs.length - fs.length) 0).take fs.length = fs := by
          have h4 := HZ1.out
          rw [List.take_append_of_le_length (by rw [h4]; exact Nat.le_refl _), h4, List.take_length]
        rw [e2] at h3
        have H3 := Lib.hid h3
        have T3 := Lib.hid (HT.out.trans t2)
        have Z3 := Lib.hid (z2.trans HSZ.out)
        clear h2 t2 z2 h3 e2
        go_wp2
        go_ret
        rw [← HFIN.out]
        exact ⟨rfl, H3.out, T3.out, Z3.out⟩
  · have hf : fIdx (fun x => !memB x ys) xs = -1 := by unfold fIdx; rw [if_neg hany]
    have hfl : xs.filter (fun x => !(!memB x ys)) = xs := by
      rw [List.filter_eq_self]
      intro x hx
      rw [List.any_eq_true] at hany
      simpa using fun e => hany ⟨x, hx, e⟩
    have HF := Lib.hid hf; have HFL := Lib.hid hfl
    clear hf hfl hany
    go_enter Try.func67, Try.ntmps67
    go_wp2_with fail
    refine (CommonIndexFunc xs ys rfl hn hn' H.out.rd HC.out).mono ?_; rw [HF.out]; rintro e w' ⟨rfl, rfl⟩
    go_wp2_with fail
    go_ret
    rw [HFL.out]
    exact ⟨rfl, H.out, Turn.refl _ _ _, rfl⟩


end Go.Proofs.Ytmmegmefiihabaa
