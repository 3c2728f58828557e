/-
  The words of parts: spec.number, spec.partWords, spec.showPart.
-/
import Derived.Test.YtdhjejpcppmejaaDoorText
import Derived.Deep.RegionHeld3
import Derived.Deep.RegionWith
import Derived.Deep.DeepFit
namespace Go.Proofs.YtdhjejpcppmejaaDoor
open Go.RowKit

theorem dec_at : ∀ n : Fin 10, (({ data := #[48, 49, 50, 51, 52, 53, 54, 55, 56, 57] } : ByteArray).extract n (n + 1)) = bts [UInt8.ofNat (48 + n)] := by decide
set_option maxRecDepth 100000 in
theorem number1 (n : Nat) (hn : n < 10) (w : World) : Calls Tryd.prog 34 #[.int .i64 n] w fun e w' => e = .returned (strV (Lib.decDigits n)) ∧ w' = w := by
  rw [dec_one hn]
  go_enter Tryd.func34, Tryd.ntmps34
  go_wp2_with fail
  go_ret
  exact ⟨congrArg (fun b => Ending.returned (.string b)) (dec_at ⟨n, hn⟩), rfl⟩
set_option maxRecDepth 100000 in
theorem numberC (n : Nat) (hn : n < 100) (w : World) : Calls Tryd.prog 34 #[.int .i64 n] w fun e w' => e = .returned (strV (Lib.decDigits n)) ∧ w' = w := by
  by_cases h : n < 10
  · exact number1 n h w
  · rw [dec_two (by omega) hn]
    have h1 : Calls Tryd.prog 34 #[.int .i64 ((n : Int) / 10)] w fun e w' => e = .returned (strV (Lib.decDigits (n / 10))) ∧ w' = w := by
      rw [show (n : Int) / 10 = ((n / 10 : Nat) : Int) by omega]; exact number1 (n / 10) (by omega) w
    have h2 : Calls Tryd.prog 34 #[.int .i64 ((n : Int) % 10)] w fun e w' => e = .returned (strV (Lib.decDigits (n % 10))) ∧ w' = w := by
      rw [show (n : Int) % 10 = ((n % 10 : Nat) : Int) by omega]; exact number1 (n % 10) (by omega) w
    have l1 := dec_len (n := n / 10) (by omega)
    have l2 := dec_len (n := n % 10) (by omega)
    obtain ⟨x, hx⟩ : ∃ x, Lib.decDigits (n / 10) = x := ⟨_, rfl⟩
    obtain ⟨y, hy⟩ : ∃ y, Lib.decDigits (n % 10) = y := ⟨_, rfl⟩
    rw [hx] at h1 l1 ⊢
    rw [hy] at h2 l2 ⊢
    clear hx hy
    go_enter Tryd.func34, Tryd.ntmps34
    go_wp2_with fail
    refine h1.mono ?_; rintro e w1 ⟨rfl, rfl⟩
    go_wp2_with fail
    refine h2.mono ?_; rintro e w1 ⟨rfl, rfl⟩
    go_wp2_with fail
    go_ret
    exact ⟨congrArg (fun b => Ending.returned (.string b)) (bts_app x y), rfl⟩
set_option maxRecDepth 100000 in
theorem partWordsC {b : Nat} (w : World) (hb : w.heap.size = b) : Calls Tryd.prog 35 #[] w fun e w' => e = .returned (.slice (some ⟨b, 0, none⟩) 9 9) ∧ Below w.heap.size w w' ∧
    Blk w' b 9 (([] :: [] :: kindW).map strV).toArray := by
  subst hb
  go_enter Tryd.func35, Tryd.ntmps35
  go_wp2_with fail
  go_ret
  exact ⟨rfl, bel1P w _, Blk.new _ _ _⟩
theorem word_at (k : Nat) (h2 : 2 ≤ k) (h8 : k ≤ 8) : (([] :: [] :: kindW).map strV).toArray[k]? = some (strV (kindW.getD (k - 2) [])) := by
  match k with
  | 0 | 1 => omega
  | 2 | 3 | 4 | 5 | 6 | 7 | 8 => rfl
  | k + 9 => omega

set_option maxRecDepth 100000 in
set_option maxHeartbeats 1600000 in
theorem showPartC (p : Prt) (hp : OkP p) (w : World) : Calls Tryd.prog 21 #[vP p] w fun e w' => e = .returned (strV (wordP p)) ∧ Below w.heap.size w w' := by
  have HB := Lib.hid (bel1P w (.cells (ints (cP p)).toArray 39))
  obtain ⟨kd, pa, pb, pc, nn⟩ := p
  unfold wordP
  dsimp only [vP, cP] at *
  rcases hp with ⟨h0, h1, h2⟩ | ⟨h0, h1, h2⟩ | ⟨h1, h2⟩
  · dsimp only at h0 h1 h2
    subst h0
    rw [if_pos rfl]
    obtain ⟨n, rfl⟩ := Int.eq_ofNat_of_zero_le h1
    rw [Int.toNat_natCast]
    go_enter Tryd.func21, Tryd.ntmps21
    go_wp2_with fail
    refine (numberC n (by omega) _).mono ?_; rintro e w1 ⟨rfl, rfl⟩
    go_wp2_with fail
    go_ret
    exact ⟨rfl, HB.out⟩
  · dsimp only at h0 h1 h2
    subst h0
    rw [if_neg (by omega), if_pos rfl]
    obtain ⟨n, rfl⟩ := Int.eq_ofNat_of_zero_le h1
    rw [Int.toNat_natCast]
    have l1 := dec_len (n := n) (by omega)
    have HN := Lib.hid (fun w => numberC n (by omega) w)
    obtain ⟨x, hx⟩ : ∃ x, Lib.decDigits n = x := ⟨_, rfl⟩
    rw [hx] at HN l1 ⊢
    go_enter Tryd.func21, Tryd.ntmps21
    go_wp2_with fail
    refine (HN.out _).mono ?_; rintro e w1 ⟨rfl, rfl⟩
    go_wp2_with fail
    go_ret
    exact ⟨congrArg (fun b => Ending.returned (.string b)) (bts_app [114] x), HB.out⟩
  · dsimp only at h1 h2
    rw [if_neg (by omega), if_neg (by omega)]
    obtain ⟨k, rfl⟩ := Int.eq_ofNat_of_zero_le (show 0 ≤ kd by omega)
    rw [Int.toNat_natCast]
    have hk2 : 2 ≤ k := by omega
    have hk8 : k ≤ 8 := by omega
    have HW := Lib.hid (word_at k hk2 hk8)
    have e0 : ((k : Int) == 0) = false := by rw [beq_eq_false_iff_ne]; omega
    have e1 : ((k : Int) == 1) = false := by rw [beq_eq_false_iff_ne]; omega
    obtain ⟨x, hx⟩ : ∃ x, kindW.getD (k - 2) [] = x := ⟨_, rfl⟩
    rw [hx] at HW ⊢
    clear hx h1 h2
    have HP := Lib.hid (Blk.new w 39 #[.int .i64 (k : Int), .int .i64 pa, .int .i64 pb, .int .i64 pc, .int .i64 nn])
    have KX := Lib.hid (fun (W' : World) (hb : Below (w.alloc (.cells #[.int .i64 (k : Int), .int .i64 pa, .int .i64 pb, .int .i64 pc, .int .i64 nn] 39)).heap.size (w.alloc (.cells #[.int .i64 (k : Int), .int .i64 pa, .int .i64 pb, .int .i64 pc, .int .i64 nn] 39)) W') => (show W'.cell? ⟨w.heap.size, 0, none⟩ = some (.int .i64 (k : Int)) from (HP.out.below hb HP.out.lt).cell 0))
    have hRF := (Below.refl (w.alloc (.cells #[.int .i64 (k : Int), .int .i64 pa, .int .i64 pb, .int .i64 pc, .int .i64 nn] 39)).heap.size (w.alloc (.cells #[.int .i64 (k : Int), .int .i64 pa, .int .i64 pb, .int .i64 pc, .int .i64 nn] 39))).drew
    clear HP
    go_enter Tryd.func21, Tryd.ntmps21
    go_wp2_with fail
    have hK := KX.out _ hRF
    have hi0 : (0 : Int) ≤ (k : Int) := by omega
    have hi9 : (k : Int) < 9 := by omega
    go_region_with (go_at_call 35; refine (partWordsC (b := w.heap.size + 1) _ (by simp)).mono ?_; rintro e w7 ⟨rfl, b7, k7⟩; have hb7 := hRF.trans (b7.mono hRF.size); have c7 : w7.cell? ⟨w.heap.size + 1, k, none⟩ = some (strV x) := (k7.cell k).trans HW.out; have c0 := KX.out _ hb7)
    all_goals
      go_wp2_with fail
      go_ret
      exact ⟨rfl, HB.out.trans (hb7.mono HB.out.size)⟩
end Go.Proofs.YtdhjejpcppmejaaDoor
