/-
  spec.changed.
-/
import Derived.Test.YtmmegmefiihabaaApply
namespace Go.Proofs.Ytmmegmefiihabaa
open Go.RowKit

theorem RetP.lift {p : List Int × Bool} {w w1 w' : World} {e : Ending} (h : RetP p w1 e w') (hb : Below w.heap.size w w1) : RetP p w e w' := by
  obtain ⟨A, c, h1, h2, h3⟩ := h
  exact ⟨A, c, h1, h2.mono hb.size (Nat.le_refl _), hb.trans (h3.mono hb.size)⟩

set_option maxRecDepth 100000 in
set_option maxHeartbeats 3200000 in
theorem changed {A : Option Addr} {c n B : Nat} {w : World} (xs : List Int) (ch : Chg) (ln : xs.length = n) (hn : n ≤ 1048500) (hc : n ≤ c) (hA : A = none → c = 0) (h : RdI w B A xs) (hB : B ≤ w.heap.size) (h30 : In30 xs) :
    Calls Try.prog 58 #[.slice A n c, vC ch] w (RetP (optP (stepA xs ch)) w) := by
  subst ln
  obtain ⟨kd, ky, aa⟩ := ch
  dsimp only [vC]
  obtain ⟨w1, hw1⟩ : ∃ w1, w1 = w.alloc (.cells #[.int .i64 kd, .int .i64 ky, .int .i64 aa] 32) := ⟨_, rfl⟩
  have hz1 : w1.heap.size = w.heap.size + 1 := by rw [hw1]; simp
  have b1 : Below w.heap.size w w1 := by rw [hw1]; exact (Below.refl _ _).alloc (Nat.le_refl _) _
  have bx : Blk w1 w.heap.size 32 #[.int .i64 kd, .int .i64 ky, .int .i64 aa] := by rw [hw1]; exact Blk.new _ _ _
  have H := Lib.hid (h.belowLe b1 hB); clear h
  have HZ := Lib.hid hz1
  have B1 := Lib.hid b1
  have K9 := Lib.hid (fun (W : World) (hb : Below w1.heap.size w1 W) => (show W.cell? ⟨w.heap.size, 1, none⟩ = some (.int .i64 ky) ∧ W.cell? ⟨w.heap.size, 2, none⟩ = some (.int .i64 aa) from
    ⟨(bx.below hb (by omega)).cell 1, (bx.below hb (by omega)).cell 2⟩))
  have k1 := bx.cell 1
  have k2 := bx.cell 2
  have HPOS := Lib.hid (show ∀ x ∈ xs, 0 ≤ x from fun x hx => (h30 x hx).1)
  have H30 := Lib.hid h30; clear h30
  have PL := Lib.hid (placeIn (x := ky) (c := c) (w := w1) xs rfl (by omega) H.out)
  have hBw : B ≤ w1.heap.size := by omega
  clear b1 bx k1 k2
  cases hm : memB ky xs
  case false =>
    rw [plc_none hm] at PL
    by_cases h1 : kd = 1
    case pos =>
      subst h1
      have HS := Lib.hid (show optP (stepA xs ⟨1, ky, aa⟩) = optP (behF xs aa ky) from by unfold stepA behF; simp [hm])
      have PB := Lib.hid (putBehind (w := w1) (c := c) xs aa ky rfl (by omega) hc hA H.out hBw HPOS.out)
      subst hw1
      clear hm
      go_enter Try.func58, Try.ntmps58
      go_wp2_with (first
        | (go_at_call 80; refine PL.out.mono ?_; rintro e w' ⟨rfl, rfl⟩)
        | (go_at_call 86; refine PB.out.mono ?_; rintro e w2 ⟨A2, c2, rfl, s2, b2⟩))
      go_ret2
      rw [HS.out]
      exact RetP.lift ⟨A2, c2, rfl, s2, b2⟩ B1.out
    case neg =>
      have HS := Lib.hid (show optP (stepA xs ⟨kd, ky, aa⟩) = ([], false) from by unfold stepA; simp only [hm]; by_cases h0 : kd = 0 <;> simp [h0, h1, optP])
      have h1b : (kd == 1) = false := by rw [beq_eq_false_iff_ne]; exact h1
      clear hm h1
      subst hw1
      by_cases h0 : kd = 0
      · subst h0
        clear h1b
        go_enter Try.func58, Try.ntmps58
        go_wp2_with (go_at_call 80; refine PL.out.mono ?_; rintro e w' ⟨rfl, rfl⟩)
        go_ret2
        exact RetP.bad HS.out B1.out
      · have h0b : (kd == 0) = false := by rw [beq_eq_false_iff_ne]; exact h0
        clear h0
        by_cases h2 : kd = 2
        · subst h2
          clear h1b h0b
          go_enter Try.func58, Try.ntmps58
          go_wp2_with (go_at_call 80; refine PL.out.mono ?_; rintro e w' ⟨rfl, rfl⟩)
          go_ret2
          exact RetP.bad HS.out B1.out
        · have h2b : (kd == 2) = false := by rw [beq_eq_false_iff_ne]; exact h2
          clear h2
          go_enter Try.func58, Try.ntmps58
          go_wp2_with (go_at_call 80; refine PL.out.mono ?_; rintro e w' ⟨rfl, rfl⟩)
          go_ret2
          exact RetP.bad HS.out B1.out
  case true =>
    obtain ⟨e1, hi⟩ := plc_idx hm
    have HDL := Lib.hid (delF_len hm)
    obtain ⟨i, hi0⟩ : ∃ i, idx ky xs = i := ⟨_, rfl⟩
    have HDEL := Lib.hid (show delF xs ky = xs.take i ++ xs.drop (i + 1) from by unfold delF; rw [hi0])
    rw [e1, hi0] at PL
    rw [hi0] at hi
    have HM := Lib.hid hm
    obtain ⟨ad, rfl⟩ : ∃ ad, A = some ad := by obtain ⟨ad, h, _⟩ := H.out.at_ hi; exact ⟨ad, h⟩
    have hk1 : (0 : Int) ≤ (i : Int) + 1 := by omega
    have hk2 : (i : Int) + 1 ≤ (c : Int) := by omega
    have hk3 : (i : Int) + 1 ≤ (xs.length : Int) := by omega
    have hk4 : (i : Int) ≤ (c : Int) := by omega
    have hk5 : (i : Int) ≤ (xs.length : Int) := by omega
    have hk6 : (0 : Int) ≤ (i : Int) := by omega
    have hwr : IntKind.i64.wrap ((i : Int) + 1) = (i : Int) + 1 := IntWalk.i64_in _ (by omega)
    have htn : ((i : Int) + 1).toNat = i + 1 := by omega
    clear e1 hi0
    obtain ⟨ps, has⟩ : ∃ ps, ps = xs.take i := ⟨_, rfl⟩
    have HAL := Lib.hid (show ps.length = i by rw [has, List.length_take]; omega)
    have RA := Lib.hid (show RdI w1.drew w1.heap.size (some ad) ps by rw [has]; exact (H.out.more hBw).take _)
    obtain ⟨bs, hbs⟩ : ∃ bs, bs = xs.drop (i + 1) := ⟨_, rfl⟩
    have HBL := Lib.hid (show bs.length = xs.length - (i + 1) by rw [hbs, List.length_drop])
    have RB := Lib.hid (show RdI w1.drew w1.heap.size (if c = i + 1 then some ad else some (ad.add (i + 1))) bs by
      have h2 := (H.out.more hBw).from_ (k := i + 1) (c := c) (fun h => by omega)
      rw [hbs]; exact h2)
    have HDE := Lib.hid (show delF xs ky = ps ++ bs from by rw [HDEL.out, has, hbs])
    clear has hbs hm HDEL
    by_cases h1 : kd = 1
    case pos =>
      subst h1
      have HS := Lib.hid (show optP (stepA xs ⟨1, ky, aa⟩) = ([], false) from by unfold stepA; simp [HM.out, optP])
      clear RA RB HAL HBL HDE HDL HM
      subst hw1
      go_enter Try.func58, Try.ntmps58
      go_wp2_with (go_at_call 80; refine PL.out.mono ?_; rintro e w' ⟨rfl, rfl⟩)
      go_ret2
      exact RetP.bad HS.out B1.out
    case neg =>
    have h1b : (kd == 1) = false := by rw [beq_eq_false_iff_ne]; exact h1
    by_cases h0 : kd = 0
    case pos =>
      subst h0
      clear h1 h1b
      by_cases ha : aa = -1
      case neg =>
        have HS := Lib.hid (show optP (stepA xs ⟨0, ky, aa⟩) = ([], false) from by unfold stepA; simp [HM.out, optP, ha])
        have hab : (aa != -1) = true := by simp [ha]
        clear RA RB HAL HBL HDE HDL HM ha
        subst hw1
        go_enter Try.func58, Try.ntmps58
        go_wp2_with (go_at_call 80; refine PL.out.mono ?_; rintro e w' ⟨rfl, rfl⟩)
        go_ret2
        exact RetP.bad HS.out B1.out
      case pos =>
        subst ha
        have HS := Lib.hid (show optP (stepA xs ⟨0, ky, -1⟩) = (ps ++ bs, true) from by unfold stepA; simp [HM.out, optP, HDE.out])
        clear HDE HM
        by_cases hck : c = i + 1
        · obtain rfl : bs = [] := List.eq_nil_of_length_eq_zero (by have := HBL.out; omega)
          have RB' := Lib.hid (show RdI w1.drew w1.heap.size (some ad) [] from RdI.nil)
          subst hck
          have hkk : (i : Int) ≤ (i : Int) + 1 := by omega
          clear RB HBL
          subst hw1
          go_enter Try.func58, Try.ntmps58
          go_wp2_with (go_at_call 80; refine PL.out.mono ?_; rintro e w' ⟨rfl, rfl⟩)
          have hmx : Try.prog.follows .mixedOrders = true := by kernel_rfl
          obtain ⟨w1, hw1⟩ : ∃ w1, w1 = w.alloc (.cells #[.int .i64 0, .int .i64 ky, .int .i64 (-1)] 32) := ⟨_, rfl⟩
          rw [← hw1] at RA RB' B1 HZ H K9 ⊢
          clear hw1
          have hz1 := HZ.out
          go_region_held3 (fun _ => True) (trivial)
            ((first
            | (go_at_call 57; refine (copyInts ps HAL.out (by omega) RA.out (Nat.le_refl _)).mono ?_; rintro e w9 ⟨A9, c9, rfl, s9, b9⟩; have b7 := (Below.refl w1.heap.size w1).drew.trans b9)
            | (refine step_appI (.tmp 25) (.tmp 29) rfl rfl ps [] rfl rfl s9 rfl rfl (RB'.out.belowLe b9 (Nat.le_refl _)) (by have := HAL.out; omega) b9.size ?_; intro A10 c10 w10 h10 t10 _; have b7 := Below.new b7 t10 (Nat.le_refl _) (Nat.le_refl _))))
          have KF : ∀ n, (ps ++ []).length = n → RetP (optP (stepA xs ⟨0, ky, -1⟩)) w (.returned (.tuple #[.slice A10 n c10, .bool true])) w10 := fun n hn => by
            rw [HS.out]
            exact RetP.ok rfl hn ((h10.all t10 (Nat.le_refl _)).mono (by show w.heap.size ≤ w1.heap.size; omega) (Nat.le_refl _)) (B1.out.trans (b7.mono (by omega)))
          have KF := Lib.hid KF
          clear s9 b9 h10 t10 b7
          go_wp2_with fail
          go_ret2
          exact KF.out _ (by have h1 := HAL.out; first | (simp; done) | (simp; omega))
        · have RB' := Lib.hid (show RdI w1.drew w1.heap.size (some (ad.add (i + 1))) bs by have h2 := RB.out; rwa [if_neg hck] at h2)
          clear RB
          subst hw1
          go_enter Try.func58, Try.ntmps58
          go_wp2_with (go_at_call 80; refine PL.out.mono ?_; rintro e w' ⟨rfl, rfl⟩)
          have hmx : Try.prog.follows .mixedOrders = true := by kernel_rfl
          obtain ⟨w1, hw1⟩ : ∃ w1, w1 = w.alloc (.cells #[.int .i64 0, .int .i64 ky, .int .i64 (-1)] 32) := ⟨_, rfl⟩
          rw [← hw1] at RA RB' B1 HZ H K9 ⊢
          clear hw1
          have hz1 := HZ.out
          go_region_held3 (fun _ => True) (trivial)
            ((first
            | (go_at_call 57; refine (copyInts ps HAL.out (by omega) RA.out (Nat.le_refl _)).mono ?_; rintro e w9 ⟨A9, c9, rfl, s9, b9⟩; have b7 := (Below.refl w1.heap.size w1).drew.trans b9)
            | (refine step_appI (.tmp 25) (.tmp 29) rfl rfl ps bs rfl rfl s9 rfl HBL.out (RB'.out.belowLe b9 (Nat.le_refl _)) (by have := HAL.out; omega) b9.size ?_; intro A10 c10 w10 h10 t10 _; have b7 := Below.new b7 t10 (Nat.le_refl _) (Nat.le_refl _))))
          have KF : ∀ n, (ps ++ bs).length = n → RetP (optP (stepA xs ⟨0, ky, -1⟩)) w (.returned (.tuple #[.slice A10 n c10, .bool true])) w10 := fun n hn => by
            rw [HS.out]
            exact RetP.ok rfl hn ((h10.all t10 (Nat.le_refl _)).mono (by show w.heap.size ≤ w1.heap.size; omega) (Nat.le_refl _)) (B1.out.trans (b7.mono (by omega)))
          have KF := Lib.hid KF
          clear s9 b9 h10 t10 b7
          go_wp2_with fail
          go_ret2
          exact KF.out _ (by have h1 := HAL.out; have h2 := HBL.out; first | (simp; done) | (simp; omega))
    case neg =>
    have h0b : (kd == 0) = false := by rw [beq_eq_false_iff_ne]; exact h0
    by_cases h2 : kd = 2
    case neg =>
      have h2b : (kd == 2) = false := by rw [beq_eq_false_iff_ne]; exact h2
      have HS := Lib.hid (show optP (stepA xs ⟨kd, ky, aa⟩) = ([], false) from by unfold stepA; simp [h0, h1, h2, optP])
      clear RA RB HAL HBL HDE HDL HM h0 h1 h2
      subst hw1
      go_enter Try.func58, Try.ntmps58
      go_wp2_with (go_at_call 80; refine PL.out.mono ?_; rintro e w' ⟨rfl, rfl⟩)
      go_ret2
      exact RetP.bad HS.out B1.out
    case pos =>
      subst h2
      clear h0 h1 h0b h1b
      have HS := Lib.hid (show optP (stepA xs ⟨2, ky, aa⟩) = optP (behF (ps ++ bs) aa ky) from by
        have hb : inB ky 0 30 = true := by
          have hm : ky ∈ xs := by simpa [memB] using HM.out
          exact inB_iff.2 (H30.out ky hm)
        unfold stepA behF
        simp [HM.out, hb, HDE.out])
      have HP2 := Lib.hid (show ∀ x ∈ ps ++ bs, 0 ≤ x from fun x hx => HPOS.out x (delF_mem (by rw [HDE.out]; exact hx)))
      have PB := Lib.hid (fun (W : World) (A9 : Option Addr) (c9 n9 : Nat) (hn9 : (ps ++ bs).length = n9) (s9 : SlI W w1.heap.size W.heap.size A9 c9 (ps ++ bs)) => putBehind (w := W) (c := c9) (ps ++ bs) aa ky hn9 (by have := HAL.out; have := HBL.out; rw [← hn9, List.length_append]; omega) (by rw [← hn9]; exact s9.le) (fun hA => Sl.noAddr s9 (by rw [hA])) s9.rd (Nat.le_refl _) HP2.out)
      clear HDE HM
      by_cases hck : c = i + 1
      · obtain rfl : bs = [] := List.eq_nil_of_length_eq_zero (by have := HBL.out; omega)
        have RB' := Lib.hid (show RdI w1.drew w1.heap.size (some ad) [] from RdI.nil)
        subst hck
        have hkk : (i : Int) ≤ (i : Int) + 1 := by omega
        clear RB HBL
        subst hw1
        go_enter Try.func58, Try.ntmps58
        go_wp2_with (go_at_call 80; refine PL.out.mono ?_; rintro e w' ⟨rfl, rfl⟩)
        have hmx : Try.prog.follows .mixedOrders = true := by kernel_rfl
        obtain ⟨w1, hw1⟩ : ∃ w1, w1 = w.alloc (.cells #[.int .i64 2, .int .i64 ky, .int .i64 aa] 32) := ⟨_, rfl⟩
        rw [← hw1] at RA RB' B1 HZ H K9 PB ⊢
        clear hw1
        have hz1 := HZ.out
        obtain ⟨k1, k2⟩ := K9.out w1 (Below.refl _ _)
        go_region_held3 (fun w' => w'.cell? ⟨w.heap.size, 1, none⟩ = some (.int .i64 ky) ∧ w'.cell? ⟨w.heap.size, 2, none⟩ = some (.int .i64 aa)) (first | go_keep | exact K9.out _ b7)
          ((first
          | (go_at_call 57; refine (copyInts ps HAL.out (by omega) RA.out (Nat.le_refl _)).mono ?_; rintro e w9 ⟨A9, c9, rfl, s9, b9⟩; have b7 := (Below.refl w1.heap.size w1).drew.trans b9)
          | (refine step_appI (.tmp 50) (.tmp 54) rfl rfl ps [] rfl rfl s9 rfl rfl (RB'.out.belowLe b9 (Nat.le_refl _)) (by have := HAL.out; omega) b9.size ?_; intro A10 c10 w10 h10 t10 _; have b7 := Below.new b7 t10 (Nat.le_refl _) (Nat.le_refl _))
          | (go_at_call 86; go_fit (PB.out _ _ _ _ (by have h1 := HAL.out; first | (simp; done) | (simp; omega)) (h10.all t10 (Nat.le_refl _))); rintro e w11 ⟨A11, c11, rfl, s11, b11⟩; have b7 := b7.trans (b11.mono b7.size))))
        have KF := Lib.hid (show RetP (optP (stepA xs ⟨2, ky, aa⟩)) w (.returned (.tuple #[.slice A11 (optP (behF (ps ++ []) aa ky)).1.length c11, .bool (optP (behF (ps ++ []) aa ky)).2])) w11 from by
          rw [HS.out]
          exact ⟨A11, c11, rfl, s11.mono (by have := b11.size; have := B1.out.size; have : w1.heap.size ≤ w10.heap.size := t10.size |> fun h => Nat.le_trans b9.size h; omega) (Nat.le_refl _), B1.out.trans (b7.mono (by omega))⟩)
        clear s9 b9 h10 t10 s11 b11 b7
        go_wp2_with fail
        go_ret2
        first
          | exact KF.out
          | (have h := KF.out; simp only [List.append_nil] at h; exact h)
      · have RB' := Lib.hid (show RdI w1.drew w1.heap.size (some (ad.add (i + 1))) bs by have h2 := RB.out; rwa [if_neg hck] at h2)
        clear RB
        subst hw1
        go_enter Try.func58, Try.ntmps58
        go_wp2_with (go_at_call 80; refine PL.out.mono ?_; rintro e w' ⟨rfl, rfl⟩)
        have hmx : Try.prog.follows .mixedOrders = true := by kernel_rfl
        obtain ⟨w1, hw1⟩ : ∃ w1, w1 = w.alloc (.cells #[.int .i64 2, .int .i64 ky, .int .i64 aa] 32) := ⟨_, rfl⟩
        rw [← hw1] at RA RB' B1 HZ H K9 PB ⊢
        clear hw1
        have hz1 := HZ.out
        obtain ⟨k1, k2⟩ := K9.out w1 (Below.refl _ _)
        go_region_held3 (fun w' => w'.cell? ⟨w.heap.size, 1, none⟩ = some (.int .i64 ky) ∧ w'.cell? ⟨w.heap.size, 2, none⟩ = some (.int .i64 aa)) (first | go_keep | exact K9.out _ b7)
          ((first
          | (go_at_call 57; refine (copyInts ps HAL.out (by omega) RA.out (Nat.le_refl _)).mono ?_; rintro e w9 ⟨A9, c9, rfl, s9, b9⟩; have b7 := (Below.refl w1.heap.size w1).drew.trans b9)
          | (refine step_appI (.tmp 50) (.tmp 54) rfl rfl ps bs rfl rfl s9 rfl HBL.out (RB'.out.belowLe b9 (Nat.le_refl _)) (by have := HAL.out; omega) b9.size ?_; intro A10 c10 w10 h10 t10 _; have b7 := Below.new b7 t10 (Nat.le_refl _) (Nat.le_refl _))
          | (go_at_call 86; go_fit (PB.out _ _ _ _ (by have h1 := HAL.out; have h2 := HBL.out; first | (simp; done) | (simp; omega)) (h10.all t10 (Nat.le_refl _))); rintro e w11 ⟨A11, c11, rfl, s11, b11⟩; have b7 := b7.trans (b11.mono b7.size))))
        have KF := Lib.hid (show RetP (optP (stepA xs ⟨2, ky, aa⟩)) w (.returned (.tuple #[.slice A11 (optP (behF (ps ++ bs) aa ky)).1.length c11, .bool (optP (behF (ps ++ bs) aa ky)).2])) w11 from by
          rw [HS.out]
          exact ⟨A11, c11, rfl, s11.mono (by have := b11.size; have := B1.out.size; have : w1.heap.size ≤ w10.heap.size := t10.size |> fun h => Nat.le_trans b9.size h; omega) (Nat.le_refl _), B1.out.trans (b7.mono (by omega))⟩)
        clear s9 b9 h10 t10 s11 b11 b7
        go_wp2_with fail
        go_ret2
        first
          | exact KF.out
          | (have h := KF.out; simp only [List.append_nil] at h; exact h)

end Go.Proofs.Ytmmegmefiihabaa
