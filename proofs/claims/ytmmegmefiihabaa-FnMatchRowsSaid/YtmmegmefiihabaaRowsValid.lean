/-
  impl.rowsValid.
-/
import Derived.Test.YtmmegmefiihabaaMatchIdx
import Derived.Test.YtmmegmefiihabaaPatchLaw
import Derived.Test.YtmmegmefiihabaaMatchStep
import Derived.Deep.RegionHeld3
namespace Go.Proofs.Ytmmegmefiihabaa
open Go.RowKit

theorem Blk.newAt {w : World} {g : Nat} {t : TypeId} {cs : Array Value} (hg : w.heap.size = g) : Blk (w.alloc (.cells cs t)) g t cs := hg ▸ Blk.new w t cs
/-- two slices of ints that the call owns, apart from one another -/
def RV (w W : World) (lo1 hi1 : Nat) (A1 : Option Addr) (c1 : Nat) (ks : List Int) (lo2 hi2 : Nat) (A2 : Option Addr) (c2 : Nat) (is : List Int) : Prop :=
  SlI W lo1 hi1 A1 c1 ks ∧ SlI W lo2 hi2 A2 c2 is ∧ w.heap.size ≤ lo1 ∧ w.heap.size ≤ lo2 ∧ lo1 ≤ W.heap.size ∧ lo2 ≤ W.heap.size ∧ hi1 ≤ W.heap.size ∧ hi2 ≤ W.heap.size ∧ (hi1 ≤ lo2 ∨ hi2 ≤ lo1) ∧ Below w.heap.size w W ∧ w.heap.size ≤ W.heap.size
section
variable {w W W' : World} {lo1 hi1 c1 lo2 hi2 c2 lo' hi' c' : Nat} {A1 A2 A' : Option Addr} {ks is zs : List Int}
theorem RV.drew (h : RV w W lo1 hi1 A1 c1 ks lo2 hi2 A2 c2 is) : RV w W.drew lo1 hi1 A1 c1 ks lo2 hi2 A2 c2 is := by
  obtain ⟨h1, h2, h3, h4, h5, h6, h7, h8, h9, h10, h11⟩ := h
  exact ⟨h1, h2, h3, h4, h5, h6, h7, h8, h9, ⟨h10.os, h10.tape, h10.output, h10.size, h10.block⟩, h11⟩
theorem RV.alloc (h : RV w W lo1 hi1 A1 c1 ks lo2 hi2 A2 c2 is) (o : Obj) : RV w (W.alloc o) lo1 hi1 A1 c1 ks lo2 hi2 A2 c2 is := by
  obtain ⟨h1, h2, h3, h4, h5, h6, h7, h8, h9, h10, h11⟩ := h
  exact ⟨h1.alloc o, h2.alloc o, h3, h4, by simp; omega, by simp; omega, by simp; omega, by simp; omega, h9, h10.alloc h11 o, by simp; omega⟩
theorem RV.app1 (h : RV w W lo1 hi1 A1 c1 ks lo2 hi2 A2 c2 is) (s : SlI W' lo' hi' A' c' zs) (d : (lo' = lo1 ∧ hi' = hi1) ∨ (lo' = W.heap.size ∧ hi' = W'.heap.size)) (t : Turn lo1 hi1 W W') : RV w W' lo' hi' A' c' zs lo2 hi2 A2 c2 is := by
  obtain ⟨h1, h2, h3, h4, h5, h6, h7, h8, h9, h10, h11⟩ := h
  have hz := t.size
  exact ⟨s, h2.turn t (by omega), by omega, h4, by omega, by omega, by omega, by omega, by omega, h10.trans ((t.below h5).mono h3), by omega⟩
theorem RV.app2 (h : RV w W lo1 hi1 A1 c1 ks lo2 hi2 A2 c2 is) (s : SlI W' lo' hi' A' c' zs) (d : (lo' = lo2 ∧ hi' = hi2) ∨ (lo' = W.heap.size ∧ hi' = W'.heap.size)) (t : Turn lo2 hi2 W W') : RV w W' lo1 hi1 A1 c1 ks lo' hi' A' c' zs := by
  obtain ⟨h1, h2, h3, h4, h5, h6, h7, h8, h9, h10, h11⟩ := h
  have hz := t.size
  exact ⟨h1.turn t (by omega), s, h3, by omega, by omega, by omega, by omega, by omega, by omega, h10.trans ((t.below h6).mono h4), by omega⟩
end

set_option maxRecDepth 100000 in
set_option maxHeartbeats 1600000 in
theorem rowsValid {A : Option Addr} {c n B : Nat} {w : World} (rs : List Rwx) (nx : Int) (ln : rs.length = n) (hn : n ≤ 1048576) (h : RdQ w B A rs) (hB : B ≤ w.heap.size) :
    Calls Try.prog 73 #[.slice A n c, .int .i64 nx] w fun e w' => e = .returned (.bool (rowsVB rs nx)) ∧ Below w.heap.size w w' := by
  subst ln
  go_enter Try.func73, Try.ntmps73
  go_wp2_with fail
  go_loopw [5, 6, 11] (fun v1 v2 i wr => ∃ (k : Nat) (lo1 hi1 : Nat) (A1 : Option Addr) (c1 lo2 hi2 : Nat) (A2 : Option Addr) (c2 : Nat), k ≤ rs.length ∧ i = .int .i64 k ∧ v1 = .slice A1 k c1 ∧ v2 = .slice A2 k c2 ∧ RV w wr lo1 hi1 A1 c1 ((rs.take k).map (·.ky)) lo2 hi2 A2 c2 ((rs.take k).map (·.no)) ∧ (∀ x ∈ (rs.take k).map (·.no), inB x 0 (prevI nx) = true) ∧ ((rs.take k).map (·.no)).Nodup) (fun _ _ i _ => rs.length - (intOf i).toNat)
  case atStart => exact ⟨0, w.heap.size, w.heap.size, none, 0, w.heap.size, w.heap.size, none, 0, Nat.zero_le _, rfl, rfl, rfl, ⟨SlI.nil, SlI.nil, Nat.le_refl _, Nat.le_refl _, Nat.le_refl _, Nat.le_refl _, Nat.le_refl _, Nat.le_refl _, .inl (Nat.le_refl _), Below.refl _ _, Nat.le_refl _⟩, by simp, by simp⟩
  case round =>
    obtain ⟨k, lo1, hi1, A1, c1, lo2, hi2, A2, c2, hk, rfl, rfl, rfl, hrv, hall, hnd⟩ := hrel
    have R := Lib.hid hrv
    have hsz := hrv.2.2.2.2.2.2.2.2.2.2
    have hbw := hrv.2.2.2.2.2.2.2.2.2.1
    have HALL := Lib.hid hall
    have HND := Lib.hid hnd
    clear hrv hall hnd
    by_cases hlt : k < rs.length
    · obtain ⟨g, o, hA, hgB, k0, k1⟩ := RdQ_at (h.belowLe hbw hB) hlt
      subst hA
      have HT1 := Lib.hid (show (rs.take (k + 1)).map (·.ky) = (rs.take k).map (·.ky) ++ [rs[k].ky] from by rw [List.take_succ_eq_append_getElem hlt, List.map_append]; rfl)
      have HT2 := Lib.hid (show (rs.take (k + 1)).map (·.no) = (rs.take k).map (·.no) ++ [rs[k].no] from by rw [List.take_succ_eq_append_getElem hlt, List.map_append]; rfl)
      have hle1 : ((rs.take k).map (·.ky)).length = k := by rw [List.length_map, List.length_take]; omega
      have hle2 : ((rs.take k).map (·.no)).length = k := by rw [List.length_map, List.length_take]; omega
      have hmem : rs[k].no ∈ rs.map (·.no) := List.mem_map.2 ⟨rs[k], List.getElem_mem hlt, rfl⟩
      have hspl : rs.map (·.no) = (rs.take k).map (·.no) ++ rs[k].no :: (rs.drop (k + 1)).map (·.no) := by
        rw [← List.map_cons (f := fun r : Rwx => r.no), ← List.map_append, ← List.drop_eq_getElem_cons hlt, List.take_append_drop]
      obtain ⟨x, hx⟩ : ∃ x, rs[k] = x := ⟨_, rfl⟩
      rw [hx] at k0 k1 HT1 HT2 hmem hspl
      obtain ⟨ky, no⟩ := x
      simp only at k0 k1 HT1 HT2 hmem hspl
      obtain ⟨ks, hks⟩ : ∃ ks, (rs.take k).map (·.ky) = ks := ⟨_, rfl⟩
      obtain ⟨is, his⟩ : ∃ is, (rs.take k).map (·.no) = is := ⟨_, rfl⟩
      rw [hks] at R HT1 hle1
      rw [his] at R HT2 hle2 HALL HND hspl
      have HL1 := Lib.hid hle1
      have HL2 := Lib.hid hle2
      have HMEM := Lib.hid hmem
      have HSPL := Lib.hid hspl
      have BAD1 := Lib.hid (fun (hi : inB no 0 (prevI nx) = false) => (show rowsVB rs nx = false from by
        have : allB 0 (prevI nx) (rs.map (·.no)) = false := by
          rw [Bool.eq_false_iff]; intro ha
          have := allB_iff.1 ha no hmem
          rw [inB_no] at hi
          exact hi this
        unfold rowsVB; rw [this]; simp))
      have BAD2 := Lib.hid (fun (hi : memB no is = true) => (show rowsVB rs nx = false from by
        have : nodupB (rs.map (·.no)) = false := by
          unfold nodupB
          refine decide_eq_false fun hn => ?_
          rw [hspl] at hn
          have hm : no ∈ is := by simpa [memB] using hi
          exact (nodup_mid hn).1 hm
        unfold rowsVB; rw [this]; simp))
      have hk0 : (0 : Int) ≤ (k : Int) := Int.natCast_nonneg _
      have hk1 : (k : Int) < (rs.length : Int) := by omega
      have R0 := Lib.hid (R.out.alloc (.cells #[.int .i64 ky, .int .i64 no] 60))
      have BX := Lib.hid (Blk.new wr 60 #[.int .i64 ky, .int .i64 no])
      have CN := Lib.hid (slicesContains (x := no) (c := c2) (w := wr.alloc (.cells #[.int .i64 ky, .int .i64 no] 60)) is rfl (by omega) R0.out.2.1.rd)
      rw [HL2.out] at CN
      have ewp : IntKind.i64.wrap (nx - 1) = prevI nx := rfl
      have hbw2 := Lib.hid hbw
      clear hx hks his hle1 hle2 hmem hspl h hbw
      cases hin : inB no 0 (prevI nx)
      · have HF := Lib.hid (BAD1.out hin)
        have HI := Lib.hid hin
        clear hin BAD1 BAD2
        go_wp2_with (go_at_call 54; refine in_.mono ?_; rintro e w3 ⟨rfl, rfl⟩; rw [HI.out])
        go_ret
        exact ⟨ret_bool HF.out.symm, R0.out.2.2.2.2.2.2.2.2.2.1⟩
      · have HI := Lib.hid hin
        clear hin BAD1
        cases hct : memB no is
        · have HCT := Lib.hid hct
          rw [hct] at CN
          clear hct BAD2
          go_wp2_with (first
            | (go_at_call 54; refine in_.mono ?_; rintro e w3 ⟨rfl, rfl⟩; rw [HI.out])
            | (go_at_call 61; refine CN.out.mono ?_; rintro e w3 ⟨rfl, rfl⟩))
          obtain ⟨W, hW⟩ : ∃ W, W = wr.alloc (.cells #[.int .i64 ky, .int .i64 no] 60) := ⟨_, rfl⟩
          rw [← hW] at R0 BX ⊢
          obtain ⟨b, hb⟩ : ∃ b, wr.heap.size = b := ⟨_, rfl⟩
          rw [hb] at BX ⊢
          have hbW : b < W.heap.size := BX.out.lt
          have hb1 : hi1 ≤ b := by rw [← hb]; exact R.out.2.2.2.2.2.2.1
          have hb2 : hi2 ≤ b := by rw [← hb]; exact R.out.2.2.2.2.2.2.2.1
          have hW1 : hi1 ≤ W.heap.size := by omega
          have hW2 : hi2 ≤ W.heap.size := by omega
          have e0 : W.cell? ⟨b, 0, none⟩ = some (.int .i64 ky) := BX.out.cell 0
          have e1 : W.cell? ⟨b, 1, none⟩ = some (.int .i64 no) := BX.out.cell 1
          have RD := Lib.hid (show RV w W.drew lo1 hi1 A1 c1 ks lo2 hi2 A2 c2 is from R0.out.drew)
          have hmx : Try.prog.follows .mixedOrders = true := by kernel_rfl
          have BX2 := Lib.hid BX.out
          clear hW hb R R0 BX CN
          have BXD := Lib.hid (show Blk W.drew b 60 #[.int .i64 ky, .int .i64 no] from BX2.out)
          go_region_held3 (fun w' => w'.cell? ⟨b, 0, none⟩ = some (.int .i64 ky) ∧ w'.cell? ⟨b, 1, none⟩ = some (.int .i64 no))
            (first | go_keep | exact ⟨bx7.cell 0, bx7.cell 1⟩ | exact ⟨bx9.cell 0, bx9.cell 1⟩)
            ((first
                | (refine step_appIS (.tmp 27) (.tmp 30) rfl rfl ks ky rfl HL1.out (RD.out.alloc (.cells #[.int .i64 ky] 3)).1 rfl (Blk.newAt (w := W.drew) rfl) (by omega) ?_; intro A7 c7 lo7 hi7 w7 h7 d7 t7; have r7 := (RD.out.alloc (.cells #[.int .i64 ky] 3)).app1 h7 d7 t7; have bx7 := t7.blk (BXD.out.alloc (.cells #[.int .i64 ky] 3)) (.inr hb1))
                | (refine step_appIS (.tmp 27) (.tmp 30) rfl rfl ks ky rfl HL1.out ((RD.out.alloc (.cells #[.int .i64 ky] 3)).alloc (.cells #[.int .i64 no] 3)).1 rfl ((Blk.newAt (w := W.drew) rfl).alloc (.cells #[.int .i64 no] 3)) (by omega) ?_; intro A7 c7 lo7 hi7 w7 h7 d7 t7; have r7 := ((RD.out.alloc (.cells #[.int .i64 ky] 3)).alloc (.cells #[.int .i64 no] 3)).app1 h7 d7 t7; have bx7 := t7.blk ((BXD.out.alloc (.cells #[.int .i64 ky] 3)).alloc (.cells #[.int .i64 no] 3)) (.inr hb1); have bb := t7.blk (Blk.newAt (w := W.drew.alloc (.cells #[.int .i64 ky] 3)) (g := W.heap.size + 1) (t := 3) (cs := #[.int .i64 no]) (by simp)) (.inr (by omega)))
                | (refine step_appIS (.tmp 27) (.tmp 30) rfl rfl ks ky rfl HL1.out ((RD.out.alloc (.cells #[.int .i64 no] 3)).alloc (.cells #[.int .i64 ky] 3)).1 rfl (Blk.newAt (w := W.drew.alloc (.cells #[.int .i64 no] 3)) (by simp)) (by omega) ?_; intro A7 c7 lo7 hi7 w7 h7 d7 t7; have r7 := ((RD.out.alloc (.cells #[.int .i64 no] 3)).alloc (.cells #[.int .i64 ky] 3)).app1 h7 d7 t7; have bx7 := t7.blk ((BXD.out.alloc (.cells #[.int .i64 no] 3)).alloc (.cells #[.int .i64 ky] 3)) (.inr hb1); have bb := t7.blk ((Blk.newAt (w := W.drew) (g := W.heap.size) (t := 3) (cs := #[.int .i64 no]) rfl).alloc (.cells #[.int .i64 ky] 3)) (.inr (by omega)))
                | (refine step_appIS (.tmp 32) (.tmp 35) rfl rfl is no rfl HL2.out (r7.alloc (.cells #[.int .i64 no] 3)).2.1 rfl (Blk.newAt (w := w7) rfl) (by omega) ?_; intro A9 c9 lo9 hi9 w9 h9 d9 t9; have rF := (r7.alloc (.cells #[.int .i64 no] 3)).app2 h9 d9 t9; have bx9 := t9.blk (bx7.alloc (.cells #[.int .i64 no] 3)) (.inr hb2))
                | (refine step_appIS (.tmp 32) (.tmp 35) rfl rfl is no rfl HL2.out r7.2.1 rfl bb (by omega) ?_; intro A9 c9 lo9 hi9 w9 h9 d9 t9; have rF := r7.app2 h9 d9 t9; have bx9 := t9.blk bx7 (.inr hb2))
                | (refine step_appIS (.tmp 32) (.tmp 35) rfl rfl is no rfl HL2.out (RD.out.alloc (.cells #[.int .i64 no] 3)).2.1 rfl (Blk.newAt (w := W.drew) rfl) (by omega) ?_; intro A9 c9 lo9 hi9 w9 h9 d9 t9; have r9 := (RD.out.alloc (.cells #[.int .i64 no] 3)).app2 h9 d9 t9; have bx9 := t9.blk (BXD.out.alloc (.cells #[.int .i64 no] 3)) (.inr hb2))
                | (refine step_appIS (.tmp 32) (.tmp 35) rfl rfl is no rfl HL2.out ((RD.out.alloc (.cells #[.int .i64 no] 3)).alloc (.cells #[.int .i64 ky] 3)).2.1 rfl ((Blk.newAt (w := W.drew) rfl).alloc (.cells #[.int .i64 ky] 3)) (by omega) ?_; intro A9 c9 lo9 hi9 w9 h9 d9 t9; have r9 := ((RD.out.alloc (.cells #[.int .i64 no] 3)).alloc (.cells #[.int .i64 ky] 3)).app2 h9 d9 t9; have bx9 := t9.blk ((BXD.out.alloc (.cells #[.int .i64 no] 3)).alloc (.cells #[.int .i64 ky] 3)) (.inr hb2); have ba := t9.blk (Blk.newAt (w := W.drew.alloc (.cells #[.int .i64 no] 3)) (g := W.heap.size + 1) (t := 3) (cs := #[.int .i64 ky]) (by simp)) (.inr (by omega)))
                | (refine step_appIS (.tmp 32) (.tmp 35) rfl rfl is no rfl HL2.out ((RD.out.alloc (.cells #[.int .i64 ky] 3)).alloc (.cells #[.int .i64 no] 3)).2.1 rfl (Blk.newAt (w := W.drew.alloc (.cells #[.int .i64 ky] 3)) (by simp)) (by omega) ?_; intro A9 c9 lo9 hi9 w9 h9 d9 t9; have r9 := ((RD.out.alloc (.cells #[.int .i64 ky] 3)).alloc (.cells #[.int .i64 no] 3)).app2 h9 d9 t9; have bx9 := t9.blk ((BXD.out.alloc (.cells #[.int .i64 ky] 3)).alloc (.cells #[.int .i64 no] 3)) (.inr hb2); have ba := t9.blk ((Blk.newAt (w := W.drew) (g := W.heap.size) (t := 3) (cs := #[.int .i64 ky]) rfl).alloc (.cells #[.int .i64 no] 3)) (.inr (by omega)))
                | (refine step_appIS (.tmp 27) (.tmp 30) rfl rfl ks ky rfl HL1.out (r9.alloc (.cells #[.int .i64 ky] 3)).1 rfl (Blk.newAt (w := w9) rfl) (by omega) ?_; intro A7 c7 lo7 hi7 w7 h7 d7 t7; have rF := (r9.alloc (.cells #[.int .i64 ky] 3)).app1 h7 d7 t7; have bx7 := t7.blk (bx9.alloc (.cells #[.int .i64 ky] 3)) (.inr hb1))
                | (refine step_appIS (.tmp 27) (.tmp 30) rfl rfl ks ky rfl HL1.out r9.1 rfl ba (by omega) ?_; intro A7 c7 lo7 hi7 w7 h7 d7 t7; have rF := r9.app1 h7 d7 t7; have bx7 := t7.blk bx9 (.inr hb1))))
          all_goals
            have RF := Lib.hid rF
            clear rF h7 d7 t7 h9 d9 t9 bx7 bx9
            go_wp2_with fail
            go_roundw
            case rel => exact ⟨k + 1, _, _, A7, c7, _, _, A9, c9, by omega, by go_num, rfl, rfl, by rw [HT1.out, HT2.out]; exact RF.out, by
              rw [HT2.out]; intro x hx
              rcases List.mem_append.1 hx with hx | hx
              · exact HALL.out x hx
              · rw [List.mem_singleton] at hx; subst hx; exact HI.out, by
              rw [HT2.out]
              have hnm : no ∉ is := by have := HCT.out; simpa [memB] using this
              rw [List.nodup_append]
              exact ⟨HND.out, by simp, fun a ha b' hb' => by rw [List.mem_singleton] at hb'; subst hb'; exact fun e => hnm (e ▸ ha)⟩⟩
            case measure => simp [intOf]; omega
        · have HCT := Lib.hid hct
          have HF := Lib.hid (BAD2.out hct)
          rw [hct] at CN
          clear hct BAD2
          go_wp2_with (first
            | (go_at_call 54; refine in_.mono ?_; rintro e w3 ⟨rfl, rfl⟩; rw [HI.out])
            | (go_at_call 61; refine CN.out.mono ?_; rintro e w3 ⟨rfl, rfl⟩))
          go_ret
          exact ⟨ret_bool HF.out.symm, R0.out.2.2.2.2.2.2.2.2.2.1⟩
    · have hkl : rs.take k = rs := List.take_of_length_le (by omega)
      have hkn : k = rs.length := by omega
      subst hkn
      rw [hkl] at R HALL HND
      obtain ⟨ks, hks⟩ : ∃ ks, rs.map (·.ky) = ks := ⟨_, rfl⟩
      have hle1 : ks.length = rs.length := by rw [← hks, List.length_map]
      have HR := Lib.hid (show rowsVB rs nx = (vkB ks && inB nx 0 100) from by
        have h1 : allB 0 (prevI nx) (rs.map (·.no)) = true := allB_iff.2 fun x hx => inB_iff.1 (HALL.out x hx)
        have h2 : nodupB (rs.map (·.no)) = true := decide_eq_true HND.out
        unfold rowsVB; rw [h1, h2, hks]; simp)
      rw [hks] at R
      have HBW := Lib.hid hbw
      have VK := Lib.hid (implValidKeys (c := c1) (w := wr) ks hle1 (by omega) (by have := R.out.1.le; omega) R.out.1.rd)
      clear hks hle1 hkl hbw h
      cases hv : vkB ks
      · rw [hv] at VK HR
        have HF := Lib.hid (show rowsVB rs nx = false from by rw [HR.out]; rfl)
        clear hv
        go_wp2_with fail
        refine VK.out.mono ?_; rintro e w3 ⟨rfl, rfl⟩
        go_wp2_with fail
        go_ret
        exact ⟨ret_bool HF.out.symm, HBW.out⟩
      · rw [hv] at VK HR
        have HF := Lib.hid (show rowsVB rs nx = inB nx 0 100 from by rw [HR.out]; rfl)
        clear hv
        go_wp2_with fail
        refine VK.out.mono ?_; rintro e w3 ⟨rfl, rfl⟩
        go_wp2_with fail
        refine in_.mono ?_; rintro e w4 ⟨rfl, rfl⟩
        go_wp2_with fail
        go_ret
        exact ⟨ret_bool HF.out.symm, HBW.out⟩
end Go.Proofs.Ytmmegmefiihabaa
