/-
  numberPart, moved; the closure number of impl.fold.
-/
import Derived.Test.YtlinngohbghimaaFold
import Derived.Test.YtlinngohbghimaaSub
import Derived.Deep.RegionHeld3
import Derived.Deep.DeepFit
namespace Go.Proofs.Ytlinngohbghimaa
open Go.RowKit

theorem numberPart {w : World} (v : Int) : Calls Try.prog 65 #[.int .i64 v] w fun e w' => e = .returned (vP (numP v)) ∧ Below w.heap.size w w' := by
  go_enter Try.func65, Try.ntmps65
  go_wp2
  refine bodyPost_ret (v := .agg #[.int .i64 0, .int .i64 (-1), .int .i64 (-1), .int .i64 (-1), .int .i64 v]) (by simp [results, Try.results65, go_sem]) rfl ⟨rfl, ?_⟩
  repeat first | exact Below.refl _ _ | refine Below.setCell ?_ (by first | (simp; done) | (simp; omega)) _ | refine Below.alloc ?_ (by first | (simp; done) | (simp; omega)) _

set_option maxHeartbeats 1600000 in
theorem specMoved {w : World} (x : Prt) (n : Int) : Calls Try.prog 73 #[vP x, .int .i64 n] w fun e w' => e = .returned (vP (movedP n x)) ∧ Below w.heap.size w w' := by
  obtain ⟨kd, pa, pb, pc, nn⟩ := x
  dsimp only [vP, movedP]
  by_cases h0 : 0 ≤ pa
  case pos =>
    have e0 : mvI n pa = wrap64 (pa + n) := by unfold mvI; rw [if_pos h0]
    by_cases h1 : 0 ≤ pb
    case pos =>
      have e1 : mvI n pb = wrap64 (pb + n) := by unfold mvI; rw [if_pos h1]
      by_cases h2 : 0 ≤ pc
      case pos =>
        have e2 : mvI n pc = wrap64 (pc + n) := by unfold mvI; rw [if_pos h2]
        rw [e0, e1, e2]
        clear e0 e1 e2
        go_enter Try.func73, Try.ntmps73
        go_wp2
        refine bodyPost_ret (v := .agg #[.int .i64 kd, .int .i64 (wrap64 (pa + n)), .int .i64 (wrap64 (pb + n)), .int .i64 (wrap64 (pc + n)), .int .i64 nn]) (by simp [results, Try.results73, go_sem]) rfl ⟨rfl, ?_⟩
        repeat first | exact Below.refl _ _ | refine Below.setCell ?_ (by first | (simp; done) | (simp; omega)) _ | refine Below.alloc ?_ (by first | (simp; done) | (simp; omega)) _
      case neg =>
      have e2 : mvI n pc = pc := by unfold mvI; rw [if_neg h2]
      rw [e0, e1, e2]
      clear e0 e1 e2
      go_enter Try.func73, Try.ntmps73
      go_wp2
      refine bodyPost_ret (v := .agg #[.int .i64 kd, .int .i64 (wrap64 (pa + n)), .int .i64 (wrap64 (pb + n)), .int .i64 (pc), .int .i64 nn]) (by simp [results, Try.results73, go_sem]) rfl ⟨rfl, ?_⟩
      repeat first | exact Below.refl _ _ | refine Below.setCell ?_ (by first | (simp; done) | (simp; omega)) _ | refine Below.alloc ?_ (by first | (simp; done) | (simp; omega)) _
    case neg =>
    have e1 : mvI n pb = pb := by unfold mvI; rw [if_neg h1]
    by_cases h2 : 0 ≤ pc
    case pos =>
      have e2 : mvI n pc = wrap64 (pc + n) := by unfold mvI; rw [if_pos h2]
      rw [e0, e1, e2]
      clear e0 e1 e2
      go_enter Try.func73, Try.ntmps73
      go_wp2
      refine bodyPost_ret (v := .agg #[.int .i64 kd, .int .i64 (wrap64 (pa + n)), .int .i64 (pb), .int .i64 (wrap64 (pc + n)), .int .i64 nn]) (by simp [results, Try.results73, go_sem]) rfl ⟨rfl, ?_⟩
      repeat first | exact Below.refl _ _ | refine Below.setCell ?_ (by first | (simp; done) | (simp; omega)) _ | refine Below.alloc ?_ (by first | (simp; done) | (simp; omega)) _
    case neg =>
    have e2 : mvI n pc = pc := by unfold mvI; rw [if_neg h2]
    rw [e0, e1, e2]
    clear e0 e1 e2
    go_enter Try.func73, Try.ntmps73
    go_wp2
    refine bodyPost_ret (v := .agg #[.int .i64 kd, .int .i64 (wrap64 (pa + n)), .int .i64 (pb), .int .i64 (pc), .int .i64 nn]) (by simp [results, Try.results73, go_sem]) rfl ⟨rfl, ?_⟩
    repeat first | exact Below.refl _ _ | refine Below.setCell ?_ (by first | (simp; done) | (simp; omega)) _ | refine Below.alloc ?_ (by first | (simp; done) | (simp; omega)) _
  case neg =>
  have e0 : mvI n pa = pa := by unfold mvI; rw [if_neg h0]
  by_cases h1 : 0 ≤ pb
  case pos =>
    have e1 : mvI n pb = wrap64 (pb + n) := by unfold mvI; rw [if_pos h1]
    by_cases h2 : 0 ≤ pc
    case pos =>
      have e2 : mvI n pc = wrap64 (pc + n) := by unfold mvI; rw [if_pos h2]
      rw [e0, e1, e2]
      clear e0 e1 e2
      go_enter Try.func73, Try.ntmps73
      go_wp2
      refine bodyPost_ret (v := .agg #[.int .i64 kd, .int .i64 (pa), .int .i64 (wrap64 (pb + n)), .int .i64 (wrap64 (pc + n)), .int .i64 nn]) (by simp [results, Try.results73, go_sem]) rfl ⟨rfl, ?_⟩
      repeat first | exact Below.refl _ _ | refine Below.setCell ?_ (by first | (simp; done) | (simp; omega)) _ | refine Below.alloc ?_ (by first | (simp; done) | (simp; omega)) _
    case neg =>
    have e2 : mvI n pc = pc := by unfold mvI; rw [if_neg h2]
    rw [e0, e1, e2]
    clear e0 e1 e2
    go_enter Try.func73, Try.ntmps73
    go_wp2
    refine bodyPost_ret (v := .agg #[.int .i64 kd, .int .i64 (pa), .int .i64 (wrap64 (pb + n)), .int .i64 (pc), .int .i64 nn]) (by simp [results, Try.results73, go_sem]) rfl ⟨rfl, ?_⟩
    repeat first | exact Below.refl _ _ | refine Below.setCell ?_ (by first | (simp; done) | (simp; omega)) _ | refine Below.alloc ?_ (by first | (simp; done) | (simp; omega)) _
  case neg =>
  have e1 : mvI n pb = pb := by unfold mvI; rw [if_neg h1]
  by_cases h2 : 0 ≤ pc
  case pos =>
    have e2 : mvI n pc = wrap64 (pc + n) := by unfold mvI; rw [if_pos h2]
    rw [e0, e1, e2]
    clear e0 e1 e2
    go_enter Try.func73, Try.ntmps73
    go_wp2
    refine bodyPost_ret (v := .agg #[.int .i64 kd, .int .i64 (pa), .int .i64 (pb), .int .i64 (wrap64 (pc + n)), .int .i64 nn]) (by simp [results, Try.results73, go_sem]) rfl ⟨rfl, ?_⟩
    repeat first | exact Below.refl _ _ | refine Below.setCell ?_ (by first | (simp; done) | (simp; omega)) _ | refine Below.alloc ?_ (by first | (simp; done) | (simp; omega)) _
  case neg =>
  have e2 : mvI n pc = pc := by unfold mvI; rw [if_neg h2]
  rw [e0, e1, e2]
  clear e0 e1 e2
  go_enter Try.func73, Try.ntmps73
  go_wp2
  refine bodyPost_ret (v := .agg #[.int .i64 kd, .int .i64 (pa), .int .i64 (pb), .int .i64 (pc), .int .i64 nn]) (by simp [results, Try.results73, go_sem]) rfl ⟨rfl, ?_⟩
  repeat first | exact Below.refl _ _ | refine Below.setCell ?_ (by first | (simp; done) | (simp; omega)) _ | refine Below.alloc ?_ (by first | (simp; done) | (simp; omega)) _

theorem lastP_at {g : List Prt} (h : 0 < g.length) : ∃ h2 : g.length - 1 < g.length, lastP g = g[g.length - 1] := ⟨by omega, by unfold lastP; rw [List.getD_eq_getElem?_getD, List.getElem?_eq_getElem (by omega)]; rfl⟩

set_option maxRecDepth 100000 in
set_option maxHeartbeats 1600000 in
theorem foldNum {A : Option Addr} {c n B : Nat} {w : World} (xs : List Prt) (ln : xs.length = n) (hp : 0 < n) (hn : n ≤ 1099511627776) (h : RdP w B A xs) (hB : B ≤ w.heap.size) :
    Calls Try.prog 74 #[.agg #[.slice A n c]] w fun e w' => e = .returned (.tuple #[.int .i64 (lastP xs).nn, .bool (decide ((lastP xs).kd = 0))]) ∧ Below w.heap.size w w' := by
  subst ln
  have B1 := Lib.hid (bel1P w (.cells #[.slice A xs.length c] 29))
  have BX := Lib.hid (Blk.new w 29 #[.slice A xs.length c])
  have H := Lib.hid (h.belowLe B1.out hB); clear h
  obtain ⟨h2, hl⟩ := lastP_at hp
  obtain ⟨g, o, hA, hgB, k0, k1, k2, k3, k4⟩ := RdP_at H.out h2
  subst hA
  rw [← hl] at k0 k4
  have LA := Lib.hid (fun (W : World) => partLast (A := some ⟨g, o, none⟩) (c := c) (n := xs.length) (w := W) hp hn)
  have hgw : g < (w.alloc (.cells #[.slice (some ⟨g, o, none⟩) xs.length c] 29)).heap.size := by simp; omega
  have KX := Lib.hid (fun (W : World) (hb : Below (w.alloc (.cells #[.slice (some ⟨g, o, none⟩) xs.length c] 29)).heap.size (w.alloc (.cells #[.slice (some ⟨g, o, none⟩) xs.length c] 29)) W) => (show W.cell? ⟨w.heap.size, 0, none⟩ = some (.slice (some ⟨g, o, none⟩) xs.length c) ∧ W.cell? ⟨g, o + (xs.length - 1) * 5, none⟩ = some (.int .i64 (lastP xs).kd) ∧ W.cell? ⟨g, o + (xs.length - 1) * 5 + 4, none⟩ = some (.int .i64 (lastP xs).nn) from
    ⟨(BX.out.below hb BX.out.lt).cell 0, (hb.cell (p := ⟨g, _, none⟩) hgw).trans k0, (hb.cell (p := ⟨g, _, none⟩) hgw).trans k4⟩))
  obtain ⟨kl, hkl⟩ : ∃ kl, xs.length - 1 = kl := ⟨_, rfl⟩
  rw [hkl] at KX LA k0 k4
  have hkl0 : (0 : Int) ≤ (kl : Int) := Int.natCast_nonneg _
  have hkl1 : (kl : Int) < (xs.length : Int) := by omega
  obtain ⟨n, hn'⟩ : ∃ n, xs.length = n := ⟨_, rfl⟩
  rw [hn'] at KX LA BX B1 hp hn hkl1 hgw k0 k4 ⊢
  obtain ⟨⟨kd, pa, pb, pc, nn⟩, hx⟩ : ∃ x, lastP xs = x := ⟨_, rfl⟩
  rw [hx] at KX k0 k4 ⊢
  simp only at KX k0 k4 ⊢
  have HRF := Lib.hid (Below.refl (w.alloc (.cells #[.slice (some ⟨g, o, none⟩) n c] 29)).heap.size (w.alloc (.cells #[.slice (some ⟨g, o, none⟩) n c] 29))).drew
  clear h2 hl hgB k1 k2 k3 hgw hx hn' hkl H
  go_enter Try.func74, Try.ntmps74
  go_wp2_with fail
  go_region_held3 (fun w' => w'.cell? ⟨w.heap.size, 0, none⟩ = some (.slice (some ⟨g, o, none⟩) n c) ∧ w'.cell? ⟨g, o + kl * 5, none⟩ = some (.int .i64 kd) ∧ w'.cell? ⟨g, o + kl * 5 + 4, none⟩ = some (.int .i64 nn))
    (first | go_keep | exact KX.out _ hb8 | exact KX.out _ hb7 | exact KX.out _ HRF.out)
    ((first
      | (go_at_call 41; refine (LA.out _).mono ?_; rintro e w7 ⟨rfl, b7⟩; first | (have hb8 := hb7.trans (b7.mono hb7.size)) | (have hb7 := HRF.out.trans (b7.mono HRF.out.size)))))
  have HB := Lib.hid (B1.out.trans (hb8.mono (by simp)))
  clear hb8 hb7 HRF k0 k4 KX LA
  go_wp2_with fail
  go_ret2
  exact ⟨by first | rfl | (congr 3; simp), HB.out⟩

end Go.Proofs.Ytlinngohbghimaa
