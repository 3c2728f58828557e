/-
  laws.toOwner, laws.toOwnerS: a copy of owners, each inner list in a block of its own.
-/
import Derived.Test.YtbikejdghdoaiaaOwn
import Derived.Test.YtbikejdghdoaiaaToI
namespace Go.Proofs.Ytbikejdghdoaiaa
open Go.RowKit

def oval (x : Own × Hd) : Value := .agg #[.int .i64 x.1.p, .bool x.1.op, .slice x.2.clA x.1.cl.length x.2.clC, .slice x.2.cxA x.1.cx.length x.2.cxC]
/-- an owner handed back by value, its inner lists new -/
def MadeO1 (w : World) (o : Own) (e : Ending) (w' : World) : Prop :=
  ∃ h : Hd, e = .returned (oval (o, h)) ∧ SlI w' w.heap.size w'.heap.size h.clA h.clC o.cl ∧ SlI w' w.heap.size w'.heap.size h.cxA h.cxC o.cx ∧ (∀ b ∈ live h.clA h.clC, b ∉ live h.cxA h.cxC) ∧ Below w.heap.size w w'

theorem Blk.newAt (w : World) (t : TypeId) (cs : Array Value) (g : Nat) (hg : w.heap.size = g) : Blk (w.alloc (.cells cs t)) g t cs := by subst hg; exact Blk.new w t cs
theorem Blk.four {w : World} {g : Nat} {t : TypeId} {a b c d : Value} (h : Blk w g t #[a, b, c, d]) : (w.cell? ⟨g, 0, none⟩ = some a ∧ w.cell? ⟨g, 1, none⟩ = some b ∧ w.cell? ⟨g, 2, none⟩ = some c ∧ w.cell? ⟨g, 3, none⟩ = some d) ∧
    w.frozen? ⟨g, 0, none⟩ = false ∧ w.frozen? ⟨g, 1, none⟩ = false ∧ w.frozen? ⟨g, 2, none⟩ = false ∧ w.frozen? ⟨g, 3, none⟩ = false :=
  ⟨⟨by rw [h.cell]; rfl, by rw [h.cell]; rfl, by rw [h.cell]; rfl, by rw [h.cell]; rfl⟩, h.frozen _, h.frozen _, h.frozen _, h.frozen _⟩
theorem below1 (w : World) (a : Obj) : Below w.heap.size w (w.alloc a) ∧ (w.alloc a).heap.size = w.heap.size + 1 := ⟨(Below.refl _ _).alloc (Nat.le_refl _) _, by simp⟩
theorem below2 (w : World) (a b : Obj) : Below w.heap.size w ((w.alloc a).alloc b) ∧ ((w.alloc a).alloc b).heap.size = w.heap.size + 2 := ⟨(below1 w a).1.alloc (by simp) _, by simp⟩
theorem below3 (w : World) (a b c : Obj) : Below w.heap.size w (((w.alloc a).alloc b).alloc c) ∧ (((w.alloc a).alloc b).alloc c).heap.size = w.heap.size + 3 := ⟨(below2 w a b).1.alloc (by simp; omega) _, by simp⟩
theorem bcell {W w1 : World} {B : Nat} (hb : Below B W w1) : (∀ b o, b < B → w1.cell? ⟨b, o, none⟩ = W.cell? ⟨b, o, none⟩) ∧ (∀ b o, b < B → w1.frozen? ⟨b, o, none⟩ = W.frozen? ⟨b, o, none⟩) :=
  ⟨fun b o h => hb.cell (p := ⟨b, o, none⟩) h, fun b o h => hb.frozen (p := ⟨b, o, none⟩) h⟩

set_option maxHeartbeats 400000 in
theorem toOwner {B : Nat} {w : World} (o : Own) (h : Hd) (hn : o.cl.length ≤ 4294967296) (hn' : o.cx.length ≤ 4294967296) (hcl : RdI w B h.clA o.cl) (hcx : RdI w B h.cxA o.cx) (hB : B ≤ w.heap.size) :
    Calls Try.prog 44 #[oval (o, h)] w (MadeO1 w o) := by
  obtain ⟨p, op, cl, cx⟩ := o
  obtain ⟨clA, clC, cxA, cxC⟩ := h
  simp only at hn hn' hcl hcx
  have HCL := Lib.hid hcl; clear hcl
  have HCX := Lib.hid hcx; clear hcx
  unfold oval
  dsimp only
  go_enter Try.func44, Try.ntmps44
  go_wp2_with fail
  refine (toIntS cl rfl hn (HCL.out.belowLe (below3 w _ _ _).1 hB) (by rw [(below3 w _ _ _).2]; omega)).mono ?_
  rintro e w1 ⟨A1, c1, rfl, s1, b1⟩
  have hz1 := b1.size
  have B1 := Lib.hid ((below3 w _ _ _).1.trans (b1.mono (by rw [(below3 w _ _ _).2]; omega)))
  have v1 : Blk w1 (w.heap.size + 1 + 1) 43 #[.int .i64 p, .bool op, .slice none 0 0, .slice none 0 0] := (Blk.newAt ((w.alloc _).alloc _) _ _ _ (by simp only [World.size_alloc])).below b1 (by simp only [World.size_alloc]; omega)
  have r1 : Blk w1 (w.heap.size + 1) 43 #[.int .i64 0, .bool false, .slice none 0 0, .slice none 0 0] := ((Blk.newAt (w.alloc _) _ _ _ (by simp only [World.size_alloc])).alloc _).below b1 (by simp only [World.size_alloc]; omega)
  have q1 : Blk w1 w.heap.size 53 #[.int .i64 p, .bool op, .slice clA cl.length clC, .slice cxA cx.length cxC] := (((Blk.new w _ _).alloc _).alloc _).below b1 (by simp only [World.size_alloc]; omega)
  simp only [World.size_alloc] at hz1 s1
  have S1 := Lib.hid s1
  have R1 := Lib.hid r1
  have V1 := Lib.hid v1
  obtain ⟨⟨_, _, v12, _⟩, _, _, vf, _⟩ := v1.four
  obtain ⟨⟨_, _, _, q13⟩, _⟩ := q1.four
  clear s1 b1 r1 v1 q1
  go_wp2_with fail
  have b2 := B1.out.setCell (p := ⟨w.heap.size + 1 + 1, 2, none⟩) (by show w.heap.size ≤ w.heap.size + 1 + 1; omega) (.slice A1 cl.length c1)
  refine (toIntS cx rfl hn' (HCX.out.belowLe b2 hB) (Nat.le_trans hB b2.size)).mono ?_
  rintro e w2 ⟨A2, c2, rfl, s2, b3⟩
  have hz2 := b3.size
  have hz3 : w1.heap.size ≤ w2.heap.size := by simpa [World.setCell] using hz2
  have S2 := Lib.hid s2
  have S1 := Lib.hid ((S1.out.turn ((Turn.refl (w.heap.size + 1 + 1) (w.heap.size + 1 + 1 + 1) w1).setCell (p := ⟨w.heap.size + 1 + 1, 2, none⟩) (Nat.le_refl _) (.inl (Nat.lt_succ_self _)) (.slice A1 cl.length c1)) (.inr (Nat.le_refl _))).below b3 (by simp [World.setCell]))
  have B2 := Lib.hid (b2.trans (b3.mono b2.size))
  have v2 : Blk w2 (w.heap.size + 1 + 1) 43 #[.int .i64 p, .bool op, .slice A1 cl.length c1, .slice none 0 0] := (V1.out.set_ 2 (.slice A1 cl.length c1)).below b3 (by simp [World.setCell]; omega)
  have r2 : Blk w2 (w.heap.size + 1) 43 #[.int .i64 0, .bool false, .slice none 0 0, .slice none 0 0] := (R1.out.far (p := ⟨w.heap.size + 1 + 1, 2, none⟩) (by simp) _).below b3 (by simp [World.setCell]; omega)
  have R2 := Lib.hid r2
  have V2 := Lib.hid v2
  have v3 := v2.set_ 3 (.slice A2 cx.length c2)
  obtain ⟨⟨_, _, _, v23⟩, _, _, _, vf3⟩ := v2.four
  obtain ⟨⟨v30, v31, v32, v33⟩, _⟩ := v3.four
  obtain ⟨⟨r20, r21, r22, r23⟩, rf0, rf1, rf2, rf3⟩ := (r2.far (p := ⟨w.heap.size + 1 + 1, 3, none⟩) (by simp) (.slice A2 cx.length c2)).four
  clear b2 b3 s2 r2 v2 v3 v12 vf q13 V1 R1 B1 hz2
  go_wp2_with fail
  have vF := ((((R2.out.far (p := ⟨w.heap.size + 1 + 1, 3, none⟩) (by simp) (.slice A2 cx.length c2)).set_ 0 (.int .i64 p)).set_ 1 (.bool op)).set_ 2 (.slice A1 cl.length c1)).set_ 3 (.slice A2 cx.length c2)
  obtain ⟨⟨f0, f1, f2, f3⟩, _⟩ := vF.four
  have TF := (((((Turn.refl (w.heap.size + 1) (w.heap.size + 1 + 1 + 1) w2).setCell (p := ⟨w.heap.size + 1 + 1, 3, none⟩) (Nat.le_succ _) (.inl (Nat.lt_succ_self _)) (.slice A2 cx.length c2)).setCell (p := ⟨w.heap.size + 1, 0, none⟩) (Nat.le_refl _) (.inl (by simp)) (.int .i64 p)).setCell (p := ⟨w.heap.size + 1, 1, none⟩) (Nat.le_refl _) (.inl (by simp)) (.bool op)).setCell (p := ⟨w.heap.size + 1, 2, none⟩) (Nat.le_refl _) (.inl (by simp)) (.slice A1 cl.length c1)).setCell (p := ⟨w.heap.size + 1, 3, none⟩) (Nat.le_refl _) (.inl (by simp)) (.slice A2 cx.length c2)
  have S1 := S1.out.turn TF (.inr (Nat.le_refl _))
  have S2 := S2.out.turn TF (.inr (by simp [World.setCell]; omega))
  have B3 := B2.out.trans (((TF.below (by omega))).mono (by omega))
  have hz4 := TF.size
  refine bodyPost_ret (v := oval (⟨p, op, cl, cx⟩, ⟨A1, c1, A2, c2⟩)) ?_ rfl ⟨⟨A1, c1, A2, c2⟩, rfl, S1.mono (by omega) (Nat.le_trans hz3 hz4), S2.mono (by simp [World.setCell]; omega) hz4, ?_, B3⟩
  · simp [results, Try.results44, go_sem, f0, f1, f2, f3, oval]
  · intro b h1 h2
    have h3 := (Sl.live_in S1 b h1).2.1
    have h4 := (Sl.live_in S2 b h2).1
    simp [World.setCell] at h4
    omega

def zeroO : Own × Hd := (⟨0, false, [], []⟩, ⟨none, 0, none, 0⟩)
theorem madeO (n : Nat) : madeCells #[.int .i64 0, .bool false, .slice none 0 0, .slice none 0 0] (n * 4) = (orow (List.replicate n zeroO)).toArray := by
  apply Array.ext'
  show _ = orow (List.replicate n zeroO)
  apply List.ext_getElem?
  intro i
  have hl : (orow (List.replicate n zeroO)).length = n * 4 := by rw [orow_len, List.length_replicate]
  rcases Nat.lt_or_ge i (n * 4) with h | h
  · have e := orow_get (List.replicate n zeroO) (i / 4) (i % 4) zeroO (by rw [List.getElem?_replicate, if_pos (by omega)]) (by omega)
    rw [show i / 4 * 4 + i % 4 = i by omega] at e
    rw [e]
    have h4 : i % 4 = 0 ∨ i % 4 = 1 ∨ i % 4 = 2 ∨ i % 4 = 3 := by omega
    simp only [madeCells, Array.toList_map, Array.toList_range, List.getElem?_map, List.getElem?_range h, Option.map_some]
    rcases h4 with h4 | h4 | h4 | h4 <;> · show some (_[i % 4]!) = _; rw [h4]; rfl
  · rw [List.getElem?_eq_none (by rw [Array.length_toList, size_madeCells]; omega), List.getElem?_eq_none (by omega)]
theorem SlP.made {w : World} {g lo hi n : Nat} (h : Blk w g 43 (orow (List.replicate n zeroO)).toArray) (h1 : lo ≤ g) (h2 : g < hi) : SlP w lo hi (some ⟨g, 0, none⟩) n (List.replicate n zeroO) := by
  have hz : ∀ (i : Nat) (x : Own × Hd), (List.replicate n zeroO)[i]? = some x → x = zeroO := fun i x hx => by
    rw [List.getElem?_replicate] at hx
    split at hx
    · injection hx with hx; exact hx.symm
    · cases hx
  refine ⟨?_, fun i x hx => ?_, fun i x hx => ?_, fun i x hx b hb => ?_, fun i x hx b hb => ?_, fun i j x y hx _ _ b hb => ?_⟩
  · rw [List.length_replicate]; exact Sl.of_blk h (by rw [orow_len, List.length_replicate]) h1 h2
  · rw [hz i x hx]; exact SlI.nil
  · rw [hz i x hx]; exact SlI.nil
  · rw [hz i x hx] at hb; cases hb
  · rw [hz i x hx] at hb; cases hb
  · rw [hz i x hx] at hb; cases hb
theorem Try.infoO : (Try.prog.info? 43).map (fun i => (i.zero, i.size, i.bytes)) = some (some (.agg #[.int .i64 0, .bool false, .slice none 0 0, .slice none 0 0]), 4, 64) := by kernel_rfl
theorem run_makeO (n : Nat) (hn : n ≤ 1099511627776) (w : World) : (Instr.makeSlice 24 (.int .i64 (n : Int)) (.int .i64 (n : Int))).run Try.prog w = .ok (.slice (some ⟨w.heap.size, 0, none⟩) n n) (w.alloc (.cells (orow (List.replicate n zeroO)).toArray 43)) := by
  obtain ⟨i0, hi, hz0, hz1, hz2⟩ := info_parts Try.infoO
  have hr := run_make (P := Try.prog) w 24 43 i0 _ Try.underlying24 hi hz0 .i64 .i64 n n (by omega) (by omega) (by rw [hz2]; omega) (by omega)
  rw [hr, hz1]
  simp only [Int.toNat_natCast]
  rw [← madeO]
  rfl
/-- a list of owners that is new -/
def MadeO (w : World) (os : List Own) (e : Ending) (w' : World) : Prop :=
  ∃ A c, e = .returned (.slice A os.length c) ∧ SlO w' w.heap.size w'.heap.size A c os ∧ Below w.heap.size w w'

set_option maxHeartbeats 800000 in
theorem toOwnerS {A : Option Addr} {c n B : Nat} {w : World} (os : List Own) (ln : os.length = n) (hn : n ≤ 4294967296) (hm : ∀ o ∈ os, o.cl.length ≤ 4294967296 ∧ o.cx.length ≤ 4294967296) (h : RdO w B A os) (hB : B ≤ w.heap.size) :
    Calls Try.prog 13 #[.slice A n c] w (MadeO w os) := by
  subst ln
  have hmk := run_makeO os.length (by omega) w
  have HM := Lib.hid hm; clear hm
  go_enter Try.func13, Try.ntmps13
  go_wp2_with fail
  clear hmk
  go_loopw [4] (fun i wr => ∃ (k : Nat) (ps : List (Own × Hd)), k ≤ os.length ∧ i = .int .i64 k ∧ ps.length = os.length ∧ (ps.take k).map Prod.fst = os.take k ∧ (∀ j, k ≤ j → j < os.length → ps[j]? = some zeroO) ∧ SlP wr w.heap.size wr.heap.size (some ⟨w.heap.size, 0, none⟩) os.length ps ∧ Below w.heap.size w wr) (fun i _ => os.length - (intOf i).toNat)
  case atStart => exact ⟨0, List.replicate os.length zeroO, Nat.zero_le _, rfl, by simp, by simp, fun j _ hj => by simp [hj], SlP.made (Blk.new _ _ _) (Nat.le_refl _) (by simp), (Below.refl _ _).alloc (Nat.le_refl _) _⟩
  case round =>
    obtain ⟨k, ps, hk, rfl, hps, htk, hzz, hs, hb⟩ := hrel
    have HPS := Lib.hid hps; clear hps
    have HTK := Lib.hid htk; clear htk
    have HZ := Lib.hid hzz; clear hzz
    have HS := Lib.hid hs; clear hs
    have HB := Lib.hid hb; clear hb
    by_cases hlt : k < os.length
    · obtain ⟨g, o, hd, rfl, had, ⟨c0, c1, c2, c3⟩, q1, q2, q3, q5⟩ := (h.belowLe HB.out hB).at_ hlt
      have hmk := HM.out os[k] (List.getElem_mem hlt)
      obtain ⟨x, hx⟩ : ∃ x, os[k] = x := ⟨_, rfl⟩
      rw [hx] at c0 c1 c2 c3 q1 q2 q3 q5 hmk
      have HX := Lib.hid (show (os.take (k + 1)) = os.take k ++ [x] by rw [List.take_succ_eq_append_getElem hlt, hx])
      have HQ1 := Lib.hid q1
      have HQ2 := Lib.hid q2
      obtain ⟨hm1, hm2⟩ := hmk
      clear h hx q1 q2 q3 q5
      go_wp2_with fail
      refine (toOwner x hd hm1 hm2 HQ1.out HQ2.out (Nat.le_trans hB HB.out.size)).mono ?_
      rintro e w1 ⟨h1, rfl, s1, s2, hd1, b1⟩
      have hz1 := b1.size
      have hz0 := HB.out.size
      have hzk := HZ.out k (Nat.le_refl _) hlt
      have hs1 := (HS.out.below b1 (Nat.le_refl _))
      obtain ⟨g', o', hA, _, _, _, _, d1, d2, _⟩ := hs1.cells hzk
      simp only [Option.some.injEq, Addr.mk.injEq, and_true] at hA
      obtain ⟨rfl, rfl⟩ := hA
      have d10 := d1 k _ hzk 0 _ rfl
      have d11 := d1 k _ hzk 1 _ rfl
      have d12 := d1 k _ hzk 2 _ rfl
      have d13 := d1 k _ hzk 3 _ rfl
      have f0 := d2 (k * 4)
      have f1 := d2 (k * 4 + 1)
      have f2 := d2 (k * 4 + 2)
      have f3 := d2 (k * 4 + 3)
      obtain ⟨p4, t4⟩ := hs1.putAll (hi' := w1.heap.size) (x, h1) hzk hz1 (s1.mono (by omega) (Nat.le_refl _)) (s2.mono (by omega) (Nat.le_refl _)) hd1 (fun b hb => by
        unfold foot at hb
        rw [List.mem_append] at hb
        rcases hb with hb | hb
        · exact (Sl.live_in s1 b hb).1
        · exact (Sl.live_in s2 b hb).1) rfl
      simp only [Nat.zero_add, Nat.add_zero] at d10 d11 d12 d13 f0 f1 f2 f3 p4 t4
      have P4 := Lib.hid p4
      have B4 := Lib.hid ((HB.out.trans (b1.mono hz0)).trans ((t4.below (by omega)).mono (Nat.le_refl _)))
      clear d1 d2 hs1 hzk s1 s2 hd1 b1 p4 t4
      dsimp only [oval]
      go_wp2_with fail
      go_roundw
      case rel =>
        refine ⟨k + 1, ps.set k (x, h1), by omega, by go_num, by rw [List.length_set]; exact HPS.out, ?_, ?_, ?_, B4.out⟩
        · have hkp : k < ps.length := by rw [HPS.out]; exact hlt
          rw [HX.out, List.take_succ_eq_append_getElem (by rw [List.length_set]; exact hkp), List.take_set_of_le (Nat.le_refl _), List.map_append, HTK.out]
          simp
        · intro j hj hj2
          rw [List.getElem?_set_ne (by omega)]
          exact HZ.out j (by omega) hj2
        · have := P4.out
          simpa [World.setCell] using this
      case measure => simp [intOf]; omega
    · have hkl : k = os.length := by omega
      have HK := Lib.hid hkl
      clear hkl h
      go_wp2_with fail
      go_ret
      refine ⟨_, _, rfl, ⟨ps, ?_, HS.out⟩, HB.out⟩
      have h1 := HTK.out
      rw [HK.out, List.take_length, List.take_of_length_le (by rw [HPS.out]; exact Nat.le_refl _)] at h1
      exact h1
end Go.Proofs.Ytbikejdghdoaiaa
