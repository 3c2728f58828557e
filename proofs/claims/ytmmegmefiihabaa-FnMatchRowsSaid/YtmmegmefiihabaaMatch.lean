/-
  Rows that are matched with keys: what is computed; spec.firstOnly, validRows.
-/
import Derived.Test.YtmmegmefiihabaaRecQ
import Derived.Test.YtmmegmefiihabaaKeys
import Derived.Test.YtmmegmefiihabaaLists
namespace Go.Proofs.Ytmmegmefiihabaa
open Go.RowKit

def firstG (out : List Int) (x : Int) : List Int := if memB x out then out else out ++ [x]
def firstF (xs : List Int) : List Int := xs.foldl firstG []
theorem firstF_snoc (xs : List Int) (x : Int) : firstF (xs ++ [x]) = firstG (firstF xs) x := by unfold firstF; rw [List.foldl_append]; rfl
theorem foldl_first : ∀ (xs acc : List Int), acc.Nodup → (xs.foldl firstG acc).length ≤ acc.length + xs.length ∧ ((xs.foldl firstG acc).length = acc.length + xs.length ↔ (acc ++ xs).Nodup) := by
  intro xs
  induction xs with
  | nil => intro acc h; simp [h]
  | cons x r ih =>
    intro acc h
    rw [List.foldl_cons]
    by_cases hm : x ∈ acc
    · have e : firstG acc x = acc := by unfold firstG memB; simp [hm]
      rw [e]
      obtain ⟨h1, _⟩ := ih acc h
      refine ⟨by simp; omega, ⟨fun he => by simp at he; omega, fun hn => ?_⟩⟩
      rw [List.nodup_append] at hn
      exact absurd rfl (hn.2.2 x hm x (by simp))
    · have e : firstG acc x = acc ++ [x] := by unfold firstG memB; simp [hm]
      rw [e]
      have hn : (acc ++ [x]).Nodup := by
        rw [List.nodup_append]
        exact ⟨h, by simp, fun a ha b hb => by rw [List.mem_singleton] at hb; subst hb; exact fun e => hm (e ▸ ha)⟩
      obtain ⟨h1, h2⟩ := ih (acc ++ [x]) hn
      have e2 : (acc ++ [x]).length = acc.length + 1 := by simp
      rw [e2] at h1 h2
      rw [List.append_assoc, List.singleton_append] at h2
      refine ⟨by rw [List.length_cons]; omega, ?_⟩
      rw [← h2, List.length_cons]
      constructor <;> intro h <;> omega
theorem firstF_len (xs : List Int) : (firstF xs).length ≤ xs.length := by have := (foldl_first xs [] List.nodup_nil).1; simpa [firstF] using this
theorem firstF_eq (xs : List Int) : decide ((firstF xs).length = xs.length) = nodupB xs := by
  have := (foldl_first xs [] List.nodup_nil).2
  simp only [List.length_nil, Nat.zero_add, List.nil_append] at this
  unfold nodupB firstF
  exact decide_eq_decide.2 this
def prevI (nx : Int) : Int := IntKind.i64.wrap (nx - 1)
def rowsVB (rs : List Rwx) (nx : Int) : Bool := vkB (rs.map (·.ky)) && allB 0 (prevI nx) (rs.map (·.no)) && nodupB (rs.map (·.no)) && inB nx 0 100

set_option maxHeartbeats 800000 in
theorem firstOnly {A : Option Addr} {c n B : Nat} {w : World} (xs : List Int) (ln : xs.length = n) (hn : n ≤ 1099511627776) (h : RdI w B A xs) (hB : B ≤ w.heap.size) :
    Calls Try.prog 92 #[.slice A n c] w (MadeI w (firstF xs)) := by
  subst ln
  have G0 := Lib.hid (SlI.new w [] (lo := w.heap.size) (Nat.le_refl _))
  go_enter Try.func92, Try.ntmps92
  go_wp2_with fail
  go_loopw [3, 4] (fun v i wr => ∃ (k : Nat) (A1 : Option Addr) (c1 : Nat), k ≤ xs.length ∧ i = .int .i64 k ∧ v = .slice A1 (firstF (xs.take k)).length c1 ∧ SlI wr w.heap.size wr.heap.size A1 c1 (firstF (xs.take k)) ∧ Below w.heap.size w wr) (fun _ i _ => xs.length - (intOf i).toNat)
  case atStart => exact ⟨0, _, 0, Nat.zero_le _, rfl, rfl, by simpa [firstF] using G0.out, (Below.refl _ _).alloc (Nat.le_refl _) _⟩
  case round =>
    obtain ⟨k, A1, c1, hk, rfl, rfl, hs, hb⟩ := hrel
    have hsz := hb.size
    have HS := Lib.hid hs; clear hs
    have HB := Lib.hid hb; clear hb
    by_cases hlt : k < xs.length
    · obtain ⟨ad, rfl, _, hc⟩ := (h.belowLe HB.out hB).at_ hlt
      have hcell := hc k hlt
      have HT := Lib.hid (show firstF (xs.take (k + 1)) = firstG (firstF (xs.take k)) xs[k] from by rw [List.take_succ_eq_append_getElem hlt, firstF_snoc])
      have hfl : (firstF (xs.take k)).length ≤ xs.length := Nat.le_trans (firstF_len _) (by rw [List.length_take]; omega)
      obtain ⟨fs, hfs⟩ : ∃ fs, firstF (xs.take k) = fs := ⟨_, rfl⟩
      rw [hfs] at HS HT hfl ⊢
      obtain ⟨x, hx⟩ : ∃ x, xs[k] = x := ⟨_, rfl⟩
      rw [hx] at hcell HT
      have PL := Lib.hid (placeIn (x := x) (c := c1) (w := wr) fs rfl (by omega) HS.out.rd)
      have e := plc_neg x fs
      clear hc h hfs hx
      cases hm : memB x fs
      · rw [hm] at e
        have hp : plc x fs < 0 := by simpa using e
        have HG := Lib.hid (show firstG fs x = fs ++ [x] from by unfold firstG; rw [hm]; rfl)
        clear hm e
        go_wp2_with fail
        refine PL.out.mono ?_; rintro e w3 ⟨rfl, rfl⟩
        go_wp2_with (at_builtin; refine wpList_appI (.tmp 19) (.tmp 24) rfl rfl fs [x] rfl rfl (HS.out.alloc _) rfl rfl (SlI.new _ [x] (lo := 0) (Nat.zero_le _)).rd (by omega) (by simp; omega) ?_; intro A2 c2 w4 h2 h3 _)
        have HF := Lib.hid (h2.all h3 (by simp))
        have HG2 := Lib.hid ((HB.out.alloc hsz (.cells (ints [x]).toArray 3)).trans (h3.below (by simp; omega)))
        clear h2 h3
        go_wp2
        go_roundw
        case rel => exact ⟨k + 1, A2, c2, by omega, by go_num, by rw [HT.out, HG.out, List.length_append]; rfl, by rw [HT.out, HG.out]; exact HF.out, HG2.out⟩
        case measure => simp [intOf]; omega
      · rw [hm] at e
        have hp : ¬ plc x fs < 0 := by simpa using e
        have HG := Lib.hid (show firstG fs x = fs from by unfold firstG; rw [hm]; rfl)
        clear hm e
        go_wp2_with fail
        refine PL.out.mono ?_; rintro e w3 ⟨rfl, rfl⟩
        go_wp2_with fail
        go_roundw
        case rel => exact ⟨k + 1, A1, c1, by omega, by go_num, by rw [HT.out, HG.out], by rw [HT.out, HG.out]; exact HS.out, HB.out⟩
        case measure => simp [intOf]; omega
    · have e : xs.take k = xs := List.take_of_length_le (by omega)
      have HE := Lib.hid e; clear e
      go_wp2
      go_ret
      exact ⟨A1, c1, by rw [HE.out]; rfl, by have := HS.out; rwa [HE.out] at this, HB.out⟩

set_option maxHeartbeats 1600000 in
theorem validRows {A : Option Addr} {c n B : Nat} {w : World} (rs : List Rwx) (nx : Int) (ln : rs.length = n) (hn : n ≤ 1048576) (h : RdQ w B A rs) (hB : B ≤ w.heap.size) :
    Calls Try.prog 71 #[.slice A n c, .int .i64 nx] w fun e w' => e = .returned (.bool (rowsVB rs nx)) ∧ Below w.heap.size w w' := by
  subst ln
  go_enter Try.func71, Try.ntmps71
  go_wp2_with fail
  go_loopw [5, 6, 7] (fun v1 v2 i wr => ∃ (k : Nat) (A1 : Option Addr) (c1 lo1 hi1 : Nat) (A2 : Option Addr) (c2 lo2 hi2 : Nat), k ≤ rs.length ∧ i = .int .i64 k ∧ v1 = .slice A1 k c1 ∧ v2 = .slice A2 k c2 ∧ SlI wr lo1 hi1 A1 c1 ((rs.take k).map (·.ky)) ∧ SlI wr lo2 hi2 A2 c2 ((rs.take k).map (·.no)) ∧ w.heap.size ≤ lo1 ∧ w.heap.size ≤ lo2 ∧ lo1 ≤ wr.heap.size ∧ lo2 ≤ wr.heap.size ∧ hi1 ≤ wr.heap.size ∧ hi2 ≤ wr.heap.size ∧ (hi1 ≤ lo2 ∨ hi2 ≤ lo1) ∧ Below w.heap.size w wr) (fun _ _ i _ => rs.length - (intOf i).toNat)
  case atStart => exact ⟨0, _, 0, w.heap.size, w.heap.size + 1, _, 0, w.heap.size + 1, w.heap.size + 2, Nat.zero_le _, rfl, rfl, rfl, SlI.nil, SlI.nil, Nat.le_refl _, by omega, by simp; omega, by simp, by simp, by simp, .inl (Nat.le_refl _), ((Below.refl _ _).alloc (Nat.le_refl _) _).alloc (by simp) _⟩
  case round =>
    obtain ⟨k, A1, c1, lo1, hi1, A2, c2, lo2, hi2, hk, rfl, rfl, rfl, hs1, hs2, hl1, hl2, hq1, hq2, hh1, hh2, hd, hb⟩ := hrel
    have hsz := hb.size
    have S1 := Lib.hid hs1
    have S2 := Lib.hid hs2
    have HB := Lib.hid hb
    clear hs1 hs2 hb
    by_cases hlt : k < rs.length
    · obtain ⟨g, o, rfl, hgB, k0, k1⟩ := RdQ_at (h.belowLe HB.out hB) hlt
      have hgw : g < wr.heap.size := by omega
      have HT1 := Lib.hid (show (rs.take (k + 1)).map (·.ky) = (rs.take k).map (·.ky) ++ [rs[k].ky] from by rw [List.take_succ_eq_append_getElem hlt, List.map_append]; rfl)
      have HT2 := Lib.hid (show (rs.take (k + 1)).map (·.no) = (rs.take k).map (·.no) ++ [rs[k].no] from by rw [List.take_succ_eq_append_getElem hlt, List.map_append]; rfl)
      have hle1 : ((rs.take k).map (·.ky)).length = k := by rw [List.length_map, List.length_take]; omega
      have hle2 : ((rs.take k).map (·.no)).length = k := by rw [List.length_map, List.length_take]; omega
      have HRW := Lib.hid (h.belowLe HB.out hB)
      obtain ⟨x, hx⟩ : ∃ x, rs[k] = x := ⟨_, rfl⟩
      rw [hx] at k0 k1 HT1 HT2
      obtain ⟨ky, no⟩ := x
      simp only at k0 k1 HT1 HT2
      obtain ⟨ks, hks⟩ : ∃ ks, (rs.take k).map (·.ky) = ks := ⟨_, rfl⟩
      obtain ⟨is, his⟩ : ∃ is, (rs.take k).map (·.no) = is := ⟨_, rfl⟩
      rw [hks] at S1 HT1 hle1
      rw [his] at S2 HT2 hle2
      have HL1 := Lib.hid hle1
      have HL2 := Lib.hid hle2
      have hk0 : (0 : Int) ≤ (k : Int) := Int.natCast_nonneg _
      have NEXT := Lib.hid (fun (A3 : Option Addr) (c3 lo3 hi3 : Nat) (w3 : World) (s3 : SlI w3 lo3 hi3 A3 c3 (ks ++ [ky])) (d3 : (lo3 = lo1 ∧ hi3 = hi1) ∨ (lo3 = wr.heap.size + 1 ∧ hi3 = w3.heap.size)) (t3 : Turn lo1 hi1 (wr.alloc (.cells (ints [ky]).toArray 3)) w3) =>
        (show SlI w3 lo2 hi2 A2 c2 is ∧ w.heap.size ≤ lo3 ∧ lo3 ≤ w3.heap.size ∧ hi3 ≤ w3.heap.size ∧ hi2 ≤ w3.heap.size ∧ (hi3 ≤ lo2 ∨ hi2 ≤ lo3) ∧ Below w.heap.size w w3 ∧ wr.heap.size + 1 ≤ w3.heap.size ∧ w3.cell? ⟨g, o + k * 2 + 1, none⟩ = some (.int .i64 no) from by
          have hz := t3.size
          rw [World.size_alloc] at hz
          have b3 := (HB.out.alloc hsz (.cells (ints [ky]).toArray 3)).trans ((t3.below (by simp; omega)).mono hl1)
          refine ⟨(S2.out.alloc _).turn t3 (by omega), by omega, by omega, by omega, by omega, by omega, b3, hz, ?_⟩
          have bb := ((Below.refl w.heap.size wr).alloc hsz (.cells (ints [ky]).toArray 3)).trans ((t3.below (by simp; omega)).mono hl1)
          exact (bb.cell (p := ⟨g, o + k * 2 + 1, none⟩) (by show g < w.heap.size; omega)).trans k1))
      clear hx hks his hle1 hle2 h
      have hlk1 : k ≤ 1048576 := by omega
      go_wp2_with (first
        | (at_builtin; refine wpList_appIS (.tmp 16) (.tmp 22) rfl rfl ks [ky] rfl HL1.out (S1.out.alloc _) rfl rfl (SlI.new wr [ky] (lo := 0) (Nat.zero_le _)).rd (by omega) ?_; intro A3 c3 lo3 hi3 w3 s3 d3 t3; rw [World.size_alloc] at d3; obtain ⟨q2, q3, q3', q4, q5, q6, q7, q8, q9⟩ := NEXT.out _ _ _ _ _ s3 d3 t3; have S3 := Lib.hid s3; have S4 := Lib.hid q2; have HB3 := Lib.hid q7; clear s3 q2 q7 d3 t3 NEXT)
        | (at_builtin; refine wpList_appIS (.tmp 24) (.tmp 30) rfl rfl is [no] rfl HL2.out (S4.out.alloc _) rfl rfl (SlI.new w3 [no] (lo := 0) (Nat.zero_le _)).rd (by omega) ?_; intro A5 c5 lo5 hi5 w5 s5 d5 t5))
      rw [World.size_alloc] at d5
      have hz5 := t5.size
      rw [World.size_alloc] at hz5
      have S5 := Lib.hid s5
      have S6 := Lib.hid ((S3.out.alloc (.cells (ints [no]).toArray 3)).turn t5 (by omega))
      have HB5 := Lib.hid ((HB3.out.alloc (by omega) (.cells (ints [no]).toArray 3)).trans ((t5.below (by simp; omega)).mono hl2))
      have q10 : w.heap.size ≤ lo5 := by omega
      have q11 : hi5 ≤ w5.heap.size := by omega
      have q14 : lo5 ≤ w5.heap.size := by omega
      have q12 : hi3 ≤ lo5 ∨ hi5 ≤ lo3 := by omega
      have q13 : hi3 ≤ w5.heap.size := by omega
      clear s5 d5 t5
      go_wp2
      go_roundw
      case rel => exact ⟨k + 1, A3, c3, lo3, hi3, A5, c5, lo5, hi5, by omega, by go_num, rfl, rfl, by rw [HT1.out]; exact S6.out, by rw [HT2.out]; exact S5.out, q3, q10, by omega, q14, q13, q11, q12, HB5.out⟩
      case measure => simp [intOf]; omega
    · have hkl : rs.take k = rs := List.take_of_length_le (by omega)
      have hkn : k = rs.length := by omega
      subst hkn
      rw [hkl] at S1 S2
      obtain ⟨ks, hks⟩ : ∃ ks, rs.map (·.ky) = ks := ⟨_, rfl⟩
      obtain ⟨is, his⟩ : ∃ is, rs.map (·.no) = is := ⟨_, rfl⟩
      have hle1 : ks.length = rs.length := by rw [← hks, List.length_map]
      have hle2 : is.length = rs.length := by rw [← his, List.length_map]
      have HR := Lib.hid (show rowsVB rs nx = (vkB ks && allB 0 (prevI nx) is && nodupB is && inB nx 0 100) from by rw [← hks, ← his]; rfl)
      rw [hks] at S1
      rw [his] at S2
      have VK := Lib.hid (qb (validKeys (c := c1) (w := wr) ks hle1 (by omega) (by have := S1.out.le; omega) S1.out.rd))
      have AL := Lib.hid (fun (W : World) (b : Below wr.heap.size wr W) => allIn (c := c2) (w := W) (lo := 0) (hi := prevI nx) is hle2 (by omega) ((S2.out.below b hh2).rd))
      have FO := Lib.hid (fun (W : World) (b : Below wr.heap.size wr W) => firstOnly (c := c2) (w := W) is hle2 (by omega) ((S2.out.below b hh2).rd) (by have := b.size; omega))
      have FE := Lib.hid (firstF_eq is)
      have FL := Lib.hid (firstF_len is)
      have HL2 := Lib.hid hle2
      have ewp : IntKind.i64.wrap (nx - 1) = prevI nx := rfl
      clear hks his hle1 hle2 hkl
      cases hv1 : vkB ks
      · rw [hv1] at VK HR
        have HF := Lib.hid (show rowsVB rs nx = false from by rw [HR.out]; rfl)
        clear hv1
        go_wp2_with fail
        refine VK.out.mono ?_; rintro e w3 ⟨rfl, b3⟩
        have HB3 := Lib.hid (HB.out.trans (b3.mono hsz))
        clear b3
        go_wp2_with fail
        go_ret
        exact ⟨ret_bool HF.out.symm, HB3.out⟩
      · rw [hv1] at VK HR
        clear hv1
        go_wp2_with fail
        refine VK.out.mono ?_; rintro e w3 ⟨rfl, b3⟩
        have HB3 := Lib.hid (HB.out.trans (b3.mono hsz))
        have b3H := Lib.hid b3
        clear b3
        cases hv2 : allB 0 (prevI nx) is
        · rw [hv2] at AL HR
          have HF := Lib.hid (show rowsVB rs nx = false from by rw [HR.out]; rfl)
          clear hv2
          go_wp2_with fail
          refine (AL.out _ b3H.out).mono ?_; rintro e w4 ⟨rfl, rfl⟩
          go_wp2_with fail
          go_ret
          exact ⟨ret_bool HF.out.symm, HB3.out⟩
        · rw [hv2] at AL HR
          clear hv2
          go_wp2_with fail
          refine (AL.out _ b3H.out).mono ?_; rintro e w4 ⟨rfl, rfl⟩
          go_wp2_with fail
          refine (FO.out _ b3H.out).mono ?_; rintro e w5 ⟨A5, c5, rfl, s5, b5⟩
          have HB5 := Lib.hid (HB3.out.trans (b5.mono (by have := HB3.out.size; omega)))
          obtain ⟨fl, hfl⟩ : ∃ fl, (firstF is).length = fl := ⟨_, rfl⟩
          have hfe := FE.out
          rw [hfl, HL2.out] at hfe
          rw [hfl]
          clear s5 b5 hfl FL
          cases hv3 : nodupB is
          · rw [hv3] at hfe HR
            have hne : ((fl : Int) == (rs.length : Int)) = false := by rw [beq_eq_false_iff_ne]; intro e; exact absurd hfe (by rw [decide_eq_true (by omega)]; simp)
            have HF := Lib.hid (show rowsVB rs nx = false from by rw [HR.out]; rfl)
            clear hv3 hfe
            go_wp2_with fail
            go_ret
            exact ⟨ret_bool HF.out.symm, HB5.out⟩
          · rw [hv3] at hfe HR
            have hne : ((fl : Int) == (rs.length : Int)) = true := by rw [beq_iff_eq]; have := of_decide_eq_true hfe; omega
            have HF := Lib.hid (show rowsVB rs nx = inB nx 0 100 from by rw [HR.out]; rfl)
            clear hv3 hfe
            go_wp2_with fail
            refine inRange.mono ?_; rintro e w6 ⟨rfl, rfl⟩
            go_wp2_with fail
            go_ret
            exact ⟨ret_bool HF.out.symm, HB5.out⟩
end Go.Proofs.Ytmmegmefiihabaa
