/-
  What ApplyPatch does, step by step; spec.putBehind, changed, ApplyPatch.
-/
import Derived.Test.YtmmegmefiihabaaRecC
import Derived.Test.YtmmegmefiihabaaKeys
import Derived.Deep.RegionHeld3
import Derived.Deep.DeepFit
import Derived.IntWalk
namespace Go.Proofs.Ytmmegmefiihabaa
open Go.RowKit

def putF (ks : List Int) (p key : Int) : Option (List Int) :=
  if p = -1 then some (key :: ks) else if memB p ks then some (ks.take (idx p ks + 1) ++ key :: ks.drop (idx p ks + 1)) else none
def delF (ks : List Int) (key : Int) : List Int := ks.take (idx key ks) ++ ks.drop (idx key ks + 1)
def stepA (ks : List Int) (c : Chg) : Option (List Int) :=
  if c.kd = 0 then (if memB c.ky ks && (c.aa == -1) then some (delF ks c.ky) else none)
  else if c.kd = 1 then (if memB c.ky ks then none else if inB c.ky 0 30 then putF ks c.aa c.ky else none)
  else if c.kd = 2 then (if memB c.ky ks then putF (delF ks c.ky) c.aa c.ky else none)
  else none
def applyG : List Int → List Chg → Option (List Int)
  | ks, [] => some ks
  | ks, c :: r => match stepA ks c with | some k2 => applyG k2 r | none => none
def finF (q : Option (List Int)) : List Int × Bool := match q with | some k2 => if vkB k2 then (k2, true) else ([], false) | none => ([], false)
def applyF (ks : List Int) (cs : List Chg) : List Int × Bool := if vkB ks && decide (cs.length ≤ 40) then finF (applyG ks cs) else ([], false)
/-- numbers of keys -/
def In30 (ks : List Int) : Prop := ∀ x ∈ ks, 0 ≤ x ∧ x ≤ 30
theorem delF_mem {ks : List Int} {key x : Int} (h : x ∈ delF ks key) : x ∈ ks := by
  unfold delF at h
  rw [List.mem_append] at h
  rcases h with h | h
  · exact List.mem_of_mem_take h
  · exact List.mem_of_mem_drop h
theorem delF_len {ks : List Int} {key : Int} (h : memB key ks = true) : (delF ks key).length + 1 = ks.length := by
  have := (idx_lt key ks).2 (by simpa [memB] using h)
  unfold delF
  rw [List.length_append, List.length_take, List.length_drop]; omega
theorem putF_mem {ks ys : List Int} {p key x : Int} (h : putF ks p key = some ys) (hx : x ∈ ys) : x = key ∨ x ∈ ks := by
  unfold putF at h
  split at h
  · injection h with h; subst h; simpa using hx
  · split at h
    · injection h with h; subst h
      rw [List.mem_append, List.mem_cons] at hx
      rcases hx with hx | hx | hx
      · exact .inr (List.mem_of_mem_take hx)
      · exact .inl hx
      · exact .inr (List.mem_of_mem_drop hx)
    · cases h
theorem putF_len {ks ys : List Int} {p key : Int} (h : putF ks p key = some ys) : ys.length = ks.length + 1 := by
  unfold putF at h
  split at h
  · injection h with h; subst h; simp
  · split at h
    · next hm =>
      have := (idx_lt p ks).2 (by simpa [memB] using hm)
      injection h with h; subst h
      rw [List.length_append, List.length_take, List.length_cons, List.length_drop]; omega
    · cases h
theorem stepA_in {ks ys : List Int} {c : Chg} (h : stepA ks c = some ys) (hk : In30 ks) : In30 ys ∧ ys.length ≤ ks.length + 1 := by
  unfold stepA at h
  split at h
  · split at h
    · next hc =>
      rw [Bool.and_eq_true] at hc
      injection h with h; subst h
      exact ⟨fun x hx => hk x (delF_mem hx), by have := delF_len hc.1; omega⟩
    · cases h
  · split at h
    · split at h
      · cases h
      · split at h
        · next hb =>
          have hb := inB_iff.1 hb
          exact ⟨fun x hx => by rcases putF_mem h hx with rfl | hx; exact hb; exact hk x hx, by have := putF_len h; omega⟩
        · cases h
    · split at h
      · split at h
        · next hm =>
          have hm' : c.ky ∈ ks := by simpa [memB] using hm
          exact ⟨fun x hx => by rcases putF_mem h hx with rfl | hx; exact hk _ hm'; exact hk x (delF_mem hx), by have := putF_len h; have := delF_len hm; omega⟩
        · cases h
      · cases h
theorem applyG_len {ks ys : List Int} {cs : List Chg} (h : applyG ks cs = some ys) (hk : In30 ks) : ys.length ≤ ks.length + cs.length ∧ In30 ys := by
  induction cs generalizing ks with
  | nil => injection h with h; subst h; exact ⟨by simp, hk⟩
  | cons c r ih =>
    rw [applyG] at h
    split at h
    · next k2 h2 =>
      obtain ⟨h3, h4⟩ := stepA_in h2 hk
      have := ih h h3
      simp only [List.length_cons]
      exact ⟨by omega, this.2⟩
    · cases h
theorem applyG_snoc (ks : List Int) (cs : List Chg) (c : Chg) : applyG ks (cs ++ [c]) = match applyG ks cs with | some k2 => stepA k2 c | none => none := by
  induction cs generalizing ks with
  | nil => simp only [List.nil_append, applyG]; cases stepA ks c <;> rfl
  | cons a r ih =>
    rw [List.cons_append, applyG, applyG]
    cases stepA ks a with
    | none => rfl
    | some k2 => exact ih k2
theorem applyG_none {ks : List Int} {cs : List Chg} (j : Nat) (h : applyG ks (cs.take j) = none) : applyG ks cs = none := by
  induction cs generalizing ks j with
  | nil => simpa using h
  | cons a r ih =>
    cases j with
    | zero => simp [applyG] at h
    | succ j =>
      rw [List.take_succ_cons, applyG] at h
      rw [applyG]
      cases hs : stepA ks a with
      | none => rfl
      | some k2 => rw [hs] at h; exact ih j h
theorem in30_of_vk {ks : List Int} (h : vkB ks = true) : In30 ks ∧ ks.length ≤ 10 := ⟨(vkB_iff.1 h).2.1, (vkB_iff.1 h).2.2⟩
theorem finF_len (q : Option (List Int)) : (finF q).1.length ≤ 10 := by
  unfold finF
  split
  · split
    · next h => exact (vkB_iff.1 h).2.2
    · simp
  · simp
theorem applyF_len (ks : List Int) (cs : List Chg) : (applyF ks cs).1.length ≤ 10 := by
  unfold applyF; split
  · exact finF_len _
  · simp
def optP (q : Option (List Int)) : List Int × Bool := match q with | some k => (k, true) | none => ([], false)
/-- a list of ints that is new, and a truth value -/
def RetP (p : List Int × Bool) (w : World) (e : Ending) (w' : World) : Prop :=
  ∃ A c, e = .returned (.tuple #[.slice A p.1.length c, .bool p.2]) ∧ SlI w' w.heap.size w'.heap.size A c p.1 ∧ Below w.heap.size w w'
theorem RetP.bad {p : List Int × Bool} {w w' : World} (h : p = ([], false)) (b : Below w.heap.size w w') : RetP p w (.returned (.tuple #[.slice none 0 0, .bool false])) w' := by
  subst h; exact ⟨none, 0, rfl, SlI.nil, b⟩
theorem RetP.ok {p : List Int × Bool} {w w' : World} {A : Option Addr} {c n : Nat} {ys : List Int} (h : p = (ys, true)) (hn : ys.length = n) (s : SlI w' w.heap.size w'.heap.size A c ys) (b : Below w.heap.size w w') : RetP p w (.returned (.tuple #[.slice A n c, .bool true])) w' := by
  subst h hn; exact ⟨A, c, rfl, s, b⟩
theorem plc_idx {x : Int} {xs : List Int} (h : memB x xs = true) : plc x xs = (idx x xs : Int) ∧ idx x xs < xs.length := by
  have hm : x ∈ xs := by simpa [memB] using h
  exact ⟨by unfold plc; rw [if_pos hm], (idx_lt x xs).2 hm⟩
theorem plc_none {x : Int} {xs : List Int} (h : memB x xs = false) : plc x xs = -1 := by
  have hm : ¬ x ∈ xs := by simpa [memB] using h
  unfold plc; rw [if_neg hm]
theorem RdI.from_ {w : World} {B : Nat} {A : Option Addr} {xs : List Int} (h : RdI w B A xs) {k c : Nat} (hc : k < xs.length → c ≠ k) : RdI w B (if c = k then A else A.map (·.add k)) (xs.drop k) := by
  have := Rd.cut (size := 1) h (k := k) (cap := c) (by simpa using hc)
  unfold RdI
  simpa [ints, List.map_drop] using this
def behF (xs : List Int) (p key : Int) : Option (List Int) := if inB key 0 30 then putF xs p key else none
theorem behF_bad {xs : List Int} {p key : Int} (h : inB key 0 30 = false) : optP (behF xs p key) = ([], false) := by unfold behF; rw [h]; rfl
theorem behF_none {xs : List Int} {p key : Int} (hp : ¬ p = -1) (h : memB p xs = false) : optP (behF xs p key) = ([], false) := by
  have : putF xs p key = none := by unfold putF; rw [if_neg hp, h]; rfl
  unfold behF; rw [this]; split <;> rfl
theorem behF_ok {xs ys : List Int} {p key : Int} (h : inB key 0 30 = true) (hp : putF xs p key = some ys) : optP (behF xs p key) = (ys, true) := by unfold behF; rw [if_pos h, hp]; rfl

set_option maxRecDepth 100000 in
set_option maxHeartbeats 3200000 in
theorem putBehind {A : Option Addr} {c n B : Nat} {w : World} (xs : List Int) (p key : Int) (ln : xs.length = n) (hn : n ≤ 1048576) (hc : n ≤ c) (hA : A = none → c = 0) (h : RdI w B A xs) (hB : B ≤ w.heap.size) (hpos : ∀ x ∈ xs, 0 ≤ x) :
    Calls Try.prog 86 #[.slice A n c, .int .i64 p, .int .i64 key] w (RetP (optP (behF xs p key)) w) := by
  subst ln
  have H := Lib.hid h; clear h
  have HPOS := Lib.hid hpos; clear hpos
  have PL := Lib.hid (placeIn (x := p) (c := c) (w := w) xs rfl (by omega) H.out)
  have IR := Lib.hid (inRange (n := key) (lo := 0) (hi := 30) (w := w))
  have ENTER : True := trivial
  by_cases hp : p < -1
  case pos =>
    have hm : memB p xs = false := by
      unfold memB; rw [decide_eq_false_iff_not]; intro hm; have := HPOS.out p hm; omega
    have HRES := Lib.hid (show optP (behF xs p key) = ([], false) from behF_none (by omega) hm)
    clear hm
    go_enter Try.func86, Try.ntmps86
    go_wp2_with fail
    go_ret2
    exact RetP.bad HRES.out (Below.refl _ _)
  case neg =>
  by_cases hp0 : 0 ≤ p
  case pos =>
    cases hm : memB p xs
    case false =>
      have HRES := Lib.hid (show optP (behF xs p key) = ([], false) from behF_none (by omega) hm)
      rw [plc_none hm] at PL
      clear hm
      go_enter Try.func86, Try.ntmps86
      go_wp2_with (go_at_call 80; refine PL.out.mono ?_; rintro e w' ⟨rfl, rfl⟩)
      go_ret2
      exact RetP.bad HRES.out (Below.refl _ _)
    case true =>
      obtain ⟨e1, hi⟩ := plc_idx hm
      obtain ⟨i, hi0⟩ : ∃ i, idx p xs = i := ⟨_, rfl⟩
      rw [e1, hi0] at PL
      rw [hi0] at hi
      have HPUT := Lib.hid (show putF xs p key = some (xs.take (i + 1) ++ key :: xs.drop (i + 1)) from by unfold putF; rw [if_neg (by omega), if_pos hm, hi0])
      clear hm hi0 e1
      cases hb : inB key 0 30
      case false =>
        rw [hb] at IR
        have HRES := Lib.hid (show optP (behF xs p key) = ([], false) from behF_bad hb)
        clear hb HPUT
        go_enter Try.func86, Try.ntmps86
        go_wp2_with (first
          | (go_at_call 80; refine PL.out.mono ?_; rintro e w' ⟨rfl, rfl⟩)
          | (go_at_call 93; refine IR.out.mono ?_; rintro e w' ⟨rfl, rfl⟩))
        go_ret2
        exact RetP.bad HRES.out (Below.refl _ _)
      case true =>
        rw [hb] at IR
        obtain ⟨ad, rfl⟩ : ∃ ad, A = some ad := by obtain ⟨ad, h, _⟩ := H.out.at_ hi; exact ⟨ad, h⟩
        have hk1 : (0 : Int) ≤ (i : Int) + 1 := by omega
        have hk2 : (i : Int) + 1 ≤ (c : Int) := by omega
        have hk3 : (i : Int) + 1 ≤ (xs.length : Int) := by omega
        have hwr : IntKind.i64.wrap ((i : Int) + 1) = (i : Int) + 1 := IntWalk.i64_in _ (by omega)
        have htn : ((i : Int) + 1).toNat = i + 1 := by omega
        have hne0 : ((i : Int) + 1 == 0) = false := by rw [beq_eq_false_iff_ne]; omega
        by_cases hck : c = i + 1
        · have hxl : xs.length = i + 1 := by omega
          obtain ⟨ps, has⟩ : ∃ ps, ps = xs.take (i + 1) := ⟨_, rfl⟩
          have HAL := Lib.hid (show ps.length = i + 1 by rw [has, List.length_take]; omega)
          have RA := Lib.hid (show RdI w w.heap.size (some ad) ps by rw [has]; exact (H.out.more hB).take _)
          have HRES := Lib.hid (show optP (behF xs p key) = (ps ++ [key] ++ [], true) from by
            rw [behF_ok hb HPUT.out, has, List.drop_eq_nil_of_le (by omega)]; simp)
          have HLEN := Lib.hid HAL.out
          have hcc : c - (i + 1) = 0 := by omega
          subst hck
          have hkk : (i : Int) + 1 ≤ ((i + 1 : Nat) : Int) := by omega
          clear HPUT has hxl hb
          have RA2 := Lib.hid (show RdI (w.drew.alloc (.cells (ints [key]).toArray 3)) w.heap.size (some ad) ps from RA.out.belowLe ((Below.refl w.heap.size w).drew.alloc (Nat.le_refl _) _) (Nat.le_refl _))
          have RX := Lib.hid (show RdI (w.drew.alloc (.cells (ints [key]).toArray 3)) (w.heap.size + 1) (some ⟨w.heap.size, 0, none⟩) [key] from (SlI.new w.drew [key] (lo := 0) (Nat.zero_le _)).rd)
          have hle2 : w.heap.size ≤ (w.drew.alloc (.cells (ints [key]).toArray 3)).heap.size := ((Below.refl w.heap.size w).drew.alloc (Nat.le_refl _) _).size
          have hle3 : w.heap.size + 1 ≤ (w.drew.alloc (.cells (ints [key]).toArray 3)).heap.size := by rw [World.size_alloc]; exact Nat.le_refl _
          go_enter Try.func86, Try.ntmps86
          go_wp2_with (first
            | (go_at_call 80; refine PL.out.mono ?_; rintro e w' ⟨rfl, rfl⟩)
            | (go_at_call 93; refine IR.out.mono ?_; rintro e w' ⟨rfl, rfl⟩))
          have hmx : Try.prog.follows .mixedOrders = true := by kernel_rfl
          go_region_held3 (fun _ => True) (trivial)
            ((first
                | (go_at_call 57; refine (copyInts (w := w.drew) ps HAL.out (by omega) RA.out (Nat.le_refl _)).mono ?_; rintro e w13 ⟨A13, c13, rfl, s13, b13⟩)
                | (go_at_call 57; refine (copyInts (w := w.drew.alloc (.cells (ints [key]).toArray 3)) ps HAL.out (by omega) RA2.out hle2).mono ?_; rintro e w13 ⟨A13, c13, rfl, s13, b13⟩)
                | (refine step_appI (.tmp 33) (.tmp 35) rfl rfl ps [key] rfl rfl (s13.alloc _) rfl rfl (SlI.new w13 [key] (lo := 0) (Nat.zero_le _)).rd (by have := HAL.out; simp; omega) (Nat.le_trans b13.size ((Below.refl w13.heap.size w13).alloc (Nat.le_refl _) _).size) ?_; intro A14 c14 w14 h14 t14 _)
                | (refine step_appI (.tmp 33) (.tmp 35) rfl rfl ps [key] rfl rfl s13 rfl rfl (RX.out.belowLe b13 hle3) (by have := HAL.out; simp; omega) b13.size ?_; intro A14 c14 w14 h14 t14 _)
                | (refine step_appI (.tmp 36) (.tmp 39) rfl rfl (ps ++ [key]) [] rfl (by simp) (h14.all t14 ((Below.refl w13.heap.size w13).alloc (Nat.le_refl _) _).size) rfl rfl (Rd.nil (B := 0)) (by have := HAL.out; simp; omega) (Nat.le_trans b13.size (Nat.le_trans ((Below.refl w13.heap.size w13).alloc (Nat.le_refl _) _).size t14.size)) ?_; intro A15 c15 w15 h15 t15 _)
                | (refine step_appI (.tmp 36) (.tmp 39) rfl rfl (ps ++ [key]) [] rfl (by simp) (h14.all t14 (Nat.le_refl _)) rfl rfl (Rd.nil (B := 0)) (by have := HAL.out; simp; omega) (Nat.le_trans b13.size t14.size) ?_; intro A15 c15 w15 h15 t15 _)))
          all_goals
            have KF : ∀ n, (ps ++ [key] ++ []).length = n → RetP (optP (behF xs p key)) w (.returned (.tuple #[.slice A15 n c15, .bool true])) w15 := fun n hn => by
              rw [HRES.out]
              first
                | exact RetP.ok rfl hn (h15.all t15 (Nat.le_refl _)) (Below.new (Below.new (((Below.refl w.heap.size w).drew.trans b13).alloc b13.size _) t14 (Nat.le_refl _) (Nat.le_refl _)) t15 (Nat.le_refl _) (Nat.le_refl _))
                | exact RetP.ok rfl hn ((h15.all t15 (Nat.le_refl _)).mono hle2 (Nat.le_refl _)) (Below.new (Below.new (((Below.refl w.heap.size w).drew.alloc (Nat.le_refl _) _).trans (b13.mono hle2)) t14 hle2 (Nat.le_refl _)) t15 hle2 (Nat.le_refl _))
            have KF := Lib.hid KF
            clear s13 b13 h14 t14 h15 t15
            go_wp2_with fail
            go_ret2
            exact KF.out _ (by have h1 := HLEN.out; first | (simp; done) | (simp; omega))
        · obtain ⟨ps, has⟩ : ∃ ps, ps = xs.take (i + 1) := ⟨_, rfl⟩
          have HAL := Lib.hid (show ps.length = i + 1 by rw [has, List.length_take]; omega)
          have RA := Lib.hid (show RdI w w.heap.size (some ad) ps by rw [has]; exact (H.out.more hB).take _)
          obtain ⟨bs, hbs⟩ : ∃ bs, bs = xs.drop (i + 1) := ⟨_, rfl⟩
          have HBL := Lib.hid (show bs.length = xs.length - (i + 1) by rw [hbs, List.length_drop])
          have RB' := Lib.hid (show RdI w w.heap.size (some (ad.add (i + 1))) bs by
            have h2 := (H.out.more hB).from_ (k := i + 1) (c := c) (fun h => by omega)
            rw [if_neg (by omega)] at h2
            rw [hbs]; exact h2)
          have HRES := Lib.hid (show optP (behF xs p key) = (ps ++ [key] ++ bs, true) from by
            rw [behF_ok hb HPUT.out, has, hbs]; simp)
          have HLEN := Lib.hid (And.intro HAL.out HBL.out)
          clear HPUT has hbs hb
          have RA2 := Lib.hid (show RdI (w.drew.alloc (.cells (ints [key]).toArray 3)) w.heap.size (some ad) ps from RA.out.belowLe ((Below.refl w.heap.size w).drew.alloc (Nat.le_refl _) _) (Nat.le_refl _))
          have RX := Lib.hid (show RdI (w.drew.alloc (.cells (ints [key]).toArray 3)) (w.heap.size + 1) (some ⟨w.heap.size, 0, none⟩) [key] from (SlI.new w.drew [key] (lo := 0) (Nat.zero_le _)).rd)
          have hle2 : w.heap.size ≤ (w.drew.alloc (.cells (ints [key]).toArray 3)).heap.size := ((Below.refl w.heap.size w).drew.alloc (Nat.le_refl _) _).size
          have hle3 : w.heap.size + 1 ≤ (w.drew.alloc (.cells (ints [key]).toArray 3)).heap.size := by rw [World.size_alloc]; exact Nat.le_refl _
          go_enter Try.func86, Try.ntmps86
          go_wp2_with (first
            | (go_at_call 80; refine PL.out.mono ?_; rintro e w' ⟨rfl, rfl⟩)
            | (go_at_call 93; refine IR.out.mono ?_; rintro e w' ⟨rfl, rfl⟩))
          have hmx : Try.prog.follows .mixedOrders = true := by kernel_rfl
          go_region_held3 (fun _ => True) (trivial)
            ((first
                | (go_at_call 57; refine (copyInts (w := w.drew) ps HAL.out (by omega) RA.out (Nat.le_refl _)).mono ?_; rintro e w13 ⟨A13, c13, rfl, s13, b13⟩)
                | (go_at_call 57; refine (copyInts (w := w.drew.alloc (.cells (ints [key]).toArray 3)) ps HAL.out (by omega) RA2.out hle2).mono ?_; rintro e w13 ⟨A13, c13, rfl, s13, b13⟩)
                | (refine step_appI (.tmp 33) (.tmp 35) rfl rfl ps [key] rfl rfl (s13.alloc _) rfl rfl (SlI.new w13 [key] (lo := 0) (Nat.zero_le _)).rd (by have := HAL.out; simp; omega) (Nat.le_trans b13.size ((Below.refl w13.heap.size w13).alloc (Nat.le_refl _) _).size) ?_; intro A14 c14 w14 h14 t14 _)
                | (refine step_appI (.tmp 33) (.tmp 35) rfl rfl ps [key] rfl rfl s13 rfl rfl (RX.out.belowLe b13 hle3) (by have := HAL.out; simp; omega) b13.size ?_; intro A14 c14 w14 h14 t14 _)
                | (refine step_appI (.tmp 36) (.tmp 39) rfl rfl (ps ++ [key]) bs rfl (by simp) (h14.all t14 ((Below.refl w13.heap.size w13).alloc (Nat.le_refl _) _).size) rfl HBL.out (RB'.out.belowLe (Below.new (((Below.refl w.heap.size w).drew.trans b13).alloc b13.size _) t14 (Nat.le_refl _) (Nat.le_refl _)) (Nat.le_refl _)) (by have := HAL.out; simp; omega) (Nat.le_trans b13.size (Nat.le_trans ((Below.refl w13.heap.size w13).alloc (Nat.le_refl _) _).size t14.size)) ?_; intro A15 c15 w15 h15 t15 _)
                | (refine step_appI (.tmp 36) (.tmp 39) rfl rfl (ps ++ [key]) bs rfl (by simp) (h14.all t14 (Nat.le_refl _)) rfl HBL.out (RB'.out.belowLe (Below.new (((Below.refl w.heap.size w).drew.alloc (Nat.le_refl _) _).trans (b13.mono hle2)) t14 hle2 (Nat.le_refl _)) (Nat.le_refl _)) (by have := HAL.out; simp; omega) (Nat.le_trans b13.size t14.size) ?_; intro A15 c15 w15 h15 t15 _)))
          all_goals
            have KF : ∀ n, (ps ++ [key] ++ bs).length = n → RetP (optP (behF xs p key)) w (.returned (.tuple #[.slice A15 n c15, .bool true])) w15 := fun n hn => by
              rw [HRES.out]
              first
                | exact RetP.ok rfl hn (h15.all t15 (Nat.le_refl _)) (Below.new (Below.new (((Below.refl w.heap.size w).drew.trans b13).alloc b13.size _) t14 (Nat.le_refl _) (Nat.le_refl _)) t15 (Nat.le_refl _) (Nat.le_refl _))
                | exact RetP.ok rfl hn ((h15.all t15 (Nat.le_refl _)).mono hle2 (Nat.le_refl _)) (Below.new (Below.new (((Below.refl w.heap.size w).drew.alloc (Nat.le_refl _) _).trans (b13.mono hle2)) t14 hle2 (Nat.le_refl _)) t15 hle2 (Nat.le_refl _))
            have KF := Lib.hid KF
            clear s13 b13 h14 t14 h15 t15
            go_wp2_with fail
            go_ret2
            exact KF.out _ (by have h1 := HLEN.out; first | (simp; done) | (simp; omega))
  case neg =>
  obtain rfl : p = -1 := by omega
  have HPUT := Lib.hid (show putF xs (-1) key = some (key :: xs) from by unfold putF; rw [if_pos rfl])
  cases hb : inB key 0 30
  case false =>
    rw [hb] at IR
    have HRES := Lib.hid (show optP (behF xs (-1) key) = ([], false) from behF_bad hb)
    clear hb HPUT
    go_enter Try.func86, Try.ntmps86
    go_wp2_with (go_at_call 93; refine IR.out.mono ?_; rintro e w' ⟨rfl, rfl⟩)
    go_ret2
    exact RetP.bad HRES.out (Below.refl _ _)
  case true =>
    rw [hb] at IR
    cases A with
    | none =>
      obtain rfl : c = 0 := hA rfl
      obtain rfl : xs = [] := List.eq_nil_of_length_eq_zero (by omega)
      obtain ⟨ps, has⟩ : ∃ ps : List Int, ps = [] := ⟨_, rfl⟩
      have HAL := Lib.hid (show ps.length = 0 by rw [has]; rfl)
      have RA := Lib.hid (show RdI w w.heap.size none ps by rw [has]; exact RdI.nil)
      have HRES := Lib.hid (show optP (behF [] (-1) key) = (ps ++ [key] ++ [], true) from by
        rw [behF_ok hb HPUT.out, has]; simp)
      have HLEN := Lib.hid HAL.out
      clear HPUT has hb PL hA
      have RA2 := Lib.hid (show RdI (w.drew.alloc (.cells (ints [key]).toArray 3)) w.heap.size none ps from RA.out.belowLe ((Below.refl w.heap.size w).drew.alloc (Nat.le_refl _) _) (Nat.le_refl _))
      have RX := Lib.hid (show RdI (w.drew.alloc (.cells (ints [key]).toArray 3)) (w.heap.size + 1) (some ⟨w.heap.size, 0, none⟩) [key] from (SlI.new w.drew [key] (lo := 0) (Nat.zero_le _)).rd)
      have hle2 : w.heap.size ≤ (w.drew.alloc (.cells (ints [key]).toArray 3)).heap.size := ((Below.refl w.heap.size w).drew.alloc (Nat.le_refl _) _).size
      have hle3 : w.heap.size + 1 ≤ (w.drew.alloc (.cells (ints [key]).toArray 3)).heap.size := by rw [World.size_alloc]; exact Nat.le_refl _
      go_enter Try.func86, Try.ntmps86
      go_wp2_with (go_at_call 93; refine IR.out.mono ?_; rintro e w' ⟨rfl, rfl⟩)
      have hmx : Try.prog.follows .mixedOrders = true := by kernel_rfl
      go_region_held3 (fun _ => True) (trivial)
        ((first
            | (go_at_call 57; refine (copyInts (w := w.drew) ps HAL.out (by omega) RA.out (Nat.le_refl _)).mono ?_; rintro e w13 ⟨A13, c13, rfl, s13, b13⟩)
            | (go_at_call 57; refine (copyInts (w := w.drew.alloc (.cells (ints [key]).toArray 3)) ps HAL.out (by omega) RA2.out hle2).mono ?_; rintro e w13 ⟨A13, c13, rfl, s13, b13⟩)
            | (refine step_appI (.tmp 33) (.tmp 35) rfl rfl ps [key] rfl rfl (s13.alloc _) rfl rfl (SlI.new w13 [key] (lo := 0) (Nat.zero_le _)).rd (by have := HAL.out; simp; omega) (Nat.le_trans b13.size ((Below.refl w13.heap.size w13).alloc (Nat.le_refl _) _).size) ?_; intro A14 c14 w14 h14 t14 _)
            | (refine step_appI (.tmp 33) (.tmp 35) rfl rfl ps [key] rfl rfl s13 rfl rfl (RX.out.belowLe b13 hle3) (by have := HAL.out; simp; omega) b13.size ?_; intro A14 c14 w14 h14 t14 _)
            | (refine step_appI (.tmp 36) (.tmp 39) rfl rfl (ps ++ [key]) [] rfl (by simp) (h14.all t14 ((Below.refl w13.heap.size w13).alloc (Nat.le_refl _) _).size) rfl rfl (Rd.nil (B := 0)) (by have := HAL.out; simp; omega) (Nat.le_trans b13.size (Nat.le_trans ((Below.refl w13.heap.size w13).alloc (Nat.le_refl _) _).size t14.size)) ?_; intro A15 c15 w15 h15 t15 _)
            | (refine step_appI (.tmp 36) (.tmp 39) rfl rfl (ps ++ [key]) [] rfl (by simp) (h14.all t14 (Nat.le_refl _)) rfl rfl (Rd.nil (B := 0)) (by have := HAL.out; simp; omega) (Nat.le_trans b13.size t14.size) ?_; intro A15 c15 w15 h15 t15 _)))
      all_goals
        have KF : ∀ n, (ps ++ [key] ++ []).length = n → RetP (optP (behF [] (-1) key)) w (.returned (.tuple #[.slice A15 n c15, .bool true])) w15 := fun n hn => by
          rw [HRES.out]
          first
            | exact RetP.ok rfl hn (h15.all t15 (Nat.le_refl _)) (Below.new (Below.new (((Below.refl w.heap.size w).drew.trans b13).alloc b13.size _) t14 (Nat.le_refl _) (Nat.le_refl _)) t15 (Nat.le_refl _) (Nat.le_refl _))
            | exact RetP.ok rfl hn ((h15.all t15 (Nat.le_refl _)).mono hle2 (Nat.le_refl _)) (Below.new (Below.new (((Below.refl w.heap.size w).drew.alloc (Nat.le_refl _) _).trans (b13.mono hle2)) t14 hle2 (Nat.le_refl _)) t15 hle2 (Nat.le_refl _))
        have KF := Lib.hid KF
        clear s13 b13 h14 t14 h15 t15
        go_wp2_with fail
        go_ret2
        exact KF.out _ (by have h1 := HLEN.out; first | (simp; done) | (simp; omega))
    | some ad =>
      by_cases hc0 : c = 0
      · subst hc0
        obtain rfl : xs = [] := List.eq_nil_of_length_eq_zero (by omega)
        obtain ⟨ps, has⟩ : ∃ ps : List Int, ps = [] := ⟨_, rfl⟩
        have HAL := Lib.hid (show ps.length = 0 by rw [has]; rfl)
        have RA := Lib.hid (show RdI w w.heap.size (some ad) ps by rw [has]; exact RdI.nil)
        have HRES := Lib.hid (show optP (behF [] (-1) key) = (ps ++ [key] ++ [], true) from by
          rw [behF_ok hb HPUT.out, has]; simp)
        have HLEN := Lib.hid HAL.out
        clear HPUT has hb PL hA
        have RA2 := Lib.hid (show RdI (w.drew.alloc (.cells (ints [key]).toArray 3)) w.heap.size (some ad) ps from RA.out.belowLe ((Below.refl w.heap.size w).drew.alloc (Nat.le_refl _) _) (Nat.le_refl _))
        have RX := Lib.hid (show RdI (w.drew.alloc (.cells (ints [key]).toArray 3)) (w.heap.size + 1) (some ⟨w.heap.size, 0, none⟩) [key] from (SlI.new w.drew [key] (lo := 0) (Nat.zero_le _)).rd)
        have hle2 : w.heap.size ≤ (w.drew.alloc (.cells (ints [key]).toArray 3)).heap.size := ((Below.refl w.heap.size w).drew.alloc (Nat.le_refl _) _).size
        have hle3 : w.heap.size + 1 ≤ (w.drew.alloc (.cells (ints [key]).toArray 3)).heap.size := by rw [World.size_alloc]; exact Nat.le_refl _
        go_enter Try.func86, Try.ntmps86
        go_wp2_with (go_at_call 93; refine IR.out.mono ?_; rintro e w' ⟨rfl, rfl⟩)
        have hmx : Try.prog.follows .mixedOrders = true := by kernel_rfl
        go_region_held3 (fun _ => True) (trivial)
          ((first
              | (go_at_call 57; refine (copyInts (w := w.drew) ps HAL.out (by omega) RA.out (Nat.le_refl _)).mono ?_; rintro e w13 ⟨A13, c13, rfl, s13, b13⟩)
              | (go_at_call 57; refine (copyInts (w := w.drew.alloc (.cells (ints [key]).toArray 3)) ps HAL.out (by omega) RA2.out hle2).mono ?_; rintro e w13 ⟨A13, c13, rfl, s13, b13⟩)
              | (refine step_appI (.tmp 33) (.tmp 35) rfl rfl ps [key] rfl rfl (s13.alloc _) rfl rfl (SlI.new w13 [key] (lo := 0) (Nat.zero_le _)).rd (by have := HAL.out; simp; omega) (Nat.le_trans b13.size ((Below.refl w13.heap.size w13).alloc (Nat.le_refl _) _).size) ?_; intro A14 c14 w14 h14 t14 _)
              | (refine step_appI (.tmp 33) (.tmp 35) rfl rfl ps [key] rfl rfl s13 rfl rfl (RX.out.belowLe b13 hle3) (by have := HAL.out; simp; omega) b13.size ?_; intro A14 c14 w14 h14 t14 _)
              | (refine step_appI (.tmp 36) (.tmp 39) rfl rfl (ps ++ [key]) [] rfl (by simp) (h14.all t14 ((Below.refl w13.heap.size w13).alloc (Nat.le_refl _) _).size) rfl rfl (Rd.nil (B := 0)) (by have := HAL.out; simp; omega) (Nat.le_trans b13.size (Nat.le_trans ((Below.refl w13.heap.size w13).alloc (Nat.le_refl _) _).size t14.size)) ?_; intro A15 c15 w15 h15 t15 _)
              | (refine step_appI (.tmp 36) (.tmp 39) rfl rfl (ps ++ [key]) [] rfl (by simp) (h14.all t14 (Nat.le_refl _)) rfl rfl (Rd.nil (B := 0)) (by have := HAL.out; simp; omega) (Nat.le_trans b13.size t14.size) ?_; intro A15 c15 w15 h15 t15 _)))
        all_goals
          have KF : ∀ n, (ps ++ [key] ++ []).length = n → RetP (optP (behF [] (-1) key)) w (.returned (.tuple #[.slice A15 n c15, .bool true])) w15 := fun n hn => by
            rw [HRES.out]
            first
              | exact RetP.ok rfl hn (h15.all t15 (Nat.le_refl _)) (Below.new (Below.new (((Below.refl w.heap.size w).drew.trans b13).alloc b13.size _) t14 (Nat.le_refl _) (Nat.le_refl _)) t15 (Nat.le_refl _) (Nat.le_refl _))
              | exact RetP.ok rfl hn ((h15.all t15 (Nat.le_refl _)).mono hle2 (Nat.le_refl _)) (Below.new (Below.new (((Below.refl w.heap.size w).drew.alloc (Nat.le_refl _) _).trans (b13.mono hle2)) t14 hle2 (Nat.le_refl _)) t15 hle2 (Nat.le_refl _))
          have KF := Lib.hid KF
          clear s13 b13 h14 t14 h15 t15
          go_wp2_with fail
          go_ret2
          exact KF.out _ (by have h1 := HLEN.out; first | (simp; done) | (simp; omega))
      · obtain ⟨ps, has⟩ : ∃ ps : List Int, ps = [] := ⟨_, rfl⟩
        have HAL := Lib.hid (show ps.length = 0 by rw [has]; rfl)
        have RA := Lib.hid (show RdI w w.heap.size (some ad) ps by rw [has]; exact RdI.nil)
        obtain ⟨bs, hbs⟩ : ∃ bs, bs = xs := ⟨_, rfl⟩
        have HBL := Lib.hid (show bs.length = xs.length by rw [hbs])
        have RB' := Lib.hid (show RdI w w.heap.size (some ad) bs by rw [hbs]; exact H.out.more hB)
        have HRES := Lib.hid (show optP (behF xs (-1) key) = (ps ++ [key] ++ bs, true) from by
          rw [behF_ok hb HPUT.out, has, hbs]; simp)
        have HLEN := Lib.hid (And.intro HAL.out HBL.out)
        clear HPUT has hbs hb PL hA
        have RA2 := Lib.hid (show RdI (w.drew.alloc (.cells (ints [key]).toArray 3)) w.heap.size (some ad) ps from RA.out.belowLe ((Below.refl w.heap.size w).drew.alloc (Nat.le_refl _) _) (Nat.le_refl _))
        have RX := Lib.hid (show RdI (w.drew.alloc (.cells (ints [key]).toArray 3)) (w.heap.size + 1) (some ⟨w.heap.size, 0, none⟩) [key] from (SlI.new w.drew [key] (lo := 0) (Nat.zero_le _)).rd)
        have hle2 : w.heap.size ≤ (w.drew.alloc (.cells (ints [key]).toArray 3)).heap.size := ((Below.refl w.heap.size w).drew.alloc (Nat.le_refl _) _).size
        have hle3 : w.heap.size + 1 ≤ (w.drew.alloc (.cells (ints [key]).toArray 3)).heap.size := by rw [World.size_alloc]; exact Nat.le_refl _
        go_enter Try.func86, Try.ntmps86
        go_wp2_with (go_at_call 93; refine IR.out.mono ?_; rintro e w' ⟨rfl, rfl⟩)
        have hmx : Try.prog.follows .mixedOrders = true := by kernel_rfl
        go_region_held3 (fun _ => True) (trivial)
          ((first
              | (go_at_call 57; refine (copyInts (w := w.drew) ps HAL.out (by omega) RA.out (Nat.le_refl _)).mono ?_; rintro e w13 ⟨A13, c13, rfl, s13, b13⟩)
              | (go_at_call 57; refine (copyInts (w := w.drew.alloc (.cells (ints [key]).toArray 3)) ps HAL.out (by omega) RA2.out hle2).mono ?_; rintro e w13 ⟨A13, c13, rfl, s13, b13⟩)
              | (refine step_appI (.tmp 33) (.tmp 35) rfl rfl ps [key] rfl rfl (s13.alloc _) rfl rfl (SlI.new w13 [key] (lo := 0) (Nat.zero_le _)).rd (by have := HAL.out; simp; omega) (Nat.le_trans b13.size ((Below.refl w13.heap.size w13).alloc (Nat.le_refl _) _).size) ?_; intro A14 c14 w14 h14 t14 _)
              | (refine step_appI (.tmp 33) (.tmp 35) rfl rfl ps [key] rfl rfl s13 rfl rfl (RX.out.belowLe b13 hle3) (by have := HAL.out; simp; omega) b13.size ?_; intro A14 c14 w14 h14 t14 _)
              | (refine step_appI (.tmp 36) (.tmp 39) rfl rfl (ps ++ [key]) bs rfl (by simp) (h14.all t14 ((Below.refl w13.heap.size w13).alloc (Nat.le_refl _) _).size) rfl HBL.out (RB'.out.belowLe (Below.new (((Below.refl w.heap.size w).drew.trans b13).alloc b13.size _) t14 (Nat.le_refl _) (Nat.le_refl _)) (Nat.le_refl _)) (by have := HAL.out; simp; omega) (Nat.le_trans b13.size (Nat.le_trans ((Below.refl w13.heap.size w13).alloc (Nat.le_refl _) _).size t14.size)) ?_; intro A15 c15 w15 h15 t15 _)
              | (refine step_appI (.tmp 36) (.tmp 39) rfl rfl (ps ++ [key]) bs rfl (by simp) (h14.all t14 (Nat.le_refl _)) rfl HBL.out (RB'.out.belowLe (Below.new (((Below.refl w.heap.size w).drew.alloc (Nat.le_refl _) _).trans (b13.mono hle2)) t14 hle2 (Nat.le_refl _)) (Nat.le_refl _)) (by have := HAL.out; simp; omega) (Nat.le_trans b13.size t14.size) ?_; intro A15 c15 w15 h15 t15 _)))
        all_goals
          have KF : ∀ n, (ps ++ [key] ++ bs).length = n → RetP (optP (behF xs (-1) key)) w (.returned (.tuple #[.slice A15 n c15, .bool true])) w15 := fun n hn => by
            rw [HRES.out]
            first
              | exact RetP.ok rfl hn (h15.all t15 (Nat.le_refl _)) (Below.new (Below.new (((Below.refl w.heap.size w).drew.trans b13).alloc b13.size _) t14 (Nat.le_refl _) (Nat.le_refl _)) t15 (Nat.le_refl _) (Nat.le_refl _))
              | exact RetP.ok rfl hn ((h15.all t15 (Nat.le_refl _)).mono hle2 (Nat.le_refl _)) (Below.new (Below.new (((Below.refl w.heap.size w).drew.alloc (Nat.le_refl _) _).trans (b13.mono hle2)) t14 hle2 (Nat.le_refl _)) t15 hle2 (Nat.le_refl _))
          have KF := Lib.hid KF
          clear s13 b13 h14 t14 h15 t15
          go_wp2_with fail
          go_ret2
          exact KF.out _ (by have h1 := HLEN.out; first | (simp; done) | (simp; omega))

end Go.Proofs.Ytmmegmefiihabaa
