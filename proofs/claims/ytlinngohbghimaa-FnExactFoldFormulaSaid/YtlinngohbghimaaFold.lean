/-
  Folded formulas: what is computed, in plain Lean; the small functions: join, joined, moved, numberPart, the closure number.
-/
import Derived.Test.YtlinngohbghimaaDeep
namespace Go.Proofs.Ytlinngohbghimaa
open Go.RowKit

def lastP (g : List Prt) : Prt := g.getD (g.length - 1) zP
def mvI (n a : Int) : Int := if 0 ≤ a then wrap64 (a + n) else a
def movedP (n : Int) (p : Prt) : Prt := ⟨p.kd, mvI n p.pa, mvI n p.pb, mvI n p.pc, p.nn⟩
def numP (v : Int) : Prt := ⟨0, -1, -1, -1, v⟩
def joinF (kd a b : Int) : Int :=
  if kd = 2 then (a + b) % 1000 else if kd = 3 then (a - b + 1000) % 1000 else if kd = 4 then a * b % 1000 else if kd = 5 then min a b else if kd = 6 then max a b else if a < b then 1 else 0
theorem joinF_pos {kd a b : Int} (ha : 0 ≤ a) (hb : 0 ≤ b) : 0 ≤ joinF kd a b := by
  unfold joinF
  repeat' split
  all_goals first | omega | exact Int.emod_nonneg _ (by decide)
/-- formulas laid one behind the other, and the part over them -/
def glueG : List (List Prt) → Nat → List Prt × Prt → List Prt × Prt
  | [], _, s => s
  | g :: r, x, s => glueG r (x + 1) (s.1 ++ g.map (movedP s.1.length), putF s.2 x ((s.1 ++ g.map (movedP s.1.length)).length - 1))
def gluedP (p : Prt) (subs : List (List Prt)) : List Prt := (glueG subs 0 ([], p)).1 ++ [(glueG subs 0 ([], p)).2]
def foldD (p : Prt) (subs : List (List Prt)) : List Prt :=
  if p.kd = 8 then
    if (lastP (subs.getD 0 [])).kd = 0 then (if (lastP (subs.getD 0 [])).nn = 0 then subs.getD 2 [] else subs.getD 1 []) else gluedP p subs
  else if 2 ≤ p.kd ∧ p.kd ≤ 7 then
    if (lastP (subs.getD 0 [])).kd = 0 ∧ (lastP (subs.getD 1 [])).kd = 0 ∧ joinF p.kd (lastP (subs.getD 0 [])).nn (lastP (subs.getD 1 [])).nn ≤ 99 then [numP (joinF p.kd (lastP (subs.getD 0 [])).nn (lastP (subs.getD 1 [])).nn)] else gluedP p subs
  else [p]
def foldG (ps : List Prt) : Nat → Nat → List Prt
  | 0, _ => []
  | m + 1, i => foldD (ps.getD i zP) ((belowL (ps.getD i zP)).map fun k => foldG ps m k.toNat)
def foldF (ps : List Prt) : List Prt := if validF ps then foldG ps ps.length (ps.length - 1) else []

theorem glueG_snoc (g : List Prt) : ∀ (subs : List (List Prt)) (x : Nat) (s : List Prt × Prt),
    glueG (subs ++ [g]) x s = ((glueG subs x s).1 ++ g.map (movedP (glueG subs x s).1.length), putF (glueG subs x s).2 (x + subs.length) (((glueG subs x s).1 ++ g.map (movedP (glueG subs x s).1.length)).length - 1)) := by
  intro subs
  induction subs with
  | nil => intro x s; rfl
  | cons q r ih =>
    intro x s
    rw [List.cons_append, glueG, ih, glueG, List.length_cons, show x + 1 + r.length = x + (r.length + 1) by omega]
theorem putF_nn (p : Prt) (x : Nat) (v : Int) : (putF p x v).nn = p.nn ∧ (putF p x v).kd = p.kd := by
  unfold putF
  split <;> exact ⟨rfl, rfl⟩
theorem glueG_nn : ∀ (subs : List (List Prt)) (x : Nat) (s : List Prt × Prt), (glueG subs x s).2.nn = s.2.nn := by
  intro subs
  induction subs with
  | nil => intro x s; rfl
  | cons q r ih => intro x s; rw [glueG, ih]; exact (putF_nn _ _ _).1
theorem glueG_len {M : Nat} : ∀ (subs : List (List Prt)) (x : Nat) (s : List Prt × Prt), (∀ g ∈ subs, g.length ≤ M) → (glueG subs x s).1.length ≤ s.1.length + subs.length * M := by
  intro subs
  induction subs with
  | nil => intro x s _; simp [glueG]
  | cons q r ih =>
    intro x s h
    have h1 := h q (by simp)
    have h2 := ih (x + 1) (s.1 ++ q.map (movedP s.1.length), putF s.2 x ((s.1 ++ q.map (movedP s.1.length)).length - 1)) fun g hg => h g (by simp [hg])
    rw [glueG, List.length_cons, Nat.succ_mul]
    simp only [List.length_append, List.length_map] at h2 ⊢
    omega
theorem lastP_snoc (xs : List Prt) (p : Prt) : lastP (xs ++ [p]) = p := by unfold lastP; simp
/-- what holds of a folded formula -/
def OkG (M : Nat) (g : List Prt) : Prop := 0 < g.length ∧ g.length ≤ M ∧ 0 ≤ (lastP g).nn ∧ (lastP g).nn ≤ 99
theorem alone_nn {p : Prt} (h : aloneB p = true) : 0 ≤ p.nn ∧ p.nn ≤ 99 := by
  unfold aloneB at h
  split at h
  · simp only [Bool.and_eq_true] at h; exact inB_iff.1 h.1.1.1
  · split at h
    · simp only [Bool.and_eq_true] at h; have := inB_iff.1 h.1.1.1; omega
    · split at h
      · have := of_decide_eq_true h; omega
      · split at h
        · simp only [Bool.and_eq_true, decide_eq_true_eq] at h; omega
        · cases h
theorem belowL_kd {p : Prt} : (p.kd = 8 → (belowL p).length = 3) ∧ (2 ≤ p.kd ∧ p.kd ≤ 7 → (belowL p).length = 2) ∧ (p.kd ≠ 8 → ¬ (2 ≤ p.kd ∧ p.kd ≤ 7) → belowL p = []) := by
  refine ⟨fun h => by unfold belowL; rw [if_pos h]; rfl, fun h => by unfold belowL; rw [if_neg (by omega), if_pos h]; rfl, fun h1 h2 => by unfold belowL; rw [if_neg h1, if_neg h2]⟩
theorem foldD_ok {M : Nat} {p : Prt} {subs : List (List Prt)} (hM : 1 ≤ M) (ha : 0 ≤ p.nn ∧ p.nn ≤ 99) (hl : subs.length = (belowL p).length) (hs : ∀ g ∈ subs, OkG M g) : OkG (M * 4) (foldD p subs) := by
  have hl3 := belowL_len p
  have glued : OkG (M * 4) (gluedP p subs) := by
    unfold gluedP
    refine ⟨by simp, ?_, ?_⟩
    · have := glueG_len (M := M) subs 0 ([], p) fun g hg => (hs g hg).2.1
      have h3 : subs.length * M ≤ 3 * M := Nat.mul_le_mul_right _ (by omega)
      simp only [List.length_append, List.length_cons, List.length_nil] at this ⊢
      omega
    · rw [lastP_snoc, glueG_nn]; exact ha
  have at_ : ∀ j, j < subs.length → OkG (M * 4) (subs.getD j []) := by
    intro j hj
    rw [List.getD_eq_getElem?_getD, List.getElem?_eq_getElem hj]
    have := hs subs[j] (List.getElem_mem hj)
    exact ⟨this.1, by have := this.2.1; simp only [Option.getD_some]; omega, this.2.2⟩
  have atM : ∀ j, j < subs.length → OkG M (subs.getD j []) := by
    intro j hj
    rw [List.getD_eq_getElem?_getD, List.getElem?_eq_getElem hj]
    exact hs subs[j] (List.getElem_mem hj)
  obtain ⟨b1, b2, b3⟩ := belowL_kd (p := p)
  unfold foldD
  split
  · next h8 =>
    have := b1 h8
    split
    · split
      · exact at_ 2 (by omega)
      · exact at_ 1 (by omega)
    · exact glued
  · split
    · next h8 h2 =>
      have := b2 h2
      split
      · next h =>
        have h0 := (atM 0 (by omega)).2.2
        have h1 := (atM 1 (by omega)).2.2
        have := joinF_pos (kd := p.kd) h0.1 h1.1
        exact ⟨by simp, by simp; omega, this, h.2.2⟩
      · exact glued
    · exact ⟨by simp, by simp; omega, by simpa [lastP] using ha.1, by simpa [lastP] using ha.2⟩
theorem foldG_ok {ps : List Prt} (hd : Desc ps) (ha : ∀ i (h : i < ps.length), 0 ≤ ps[i].nn ∧ ps[i].nn ≤ 99) (m : Nat) : ∀ i, i < m → i < ps.length → OkG (4 ^ m) (foldG ps m i) := by
  induction m with
  | zero => intro i h; omega
  | succ m ih =>
    intro i hi hip
    rw [foldG, Nat.pow_succ, getD_at hip]
    refine foldD_ok (Nat.pow_pos (by decide)) (ha i hip) (by simp) fun g hg => ?_
    obtain ⟨k, hk, rfl⟩ := List.mem_map.1 hg
    have := hd i hip k hk
    exact ih _ (by omega) (by omega)
theorem valid_nn {ps : List Prt} (h : validF ps = true) : ∀ i (h : i < ps.length), 0 ≤ ps[i].nn ∧ ps[i].nn ≤ 99 := by
  intro i hi
  unfold validF at h
  rw [Bool.and_eq_true, Bool.and_eq_true] at h
  have := goodFrom_at h.1.2 hi
  unfold goodB at this
  rw [Bool.and_eq_true] at this
  exact alone_nn this.1
theorem foldF_len (ps : List Prt) : (foldF ps).length ≤ 16777216 := by
  unfold foldF
  split
  · next h =>
    have hl := validF_len h
    have := (foldG_ok (validF_desc h) (valid_nn h) ps.length (ps.length - 1) (by omega) (by omega)).2.1
    have := pow12 hl.2
    omega
  · simp

set_option maxHeartbeats 1600000 in
theorem implJoin {w : World} {kd a b : Int} (ha0 : 0 ≤ a) (ha1 : a ≤ 99) (hb0 : 0 ≤ b) (hb1 : b ≤ 99) : Calls Try.prog 75 #[.int .i64 kd, .int .i64 a, .int .i64 b] w fun e w' => e = .returned (.int .i64 (joinF kd a b)) ∧ w = w' := by
  have hm0 : 0 ≤ a * b := Int.mul_nonneg ha0 hb0
  have hm1 : a * b ≤ 9801 := by have h1 : a * b ≤ a * 99 := Int.mul_le_mul_of_nonneg_left hb1 ha0; omega
  obtain ⟨ab, hab⟩ : ∃ ab, a * b = ab := ⟨_, rfl⟩
  rw [hab] at hm0 hm1
  have e1 : IntKind.i64.wrap (a + b) = a + b := IntWalk.i64_in _ (by omega)
  have e2 : IntKind.i64.wrap (a - b) = a - b := IntWalk.i64_in _ (by omega)
  have e3 : IntKind.i64.wrap (a - b + 1000) = a - b + 1000 := IntWalk.i64_in _ (by omega)
  have e4 : IntKind.i64.wrap ab = ab := IntWalk.i64_in _ (by omega)
  by_cases h2 : kd = 2
  case pos =>
    subst h2
    have HD := Lib.hid (show joinF 2 a b = (a + b) % 1000 from rfl)
    go_enter Try.func75, Try.ntmps75
    go_wp2_with fail
    go_ret
    exact ⟨ret_int (by first | (rw [HD.out]; done) | (rw [HD.out]; rfl) | (rw [HD.out]; omega)), rfl⟩
  case neg =>
  have q2 : (kd == 2) = false := by simp [h2]
  by_cases h3 : kd = 3
  case pos =>
    subst h3
    have HD := Lib.hid (show joinF 3 a b = (a - b + 1000) % 1000 from rfl)
    go_enter Try.func75, Try.ntmps75
    go_wp2_with fail
    go_ret
    exact ⟨ret_int (by first | (rw [HD.out]; done) | (rw [HD.out]; rfl) | (rw [HD.out]; omega)), rfl⟩
  case neg =>
  have q3 : (kd == 3) = false := by simp [h3]
  by_cases h4 : kd = 4
  case pos =>
    subst h4
    have HD := Lib.hid (show joinF 4 a b = a * b % 1000 from rfl)
    go_enter Try.func75, Try.ntmps75
    go_wp2_with fail
    go_ret
    exact ⟨ret_int (by first | (rw [HD.out]; done) | (rw [HD.out]; rfl) | (rw [HD.out]; omega)), rfl⟩
  case neg =>
  have q4 : (kd == 4) = false := by simp [h4]
  by_cases h5 : kd = 5
  case pos =>
    subst h5
    have HD := Lib.hid (show joinF 5 a b = min a b from rfl)
    go_enter Try.func75, Try.ntmps75
    go_wp2_with fail
    all_goals (go_ret; exact ⟨ret_int (by first | (rw [HD.out]; done) | (rw [HD.out]; rfl) | (rw [HD.out]; omega)), rfl⟩)
  case neg =>
  have q5 : (kd == 5) = false := by simp [h5]
  by_cases h6 : kd = 6
  case pos =>
    subst h6
    have HD := Lib.hid (show joinF 6 a b = max a b from rfl)
    go_enter Try.func75, Try.ntmps75
    go_wp2_with fail
    all_goals (go_ret; exact ⟨ret_int (by first | (rw [HD.out]; done) | (rw [HD.out]; rfl) | (rw [HD.out]; omega)), rfl⟩)
  case neg =>
  have q6 : (kd == 6) = false := by simp [h6]
  have HD := Lib.hid (show joinF kd a b = if a < b then 1 else 0 from by unfold joinF; rw [if_neg h2, if_neg h3, if_neg h4, if_neg h5, if_neg h6])
  clear h2 h3 h4 h5 h6
  by_cases hlt : a < b
  · go_enter Try.func75, Try.ntmps75
    go_wp2_with fail
    go_ret
    exact ⟨ret_int (by rw [HD.out, if_pos (by omega)]), rfl⟩
  · go_enter Try.func75, Try.ntmps75
    go_wp2_with fail
    go_ret
    exact ⟨ret_int (by rw [HD.out, if_neg (by omega)]), rfl⟩

set_option maxHeartbeats 1600000 in
theorem specJoined {w : World} {kd a b : Int} (ha0 : 0 ≤ a) (ha1 : a ≤ 99) (hb0 : 0 ≤ b) (hb1 : b ≤ 99) : Calls Try.prog 72 #[.int .i64 kd, .int .i64 a, .int .i64 b] w fun e w' => e = .returned (.int .i64 (joinF kd a b)) ∧ w = w' := by
  have hm0 : 0 ≤ a * b := Int.mul_nonneg ha0 hb0
  have hm1 : a * b ≤ 9801 := by have h1 : a * b ≤ a * 99 := Int.mul_le_mul_of_nonneg_left hb1 ha0; omega
  obtain ⟨ab, hab⟩ : ∃ ab, a * b = ab := ⟨_, rfl⟩
  rw [hab] at hm0 hm1
  have e1 : IntKind.i64.wrap (a + b) = a + b := IntWalk.i64_in _ (by omega)
  have e2 : IntKind.i64.wrap (a - b) = a - b := IntWalk.i64_in _ (by omega)
  have e3 : IntKind.i64.wrap (a - b + 1000) = a - b + 1000 := IntWalk.i64_in _ (by omega)
  have e4 : IntKind.i64.wrap ab = ab := IntWalk.i64_in _ (by omega)
  by_cases h2 : kd = 2
  case pos =>
    subst h2
    have HD := Lib.hid (show joinF 2 a b = (a + b) % 1000 from rfl)
    go_enter Try.func72, Try.ntmps72
    go_wp2_with fail
    go_ret
    exact ⟨ret_int (by first | (rw [HD.out]; done) | (rw [HD.out]; rfl) | (rw [HD.out]; omega)), rfl⟩
  case neg =>
  have q2 : (kd == 2) = false := by simp [h2]
  by_cases h3 : kd = 3
  case pos =>
    subst h3
    have HD := Lib.hid (show joinF 3 a b = (a - b + 1000) % 1000 from rfl)
    go_enter Try.func72, Try.ntmps72
    go_wp2_with fail
    go_ret
    exact ⟨ret_int (by first | (rw [HD.out]; done) | (rw [HD.out]; rfl) | (rw [HD.out]; omega)), rfl⟩
  case neg =>
  have q3 : (kd == 3) = false := by simp [h3]
  by_cases h4 : kd = 4
  case pos =>
    subst h4
    have HD := Lib.hid (show joinF 4 a b = a * b % 1000 from rfl)
    go_enter Try.func72, Try.ntmps72
    go_wp2_with fail
    go_ret
    exact ⟨ret_int (by first | (rw [HD.out]; done) | (rw [HD.out]; rfl) | (rw [HD.out]; omega)), rfl⟩
  case neg =>
  have q4 : (kd == 4) = false := by simp [h4]
  by_cases h5 : kd = 5
  case pos =>
    subst h5
    have HD := Lib.hid (show joinF 5 a b = min a b from rfl)
    go_enter Try.func72, Try.ntmps72
    go_wp2_with fail
    all_goals (go_ret; exact ⟨ret_int (by first | (rw [HD.out]; done) | (rw [HD.out]; rfl) | (rw [HD.out]; omega)), rfl⟩)
  case neg =>
  have q5 : (kd == 5) = false := by simp [h5]
  by_cases h6 : kd = 6
  case pos =>
    subst h6
    have HD := Lib.hid (show joinF 6 a b = max a b from rfl)
    go_enter Try.func72, Try.ntmps72
    go_wp2_with fail
    all_goals (go_ret; exact ⟨ret_int (by first | (rw [HD.out]; done) | (rw [HD.out]; rfl) | (rw [HD.out]; omega)), rfl⟩)
  case neg =>
  have q6 : (kd == 6) = false := by simp [h6]
  have HD := Lib.hid (show joinF kd a b = if a < b then 1 else 0 from by unfold joinF; rw [if_neg h2, if_neg h3, if_neg h4, if_neg h5, if_neg h6])
  clear h2 h3 h4 h5 h6
  by_cases hlt : a < b
  · go_enter Try.func72, Try.ntmps72
    go_wp2_with fail
    go_ret
    exact ⟨ret_int (by rw [HD.out, if_pos (by omega)]), rfl⟩
  · go_enter Try.func72, Try.ntmps72
    go_wp2_with fail
    go_ret
    exact ⟨ret_int (by rw [HD.out, if_neg (by omega)]), rfl⟩

end Go.Proofs.Ytlinngohbghimaa
