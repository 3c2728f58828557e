/-
  The tied card of laws.FnExactFormatFormula: it returns true for every input, and each argument reads afterwards as it read before. Conditions: the listed package-level variables start as the program's text lays them (the card ties them).
-/
import Derived.Test.YtdhjejpcppmejaaDoorWExactFormatFormula
import Derived.Test.YtdhjejpcppmejaaDoorOpen
import Derived.Test.YtdhjejpcppmejaaDoorOpenF
import Derived.Test.YtdhjejpcppmejaaDoorCards
import Derived.Test.YtdhjejpcppmejaaDoorTie
import Derived.Deep.Strs
import Derived.Deep.DeepHandedRow
import Derived.MakeChecks
import Derived.LaidMore
import Derived.OpenVars
import Derived.Stop.LaidErr
namespace Go.Proofs.YtdhjejpcppmejaaDoor
open Go.ChangeShapes Go.WideShapes Go.ChangeAt Go.RowKit
set_option linter.unusedVariables false

theorem gWords : Tryd.prog.globalNamed "loop.example/signalgraph/impl.words" = some 0 := by kernel_rfl
theorem tWords : (Tryd.prog.globals[0]?).map (·.type) = some 36 := by kernel_rfl
theorem cell_lt {w : World} {a : Addr} {v : Value} (h : w.cell? a = some v) : a.block < w.heap.size := by
  rcases Nat.lt_or_ge a.block w.heap.size with hl | hl
  · exact hl
  · unfold World.cell? at h
    rw [Array.getElem?_eq_none hl] at h
    simp at h
/-- the words as the row's list gives them -/
theorem words_of {W : World} (h : laidMetH Tryd.prog Rows.fnExactFormatFormulaRow.laid W) : WordsAt W W.heap.size := by
  rw [MakeChecks.laidMetH_plain _ _ _ (by kernel_rfl)] at h
  have h1 : laidMet Tryd.prog [("loop.example/signalgraph/impl.words", Rows.laid_loop_example_signalgraph_impl_words)] W := h.tail.tail.tail
  obtain ⟨ps, ⟨g, t, cs, fuel, p, q, hg, ht, hv, hd, _, _⟩, _⟩ := h1
  obtain rfl := Option.some.inj (gWords.symm.trans hg)
  obtain rfl := Option.some.inj (tWords.symm.trans ht)
  rcases Deep.open_strs Tryd.underlying36 Tryd.underlying9 (by kernel_rfl) hd with ⟨_, hx⟩ | ⟨a, len, cap, m, Sx, hcs, _, hlc, _, hm, hx, hcell⟩
  · simp [Rows.laid_loop_example_signalgraph_impl_words] at hx
  simp only [if_true] at hm
  subst hm
  simp only [Rows.laid_loop_example_signalgraph_impl_words, Prod.mk.injEq, DataW.slice.injEq] at hx
  obtain ⟨⟨hx1, hx2⟩, _⟩ := hx
  have hl := congrArg List.length hx1
  simp only [List.length_cons, List.length_nil, List.length_map, List.length_range] at hl
  have hc : len = 7 := by omega
  subst hc
  have hS : ∀ j, j < 7 → Sx j = bts (kindW.getD j []) := by
    intro j hj
    have e := congrArg (·[j]?) hx1
    match j, hj with
    | 0, _ | 1, _ | 2, _ | 3, _ | 4, _ | 5, _ | 6, _ =>
      simp [List.range, List.range.loop] at e
      rw [← Lib.mk_data (Sx _), ← e]
      rfl
  have hcell0 := World.var?_cell hg hv 0
  have hcs' : cs = #[.slice (some a) 7 m] := Array.ext' hcs
  rw [hcs'] at hcell0
  have h0 : W.cell? ⟨0, 0, none⟩ = some (.slice (some a) 7 m) := hcell0
  refine ⟨a, m, h0, cell_lt h0, ?_, hlc, fun j hj => ?_⟩
  · have := cell_lt (hcell 0 (by omega)).1
    rwa [block_of_add] at this
  · rw [(hcell j (by omega)).1, hS j hj]

set_option maxRecDepth 100000 in
theorem contractFormat (H : Type) (enc : TypeId × Value → H) (W : World) (base : Nat) (args : Array Value) (ds gs : List (DataW H)) (before : List MemPlace)
    (hval : ∀ (j : Nat) t v, Tryd.f3.params[j]? = some t → args[j]? = some v → Value.okWide Tryd.prog W .any base t v)
    (hW : DataW.Whole enc Tryd.prog Tryd.f3.params.toList Rows.fnExactFormatFormulaSpec.vars false W args.toList ds gs before) (hL : laidMetH Tryd.prog Rows.fnExactFormatFormulaRow.laid W) :
    Calls Tryd.prog 3 args W fun e W' => ∃ v, e = .returned v ∧ Rows.fnExactFormatFormulaSpec.post enc Tryd.prog Tryd.f3 false true false false W args v W' := by
  have hW' := hW
  obtain ⟨p, q, hA0, hV, rfl, hfz, hnd⟩ := hW
  have hA : DataW.TrodAll enc Tryd.prog W 0 (fun _ => true) true Tryd.f3.params.toList args.toList ds p := hA0
  rw [Tryd.params3] at hA hval
  obtain ⟨v0, vs0, d0, ds0, p0, q0, hargs, rfl, rfl, h0, r0⟩ := trodAll_cons hA
  obtain ⟨rfl, rfl, rfl⟩ := trodAll_nil r0
  obtain rfl : args = #[v0] := by cases args; simp_all
  have kV := hV
  obtain ⟨g, t, cs, fuel, d, pv, rfl, hg, ht, hv, hd, rfl⟩ := trodVars_one hV
  have k0 := h0
  obtain ⟨A0, c0, xs0, rfl, rd0, ln0⟩ := openP (hval 0 24 v0 rfl rfl) h0
  clear hA0
  refine (walkFnExactFormatFormula A0 c0 xs0 W rd0 ln0 (words_of hL)).mono fun e W' ⟨he, bel⟩ => ?_
  subst he
  exact ⟨_, rfl, _, _, _, [], _, _, hW', trodAll_mk1 (shut_bool Tryd.underlying4 _), (trodAll_cons_mk (Below.trod laidOut (by kernel_rfl) (of_decide_eq_true (by kernel_rfl)) k0 bel (places_lt k0)) trodAll_mk0), Below.trodVars laidOut bel (by kernel_rfl) kV, bel.frame _, fun h => by cases h⟩

set_option maxRecDepth 100000 in
theorem laid_metF (os : Os) : laidMetH Tryd.prog Rows.fnExactFormatFormulaRow.laid ((World.doorLaid Tryd.prog 29 os).forCall (fun _ _ => 0) ⟨#[], #[.agg #[.slice none 0 0]], []⟩).memory :=
  laidMetH_of_parts3 (fuel := 8) (laidMet_of_run' 8 (by kernel_rfl) (by kernel_rfl)) (by kernel_rfl) (by kernel_rfl)

set_option maxRecDepth 100000 in
theorem fnExactFormatFormula_lifted (os : Os) (started : os.Started) (H : Type) (enc : TypeId × Value → H) :
    ReturnsInHanded {} Tryd.checked os 3 .any (fun w args => (Rows.fnExactFormatFormulaSpec.pre enc Tryd.prog Tryd.f3 [] false w args ∧ laidMetH Tryd.prog Rows.fnExactFormatFormulaRow.laid w) ∧ sizedMet enc Tryd.prog Tryd.f3 (OpenSpec.ofChange Rows.fnExactFormatFormulaSpec) false w args)
      (Rows.fnExactFormatFormulaSpec.post enc Tryd.prog Tryd.f3 false true false false) := by
  refine returnsInHanded_of_change_and (C := Tryd.checked) (X := fun w _ => laidMetH Tryd.prog Rows.fnExactFormatFormulaRow.laid w) (fun _ _ _ hh h => h.of_heap hh) own started (by kernel_rfl) Tryd.func3
    (ChangeSpec.witness_shaped (enc := enc) (C := Tryd.checked) (os := os) (X := fun w _ => laidMetH Tryd.prog Rows.fnExactFormatFormulaRow.laid w) false (World.doorLaid Tryd.prog 29 os) #[.agg #[.slice none 0 0]] 8 rfl (World.shaped_of_RefB (by kernel_rfl) (by kernel_rfl)) (by kernel_rfl) (by kernel_rfl) (by kernel_rfl) (laid_metF os)) ?_
  intro W base args ds gs before hval hW _ _ hL _
  exact contractFormat H enc W base args ds gs before hval hW hL

theorem said_FnExactFormatFormula : Rows.FnExactFormatFormulaSaid :=
  OpenClaim.holds_of_wide 3 Tryd.f3 rfl rfl rfl rfl rfl rfl rfl ⟨rfl, rfl, rfl, rfl, rfl⟩ rfl rfl rfl rfl rfl (by kernel_rfl) Tryd.func3 (by kernel_rfl)
    (of_decide_eq_true (by kernel_rfl)) (by unfold Func.isWrapper; first | (rw [if_pos (by decide +kernel)]; kernel_rfl) | (rw [if_neg (by decide +kernel)]; exact ⟨rfl, rfl⟩))
    (fun os started H enc _ => fnExactFormatFormula_lifted os started H enc)

/-- No parameter wants a stand-in; the program's own looks are off: what the card asks. -/
theorem plainF (f : FuncId) (fn : Func) (hf : Tryd.pinned.checked.prog.funcNamed "loop.example/signalgraph/laws.FnExactFormatFormula" = some f) (hfn : Tryd.pinned.checked.prog.funcs[f]? = some fn) :
    false = Tryd.pinned.checked.prog.looks [] ∧ ∀ (j : Nat) t, fn.params[j]? = some t → Tryd.pinned.checked.prog.wantsStandIn t = false := by
  obtain rfl : f = 3 := Option.some.inj ((show Tryd.prog.funcNamed "loop.example/signalgraph/laws.FnExactFormatFormula" = some 3 by kernel_rfl).symm.trans hf) |>.symm
  obtain rfl : fn = Tryd.f3 := (Option.some.inj (Tryd.func3.symm.trans hfn)).symm
  refine ⟨by kernel_rfl, fun j t ht => ?_⟩
  rw [Tryd.params3] at ht
  obtain rfl : t = 24 := by simpa using Array.mem_of_getElem? ht
  exact (show Tryd.prog.wantsStandIn 24 = false by kernel_rfl)

theorem fnExactFormatFormula_holds : Rows.FnExactFormatFormulaCardSaid :=
  Claim7.holds_tied_plain_at .later [] _ _ _ _ said_FnExactFormatFormula (fun _ h => by cases h) (by kernel_rfl) (fun _ h => by cases h) fnExactFormatFormula_row_tie rfl ⟨rfl, rfl⟩ (by kernel_rfl) rfl plainF (by kernel_rfl)
#print axioms fnExactFormatFormula_holds
end Go.Proofs.YtdhjejpcppmejaaDoor
