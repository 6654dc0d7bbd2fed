/- The law TreeDoes answers true for every input, and its arguments read as before. No condition: the whole of the given statement. -/
import Derived.Test.YtjlfbdjglhkmjaaRows
import Derived.Test.YtjlfbdjglhkmjaaWalkB
set_option linter.all false
section
namespace Go.Ev.F31
open Go.Proofs Go.Ev
set_option maxRecDepth 100000
set_option linter.all false
theorem ops_list : ∀ {xs : List PV}, (∀ y ∈ xs, y.shape = 3 ∧ Tyds [.int .i64, .int .i64, .int .i64] y.cells) → ∃ os : List O3, xs = opsP os
  | [], _ => ⟨[], rfl⟩
  | y :: ys, h => by
    obtain ⟨os, rfl⟩ := ops_list (xs := ys) fun z hz => h z (by simp [hz])
    obtain ⟨h0, h1⟩ := h y (by simp)
    simp only [Tyds, Tyd] at h1
    obtain ⟨a, r, hc, ⟨n, rfl, _⟩, b, r', rfl, ⟨m, rfl, _⟩, b2, r2, rfl, ⟨m2, rfl, _⟩, rfl⟩ := h1
    refine ⟨(n, m, m2) :: os, ?_⟩
    cases y with
    | agg xs => simp [PV.cells] at hc; subst hc; rfl
    | _ => simp [PV.shape] at h0
theorem does (os : List O3) : (W Cf okf).call 3 [.p (ops os)] [] fun v _ => v = .p (.bool true) := by
  refine top_mk extMono Try.func3 body3 (by decide) rfl ?_
  simp only [c3, Try.f3, Option.getD_some, List.append_eq, List.cons_append, List.nil_append]
  have hol : (opsP os).length = os.length := by simp [opsP]
  rcases Nat.lt_or_ge 80 os.length with h | h
  · simp -implicitDefEqProofs -dsimp (disch := first | omega | (simp only [List.length_append, List.length_set, List.length_cons, List.length_nil, List.length_map]; omega) | decide +kernel) only [↓wkPre, ↓evC_region, ↓evC_text, ↓evC_cond, ↓evC_block, wkPost, wkF, skp, mkFn, evBuildSlice, fillS, results_tmp, mkTup, mkAgg, PV.flat, flatL, evFieldAddr, evLoad, evStore, evIndexAddr, evAlloc, evBuild, evBuiltin, evLen, lenAV, ldVar, ldArr, stVar, partA, partP, partC, withA, stride, setR, fillA, evConvert, convPV, evMakeSlice, evSlice, bnd, atI, binAV, eqAV, eqNil, leafEq, cellsEq, CfP, reduceIte, if_true, if_false, ite_true, ite_false, reduceCtorEq, ne_eq, eq_self, Nat.reduceAdd, Nat.reduceSub, Nat.reduceMul, Nat.reduceLT, Nat.reduceLeDiff, Nat.reduceEqDiff, Nat.reduceBEq, Nat.reduceBNe, Int.reduceToNat, Int.reduceLT, Int.reduceLE, Int.reduceAdd, Int.reduceSub, Int.reduceMul, Int.reduceEq, Int.reduceNe, Int.reduceBEq, Int.reduceBNe, Int.reduceNeg, Nat.reducePow, Int.reducePow, Nat.reduceMod, Nat.reduceDiv, ite_pos', ite_neg', ops, hol]
    refine PS.app md_7 Try.func7 pWorks rfl ?_
    rintro r rfl
    simp -implicitDefEqProofs -dsimp (disch := first | omega | (simp only [List.length_append, List.length_set, List.length_cons, List.length_nil, List.length_map]; omega) | decide +kernel) only [↓wkPre, ↓evC_region, ↓evC_text, ↓evC_cond, ↓evC_block, wkPost, wkF, skp, mkFn, evBuildSlice, fillS, results_tmp, mkTup, mkAgg, PV.flat, flatL, evFieldAddr, evLoad, evStore, evIndexAddr, evAlloc, evBuild, evBuiltin, evLen, lenAV, ldVar, ldArr, stVar, partA, partP, partC, withA, stride, setR, fillA, evConvert, convPV, evMakeSlice, evSlice, bnd, atI, binAV, eqAV, eqNil, leafEq, cellsEq, CfP, reduceIte, if_true, if_false, ite_true, ite_false, reduceCtorEq, ne_eq, eq_self, Nat.reduceAdd, Nat.reduceSub, Nat.reduceMul, Nat.reduceLT, Nat.reduceLeDiff, Nat.reduceEqDiff, Nat.reduceBEq, Nat.reduceBNe, Int.reduceToNat, Int.reduceLT, Int.reduceLE, Int.reduceAdd, Int.reduceSub, Int.reduceMul, Int.reduceEq, Int.reduceNe, Int.reduceBEq, Int.reduceBNe, Int.reduceNeg, Nat.reducePow, Int.reducePow, Nat.reduceMod, Nat.reduceDiv, ite_pos', ite_neg']
  · simp -implicitDefEqProofs -dsimp (disch := first | omega | (simp only [List.length_append, List.length_set, List.length_cons, List.length_nil, List.length_map]; omega) | decide +kernel) only [↓wkPre, ↓evC_region, ↓evC_text, ↓evC_cond, ↓evC_block, wkPost, wkF, skp, mkFn, evBuildSlice, fillS, results_tmp, mkTup, mkAgg, PV.flat, flatL, evFieldAddr, evLoad, evStore, evIndexAddr, evAlloc, evBuild, evBuiltin, evLen, lenAV, ldVar, ldArr, stVar, partA, partP, partC, withA, stride, setR, fillA, evConvert, convPV, evMakeSlice, evSlice, bnd, atI, binAV, eqAV, eqNil, leafEq, cellsEq, CfP, reduceIte, if_true, if_false, ite_true, ite_false, reduceCtorEq, ne_eq, eq_self, Nat.reduceAdd, Nat.reduceSub, Nat.reduceMul, Nat.reduceLT, Nat.reduceLeDiff, Nat.reduceEqDiff, Nat.reduceBEq, Nat.reduceBNe, Int.reduceToNat, Int.reduceLT, Int.reduceLE, Int.reduceAdd, Int.reduceSub, Int.reduceMul, Int.reduceEq, Int.reduceNe, Int.reduceBEq, Int.reduceBNe, Int.reduceNeg, Nat.reducePow, Int.reducePow, Nat.reduceMod, Nat.reduceDiv, ite_pos', ite_neg', ops, hol]
    refine imp_call md_8 (w8 os h _ _ ?_)
    rintro a H ⟨t, v, b, rfl, hb1, hb2, hb, g, mv, hz, hk⟩
    simp -implicitDefEqProofs -dsimp (disch := first | omega | (simp only [List.length_append, List.length_set, List.length_cons, List.length_nil, List.length_map]; omega) | decide +kernel) only [↓wkPre, ↓evC_region, ↓evC_text, ↓evC_cond, ↓evC_block, wkPost, wkF, skp, mkFn, evBuildSlice, fillS, results_tmp, mkTup, mkAgg, PV.flat, flatL, evFieldAddr, evLoad, evStore, evIndexAddr, evAlloc, evBuild, evBuiltin, evLen, lenAV, ldVar, ldArr, stVar, partA, partP, partC, withA, stride, setR, fillA, evConvert, convPV, evMakeSlice, evSlice, bnd, atI, binAV, eqAV, eqNil, leafEq, cellsEq, CfP, reduceIte, if_true, if_false, ite_true, ite_false, reduceCtorEq, ne_eq, eq_self, Nat.reduceAdd, Nat.reduceSub, Nat.reduceMul, Nat.reduceLT, Nat.reduceLeDiff, Nat.reduceEqDiff, Nat.reduceBEq, Nat.reduceBNe, Int.reduceToNat, Int.reduceLT, Int.reduceLE, Int.reduceAdd, Int.reduceSub, Int.reduceMul, Int.reduceEq, Int.reduceNe, Int.reduceBEq, Int.reduceBNe, Int.reduceNeg, Nat.reducePow, Int.reducePow, Nat.reduceMod, Nat.reduceDiv, ite_pos', ite_neg']
    refine PS.app md_7 Try.func7 pWorks rfl ?_
    rintro r rfl
    simp -implicitDefEqProofs -dsimp (disch := first | omega | (simp only [List.length_append, List.length_set, List.length_cons, List.length_nil, List.length_map]; omega) | decide +kernel) only [↓wkPre, ↓evC_region, ↓evC_text, ↓evC_cond, ↓evC_block, wkPost, wkF, skp, mkFn, evBuildSlice, fillS, results_tmp, mkTup, mkAgg, PV.flat, flatL, evFieldAddr, evLoad, evStore, evIndexAddr, evAlloc, evBuild, evBuiltin, evLen, lenAV, ldVar, ldArr, stVar, partA, partP, partC, withA, stride, setR, fillA, evConvert, convPV, evMakeSlice, evSlice, bnd, atI, binAV, eqAV, eqNil, leafEq, cellsEq, CfP, reduceIte, if_true, if_false, ite_true, ite_false, reduceCtorEq, ne_eq, eq_self, Nat.reduceAdd, Nat.reduceSub, Nat.reduceMul, Nat.reduceLT, Nat.reduceLeDiff, Nat.reduceEqDiff, Nat.reduceBEq, Nat.reduceBNe, Int.reduceToNat, Int.reduceLT, Int.reduceLE, Int.reduceAdd, Int.reduceSub, Int.reduceMul, Int.reduceEq, Int.reduceNe, Int.reduceBEq, Int.reduceBNe, Int.reduceNeg, Nat.reducePow, Int.reducePow, Nat.reduceMod, Nat.reduceDiv, ite_pos', ite_neg']
theorem lawTreeDoes : ∀ xs, Tyas [(0, [Ty.sl 3 [Ty.int .i64, Ty.int .i64, Ty.int .i64]])] xs → (Ev.W Cf okf).call 3 (xs.map AV.p) [] fun v _ => v = .p (.bool true) := by
  intro xs h
  simp only [Tyas] at h
  obtain ⟨x2, r2, rfl, h2, rfl⟩ := h
  have h3 := Tya_one h2
  simp only [Tyd] at h3
  obtain ⟨ys, rfl, _, h4⟩ := h3
  obtain ⟨os, rfl⟩ := ops_list h4
  exact does os
end Go.Ev.F31
end
section
namespace Go.Proofs.Ytjlfbdjglhkmjaa
open Go.Ev Go.Ev.F31
set_option maxRecDepth 100000
theorem own : ownKnob Try.prog.godebug = Option.none := by kernel_rfl
theorem laidOut : laidOutB Try.prog = true := by kernel_rfl
theorem tyTreeDoes : Try.f3.params.toList.mapM (tyA Try.prog 8) = some [(0, [Ty.sl 3 [Ty.int .i64, Ty.int .i64, Ty.int .i64]])] := by kernel_rfl
theorem treeDoes_lifted (os : Os) (started : os.Started) (H : Type) (enc : TypeId × Value → H) :
    ReturnsInHanded {} Try.checked os 3 .any (Rows.treeDoesSpec.pre6 enc Try.prog Try.f3 Rows.treeDoesRow.domain false) (Rows.treeDoesSpec.post enc Try.prog Try.f3 false true false false) := by
  refine returnsInHanded_of_change (C := Try.checked) own started (by kernel_rfl) Try.func3
    (ChangeSpec.witness6 (enc := enc) (C := Try.checked) false ⟨#[], #[.slice Option.none 0 0], []⟩ 8 (by kernel_rfl) (by kernel_rfl) (by kernel_rfl) (by kernel_rfl)) ?_
  intro W base args ds gs before hval hW _ _
  refine law_calls (C := Cf) extOK extMono okfOK (fn := Try.f3) laidOut (by decide +kernel) (s := Rows.treeDoesSpec) rfl ?_ tyTreeDoes (bt := 4) (by kernel_rfl) und_4 lawTreeDoes hval hW
  intro H ds h
  match ds, h with
  | [_], _ => rfl
theorem treeDoes_holds : Rows.TreeDoesSaid :=
  OpenClaim.holds_of_wide 3 Try.f3 rfl rfl rfl rfl rfl rfl rfl ⟨rfl, rfl, rfl, rfl, rfl⟩ rfl rfl rfl rfl rfl (by kernel_rfl) Try.func3 (by kernel_rfl)
    (of_decide_eq_true (by kernel_rfl)) (by unfold Func.isWrapper; rw [if_neg (by decide +kernel)]; exact ⟨rfl, rfl⟩)
    (fun os started H enc _ => treeDoes_lifted os started H enc)
end Go.Proofs.Ytjlfbdjglhkmjaa
#print axioms Go.Proofs.Ytjlfbdjglhkmjaa.treeDoes_holds
end
