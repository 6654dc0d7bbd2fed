/- The law TreeCuts answers true for every input, and its arguments read as before. No condition: the whole of the given statement. -/
import Derived.Test.YtjlfbdjglhkmjaaRows
import Derived.Test.YtjlfbdjglhkmjaaWalkD
set_option linter.all false
section
namespace Go.Ev.F31
open Go.Proofs Go.Ev
set_option maxRecDepth 100000
set_option linter.all false
theorem take_lt {l : List (Int × Int)} (h : Srt l) (j : Nat) (hj : j < l.length) : ∀ x ∈ l.take j, x.1 < l[j].1 := by
  intro x hx
  have h1 : l = l.take j ++ l[j] :: l.drop (j + 1) := by rw [← List.drop_eq_getElem_cons hj, List.take_append_drop]
  unfold Srt at h
  rw [h1] at h
  exact (List.pairwise_append.1 h).2.2 x hx _ (List.mem_cons_self ..)
theorem not_met {t' : Tr} (g' : Good t') {l : List (Int × Int)} (h : Srt l) (j : Nat) (hj : j < l.length) (ht : t'.lst = l.take j) : (splitT l[j].1 t').2.1.isN = false := by
  rw [met_eq g', ht, show eqL l[j].1 (l.take j) = [] from fil_none fun x hx => by have := take_lt h j hj x hx; simp; omega]
  rfl
set_option maxHeartbeats 4000000 in
theorem cuts (os : List O3) (x : Int) : (W Cf okf).call 6 [.p (ops os), .p (I x)] [] fun v _ => v = .p (.bool true) := by
  refine top_mk extMono Try.func6 body6 (by decide) rfl ?_
  simp only [c6, Try.f6, Option.getD_some, List.append_eq, List.cons_append, List.nil_append]
  have hol : (opsP os).length = os.length := by simp [opsP]
  rcases Nat.lt_or_ge 80 os.length with h | h
  · simp -implicitDefEqProofs -dsimp (disch := first | omega | (simp only [List.length_append, List.length_set, List.length_cons, List.length_nil, List.length_map]; omega) | decide +kernel) only [↓wkPre, ↓evC_region, ↓evC_text, ↓evC_cond, ↓evC_block, wkPost, wkF, skp, mkFn, evBuildSlice, fillS, results_tmp, mkTup, mkAgg, PV.flat, flatL, evFieldAddr, evLoad, evStore, evIndexAddr, evAlloc, evBuild, evBuiltin, evLen, lenAV, ldVar, ldArr, stVar, partA, partP, partC, withA, stride, setR, fillA, evConvert, convPV, evMakeSlice, evSlice, bnd, atI, binAV, eqAV, eqNil, leafEq, cellsEq, CfP, reduceIte, if_true, if_false, ite_true, ite_false, reduceCtorEq, ne_eq, eq_self, Nat.reduceAdd, Nat.reduceSub, Nat.reduceMul, Nat.reduceLT, Nat.reduceLeDiff, Nat.reduceEqDiff, Nat.reduceBEq, Nat.reduceBNe, Int.reduceToNat, Int.reduceLT, Int.reduceLE, Int.reduceAdd, Int.reduceSub, Int.reduceMul, Int.reduceEq, Int.reduceNe, Int.reduceBEq, Int.reduceBNe, Int.reduceNeg, Nat.reducePow, Int.reducePow, Nat.reduceMod, Nat.reduceDiv, ite_pos', ite_neg', ops, hol]
    refine PS.app md_7 Try.func7 pWorks rfl ?_
    rintro r rfl
    simp -implicitDefEqProofs -dsimp (disch := first | omega | (simp only [List.length_append, List.length_set, List.length_cons, List.length_nil, List.length_map]; omega) | decide +kernel) only [↓wkPre, ↓evC_region, ↓evC_text, ↓evC_cond, ↓evC_block, wkPost, wkF, skp, mkFn, evBuildSlice, fillS, results_tmp, mkTup, mkAgg, PV.flat, flatL, evFieldAddr, evLoad, evStore, evIndexAddr, evAlloc, evBuild, evBuiltin, evLen, lenAV, ldVar, ldArr, stVar, partA, partP, partC, withA, stride, setR, fillA, evConvert, convPV, evMakeSlice, evSlice, bnd, atI, binAV, eqAV, eqNil, leafEq, cellsEq, CfP, reduceIte, if_true, if_false, ite_true, ite_false, reduceCtorEq, ne_eq, eq_self, Nat.reduceAdd, Nat.reduceSub, Nat.reduceMul, Nat.reduceLT, Nat.reduceLeDiff, Nat.reduceEqDiff, Nat.reduceBEq, Nat.reduceBNe, Int.reduceToNat, Int.reduceLT, Int.reduceLE, Int.reduceAdd, Int.reduceSub, Int.reduceMul, Int.reduceEq, Int.reduceNe, Int.reduceBEq, Int.reduceBNe, Int.reduceNeg, Nat.reducePow, Int.reducePow, Nat.reduceMod, Nat.reduceDiv, ite_pos', ite_neg']
  · simp -implicitDefEqProofs -dsimp (disch := first | omega | (simp only [List.length_append, List.length_set, List.length_cons, List.length_nil, List.length_map]; omega) | decide +kernel) only [↓wkPre, ↓evC_region, ↓evC_text, ↓evC_cond, ↓evC_block, wkPost, wkF, skp, mkFn, evBuildSlice, fillS, results_tmp, mkTup, mkAgg, PV.flat, flatL, evFieldAddr, evLoad, evStore, evIndexAddr, evAlloc, evBuild, evBuiltin, evLen, lenAV, ldVar, ldArr, stVar, partA, partP, partC, withA, stride, setR, fillA, evConvert, convPV, evMakeSlice, evSlice, bnd, atI, binAV, eqAV, eqNil, leafEq, cellsEq, CfP, reduceIte, if_true, if_false, ite_true, ite_false, reduceCtorEq, ne_eq, eq_self, Nat.reduceAdd, Nat.reduceSub, Nat.reduceMul, Nat.reduceLT, Nat.reduceLeDiff, Nat.reduceEqDiff, Nat.reduceBEq, Nat.reduceBNe, Int.reduceToNat, Int.reduceLT, Int.reduceLE, Int.reduceAdd, Int.reduceSub, Int.reduceMul, Int.reduceEq, Int.reduceNe, Int.reduceBEq, Int.reduceBNe, Int.reduceNeg, Nat.reducePow, Int.reducePow, Nat.reduceMod, Nat.reduceDiv, ite_pos', ite_neg', ops, hol]
    refine imp_call md_8 (w8 os h _ _ ?_)
    rintro a H1 ⟨t, v, b, rfl, hb1, hb2, hb, g, mv, hz, hk⟩
    have hvs := mv.shape
    have hvu := mv.isU
    have hvt := mv.stor
    have hlv := mv.len
    unfold lenAV at hlv
    have hln := lst_len t
    have hil := items_len t.lst
    have hfl := from_le x t.lst
    have hcl := cutL_ok (k := x) g
    have hct := cutT_ok (k := x) g
    have hcz : (cutT x t).sz ≤ 1000 := by rw [← lst_len, hct.1]; simp; omega
    have hlz : (splitT x t).1.sz ≤ 1000 := by rw [← lst_len, hcl.1]; simp; omega
    simp -implicitDefEqProofs -dsimp (disch := first | omega | (simp only [List.length_append, List.length_set, List.length_cons, List.length_nil, List.length_map]; omega) | decide +kernel) only [↓wkPre, ↓evC_region, ↓evC_text, ↓evC_cond, ↓evC_block, wkPost, wkF, skp, mkFn, evBuildSlice, fillS, results_tmp, mkTup, mkAgg, PV.flat, flatL, evFieldAddr, evLoad, evStore, evIndexAddr, evAlloc, evBuild, evBuiltin, evLen, lenAV, ldVar, ldArr, stVar, partA, partP, partC, withA, stride, setR, fillA, evConvert, convPV, evMakeSlice, evSlice, bnd, atI, binAV, eqAV, eqNil, leafEq, cellsEq, CfP, reduceIte, if_true, if_false, ite_true, ite_false, reduceCtorEq, ne_eq, eq_self, Nat.reduceAdd, Nat.reduceSub, Nat.reduceMul, Nat.reduceLT, Nat.reduceLeDiff, Nat.reduceEqDiff, Nat.reduceBEq, Nat.reduceBNe, Int.reduceToNat, Int.reduceLT, Int.reduceLE, Int.reduceAdd, Int.reduceSub, Int.reduceMul, Int.reduceEq, Int.reduceNe, Int.reduceBEq, Int.reduceBNe, Int.reduceNeg, Nat.reducePow, Int.reducePow, Nat.reduceMod, Nat.reduceDiv, ite_pos', ite_neg', hvs, hvu, hvt, hlv]
    refine imp_call md_19 (w19 b t H1 true hb (by omega) _ ?_)
    intro v1 H2 ho1 hb1' hk1 hl1
    simp -implicitDefEqProofs -dsimp (disch := first | omega | (simp only [List.length_append, List.length_set, List.length_cons, List.length_nil, List.length_map]; omega) | decide +kernel) only [↓wkPre, ↓evC_region, ↓evC_text, ↓evC_cond, ↓evC_block, wkPost, wkF, skp, mkFn, evBuildSlice, fillS, results_tmp, mkTup, mkAgg, PV.flat, flatL, evFieldAddr, evLoad, evStore, evIndexAddr, evAlloc, evBuild, evBuiltin, evLen, lenAV, ldVar, ldArr, stVar, partA, partP, partC, withA, stride, setR, fillA, evConvert, convPV, evMakeSlice, evSlice, bnd, atI, binAV, eqAV, eqNil, leafEq, cellsEq, CfP, reduceIte, if_true, if_false, ite_true, ite_false, reduceCtorEq, ne_eq, eq_self, Nat.reduceAdd, Nat.reduceSub, Nat.reduceMul, Nat.reduceLT, Nat.reduceLeDiff, Nat.reduceEqDiff, Nat.reduceBEq, Nat.reduceBNe, Int.reduceToNat, Int.reduceLT, Int.reduceLE, Int.reduceAdd, Int.reduceSub, Int.reduceMul, Int.reduceEq, Int.reduceNe, Int.reduceBEq, Int.reduceBNe, Int.reduceNeg, Nat.reducePow, Int.reducePow, Nat.reduceMod, Nat.reduceDiv, ite_pos', ite_neg', hvs, hvu, hvt, hlv]
    refine imp_call md_24 (w24 b x t H2 ((hk1 b hb2).trans hb) (by omega) _ ?_)
    rintro H3 ⟨u1, u2, u3⟩ ca cl
    simp -implicitDefEqProofs -dsimp (disch := first | omega | (simp only [List.length_append, List.length_set, List.length_cons, List.length_nil, List.length_map]; omega) | decide +kernel) only [↓wkPre, ↓evC_region, ↓evC_text, ↓evC_cond, ↓evC_block, wkPost, wkF, skp, mkFn, evBuildSlice, fillS, results_tmp, mkTup, mkAgg, PV.flat, flatL, evFieldAddr, evLoad, evStore, evIndexAddr, evAlloc, evBuild, evBuiltin, evLen, lenAV, ldVar, ldArr, stVar, partA, partP, partC, withA, stride, setR, fillA, evConvert, convPV, evMakeSlice, evSlice, bnd, atI, binAV, eqAV, eqNil, leafEq, cellsEq, CfP, reduceIte, if_true, if_false, ite_true, ite_false, reduceCtorEq, ne_eq, eq_self, Nat.reduceAdd, Nat.reduceSub, Nat.reduceMul, Nat.reduceLT, Nat.reduceLeDiff, Nat.reduceEqDiff, Nat.reduceBEq, Nat.reduceBNe, Int.reduceToNat, Int.reduceLT, Int.reduceLE, Int.reduceAdd, Int.reduceSub, Int.reduceMul, Int.reduceEq, Int.reduceNe, Int.reduceBEq, Int.reduceBNe, Int.reduceNeg, Nat.reducePow, Int.reducePow, Nat.reduceMod, Nat.reduceDiv, ite_pos', ite_neg', hvs, hvu, hvt, hlv]
    refine PS.app md_9 Try.func9 (p9 t.lst x (by rw [lst_len]; omega)) (frzM mv _ _) ?_
    rintro r rfl
    have hvi := mv.ids
    simp -implicitDefEqProofs -dsimp (disch := first | omega | (simp only [List.length_append, List.length_set, List.length_cons, List.length_nil, List.length_map]; omega) | decide +kernel) only [↓wkPre, ↓evC_region_st [9], ↓evC_text_st [9], ↓evC_cond, ↓evC_block, ↓evC_stop [9], wkPost, wkF, skp, mkFn, evBuildSlice, fillS, results_tmp, mkTup, mkAgg, PV.flat, flatL, evFieldAddr, evLoad, evStore, evIndexAddr, evAlloc, evBuild, evBuiltin, evLen, lenAV, ldVar, ldArr, stVar, partA, partP, partC, withA, stride, setR, fillA, evConvert, convPV, evMakeSlice, evSlice, bnd, atI, binAV, eqAV, eqNil, leafEq, cellsEq, CfP, reduceIte, if_true, if_false, ite_true, ite_false, reduceCtorEq, ne_eq, eq_self, Nat.reduceAdd, Nat.reduceSub, Nat.reduceMul, Nat.reduceLT, Nat.reduceLeDiff, Nat.reduceEqDiff, Nat.reduceBEq, Nat.reduceBNe, Int.reduceToNat, Int.reduceLT, Int.reduceLE, Int.reduceAdd, Int.reduceSub, Int.reduceMul, Int.reduceEq, Int.reduceNe, Int.reduceBEq, Int.reduceBNe, Int.reduceNeg, Nat.reducePow, Int.reducePow, Nat.reduceMod, Nat.reduceDiv, ite_pos', ite_neg', hvi]
    have ho3 : OwnS H3 v1 0 (ints (shT t)) := ho1.keep fun c hc => u2 c (by have := hb1' c hc; omega) (ho1.lt c hc)
    have hbl : b < H1.length := hb2
    have hn1 : ∀ c, v1.blk = some c → c ≠ b := fun c hc => by have := hb1' c hc; omega
    generalize hN : (fromL x t.lst).length = N at *
    refine stop_cut extMono (fun e H => H = H3 ∧ e 5 = .vptr b 0 ∧ e 6 = v ∧ e 8 = v1 ∧ e 10 = .p (I N) ∧ e 51 = .p (B false)) ?_ ?_
    · rcases id mv with ⟨rfl, hnil⟩ | rfl
      · rw [hnil] at hct hcl hN
        have hN0 : N = 0 := by rw [← hN]; rfl
        subst hN0
        simp -implicitDefEqProofs -dsimp (disch := first | omega | (simp only [List.length_append, List.length_set, List.length_cons, List.length_nil, List.length_map]; omega) | decide +kernel) only [↓wkPre, ↓evC_region, ↓evC_text, ↓evC_cond, ↓evC_block, wkPost, wkF, skp, mkFn, evBuildSlice, fillS, results_tmp, mkTup, mkAgg, PV.flat, flatL, evFieldAddr, evLoad, evStore, evIndexAddr, evAlloc, evBuild, evBuiltin, evLen, lenAV, ldVar, ldArr, stVar, partA, partP, partC, withA, stride, setR, fillA, evConvert, convPV, evMakeSlice, evSlice, bnd, atI, binAV, eqAV, eqNil, leafEq, cellsEq, CfP, reduceIte, if_true, if_false, ite_true, ite_false, reduceCtorEq, ne_eq, eq_self, Nat.reduceAdd, Nat.reduceSub, Nat.reduceMul, Nat.reduceLT, Nat.reduceLeDiff, Nat.reduceEqDiff, Nat.reduceBEq, Nat.reduceBNe, Int.reduceToNat, Int.reduceLT, Int.reduceLE, Int.reduceAdd, Int.reduceSub, Int.reduceMul, Int.reduceEq, Int.reduceNe, Int.reduceBEq, Int.reduceBNe, Int.reduceNeg, Nat.reducePow, Int.reducePow, Nat.reduceMod, Nat.reduceDiv, ite_pos', ite_neg', show ((0 : Nat) : Int) = 0 from rfl]
        refine PS.app md_22 Try.func22 (p22' hcl.2 hlz hcl.1) (frz2 u1 (.inl ⟨rfl, rfl⟩)) ?_
        rintro r rfl
        simp -implicitDefEqProofs -dsimp (disch := first | omega | (simp only [List.length_append, List.length_set, List.length_cons, List.length_nil, List.length_map]; omega) | decide +kernel) only [↓wkPre, ↓evC_region, ↓evC_text, ↓evC_cond, ↓evC_block, wkPost, wkF, skp, mkFn, evBuildSlice, fillS, results_tmp, mkTup, mkAgg, PV.flat, flatL, evFieldAddr, evLoad, evStore, evIndexAddr, evAlloc, evBuild, evBuiltin, evLen, lenAV, ldVar, ldArr, stVar, partA, partP, partC, withA, stride, setR, fillA, evConvert, convPV, evMakeSlice, evSlice, bnd, atI, binAV, eqAV, eqNil, leafEq, cellsEq, CfP, reduceIte, if_true, if_false, ite_true, ite_false, reduceCtorEq, ne_eq, eq_self, Nat.reduceAdd, Nat.reduceSub, Nat.reduceMul, Nat.reduceLT, Nat.reduceLeDiff, Nat.reduceEqDiff, Nat.reduceBEq, Nat.reduceBNe, Int.reduceToNat, Int.reduceLT, Int.reduceLE, Int.reduceAdd, Int.reduceSub, Int.reduceMul, Int.reduceEq, Int.reduceNe, Int.reduceBEq, Int.reduceBNe, Int.reduceNeg, Nat.reducePow, Int.reducePow, Nat.reduceMod, Nat.reduceDiv, ite_pos', ite_neg', show ((0 : Nat) : Int) = 0 from rfl]
        refine PS.app md_22 Try.func22 (p22' hct.2 hcz hct.1) (frz2 ca (.inl ⟨rfl, rfl⟩)) ?_
        rintro r rfl
        simp -implicitDefEqProofs -dsimp (disch := first | omega | (simp only [List.length_append, List.length_set, List.length_cons, List.length_nil, List.length_map]; omega) | decide +kernel) only [↓wkPre, ↓evC_region, ↓evC_text, ↓evC_cond, ↓evC_block, wkPost, wkF, skp, mkFn, evBuildSlice, fillS, results_tmp, mkTup, mkAgg, PV.flat, flatL, evFieldAddr, evLoad, evStore, evIndexAddr, evAlloc, evBuild, evBuiltin, evLen, lenAV, ldVar, ldArr, stVar, partA, partP, partC, withA, stride, setR, fillA, evConvert, convPV, evMakeSlice, evSlice, bnd, atI, binAV, eqAV, eqNil, leafEq, cellsEq, CfP, reduceIte, if_true, if_false, ite_true, ite_false, reduceCtorEq, ne_eq, eq_self, Nat.reduceAdd, Nat.reduceSub, Nat.reduceMul, Nat.reduceLT, Nat.reduceLeDiff, Nat.reduceEqDiff, Nat.reduceBEq, Nat.reduceBNe, Int.reduceToNat, Int.reduceLT, Int.reduceLE, Int.reduceAdd, Int.reduceSub, Int.reduceMul, Int.reduceEq, Int.reduceNe, Int.reduceBEq, Int.reduceBNe, Int.reduceNeg, Nat.reducePow, Int.reducePow, Nat.reduceMod, Nat.reduceDiv, ite_pos', ite_neg']
      · simp only [its]
        simp -implicitDefEqProofs -dsimp (disch := first | omega | (simp only [List.length_append, List.length_set, List.length_cons, List.length_nil, List.length_map]; omega) | decide +kernel) only [↓wkPre, ↓evC_region, ↓evC_text, ↓evC_cond, ↓evC_block, wkPost, wkF, skp, mkFn, evBuildSlice, fillS, results_tmp, mkTup, mkAgg, PV.flat, flatL, evFieldAddr, evLoad, evStore, evIndexAddr, evAlloc, evBuild, evBuiltin, evLen, lenAV, ldVar, ldArr, stVar, partA, partP, partC, withA, stride, setR, fillA, evConvert, convPV, evMakeSlice, evSlice, bnd, atI, binAV, eqAV, eqNil, leafEq, cellsEq, CfP, reduceIte, if_true, if_false, ite_true, ite_false, reduceCtorEq, ne_eq, eq_self, Nat.reduceAdd, Nat.reduceSub, Nat.reduceMul, Nat.reduceLT, Nat.reduceLeDiff, Nat.reduceEqDiff, Nat.reduceBEq, Nat.reduceBNe, Int.reduceToNat, Int.reduceLT, Int.reduceLE, Int.reduceAdd, Int.reduceSub, Int.reduceMul, Int.reduceEq, Int.reduceNe, Int.reduceBEq, Int.reduceBNe, Int.reduceNeg, Nat.reducePow, Int.reducePow, Nat.reduceMod, Nat.reduceDiv, ite_pos', ite_neg', hil]
        rw [sl_take]
        refine PS.app md_22 Try.func22 (p22' hcl.2 hlz hcl.1) (frz2 u1 (.inr rfl)) ?_
        rintro r rfl
        simp -implicitDefEqProofs -dsimp (disch := first | omega | (simp only [List.length_append, List.length_set, List.length_cons, List.length_nil, List.length_map]; omega) | decide +kernel) only [↓wkPre, ↓evC_region, ↓evC_text, ↓evC_cond, ↓evC_block, wkPost, wkF, skp, mkFn, evBuildSlice, fillS, results_tmp, mkTup, mkAgg, PV.flat, flatL, evFieldAddr, evLoad, evStore, evIndexAddr, evAlloc, evBuild, evBuiltin, evLen, lenAV, ldVar, ldArr, stVar, partA, partP, partC, withA, stride, setR, fillA, evConvert, convPV, evMakeSlice, evSlice, bnd, atI, binAV, eqAV, eqNil, leafEq, cellsEq, CfP, reduceIte, if_true, if_false, ite_true, ite_false, reduceCtorEq, ne_eq, eq_self, Nat.reduceAdd, Nat.reduceSub, Nat.reduceMul, Nat.reduceLT, Nat.reduceLeDiff, Nat.reduceEqDiff, Nat.reduceBEq, Nat.reduceBNe, Int.reduceToNat, Int.reduceLT, Int.reduceLE, Int.reduceAdd, Int.reduceSub, Int.reduceMul, Int.reduceEq, Int.reduceNe, Int.reduceBEq, Int.reduceBNe, Int.reduceNeg, Nat.reducePow, Int.reducePow, Nat.reduceMod, Nat.reduceDiv, ite_pos', ite_neg', hil]
        rw [sl_drop]
        refine PS.app md_22 Try.func22 (p22' hct.2 hcz hct.1) (frz2 ca (.inr rfl)) ?_
        rintro r rfl
        simp -implicitDefEqProofs -dsimp (disch := first | omega | (simp only [List.length_append, List.length_set, List.length_cons, List.length_nil, List.length_map]; omega) | decide +kernel) only [↓wkPre, ↓evC_region, ↓evC_text, ↓evC_cond, ↓evC_block, wkPost, wkF, skp, mkFn, evBuildSlice, fillS, results_tmp, mkTup, mkAgg, PV.flat, flatL, evFieldAddr, evLoad, evStore, evIndexAddr, evAlloc, evBuild, evBuiltin, evLen, lenAV, ldVar, ldArr, stVar, partA, partP, partC, withA, stride, setR, fillA, evConvert, convPV, evMakeSlice, evSlice, bnd, atI, binAV, eqAV, eqNil, leafEq, cellsEq, CfP, reduceIte, if_true, if_false, ite_true, ite_false, reduceCtorEq, ne_eq, eq_self, Nat.reduceAdd, Nat.reduceSub, Nat.reduceMul, Nat.reduceLT, Nat.reduceLeDiff, Nat.reduceEqDiff, Nat.reduceBEq, Nat.reduceBNe, Int.reduceToNat, Int.reduceLT, Int.reduceLE, Int.reduceAdd, Int.reduceSub, Int.reduceMul, Int.reduceEq, Int.reduceNe, Int.reduceBEq, Int.reduceBNe, Int.reduceNeg, Nat.reducePow, Int.reducePow, Nat.reduceMod, Nat.reduceDiv, ite_pos', ite_neg']
    rintro e H ⟨rfl, e5, e6, e8, e10, e51⟩
    simp -implicitDefEqProofs -dsimp (disch := first | omega | (simp only [List.length_append, List.length_set, List.length_cons, List.length_nil, List.length_map]; omega) | decide +kernel) only [↓wkPre, ↓evC_region, ↓evC_text, ↓evC_cond, ↓evC_block, wkPost, wkF, skp, mkFn, evBuildSlice, fillS, results_tmp, mkTup, mkAgg, PV.flat, flatL, evFieldAddr, evLoad, evStore, evIndexAddr, evAlloc, evBuild, evBuiltin, evLen, lenAV, ldVar, ldArr, stVar, partA, partP, partC, withA, stride, setR, fillA, evConvert, convPV, evMakeSlice, evSlice, bnd, atI, binAV, eqAV, eqNil, leafEq, cellsEq, CfP, reduceIte, if_true, if_false, ite_true, ite_false, reduceCtorEq, ne_eq, eq_self, Nat.reduceAdd, Nat.reduceSub, Nat.reduceMul, Nat.reduceLT, Nat.reduceLeDiff, Nat.reduceEqDiff, Nat.reduceBEq, Nat.reduceBNe, Int.reduceToNat, Int.reduceLT, Int.reduceLE, Int.reduceAdd, Int.reduceSub, Int.reduceMul, Int.reduceEq, Int.reduceNe, Int.reduceBEq, Int.reduceBNe, Int.reduceNeg, Nat.reducePow, Int.reducePow, Nat.reduceMod, Nat.reduceDiv, ite_pos', ite_neg', e5, e6, e8, e10, e51, hlv]
    have hbH : b < H.length := (List.getElem?_eq_some_iff.1 u1).1
    refine loop_use extMono (fun m e H => ∃ (j : Nat) (t' : Tr), m = t.lst.length - j ∧ N ≤ j ∧ j ≤ t.lst.length ∧ e 5 = .vptr b 0 ∧ e 6 = v ∧ e 8 = v1 ∧ e 11 = .p (I j) ∧ H[b]? = some (.var true (.p t'.hd)) ∧ Good t' ∧ t'.lst = t.lst.take j ∧ OwnS H v1 0 (ints (shT t))) ?_ (t.lst.length - N) _ _ ⟨N, (splitT x t).1, rfl, Nat.le_refl _, hfl, ?_⟩
    · rintro m e H ⟨j, t', rfl, hNj, hj, e5, e6, e8, e11, kb, g', ht', ho⟩
      have hz' : t'.sz ≤ 80 := by have := lst_len t'; rw [ht', List.length_take] at this; omega
      rcases Nat.lt_or_ge j t.lst.length with hlt | hge
      · have gi := gi_it hlt
        have hv := mv.ne gi
        rw [hv] at e6
        have hnm := not_met g' g.srt j hlt ht'
        simp -implicitDefEqProofs -dsimp (disch := first | omega | (simp only [List.length_append, List.length_set, List.length_cons, List.length_nil, List.length_map]; omega) | decide +kernel) only [↓wkPre, ↓evC_region, ↓evC_text, ↓evC_cond, ↓evC_block, wkPost, wkF, skp, mkFn, evBuildSlice, fillS, results_tmp, mkTup, mkAgg, PV.flat, flatL, evFieldAddr, evLoad, evStore, evIndexAddr, evAlloc, evBuild, evBuiltin, evLen, lenAV, ldVar, ldArr, stVar, partA, partP, partC, withA, stride, setR, fillA, evConvert, convPV, evMakeSlice, evSlice, bnd, atI, binAV, eqAV, eqNil, leafEq, cellsEq, CfP, reduceIte, if_true, if_false, ite_true, ite_false, reduceCtorEq, ne_eq, eq_self, Nat.reduceAdd, Nat.reduceSub, Nat.reduceMul, Nat.reduceLT, Nat.reduceLeDiff, Nat.reduceEqDiff, Nat.reduceBEq, Nat.reduceBNe, Int.reduceToNat, Int.reduceLT, Int.reduceLE, Int.reduceAdd, Int.reduceSub, Int.reduceMul, Int.reduceEq, Int.reduceNe, Int.reduceBEq, Int.reduceBNe, Int.reduceNeg, Nat.reducePow, Int.reducePow, Nat.reduceMod, Nat.reduceDiv, ite_pos', ite_neg', e5, e6, e8, e11, gi, hil]
        refine imp_call md_18 (w18 b t.lst[j].1 t.lst[j].2 t' H kb (by omega) _ ?_)
        rintro H' ⟨k1, k2, k3⟩
        have pk := putT_ok (k := t.lst[j].1) (v := t.lst[j].2) g'
        rw [ht', put_next g.srt j hlt] at pk
        rw [hnm]
        simp -implicitDefEqProofs -dsimp (disch := first | omega | (simp only [List.length_append, List.length_set, List.length_cons, List.length_nil, List.length_map]; omega) | decide +kernel) only [↓wkPre, ↓evC_region, ↓evC_text, ↓evC_cond, ↓evC_block, wkPost, wkF, skp, mkFn, evBuildSlice, fillS, results_tmp, mkTup, mkAgg, PV.flat, flatL, evFieldAddr, evLoad, evStore, evIndexAddr, evAlloc, evBuild, evBuiltin, evLen, lenAV, ldVar, ldArr, stVar, partA, partP, partC, withA, stride, setR, fillA, evConvert, convPV, evMakeSlice, evSlice, bnd, atI, binAV, eqAV, eqNil, leafEq, cellsEq, CfP, reduceIte, if_true, if_false, ite_true, ite_false, reduceCtorEq, ne_eq, eq_self, Nat.reduceAdd, Nat.reduceSub, Nat.reduceMul, Nat.reduceLT, Nat.reduceLeDiff, Nat.reduceEqDiff, Nat.reduceBEq, Nat.reduceBNe, Int.reduceToNat, Int.reduceLT, Int.reduceLE, Int.reduceAdd, Int.reduceSub, Int.reduceMul, Int.reduceEq, Int.reduceNe, Int.reduceBEq, Int.reduceBNe, Int.reduceNeg, Nat.reducePow, Int.reducePow, Nat.reduceMod, Nat.reduceDiv, ite_pos', ite_neg', e5, e6, e8, e11, gi, hil]
        exact ⟨t.lst.length - (j + 1), by omega, j + 1, _, rfl, by omega, by omega, hv.symm, by push_cast; rfl, k1, pk.2, pk.1, ho.keep fun c hc => k2 c (hn1 c hc) (ho.lt c hc)⟩
      · obtain rfl : j = t.lst.length := by omega
        rw [List.take_length] at ht'
        obtain rfl : t' = t := Good_uniq _ _ g' g ht'
        simp -implicitDefEqProofs -dsimp (disch := first | omega | (simp only [List.length_append, List.length_set, List.length_cons, List.length_nil, List.length_map]; omega) | decide +kernel) only [↓wkPre, ↓evC_region, ↓evC_text, ↓evC_cond, ↓evC_block, wkPost, wkF, skp, mkFn, evBuildSlice, fillS, results_tmp, mkTup, mkAgg, PV.flat, flatL, evFieldAddr, evLoad, evStore, evIndexAddr, evAlloc, evBuild, evBuiltin, evLen, lenAV, ldVar, ldArr, stVar, partA, partP, partC, withA, stride, setR, fillA, evConvert, convPV, evMakeSlice, evSlice, bnd, atI, binAV, eqAV, eqNil, leafEq, cellsEq, CfP, reduceIte, if_true, if_false, ite_true, ite_false, reduceCtorEq, ne_eq, eq_self, Nat.reduceAdd, Nat.reduceSub, Nat.reduceMul, Nat.reduceLT, Nat.reduceLeDiff, Nat.reduceEqDiff, Nat.reduceBEq, Nat.reduceBNe, Int.reduceToNat, Int.reduceLT, Int.reduceLE, Int.reduceAdd, Int.reduceSub, Int.reduceMul, Int.reduceEq, Int.reduceNe, Int.reduceBEq, Int.reduceBNe, Int.reduceNeg, Nat.reducePow, Int.reducePow, Nat.reduceMod, Nat.reduceDiv, ite_pos', ite_neg', e5, e6, e8, e11, hlv]
        refine imp_call md_19 (w19 b t' H true kb (by omega) _ ?_)
        intro v2 H5 ho2 hb2 hk2 hl2
        have ho1' : OwnS H5 v1 0 (ints (shT t')) := ho.keep fun c hc => hk2 c (ho.lt c hc)
        have kb5 := (hk2 b (List.getElem?_eq_some_iff.1 kb).1).trans kb
        have hw1 := own_len ho1'
        have hw2 := own_len ho2
        unfold lenAV at hw1 hw2
        have hil3 : (ints (shT t')).length = (shT t').length := by simp [ints]
        have hSz := shT_len t'
        simp -implicitDefEqProofs -dsimp (disch := first | omega | (simp only [List.length_append, List.length_set, List.length_cons, List.length_nil, List.length_map]; omega) | decide +kernel) only [↓wkPre, ↓evC_region, ↓evC_text, ↓evC_cond, ↓evC_block, wkPost, wkF, skp, mkFn, evBuildSlice, fillS, results_tmp, mkTup, mkAgg, PV.flat, flatL, evFieldAddr, evLoad, evStore, evIndexAddr, evAlloc, evBuild, evBuiltin, evLen, lenAV, ldVar, ldArr, stVar, partA, partP, partC, withA, stride, setR, fillA, evConvert, convPV, evMakeSlice, evSlice, bnd, atI, binAV, eqAV, eqNil, leafEq, cellsEq, CfP, reduceIte, if_true, if_false, ite_true, ite_false, reduceCtorEq, ne_eq, eq_self, Nat.reduceAdd, Nat.reduceSub, Nat.reduceMul, Nat.reduceLT, Nat.reduceLeDiff, Nat.reduceEqDiff, Nat.reduceBEq, Nat.reduceBNe, Int.reduceToNat, Int.reduceLT, Int.reduceLE, Int.reduceAdd, Int.reduceSub, Int.reduceMul, Int.reduceEq, Int.reduceNe, Int.reduceBEq, Int.reduceBNe, Int.reduceNeg, Nat.reducePow, Int.reducePow, Nat.reduceMod, Nat.reduceDiv, ite_pos', ite_neg', e5, e6, e8, hw1, hw2]
        generalize hS : shT t' = S at *
        refine loop_use extMono (fun m e H => ∃ (i : Nat), m = S.length - i ∧ i ≤ S.length ∧ e 5 = .vptr b 0 ∧ e 6 = v ∧ e 8 = v1 ∧ e 12 = v2 ∧ e 13 = .p (I i) ∧ H = H5) ?_ S.length _ _ ⟨0, rfl, by omega, ?_⟩
        · rintro m e H ⟨i, rfl, hi, e5, e6, e8, e12, e13, rfl⟩
          rcases Nat.lt_or_ge i S.length with hlt | hge
          · have hq : S[i]? = some S[i] := by simp [hlt]
            have gq : (ints S)[i]? = some (I S[i]) := by simp [ints, hlt]
            obtain ⟨b1, g1, rfl, k1⟩ := own_elem ho1' hq
            obtain ⟨b2, g2, rfl, k2⟩ := own_elem ho2 hq
            simp -implicitDefEqProofs -dsimp (disch := first | omega | (simp only [List.length_append, List.length_set, List.length_cons, List.length_nil, List.length_map]; omega) | decide +kernel) only [↓wkPre, ↓evC_region, ↓evC_text, ↓evC_cond, ↓evC_block, wkPost, wkF, skp, mkFn, evBuildSlice, fillS, results_tmp, mkTup, mkAgg, PV.flat, flatL, evFieldAddr, evLoad, evStore, evIndexAddr, evAlloc, evBuild, evBuiltin, evLen, lenAV, ldVar, ldArr, stVar, partA, partP, partC, withA, stride, setR, fillA, evConvert, convPV, evMakeSlice, evSlice, bnd, atI, binAV, eqAV, eqNil, leafEq, cellsEq, CfP, reduceIte, if_true, if_false, ite_true, ite_false, reduceCtorEq, ne_eq, eq_self, Nat.reduceAdd, Nat.reduceSub, Nat.reduceMul, Nat.reduceLT, Nat.reduceLeDiff, Nat.reduceEqDiff, Nat.reduceBEq, Nat.reduceBNe, Int.reduceToNat, Int.reduceLT, Int.reduceLE, Int.reduceAdd, Int.reduceSub, Int.reduceMul, Int.reduceEq, Int.reduceNe, Int.reduceBEq, Int.reduceBNe, Int.reduceNeg, Nat.reducePow, Int.reducePow, Nat.reduceMod, Nat.reduceDiv, ite_pos', ite_neg', e5, e6, e8, e12, e13, k1, k2, gq, hil3]
            exact ⟨S.length - (i + 1), by omega, i + 1, rfl, by omega, by push_cast; rfl⟩
          · obtain rfl : i = S.length := by omega
            simp -implicitDefEqProofs -dsimp (disch := first | omega | (simp only [List.length_append, List.length_set, List.length_cons, List.length_nil, List.length_map]; omega) | decide +kernel) only [↓wkPre, ↓evC_region, ↓evC_text, ↓evC_cond, ↓evC_block, wkPost, wkF, skp, mkFn, evBuildSlice, fillS, results_tmp, mkTup, mkAgg, PV.flat, flatL, evFieldAddr, evLoad, evStore, evIndexAddr, evAlloc, evBuild, evBuiltin, evLen, lenAV, ldVar, ldArr, stVar, partA, partP, partC, withA, stride, setR, fillA, evConvert, convPV, evMakeSlice, evSlice, bnd, atI, binAV, eqAV, eqNil, leafEq, cellsEq, CfP, reduceIte, if_true, if_false, ite_true, ite_false, reduceCtorEq, ne_eq, eq_self, Nat.reduceAdd, Nat.reduceSub, Nat.reduceMul, Nat.reduceLT, Nat.reduceLeDiff, Nat.reduceEqDiff, Nat.reduceBEq, Nat.reduceBNe, Int.reduceToNat, Int.reduceLT, Int.reduceLE, Int.reduceAdd, Int.reduceSub, Int.reduceMul, Int.reduceEq, Int.reduceNe, Int.reduceBEq, Int.reduceBNe, Int.reduceNeg, Nat.reducePow, Int.reducePow, Nat.reduceMod, Nat.reduceDiv, ite_pos', ite_neg', e5, e6, e8, e12, e13, hw2, hil3]
            refine PS.app md_22 Try.func22 (p22' g (by omega) rfl) (frz2 kb5 mv) ?_
            rintro r rfl
            simp -implicitDefEqProofs -dsimp (disch := first | omega | (simp only [List.length_append, List.length_set, List.length_cons, List.length_nil, List.length_map]; omega) | decide +kernel) only [↓wkPre, ↓evC_region, ↓evC_text, ↓evC_cond, ↓evC_block, wkPost, wkF, skp, mkFn, evBuildSlice, fillS, results_tmp, mkTup, mkAgg, PV.flat, flatL, evFieldAddr, evLoad, evStore, evIndexAddr, evAlloc, evBuild, evBuiltin, evLen, lenAV, ldVar, ldArr, stVar, partA, partP, partC, withA, stride, setR, fillA, evConvert, convPV, evMakeSlice, evSlice, bnd, atI, binAV, eqAV, eqNil, leafEq, cellsEq, CfP, reduceIte, if_true, if_false, ite_true, ite_false, reduceCtorEq, ne_eq, eq_self, Nat.reduceAdd, Nat.reduceSub, Nat.reduceMul, Nat.reduceLT, Nat.reduceLeDiff, Nat.reduceEqDiff, Nat.reduceBEq, Nat.reduceBNe, Int.reduceToNat, Int.reduceLT, Int.reduceLE, Int.reduceAdd, Int.reduceSub, Int.reduceMul, Int.reduceEq, Int.reduceNe, Int.reduceBEq, Int.reduceBNe, Int.reduceNeg, Nat.reducePow, Int.reducePow, Nat.reduceMod, Nat.reduceDiv, ite_pos', ite_neg', e5, e6, e8, e12, e13]
            refine PS.app md_7 Try.func7 pWorks rfl ?_
            rintro r rfl
            simp -implicitDefEqProofs -dsimp (disch := first | omega | (simp only [List.length_append, List.length_set, List.length_cons, List.length_nil, List.length_map]; omega) | decide +kernel) only [↓wkPre, ↓evC_region, ↓evC_text, ↓evC_cond, ↓evC_block, wkPost, wkF, skp, mkFn, evBuildSlice, fillS, results_tmp, mkTup, mkAgg, PV.flat, flatL, evFieldAddr, evLoad, evStore, evIndexAddr, evAlloc, evBuild, evBuiltin, evLen, lenAV, ldVar, ldArr, stVar, partA, partP, partC, withA, stride, setR, fillA, evConvert, convPV, evMakeSlice, evSlice, bnd, atI, binAV, eqAV, eqNil, leafEq, cellsEq, CfP, reduceIte, if_true, if_false, ite_true, ite_false, reduceCtorEq, ne_eq, eq_self, Nat.reduceAdd, Nat.reduceSub, Nat.reduceMul, Nat.reduceLT, Nat.reduceLeDiff, Nat.reduceEqDiff, Nat.reduceBEq, Nat.reduceBNe, Int.reduceToNat, Int.reduceLT, Int.reduceLE, Int.reduceAdd, Int.reduceSub, Int.reduceMul, Int.reduceEq, Int.reduceNe, Int.reduceBEq, Int.reduceBNe, Int.reduceNeg, Nat.reducePow, Int.reducePow, Nat.reduceMod, Nat.reduceDiv, ite_pos', ite_neg']
        · simp -implicitDefEqProofs -dsimp (disch := first | omega | (simp only [List.length_append, List.length_set, List.length_cons, List.length_nil, List.length_map]; omega) | decide +kernel) only [↓wkPre, ↓evC_region, ↓evC_text, ↓evC_cond, ↓evC_block, wkPost, wkF, skp, mkFn, evBuildSlice, fillS, results_tmp, mkTup, mkAgg, PV.flat, flatL, evFieldAddr, evLoad, evStore, evIndexAddr, evAlloc, evBuild, evBuiltin, evLen, lenAV, ldVar, ldArr, stVar, partA, partP, partC, withA, stride, setR, fillA, evConvert, convPV, evMakeSlice, evSlice, bnd, atI, binAV, eqAV, eqNil, leafEq, cellsEq, CfP, reduceIte, if_true, if_false, ite_true, ite_false, reduceCtorEq, ne_eq, eq_self, Nat.reduceAdd, Nat.reduceSub, Nat.reduceMul, Nat.reduceLT, Nat.reduceLeDiff, Nat.reduceEqDiff, Nat.reduceBEq, Nat.reduceBNe, Int.reduceToNat, Int.reduceLT, Int.reduceLE, Int.reduceAdd, Int.reduceSub, Int.reduceMul, Int.reduceEq, Int.reduceNe, Int.reduceBEq, Int.reduceBNe, Int.reduceNeg, Nat.reducePow, Int.reducePow, Nat.reduceMod, Nat.reduceDiv, ite_pos', ite_neg']
          exact ⟨e5, e6, e8, rfl⟩
    · simp -implicitDefEqProofs -dsimp (disch := first | omega | (simp only [List.length_append, List.length_set, List.length_cons, List.length_nil, List.length_map]; omega) | decide +kernel) only [↓wkPre, ↓evC_region, ↓evC_text, ↓evC_cond, ↓evC_block, wkPost, wkF, skp, mkFn, evBuildSlice, fillS, results_tmp, mkTup, mkAgg, PV.flat, flatL, evFieldAddr, evLoad, evStore, evIndexAddr, evAlloc, evBuild, evBuiltin, evLen, lenAV, ldVar, ldArr, stVar, partA, partP, partC, withA, stride, setR, fillA, evConvert, convPV, evMakeSlice, evSlice, bnd, atI, binAV, eqAV, eqNil, leafEq, cellsEq, CfP, reduceIte, if_true, if_false, ite_true, ite_false, reduceCtorEq, ne_eq, eq_self, Nat.reduceAdd, Nat.reduceSub, Nat.reduceMul, Nat.reduceLT, Nat.reduceLeDiff, Nat.reduceEqDiff, Nat.reduceBEq, Nat.reduceBNe, Int.reduceToNat, Int.reduceLT, Int.reduceLE, Int.reduceAdd, Int.reduceSub, Int.reduceMul, Int.reduceEq, Int.reduceNe, Int.reduceBEq, Int.reduceBNe, Int.reduceNeg, Nat.reducePow, Int.reducePow, Nat.reduceMod, Nat.reduceDiv, ite_pos', ite_neg']
      exact ⟨e5, e6, e8, u1, hcl.2, hcl.1, ho3⟩
theorem lawTreeCuts : ∀ xs, Tyas [(0, [Ty.sl 3 [Ty.int .i64, Ty.int .i64, Ty.int .i64]]), (0, [Ty.int .i64])] xs → (Ev.W Cf okf).call 6 (xs.map AV.p) [] fun v _ => v = .p (.bool true) := by
  intro xs h
  simp only [Tyas] at h
  obtain ⟨x2, r2, rfl, h2, xa, ra, rfl, ha, rfl⟩ := h
  have h3 := Tya_one h2
  simp only [Tyd] at h3
  obtain ⟨ys, rfl, _, h4⟩ := h3
  obtain ⟨os, rfl⟩ := ops_list h4
  obtain ⟨a, rfl, _⟩ := Tya_one ha
  exact cuts os a
end Go.Ev.F31
end
section
namespace Go.Proofs.Ytjlfbdjglhkmjaa
open Go.Ev Go.Ev.F31
set_option maxRecDepth 100000
theorem own : ownKnob Try.prog.godebug = Option.none := by kernel_rfl
theorem laidOut : laidOutB Try.prog = true := by kernel_rfl
theorem tyTreeCuts : Try.f6.params.toList.mapM (tyA Try.prog 8) = some [(0, [Ty.sl 3 [Ty.int .i64, Ty.int .i64, Ty.int .i64]]), (0, [Ty.int .i64])] := by kernel_rfl
theorem treeCuts_lifted (os : Os) (started : os.Started) (H : Type) (enc : TypeId × Value → H) :
    ReturnsInHanded {} Try.checked os 6 .any (Rows.treeCutsSpec.pre6 enc Try.prog Try.f6 Rows.treeCutsRow.domain false) (Rows.treeCutsSpec.post enc Try.prog Try.f6 false true false false) := by
  refine returnsInHanded_of_change (C := Try.checked) own started (by kernel_rfl) Try.func6
    (ChangeSpec.witness6 (enc := enc) (C := Try.checked) false ⟨#[], #[.slice Option.none 0 0, .int .i64 0], []⟩ 8 (by kernel_rfl) (by kernel_rfl) (by kernel_rfl) (by kernel_rfl)) ?_
  intro W base args ds gs before hval hW _ _
  refine law_calls (C := Cf) extOK extMono okfOK (fn := Try.f6) laidOut (by decide +kernel) (s := Rows.treeCutsSpec) rfl ?_ tyTreeCuts (bt := 4) (by kernel_rfl) und_4 lawTreeCuts hval hW
  intro H ds h
  match ds, h with
  | [_, _], _ => rfl
theorem treeCuts_holds : Rows.TreeCutsSaid :=
  OpenClaim.holds_of_wide 6 Try.f6 rfl rfl rfl rfl rfl rfl rfl ⟨rfl, rfl, rfl, rfl, rfl⟩ rfl rfl rfl rfl rfl (by kernel_rfl) Try.func6 (by kernel_rfl)
    (of_decide_eq_true (by kernel_rfl)) (by unfold Func.isWrapper; rw [if_neg (by decide +kernel)]; exact ⟨rfl, rfl⟩)
    (fun os started H enc _ => treeCuts_lifted os started H enc)
end Go.Proofs.Ytjlfbdjglhkmjaa
#print axioms Go.Proofs.Ytjlfbdjglhkmjaa.treeCuts_holds
end
