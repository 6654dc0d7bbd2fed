/- A part of the proof: walks of the functions that the law calls. No condition. -/
import Derived.Test.YtjlfbdjglhkmjaaWalkA
set_option linter.all false
section
namespace Go.Ev.F31
open Go.Proofs Go.Ev
set_option maxRecDepth 100000
set_option linter.all false
def Tr.isN : Tr → Bool
  | .nil => false
  | .node _ _ _ _ => true
def putT (k v : Int) (t : Tr) : Tr := joinT (joinT (splitT k t).1 (.node k v .nil .nil)) (splitT k t).2.2
def dropT (k : Int) (t : Tr) : Tr := joinT (splitT k t).1 (splitT k t).2.2
def oneT : Tr → Tr
  | .nil => .nil
  | .node k v _ _ => .node k v .nil .nil
def cutT (k : Int) (t : Tr) : Tr := joinT (oneT (splitT k t).2.1) (splitT k t).2.2
/-- What a caller knows behind an act at a tree. -/
def Upd (H H' : Heap) (b : Nat) (t : Tr) : Prop := H'[b]? = some (.var true (.p t.hd)) ∧ (∀ i, i ≠ b → i < H.length → H'[i]? = H[i]?) ∧ H.length ≤ H'.length
theorem hd_eq (t : Tr) : t.hd = .agg [t.tv, .fn 16 []] := rfl
theorem tv_one (k v : Int) : Tr.tv (.node k v .nil .nil) = .fp (.agg [.int .i64 k, .int .i64 v, .int .u64 (rk k), .int .i64 1, .nptr, .nptr]) 6 0 := rfl
theorem w15 (H : Heap) (Q : AV → Heap → Prop) (hq : ∀ H', H'[H.length]? = some (.var true (.p (Tr.hd .nil))) → (∀ i, i < H.length → H'[i]? = H[i]?) → H.length < H'.length → Q (.vptr H.length 0) H') : (W Cf okf).call 15 [.p (.fn 16 [])] H Q := by
  refine top_mk extMono Try.func15 body15 (by decide) rfl ?_
  simp only [c15, Try.f15, Option.getD_some]
  simp -implicitDefEqProofs -dsimp (disch := first | omega | (simp only [List.length_append, List.length_set, List.length_cons, List.length_nil, List.length_map]; omega) | decide +kernel) only [↓wkPre, ↓evC_region, ↓evC_text, ↓evC_cond, ↓evC_block, wkPost, wkF, skp, mkFn, evBuildSlice, fillS, results_tmp, mkTup, mkAgg, PV.flat, flatL, evFieldAddr, evLoad, evStore, evIndexAddr, evAlloc, evBuild, evBuiltin, evLen, lenAV, ldVar, ldArr, stVar, partA, partP, partC, withA, stride, setR, fillA, evConvert, convPV, evMakeSlice, evSlice, bnd, atI, binAV, eqAV, eqNil, leafEq, cellsEq, CfP, reduceIte, if_true, if_false, ite_true, ite_false, reduceCtorEq, ne_eq, eq_self, Nat.reduceAdd, Nat.reduceSub, Nat.reduceMul, Nat.reduceLT, Nat.reduceLeDiff, Nat.reduceEqDiff, Nat.reduceBEq, Nat.reduceBNe, Int.reduceToNat, Int.reduceLT, Int.reduceLE, Int.reduceAdd, Int.reduceSub, Int.reduceMul, Int.reduceEq, Int.reduceNe, Int.reduceBEq, Int.reduceBNe, Int.reduceNeg, Nat.reducePow, Int.reducePow, Nat.reduceMod, Nat.reduceDiv, ite_pos', ite_neg']
  refine hq _ (by simp; rfl) (fun i hi => by rw [List.getElem?_append_left hi]) (by simp)
theorem w21 (b : Nat) (k : Int) (t : Tr) (H : Heap) (hb : H[b]? = some (.var true (.p t.hd))) (hs : t.sz ≤ 999999) (Q : AV → Heap → Prop) (hq : ∀ H', Upd H H' b (dropT k t) → Q (.p (.bool (splitT k t).2.1.isN)) H') : (W Cf okf).call 21 [.vptr b 0, .p (I k)] H Q := by
  refine top_mk extMono Try.func21 body21 (by decide) rfl ?_
  simp only [c21, Try.f21, Option.getD_some]
  have hl := splitT_sz k t
  have hbl : b < H.length := (List.getElem?_eq_some_iff.1 hb).1
  have hq' := hq (H.set b (.var true (.p (dropT k t).hd))) ⟨by simp [hbl], fun i hi _ => by rw [List.getElem?_set_ne (fun e => hi e.symm)], by simp⟩
  rw [hd_eq] at hb
  unfold dropT at hq'
  rw [hd_eq] at hq'
  simp -implicitDefEqProofs -dsimp (disch := first | omega | (simp only [List.length_append, List.length_set, List.length_cons, List.length_nil, List.length_map]; omega) | decide +kernel) only [↓wkPre, ↓evC_region, ↓evC_text, ↓evC_cond, ↓evC_block, wkPost, wkF, skp, mkFn, evBuildSlice, fillS, results_tmp, mkTup, mkAgg, PV.flat, flatL, evFieldAddr, evLoad, evStore, evIndexAddr, evAlloc, evBuild, evBuiltin, evLen, lenAV, ldVar, ldArr, stVar, partA, partP, partC, withA, stride, setR, fillA, evConvert, convPV, evMakeSlice, evSlice, bnd, atI, binAV, eqAV, eqNil, leafEq, cellsEq, CfP, reduceIte, if_true, if_false, ite_true, ite_false, reduceCtorEq, ne_eq, eq_self, Nat.reduceAdd, Nat.reduceSub, Nat.reduceMul, Nat.reduceLT, Nat.reduceLeDiff, Nat.reduceEqDiff, Nat.reduceBEq, Nat.reduceBNe, Int.reduceToNat, Int.reduceLT, Int.reduceLE, Int.reduceAdd, Int.reduceSub, Int.reduceMul, Int.reduceEq, Int.reduceNe, Int.reduceBEq, Int.reduceBNe, Int.reduceNeg, Nat.reducePow, Int.reducePow, Nat.reduceMod, Nat.reduceDiv, ite_pos', ite_neg', hb, nonNil]
  refine PS.app md_49 Try.func49 (p49 k t (by omega)) rfl ?_
  rintro r rfl
  simp -implicitDefEqProofs -dsimp (disch := first | omega | (simp only [List.length_append, List.length_set, List.length_cons, List.length_nil, List.length_map]; omega) | decide +kernel) only [↓wkPre, ↓evC_region, ↓evC_text, ↓evC_cond, ↓evC_block, wkPost, wkF, skp, mkFn, evBuildSlice, fillS, results_tmp, mkTup, mkAgg, PV.flat, flatL, evFieldAddr, evLoad, evStore, evIndexAddr, evAlloc, evBuild, evBuiltin, evLen, lenAV, ldVar, ldArr, stVar, partA, partP, partC, withA, stride, setR, fillA, evConvert, convPV, evMakeSlice, evSlice, bnd, atI, binAV, eqAV, eqNil, leafEq, cellsEq, CfP, reduceIte, if_true, if_false, ite_true, ite_false, reduceCtorEq, ne_eq, eq_self, Nat.reduceAdd, Nat.reduceSub, Nat.reduceMul, Nat.reduceLT, Nat.reduceLeDiff, Nat.reduceEqDiff, Nat.reduceBEq, Nat.reduceBNe, Int.reduceToNat, Int.reduceLT, Int.reduceLE, Int.reduceAdd, Int.reduceSub, Int.reduceMul, Int.reduceEq, Int.reduceNe, Int.reduceBEq, Int.reduceBNe, Int.reduceNeg, Nat.reducePow, Int.reducePow, Nat.reduceMod, Nat.reduceDiv, ite_pos', ite_neg', hb, nonNil, spV]
  refine PS.app md_50 Try.func50 (p50 _ (splitT k t).1 (splitT k t).2.2 (Nat.le_refl _) (by omega)) rfl ?_
  rintro r rfl
  generalize (splitT k t).2.1 = m at hq' ⊢
  cases m with
  | nil =>
    simp -implicitDefEqProofs -dsimp (disch := first | omega | (simp only [List.length_append, List.length_set, List.length_cons, List.length_nil, List.length_map]; omega) | decide +kernel) only [↓wkPre, ↓evC_region, ↓evC_text, ↓evC_cond, ↓evC_block, wkPost, wkF, skp, mkFn, evBuildSlice, fillS, results_tmp, mkTup, mkAgg, PV.flat, flatL, evFieldAddr, evLoad, evStore, evIndexAddr, evAlloc, evBuild, evBuiltin, evLen, lenAV, ldVar, ldArr, stVar, partA, partP, partC, withA, stride, setR, fillA, evConvert, convPV, evMakeSlice, evSlice, bnd, atI, binAV, eqAV, eqNil, leafEq, cellsEq, CfP, reduceIte, if_true, if_false, ite_true, ite_false, reduceCtorEq, ne_eq, eq_self, Nat.reduceAdd, Nat.reduceSub, Nat.reduceMul, Nat.reduceLT, Nat.reduceLeDiff, Nat.reduceEqDiff, Nat.reduceBEq, Nat.reduceBNe, Int.reduceToNat, Int.reduceLT, Int.reduceLE, Int.reduceAdd, Int.reduceSub, Int.reduceMul, Int.reduceEq, Int.reduceNe, Int.reduceBEq, Int.reduceBNe, Int.reduceNeg, Nat.reducePow, Int.reducePow, Nat.reduceMod, Nat.reduceDiv, ite_pos', ite_neg', hb, nonNil, tv_nil, ite_self, ↓tvA_shape, ↓tvA_stor, ↓tvA_cells, ↓tvP_shape, ↓tvP_cells, ↓tvP_stor]
    exact hq'
  | node k1 v1 l1 r1 =>
    simp -implicitDefEqProofs -dsimp (disch := first | omega | (simp only [List.length_append, List.length_set, List.length_cons, List.length_nil, List.length_map]; omega) | decide +kernel) only [↓wkPre, ↓evC_region, ↓evC_text, ↓evC_cond, ↓evC_block, wkPost, wkF, skp, mkFn, evBuildSlice, fillS, results_tmp, mkTup, mkAgg, PV.flat, flatL, evFieldAddr, evLoad, evStore, evIndexAddr, evAlloc, evBuild, evBuiltin, evLen, lenAV, ldVar, ldArr, stVar, partA, partP, partC, withA, stride, setR, fillA, evConvert, convPV, evMakeSlice, evSlice, bnd, atI, binAV, eqAV, eqNil, leafEq, cellsEq, CfP, reduceIte, if_true, if_false, ite_true, ite_false, reduceCtorEq, ne_eq, eq_self, Nat.reduceAdd, Nat.reduceSub, Nat.reduceMul, Nat.reduceLT, Nat.reduceLeDiff, Nat.reduceEqDiff, Nat.reduceBEq, Nat.reduceBNe, Int.reduceToNat, Int.reduceLT, Int.reduceLE, Int.reduceAdd, Int.reduceSub, Int.reduceMul, Int.reduceEq, Int.reduceNe, Int.reduceBEq, Int.reduceBNe, Int.reduceNeg, Nat.reducePow, Int.reducePow, Nat.reduceMod, Nat.reduceDiv, ite_pos', ite_neg', hb, nonNil, tv_node, ite_self, ↓tvA_shape, ↓tvA_stor, ↓tvA_cells, ↓tvP_shape, ↓tvP_cells, ↓tvP_stor]
    exact hq'
theorem splitT_sz3 (k : Int) : ∀ t : Tr, (splitT k t).1.sz + (splitT k t).2.2.sz + (if (splitT k t).2.1.isN then 1 else 0) = t.sz
  | .nil => by simp [splitT, Tr.sz, Tr.isN]
  | .node k' v l r => by
    have h1 := splitT_sz3 k l
    have h2 := splitT_sz3 k r
    unfold splitT
    split
    · simp only [Tr.sz]; omega
    · split
      · simp only [Tr.sz]; omega
      · simp only [Tr.sz, Tr.isN]; simp; omega
theorem frz_last (H : Heap) (o : Nat) (l : Bool) (x : AV) : freezeIds (ids 4 (.vptr H.length o)) (H ++ [.var l x]) = H ++ [.var false x] := by
  show freezeIds [H.length] _ = _
  simp [freezeIds, Blk.frozen]
theorem joinT_flat (a : Tr) (k v : Int) (l r : Tr) : (joinT a (.node k v l r)).tv.flat = false := by
  cases a with
  | nil => rw [joinT]; rfl
  | node => rw [joinT]; split <;> rfl
theorem w18 (b : Nat) (k v : Int) (t : Tr) (H : Heap) (hb : H[b]? = some (.var true (.p t.hd))) (hs : t.sz ≤ 999999) (Q : AV → Heap → Prop) (hq : ∀ H', Upd H H' b (putT k v t) → Q (.p (.bool (splitT k t).2.1.isN)) H') : (W Cf okf).call 18 [.vptr b 0, .p (I k), .p (I v)] H Q := by
  refine top_mk extMono Try.func18 body18 (by decide) rfl ?_
  simp only [c18, Try.f18, Option.getD_some]
  have hl := splitT_sz k t
  have hbl : b < H.length := (List.getElem?_eq_some_iff.1 hb).1
  have hq' := hq (H.set b (.var true (.p (putT k v t).hd)) ++ [.var false (.p (.agg [.int .i64 k, .int .i64 v, .int .u64 (rk k), .int .i64 1, .nptr, .nptr]))]) ⟨by rw [List.getElem?_append_left (by simpa using hbl)]; simp [hbl], fun i hi hl => by rw [List.getElem?_append_left (by simpa using hl), List.getElem?_set_ne (fun e => hi e.symm)], by simp⟩
  rw [hd_eq] at hb
  unfold putT at hq'
  rw [hd_eq] at hq'
  simp -implicitDefEqProofs -dsimp (disch := first | omega | (simp only [List.length_append, List.length_set, List.length_cons, List.length_nil, List.length_map]; omega) | decide +kernel) only [↓wkPre, ↓evC_region, ↓evC_text, ↓evC_cond, ↓evC_block, wkPost, wkF, skp, mkFn, evBuildSlice, fillS, results_tmp, mkTup, mkAgg, PV.flat, flatL, evFieldAddr, evLoad, evStore, evIndexAddr, evAlloc, evBuild, evBuiltin, evLen, lenAV, ldVar, ldArr, stVar, partA, partP, partC, withA, stride, setR, fillA, evConvert, convPV, evMakeSlice, evSlice, bnd, atI, binAV, eqAV, eqNil, leafEq, cellsEq, CfP, reduceIte, if_true, if_false, ite_true, ite_false, reduceCtorEq, ne_eq, eq_self, Nat.reduceAdd, Nat.reduceSub, Nat.reduceMul, Nat.reduceLT, Nat.reduceLeDiff, Nat.reduceEqDiff, Nat.reduceBEq, Nat.reduceBNe, Int.reduceToNat, Int.reduceLT, Int.reduceLE, Int.reduceAdd, Int.reduceSub, Int.reduceMul, Int.reduceEq, Int.reduceNe, Int.reduceBEq, Int.reduceBNe, Int.reduceNeg, Nat.reducePow, Int.reducePow, Nat.reduceMod, Nat.reduceDiv, ite_pos', ite_neg', hb, nonNil]
  refine PS.app md_49 Try.func49 (p49 k t (by omega)) rfl ?_
  rintro r rfl
  simp -implicitDefEqProofs -dsimp (disch := first | omega | (simp only [List.length_append, List.length_set, List.length_cons, List.length_nil, List.length_map]; omega) | decide +kernel) only [↓wkPre, ↓evC_region, ↓evC_text, ↓evC_cond, ↓evC_block, wkPost, wkF, skp, mkFn, evBuildSlice, fillS, results_tmp, mkTup, mkAgg, PV.flat, flatL, evFieldAddr, evLoad, evStore, evIndexAddr, evAlloc, evBuild, evBuiltin, evLen, lenAV, ldVar, ldArr, stVar, partA, partP, partC, withA, stride, setR, fillA, evConvert, convPV, evMakeSlice, evSlice, bnd, atI, binAV, eqAV, eqNil, leafEq, cellsEq, CfP, reduceIte, if_true, if_false, ite_true, ite_false, reduceCtorEq, ne_eq, eq_self, Nat.reduceAdd, Nat.reduceSub, Nat.reduceMul, Nat.reduceLT, Nat.reduceLeDiff, Nat.reduceEqDiff, Nat.reduceBEq, Nat.reduceBNe, Int.reduceToNat, Int.reduceLT, Int.reduceLE, Int.reduceAdd, Int.reduceSub, Int.reduceMul, Int.reduceEq, Int.reduceNe, Int.reduceBEq, Int.reduceBNe, Int.reduceNeg, Nat.reducePow, Int.reducePow, Nat.reduceMod, Nat.reduceDiv, ite_pos', ite_neg', hb, nonNil, spV, ite_self, ↓tvA_shape, ↓tvA_stor, ↓tvA_cells, ↓tvP_shape, ↓tvP_cells, ↓tvP_stor]
  refine PS.app md_16 Try.func16 (p16 k) rfl ?_
  rintro r rfl
  simp -implicitDefEqProofs -dsimp (disch := first | omega | (simp only [List.length_append, List.length_set, List.length_cons, List.length_nil, List.length_map]; omega) | decide +kernel) only [↓wkPre, ↓evC_region, ↓evC_text, ↓evC_cond, ↓evC_block, wkPost, wkF, skp, mkFn, evBuildSlice, fillS, results_tmp, mkTup, mkAgg, PV.flat, flatL, evFieldAddr, evLoad, evStore, evIndexAddr, evAlloc, evBuild, evBuiltin, evLen, lenAV, ldVar, ldArr, stVar, partA, partP, partC, withA, stride, setR, fillA, evConvert, convPV, evMakeSlice, evSlice, bnd, atI, binAV, eqAV, eqNil, leafEq, cellsEq, CfP, reduceIte, if_true, if_false, ite_true, ite_false, reduceCtorEq, ne_eq, eq_self, Nat.reduceAdd, Nat.reduceSub, Nat.reduceMul, Nat.reduceLT, Nat.reduceLeDiff, Nat.reduceEqDiff, Nat.reduceBEq, Nat.reduceBNe, Int.reduceToNat, Int.reduceLT, Int.reduceLE, Int.reduceAdd, Int.reduceSub, Int.reduceMul, Int.reduceEq, Int.reduceNe, Int.reduceBEq, Int.reduceBNe, Int.reduceNeg, Nat.reducePow, Int.reducePow, Nat.reduceMod, Nat.reduceDiv, ite_pos', ite_neg', hb, nonNil, spV, ite_self, ↓tvA_shape, ↓tvA_stor, ↓tvA_cells, ↓tvP_shape, ↓tvP_cells, ↓tvP_stor]
  refine PS.app md_50 Try.func50 (p50 _ (splitT k t).1 (.node k v .nil .nil) (Nat.le_refl _) (by simp only [Tr.sz]; omega)) (by simp [frzL, frzN, tv_one, PV.shape]) ?_
  rintro r rfl
  have hj := joinT_sz _ (splitT k t).1 (.node k v .nil .nil) (Nat.le_refl _)
  simp only [Tr.sz] at hj
  simp -implicitDefEqProofs -dsimp (disch := first | omega | (simp only [List.length_append, List.length_set, List.length_cons, List.length_nil, List.length_map]; omega) | decide +kernel) only [↓wkPre, ↓evC_region, ↓evC_text, ↓evC_cond, ↓evC_block, wkPost, wkF, skp, mkFn, evBuildSlice, fillS, results_tmp, mkTup, mkAgg, PV.flat, flatL, evFieldAddr, evLoad, evStore, evIndexAddr, evAlloc, evBuild, evBuiltin, evLen, lenAV, ldVar, ldArr, stVar, partA, partP, partC, withA, stride, setR, fillA, evConvert, convPV, evMakeSlice, evSlice, bnd, atI, binAV, eqAV, eqNil, leafEq, cellsEq, CfP, reduceIte, if_true, if_false, ite_true, ite_false, reduceCtorEq, ne_eq, eq_self, Nat.reduceAdd, Nat.reduceSub, Nat.reduceMul, Nat.reduceLT, Nat.reduceLeDiff, Nat.reduceEqDiff, Nat.reduceBEq, Nat.reduceBNe, Int.reduceToNat, Int.reduceLT, Int.reduceLE, Int.reduceAdd, Int.reduceSub, Int.reduceMul, Int.reduceEq, Int.reduceNe, Int.reduceBEq, Int.reduceBNe, Int.reduceNeg, Nat.reducePow, Int.reducePow, Nat.reduceMod, Nat.reduceDiv, ite_pos', ite_neg', hb, nonNil, spV, joinT_flat, frz_last, ite_self, ↓tvA_shape, ↓tvA_stor, ↓tvA_cells, ↓tvP_shape, ↓tvP_cells, ↓tvP_stor]
  refine PS.app md_50 Try.func50 (p50 _ (joinT (splitT k t).1 (.node k v .nil .nil)) (splitT k t).2.2 (Nat.le_refl _) (by omega)) rfl ?_
  rintro r rfl
  generalize (splitT k t).2.1 = m at hq' ⊢
  cases m with
  | nil =>
    simp -implicitDefEqProofs -dsimp (disch := first | omega | (simp only [List.length_append, List.length_set, List.length_cons, List.length_nil, List.length_map]; omega) | decide +kernel) only [↓wkPre, ↓evC_region, ↓evC_text, ↓evC_cond, ↓evC_block, wkPost, wkF, skp, mkFn, evBuildSlice, fillS, results_tmp, mkTup, mkAgg, PV.flat, flatL, evFieldAddr, evLoad, evStore, evIndexAddr, evAlloc, evBuild, evBuiltin, evLen, lenAV, ldVar, ldArr, stVar, partA, partP, partC, withA, stride, setR, fillA, evConvert, convPV, evMakeSlice, evSlice, bnd, atI, binAV, eqAV, eqNil, leafEq, cellsEq, CfP, reduceIte, if_true, if_false, ite_true, ite_false, reduceCtorEq, ne_eq, eq_self, Nat.reduceAdd, Nat.reduceSub, Nat.reduceMul, Nat.reduceLT, Nat.reduceLeDiff, Nat.reduceEqDiff, Nat.reduceBEq, Nat.reduceBNe, Int.reduceToNat, Int.reduceLT, Int.reduceLE, Int.reduceAdd, Int.reduceSub, Int.reduceMul, Int.reduceEq, Int.reduceNe, Int.reduceBEq, Int.reduceBNe, Int.reduceNeg, Nat.reducePow, Int.reducePow, Nat.reduceMod, Nat.reduceDiv, ite_pos', ite_neg', hb, nonNil, tv_nil, ite_self, ↓tvA_shape, ↓tvA_stor, ↓tvA_cells, ↓tvP_shape, ↓tvP_cells, ↓tvP_stor]
    exact hq'
  | node k1 v1 l1 r1 =>
    simp -implicitDefEqProofs -dsimp (disch := first | omega | (simp only [List.length_append, List.length_set, List.length_cons, List.length_nil, List.length_map]; omega) | decide +kernel) only [↓wkPre, ↓evC_region, ↓evC_text, ↓evC_cond, ↓evC_block, wkPost, wkF, skp, mkFn, evBuildSlice, fillS, results_tmp, mkTup, mkAgg, PV.flat, flatL, evFieldAddr, evLoad, evStore, evIndexAddr, evAlloc, evBuild, evBuiltin, evLen, lenAV, ldVar, ldArr, stVar, partA, partP, partC, withA, stride, setR, fillA, evConvert, convPV, evMakeSlice, evSlice, bnd, atI, binAV, eqAV, eqNil, leafEq, cellsEq, CfP, reduceIte, if_true, if_false, ite_true, ite_false, reduceCtorEq, ne_eq, eq_self, Nat.reduceAdd, Nat.reduceSub, Nat.reduceMul, Nat.reduceLT, Nat.reduceLeDiff, Nat.reduceEqDiff, Nat.reduceBEq, Nat.reduceBNe, Int.reduceToNat, Int.reduceLT, Int.reduceLE, Int.reduceAdd, Int.reduceSub, Int.reduceMul, Int.reduceEq, Int.reduceNe, Int.reduceBEq, Int.reduceBNe, Int.reduceNeg, Nat.reducePow, Int.reducePow, Nat.reduceMod, Nat.reduceDiv, ite_pos', ite_neg', hb, nonNil, tv_node, ite_self, ↓tvA_shape, ↓tvA_stor, ↓tvA_cells, ↓tvP_shape, ↓tvP_cells, ↓tvP_stor]
    exact hq'
theorem w24 (b : Nat) (k : Int) (t : Tr) (H : Heap) (hb : H[b]? = some (.var true (.p t.hd))) (hs : t.sz ≤ 999999) (Q : AV → Heap → Prop) (hq : ∀ H', Upd H H' b (splitT k t).1 → H'[H.length]? = some (.var true (.p (cutT k t).hd)) → H.length < H'.length → Q (.vptr H.length 0) H') : (W Cf okf).call 24 [.vptr b 0, .p (I k)] H Q := by
  refine top_mk extMono Try.func24 body24 (by decide) rfl ?_
  simp only [c24, Try.f24, Option.getD_some]
  have hl := splitT_sz k t
  have hbl : b < H.length := (List.getElem?_eq_some_iff.1 hb).1
  have hq' := hq (H.set b (.var true (.p (splitT k t).1.hd)) ++ [.var true (.p (cutT k t).hd)]) ⟨by rw [List.getElem?_append_left (by simpa using hbl)]; simp [hbl], fun i hi hl => by rw [List.getElem?_append_left (by simpa using hl), List.getElem?_set_ne (fun e => hi e.symm)], by simp⟩ (by simp) (by simp)
  rw [hd_eq] at hb
  unfold cutT at hq'
  rw [hd_eq, hd_eq] at hq'
  simp -implicitDefEqProofs -dsimp (disch := first | omega | (simp only [List.length_append, List.length_set, List.length_cons, List.length_nil, List.length_map]; omega) | decide +kernel) only [↓wkPre, ↓evC_region, ↓evC_text, ↓evC_cond, ↓evC_block, wkPost, wkF, skp, mkFn, evBuildSlice, fillS, results_tmp, mkTup, mkAgg, PV.flat, flatL, evFieldAddr, evLoad, evStore, evIndexAddr, evAlloc, evBuild, evBuiltin, evLen, lenAV, ldVar, ldArr, stVar, partA, partP, partC, withA, stride, setR, fillA, evConvert, convPV, evMakeSlice, evSlice, bnd, atI, binAV, eqAV, eqNil, leafEq, cellsEq, CfP, reduceIte, if_true, if_false, ite_true, ite_false, reduceCtorEq, ne_eq, eq_self, Nat.reduceAdd, Nat.reduceSub, Nat.reduceMul, Nat.reduceLT, Nat.reduceLeDiff, Nat.reduceEqDiff, Nat.reduceBEq, Nat.reduceBNe, Int.reduceToNat, Int.reduceLT, Int.reduceLE, Int.reduceAdd, Int.reduceSub, Int.reduceMul, Int.reduceEq, Int.reduceNe, Int.reduceBEq, Int.reduceBNe, Int.reduceNeg, Nat.reducePow, Int.reducePow, Nat.reduceMod, Nat.reduceDiv, ite_pos', ite_neg', hb, nonNil]
  refine PS.app md_49 Try.func49 (p49 k t (by omega)) rfl ?_
  rintro r rfl
  simp only [spV]
  obtain ⟨m, hm⟩ : ∃ m, (splitT k t).2.1 = m := ⟨_, rfl⟩
  cases m with
  | nil =>
    rw [hm] at hq'
    simp only [oneT, joinT] at hq'
    simp -implicitDefEqProofs -dsimp (disch := first | omega | (simp only [List.length_append, List.length_set, List.length_cons, List.length_nil, List.length_map]; omega) | decide +kernel) only [↓wkPre, ↓evC_region, ↓evC_text, ↓evC_cond, ↓evC_block, wkPost, wkF, skp, mkFn, evBuildSlice, fillS, results_tmp, mkTup, mkAgg, PV.flat, flatL, evFieldAddr, evLoad, evStore, evIndexAddr, evAlloc, evBuild, evBuiltin, evLen, lenAV, ldVar, ldArr, stVar, partA, partP, partC, withA, stride, setR, fillA, evConvert, convPV, evMakeSlice, evSlice, bnd, atI, binAV, eqAV, eqNil, leafEq, cellsEq, CfP, reduceIte, if_true, if_false, ite_true, ite_false, reduceCtorEq, ne_eq, eq_self, Nat.reduceAdd, Nat.reduceSub, Nat.reduceMul, Nat.reduceLT, Nat.reduceLeDiff, Nat.reduceEqDiff, Nat.reduceBEq, Nat.reduceBNe, Int.reduceToNat, Int.reduceLT, Int.reduceLE, Int.reduceAdd, Int.reduceSub, Int.reduceMul, Int.reduceEq, Int.reduceNe, Int.reduceBEq, Int.reduceBNe, Int.reduceNeg, Nat.reducePow, Int.reducePow, Nat.reduceMod, Nat.reduceDiv, ite_pos', ite_neg', hb, nonNil, tv_nil, hm, ite_self, ↓tvA_shape, ↓tvA_stor, ↓tvA_cells, ↓tvP_shape, ↓tvP_cells, ↓tvP_stor]
    exact hq'
  | node k1 v1 l1 r1 =>
    rw [hm] at hq'
    have e3 := splitT_sz3 k t
    rw [hm] at e3
    simp only [Tr.isN, if_true] at e3
    simp -implicitDefEqProofs -dsimp (disch := first | omega | (simp only [List.length_append, List.length_set, List.length_cons, List.length_nil, List.length_map]; omega) | decide +kernel) only [↓wkPre, ↓evC_region, ↓evC_text, ↓evC_cond, ↓evC_block, wkPost, wkF, skp, mkFn, evBuildSlice, fillS, results_tmp, mkTup, mkAgg, PV.flat, flatL, evFieldAddr, evLoad, evStore, evIndexAddr, evAlloc, evBuild, evBuiltin, evLen, lenAV, ldVar, ldArr, stVar, partA, partP, partC, withA, stride, setR, fillA, evConvert, convPV, evMakeSlice, evSlice, bnd, atI, binAV, eqAV, eqNil, leafEq, cellsEq, CfP, reduceIte, if_true, if_false, ite_true, ite_false, reduceCtorEq, ne_eq, eq_self, Nat.reduceAdd, Nat.reduceSub, Nat.reduceMul, Nat.reduceLT, Nat.reduceLeDiff, Nat.reduceEqDiff, Nat.reduceBEq, Nat.reduceBNe, Int.reduceToNat, Int.reduceLT, Int.reduceLE, Int.reduceAdd, Int.reduceSub, Int.reduceMul, Int.reduceEq, Int.reduceNe, Int.reduceBEq, Int.reduceBNe, Int.reduceNeg, Nat.reducePow, Int.reducePow, Nat.reduceMod, Nat.reduceDiv, ite_pos', ite_neg', hb, nonNil, tv_node, hm, ite_self, ↓tvA_shape, ↓tvA_stor, ↓tvA_cells, ↓tvP_shape, ↓tvP_cells, ↓tvP_stor]
    refine PS.app md_56 Try.func56 (p56 k1 v1 l1 r1 .nil .nil (by simp [Tr.sz])) rfl ?_
    rintro r rfl
    simp -implicitDefEqProofs -dsimp (disch := first | omega | (simp only [List.length_append, List.length_set, List.length_cons, List.length_nil, List.length_map]; omega) | decide +kernel) only [↓wkPre, ↓evC_region, ↓evC_text, ↓evC_cond, ↓evC_block, wkPost, wkF, skp, mkFn, evBuildSlice, fillS, results_tmp, mkTup, mkAgg, PV.flat, flatL, evFieldAddr, evLoad, evStore, evIndexAddr, evAlloc, evBuild, evBuiltin, evLen, lenAV, ldVar, ldArr, stVar, partA, partP, partC, withA, stride, setR, fillA, evConvert, convPV, evMakeSlice, evSlice, bnd, atI, binAV, eqAV, eqNil, leafEq, cellsEq, CfP, reduceIte, if_true, if_false, ite_true, ite_false, reduceCtorEq, ne_eq, eq_self, Nat.reduceAdd, Nat.reduceSub, Nat.reduceMul, Nat.reduceLT, Nat.reduceLeDiff, Nat.reduceEqDiff, Nat.reduceBEq, Nat.reduceBNe, Int.reduceToNat, Int.reduceLT, Int.reduceLE, Int.reduceAdd, Int.reduceSub, Int.reduceMul, Int.reduceEq, Int.reduceNe, Int.reduceBEq, Int.reduceBNe, Int.reduceNeg, Nat.reducePow, Int.reducePow, Nat.reduceMod, Nat.reduceDiv, ite_pos', ite_neg', hb, nonNil, hm, ite_self, ↓tvA_shape, ↓tvA_stor, ↓tvA_cells, ↓tvP_shape, ↓tvP_cells, ↓tvP_stor]
    refine PS.app md_50 Try.func50 (p50 _ (.node k1 v1 .nil .nil) (splitT k t).2.2 (Nat.le_refl _) (by simp only [Tr.sz]; omega)) rfl ?_
    rintro r rfl
    simp -implicitDefEqProofs -dsimp (disch := first | omega | (simp only [List.length_append, List.length_set, List.length_cons, List.length_nil, List.length_map]; omega) | decide +kernel) only [↓wkPre, ↓evC_region, ↓evC_text, ↓evC_cond, ↓evC_block, wkPost, wkF, skp, mkFn, evBuildSlice, fillS, results_tmp, mkTup, mkAgg, PV.flat, flatL, evFieldAddr, evLoad, evStore, evIndexAddr, evAlloc, evBuild, evBuiltin, evLen, lenAV, ldVar, ldArr, stVar, partA, partP, partC, withA, stride, setR, fillA, evConvert, convPV, evMakeSlice, evSlice, bnd, atI, binAV, eqAV, eqNil, leafEq, cellsEq, CfP, reduceIte, if_true, if_false, ite_true, ite_false, reduceCtorEq, ne_eq, eq_self, Nat.reduceAdd, Nat.reduceSub, Nat.reduceMul, Nat.reduceLT, Nat.reduceLeDiff, Nat.reduceEqDiff, Nat.reduceBEq, Nat.reduceBNe, Int.reduceToNat, Int.reduceLT, Int.reduceLE, Int.reduceAdd, Int.reduceSub, Int.reduceMul, Int.reduceEq, Int.reduceNe, Int.reduceBEq, Int.reduceBNe, Int.reduceNeg, Nat.reducePow, Int.reducePow, Nat.reduceMod, Nat.reduceDiv, ite_pos', ite_neg', hb, nonNil, hm, ite_self, ↓tvA_shape, ↓tvA_stor, ↓tvA_cells, ↓tvP_shape, ↓tvP_cells, ↓tvP_stor]
    exact hq'
theorem w17 (b : Nat) (t : Tr) (H : Heap) (hb : H[b]? = some (.var true (.p t.hd))) (Q : AV → Heap → Prop) (hq : ∀ H', H'[H.length]? = some (.var true (.p t.hd)) → (∀ i, i < H.length → H'[i]? = H[i]?) → H.length < H'.length → Q (.vptr H.length 0) H') : (W Cf okf).call 17 [.vptr b 0] H Q := by
  refine top_mk extMono Try.func17 body17 (by decide) rfl ?_
  simp only [c17, Try.f17, Option.getD_some]
  have hq' := hq (H ++ [.var true (.p t.hd)]) (by simp) (fun i hi => by rw [List.getElem?_append_left hi]) (by simp)
  rw [hd_eq] at hb hq'
  simp -implicitDefEqProofs -dsimp (disch := first | omega | (simp only [List.length_append, List.length_set, List.length_cons, List.length_nil, List.length_map]; omega) | decide +kernel) only [↓wkPre, ↓evC_region, ↓evC_text, ↓evC_cond, ↓evC_block, wkPost, wkF, skp, mkFn, evBuildSlice, fillS, results_tmp, mkTup, mkAgg, PV.flat, flatL, evFieldAddr, evLoad, evStore, evIndexAddr, evAlloc, evBuild, evBuiltin, evLen, lenAV, ldVar, ldArr, stVar, partA, partP, partC, withA, stride, setR, fillA, evConvert, convPV, evMakeSlice, evSlice, bnd, atI, binAV, eqAV, eqNil, leafEq, cellsEq, CfP, reduceIte, if_true, if_false, ite_true, ite_false, reduceCtorEq, ne_eq, eq_self, Nat.reduceAdd, Nat.reduceSub, Nat.reduceMul, Nat.reduceLT, Nat.reduceLeDiff, Nat.reduceEqDiff, Nat.reduceBEq, Nat.reduceBNe, Int.reduceToNat, Int.reduceLT, Int.reduceLE, Int.reduceAdd, Int.reduceSub, Int.reduceMul, Int.reduceEq, Int.reduceNe, Int.reduceBEq, Int.reduceBNe, Int.reduceNeg, Nat.reducePow, Int.reducePow, Nat.reduceMod, Nat.reduceDiv, ite_pos', ite_neg', hb, nonNil, ite_self, ↓tvA_shape, ↓tvA_stor, ↓tvA_cells, ↓tvP_shape, ↓tvP_cells, ↓tvP_stor]
  exact hq'
end Go.Ev.F31
end
section
namespace Go.Ev.F31
open Go.Proofs Go.Ev
set_option maxRecDepth 100000
set_option linter.all false
def fromL (k : Int) (l : List (Int × Int)) : List (Int × Int) := l.filter fun q => decide (q.1 < k)
def dropL (k : Int) (l : List (Int × Int)) : List (Int × Int) := l.filter fun q => decide (q.1 ≠ k)
theorem gi_it {l : List (Int × Int)} {i : Nat} (h : i < l.length) : (items l)[i]? = some (.agg [.int .i64 l[i].1, .int .i64 l[i].2]) := by simp [items, h, it]
theorem p9 (l : List (Int × Int)) (k : Int) (hl : l.length ≤ 1000000) : PS Cf okf 9 [3] [its l, I k] (fun r => r = I (fromL k l).length) := by
  refine PS.mk extMono Try.func9 body9 (by decide) rfl ?_
  simp only [c9, Try.f9, Option.getD_some]
  simp -implicitDefEqProofs -dsimp (disch := first | omega | (simp only [List.length_append, List.length_set, List.length_cons, List.length_nil, List.length_map]; omega) | decide +kernel) only [↓wkPre, ↓evC_region, ↓evC_text, ↓evC_cond, ↓evC_block, wkPost, wkF, skp, mkFn, evBuildSlice, fillS, results_tmp, mkTup, mkAgg, PV.flat, flatL, evFieldAddr, evLoad, evStore, evIndexAddr, evAlloc, evBuild, evBuiltin, evLen, lenAV, ldVar, ldArr, stVar, partA, partP, partC, withA, stride, setR, fillA, evConvert, convPV, evMakeSlice, evSlice, bnd, atI, binAV, eqAV, eqNil, leafEq, cellsEq, CfP, reduceIte, if_true, if_false, ite_true, ite_false, reduceCtorEq, ne_eq, eq_self, Nat.reduceAdd, Nat.reduceSub, Nat.reduceMul, Nat.reduceLT, Nat.reduceLeDiff, Nat.reduceEqDiff, Nat.reduceBEq, Nat.reduceBNe, Int.reduceToNat, Int.reduceLT, Int.reduceLE, Int.reduceAdd, Int.reduceSub, Int.reduceMul, Int.reduceEq, Int.reduceNe, Int.reduceBEq, Int.reduceBNe, Int.reduceNeg, Nat.reducePow, Int.reducePow, Nat.reduceMod, Nat.reduceDiv, ite_pos', ite_neg', its]
  have hil := items_len l
  refine loop_use extMono (fun m e H => ∃ i : Nat, m = l.length - i ∧ i ≤ l.length ∧ e 0 = .p (.sl 2 (items l)) ∧ e 1 = .p (I k) ∧ e 5 = .p (I (fromL k (l.take i)).length) ∧ e 6 = .p (I i) ∧ H = []) ?_ l.length _ _ ⟨0, rfl, by omega, ?_⟩
  · rintro m e H ⟨i, rfl, hi, e0, e1, e5, e6, rfl⟩
    have hle : (fromL k (l.take i)).length ≤ i := Nat.le_trans (List.length_filter_le _ _) (by simp; omega)
    rcases Nat.lt_or_ge i l.length with h | h
    · have gi := gi_it h
      have hst : fromL k (l.take (i + 1)) = fromL k (l.take i) ++ if l[i].1 < k then [l[i]] else [] := by
        unfold fromL; rw [List.take_succ_eq_append_getElem h, List.filter_append]; congr 1; simp [List.filter_cons]
      rcases Int.lt_or_le l[i].1 k with h2 | h2
      · simp -implicitDefEqProofs -dsimp (disch := first | omega | (simp only [List.length_append, List.length_set, List.length_cons, List.length_nil, List.length_map]; omega) | decide +kernel) only [↓wkPre, ↓evC_region, ↓evC_text, ↓evC_cond, ↓evC_block, wkPost, wkF, skp, mkFn, evBuildSlice, fillS, results_tmp, mkTup, mkAgg, PV.flat, flatL, evFieldAddr, evLoad, evStore, evIndexAddr, evAlloc, evBuild, evBuiltin, evLen, lenAV, ldVar, ldArr, stVar, partA, partP, partC, withA, stride, setR, fillA, evConvert, convPV, evMakeSlice, evSlice, bnd, atI, binAV, eqAV, eqNil, leafEq, cellsEq, CfP, reduceIte, if_true, if_false, ite_true, ite_false, reduceCtorEq, ne_eq, eq_self, Nat.reduceAdd, Nat.reduceSub, Nat.reduceMul, Nat.reduceLT, Nat.reduceLeDiff, Nat.reduceEqDiff, Nat.reduceBEq, Nat.reduceBNe, Int.reduceToNat, Int.reduceLT, Int.reduceLE, Int.reduceAdd, Int.reduceSub, Int.reduceMul, Int.reduceEq, Int.reduceNe, Int.reduceBEq, Int.reduceBNe, Int.reduceNeg, Nat.reducePow, Int.reducePow, Nat.reduceMod, Nat.reduceDiv, ite_pos', ite_neg', e0, e1, e5, e6, gi, hil]
        exact ⟨l.length - (i + 1), by omega, i + 1, rfl, by omega, by rw [hst, if_pos h2]; simp, by push_cast; rfl⟩
      · simp -implicitDefEqProofs -dsimp (disch := first | omega | (simp only [List.length_append, List.length_set, List.length_cons, List.length_nil, List.length_map]; omega) | decide +kernel) only [↓wkPre, ↓evC_region, ↓evC_text, ↓evC_cond, ↓evC_block, wkPost, wkF, skp, mkFn, evBuildSlice, fillS, results_tmp, mkTup, mkAgg, PV.flat, flatL, evFieldAddr, evLoad, evStore, evIndexAddr, evAlloc, evBuild, evBuiltin, evLen, lenAV, ldVar, ldArr, stVar, partA, partP, partC, withA, stride, setR, fillA, evConvert, convPV, evMakeSlice, evSlice, bnd, atI, binAV, eqAV, eqNil, leafEq, cellsEq, CfP, reduceIte, if_true, if_false, ite_true, ite_false, reduceCtorEq, ne_eq, eq_self, Nat.reduceAdd, Nat.reduceSub, Nat.reduceMul, Nat.reduceLT, Nat.reduceLeDiff, Nat.reduceEqDiff, Nat.reduceBEq, Nat.reduceBNe, Int.reduceToNat, Int.reduceLT, Int.reduceLE, Int.reduceAdd, Int.reduceSub, Int.reduceMul, Int.reduceEq, Int.reduceNe, Int.reduceBEq, Int.reduceBNe, Int.reduceNeg, Nat.reducePow, Int.reducePow, Nat.reduceMod, Nat.reduceDiv, ite_pos', ite_neg', e0, e1, e5, e6, gi, hil]
        exact ⟨l.length - (i + 1), by omega, i + 1, rfl, by omega, by rw [hst, if_neg (by omega)]; simp, by push_cast; rfl⟩
    · have : i = l.length := by omega
      subst this
      simp -implicitDefEqProofs -dsimp (disch := first | omega | (simp only [List.length_append, List.length_set, List.length_cons, List.length_nil, List.length_map]; omega) | decide +kernel) only [↓wkPre, ↓evC_region, ↓evC_text, ↓evC_cond, ↓evC_block, wkPost, wkF, skp, mkFn, evBuildSlice, fillS, results_tmp, mkTup, mkAgg, PV.flat, flatL, evFieldAddr, evLoad, evStore, evIndexAddr, evAlloc, evBuild, evBuiltin, evLen, lenAV, ldVar, ldArr, stVar, partA, partP, partC, withA, stride, setR, fillA, evConvert, convPV, evMakeSlice, evSlice, bnd, atI, binAV, eqAV, eqNil, leafEq, cellsEq, CfP, reduceIte, if_true, if_false, ite_true, ite_false, reduceCtorEq, ne_eq, eq_self, Nat.reduceAdd, Nat.reduceSub, Nat.reduceMul, Nat.reduceLT, Nat.reduceLeDiff, Nat.reduceEqDiff, Nat.reduceBEq, Nat.reduceBNe, Int.reduceToNat, Int.reduceLT, Int.reduceLE, Int.reduceAdd, Int.reduceSub, Int.reduceMul, Int.reduceEq, Int.reduceNe, Int.reduceBEq, Int.reduceBNe, Int.reduceNeg, Nat.reducePow, Int.reducePow, Nat.reduceMod, Nat.reduceDiv, ite_pos', ite_neg', e0, e1, e5, e6, hil]
      rw [List.take_length]
  · simp -implicitDefEqProofs -dsimp (disch := first | omega | (simp only [List.length_append, List.length_set, List.length_cons, List.length_nil, List.length_map]; omega) | decide +kernel) only [↓wkPre, ↓evC_region, ↓evC_text, ↓evC_cond, ↓evC_block, wkPost, wkF, skp, mkFn, evBuildSlice, fillS, results_tmp, mkTup, mkAgg, PV.flat, flatL, evFieldAddr, evLoad, evStore, evIndexAddr, evAlloc, evBuild, evBuiltin, evLen, lenAV, ldVar, ldArr, stVar, partA, partP, partC, withA, stride, setR, fillA, evConvert, convPV, evMakeSlice, evSlice, bnd, atI, binAV, eqAV, eqNil, leafEq, cellsEq, CfP, reduceIte, if_true, if_false, ite_true, ite_false, reduceCtorEq, ne_eq, eq_self, Nat.reduceAdd, Nat.reduceSub, Nat.reduceMul, Nat.reduceLT, Nat.reduceLeDiff, Nat.reduceEqDiff, Nat.reduceBEq, Nat.reduceBNe, Int.reduceToNat, Int.reduceLT, Int.reduceLE, Int.reduceAdd, Int.reduceSub, Int.reduceMul, Int.reduceEq, Int.reduceNe, Int.reduceBEq, Int.reduceBNe, Int.reduceNeg, Nat.reducePow, Int.reducePow, Nat.reduceMod, Nat.reduceDiv, ite_pos', ite_neg']
    exact ⟨rfl, rfl⟩
theorem p41 (l : List (Int × Int)) (k : Int) (hl : l.length ≤ 1000000) : PS Cf okf 41 [25, 4] [its l, I k] (fun r => r = .tup [its (dropL k l), B (decide ((dropL k l).length < l.length))]) := by
  refine PS.mk extMono Try.func41 body41 (by decide) rfl ?_
  simp only [c41, Try.f41, Option.getD_some]
  simp -implicitDefEqProofs -dsimp (disch := first | omega | (simp only [List.length_append, List.length_set, List.length_cons, List.length_nil, List.length_map]; omega) | decide +kernel) only [↓wkPre, ↓evC_region, ↓evC_text, ↓evC_cond, ↓evC_block, wkPost, wkF, skp, mkFn, evBuildSlice, fillS, results_tmp, mkTup, mkAgg, PV.flat, flatL, evFieldAddr, evLoad, evStore, evIndexAddr, evAlloc, evBuild, evBuiltin, evLen, lenAV, ldVar, ldArr, stVar, partA, partP, partC, withA, stride, setR, fillA, evConvert, convPV, evMakeSlice, evSlice, bnd, atI, binAV, eqAV, eqNil, leafEq, cellsEq, CfP, reduceIte, if_true, if_false, ite_true, ite_false, reduceCtorEq, ne_eq, eq_self, Nat.reduceAdd, Nat.reduceSub, Nat.reduceMul, Nat.reduceLT, Nat.reduceLeDiff, Nat.reduceEqDiff, Nat.reduceBEq, Nat.reduceBNe, Int.reduceToNat, Int.reduceLT, Int.reduceLE, Int.reduceAdd, Int.reduceSub, Int.reduceMul, Int.reduceEq, Int.reduceNe, Int.reduceBEq, Int.reduceBNe, Int.reduceNeg, Nat.reducePow, Int.reducePow, Nat.reduceMod, Nat.reduceDiv, ite_pos', ite_neg', its]
  have hil := items_len l
  refine loop_use extMono (fun m e H => ∃ (i : Nat) (v : AV), m = l.length - i ∧ i ≤ l.length ∧ e 0 = .p (.sl 2 (items l)) ∧ e 1 = .p (I k) ∧ e 6 = v ∧ e 7 = .p (I i) ∧ OwnS H v 2 (items (dropL k (l.take i)))) ?_ l.length _ _ ⟨0, .nsl, rfl, by omega, ?_⟩
  · rintro m e H ⟨i, v, rfl, hi, e0, e1, e6, e7, hown⟩
    have hle : (dropL k (l.take i)).length ≤ i := Nat.le_trans (List.length_filter_le _ _) (by simp; omega)
    rcases Nat.lt_or_ge i l.length with h | h
    · have gi := gi_it h
      have hst : dropL k (l.take (i + 1)) = dropL k (l.take i) ++ if l[i].1 ≠ k then [l[i]] else [] := by
        unfold dropL; rw [List.take_succ_eq_append_getElem h, List.filter_append]; congr 1; simp [List.filter_cons]
      by_cases h2 : l[i].1 = k
      · simp -implicitDefEqProofs -dsimp (disch := first | omega | (simp only [List.length_append, List.length_set, List.length_cons, List.length_nil, List.length_map]; omega) | decide +kernel) only [↓wkPre, ↓evC_region, ↓evC_text, ↓evC_cond, ↓evC_block, wkPost, wkF, skp, mkFn, evBuildSlice, fillS, results_tmp, mkTup, mkAgg, PV.flat, flatL, evFieldAddr, evLoad, evStore, evIndexAddr, evAlloc, evBuild, evBuiltin, evLen, lenAV, ldVar, ldArr, stVar, partA, partP, partC, withA, stride, setR, fillA, evConvert, convPV, evMakeSlice, evSlice, bnd, atI, binAV, eqAV, eqNil, leafEq, cellsEq, CfP, reduceIte, if_true, if_false, ite_true, ite_false, reduceCtorEq, ne_eq, eq_self, Nat.reduceAdd, Nat.reduceSub, Nat.reduceMul, Nat.reduceLT, Nat.reduceLeDiff, Nat.reduceEqDiff, Nat.reduceBEq, Nat.reduceBNe, Int.reduceToNat, Int.reduceLT, Int.reduceLE, Int.reduceAdd, Int.reduceSub, Int.reduceMul, Int.reduceEq, Int.reduceNe, Int.reduceBEq, Int.reduceBNe, Int.reduceNeg, Nat.reducePow, Int.reducePow, Nat.reduceMod, Nat.reduceDiv, ite_pos', ite_neg', e0, e1, e6, e7, gi, hil, h2]
        exact ⟨l.length - (i + 1), by omega, i + 1, v, rfl, by omega, rfl, by push_cast; rfl, by rw [hst, if_neg (by simp [h2])]; simpa using hown⟩
      · have h3 : (l[i].1 == k) = false := by simp [h2]
        simp -implicitDefEqProofs -dsimp (disch := first | omega | (simp only [List.length_append, List.length_set, List.length_cons, List.length_nil, List.length_map]; omega) | decide +kernel) only [↓wkPre, ↓evC_region, ↓evC_text, ↓evC_cond, ↓evC_block, wkPost, wkF, skp, mkFn, evBuildSlice, fillS, results_tmp, mkTup, mkAgg, PV.flat, flatL, evFieldAddr, evLoad, evStore, evIndexAddr, evAlloc, evBuild, evBuiltin, evLen, lenAV, ldVar, ldArr, stVar, partA, partP, partC, withA, stride, setR, fillA, evConvert, convPV, evMakeSlice, evSlice, bnd, atI, binAV, eqAV, eqNil, leafEq, cellsEq, CfP, reduceIte, if_true, if_false, ite_true, ite_false, reduceCtorEq, ne_eq, eq_self, Nat.reduceAdd, Nat.reduceSub, Nat.reduceMul, Nat.reduceLT, Nat.reduceLeDiff, Nat.reduceEqDiff, Nat.reduceBEq, Nat.reduceBNe, Int.reduceToNat, Int.reduceLT, Int.reduceLE, Int.reduceAdd, Int.reduceSub, Int.reduceMul, Int.reduceEq, Int.reduceNe, Int.reduceBEq, Int.reduceBNe, Int.reduceNeg, Nat.reducePow, Int.reducePow, Nat.reduceMod, Nat.reduceDiv, ite_pos', ite_neg', e0, e1, e6, e7, gi, hil, h3]
        refine append_step telem_25 (elems_new (by simp) rfl) (by simp) (hown.app _) ?_ ?_
        · simp [byt_33, items_len]; omega
        intro v' H' hown' hfr hle hb'
        simp -implicitDefEqProofs -dsimp (disch := first | omega | (simp only [List.length_append, List.length_set, List.length_cons, List.length_nil, List.length_map]; omega) | decide +kernel) only [↓wkPre, ↓evC_region, ↓evC_text, ↓evC_cond, ↓evC_block, wkPost, wkF, skp, mkFn, evBuildSlice, fillS, results_tmp, mkTup, mkAgg, PV.flat, flatL, evFieldAddr, evLoad, evStore, evIndexAddr, evAlloc, evBuild, evBuiltin, evLen, lenAV, ldVar, ldArr, stVar, partA, partP, partC, withA, stride, setR, fillA, evConvert, convPV, evMakeSlice, evSlice, bnd, atI, binAV, eqAV, eqNil, leafEq, cellsEq, CfP, reduceIte, if_true, if_false, ite_true, ite_false, reduceCtorEq, ne_eq, eq_self, Nat.reduceAdd, Nat.reduceSub, Nat.reduceMul, Nat.reduceLT, Nat.reduceLeDiff, Nat.reduceEqDiff, Nat.reduceBEq, Nat.reduceBNe, Int.reduceToNat, Int.reduceLT, Int.reduceLE, Int.reduceAdd, Int.reduceSub, Int.reduceMul, Int.reduceEq, Int.reduceNe, Int.reduceBEq, Int.reduceBNe, Int.reduceNeg, Nat.reducePow, Int.reducePow, Nat.reduceMod, Nat.reduceDiv, ite_pos', ite_neg', e0, e1, e6, e7, gi, hil, h3]
        refine ⟨l.length - (i + 1), by omega, i + 1, v', rfl, by omega, rfl, by push_cast; rfl, ?_⟩
        rw [hst, if_pos h2]; simpa [items, it] using hown'
    · have : i = l.length := by omega
      subst this
      rw [List.take_length] at hown
      have hfz := frz_own (n := 4) telem_25 hown
      rcases hown with ⟨rfl, hx0⟩ | ⟨b, g, rfl, hb⟩
      · simp -implicitDefEqProofs -dsimp (disch := first | omega | (simp only [List.length_append, List.length_set, List.length_cons, List.length_nil, List.length_map]; omega) | decide +kernel) only [↓wkPre, ↓evC_region, ↓evC_text, ↓evC_cond, ↓evC_block, wkPost, wkF, skp, mkFn, evBuildSlice, fillS, results_tmp, mkTup, mkAgg, PV.flat, flatL, evFieldAddr, evLoad, evStore, evIndexAddr, evAlloc, evBuild, evBuiltin, evLen, lenAV, ldVar, ldArr, stVar, partA, partP, partC, withA, stride, setR, fillA, evConvert, convPV, evMakeSlice, evSlice, bnd, atI, binAV, eqAV, eqNil, leafEq, cellsEq, CfP, reduceIte, if_true, if_false, ite_true, ite_false, reduceCtorEq, ne_eq, eq_self, Nat.reduceAdd, Nat.reduceSub, Nat.reduceMul, Nat.reduceLT, Nat.reduceLeDiff, Nat.reduceEqDiff, Nat.reduceBEq, Nat.reduceBNe, Int.reduceToNat, Int.reduceLT, Int.reduceLE, Int.reduceAdd, Int.reduceSub, Int.reduceMul, Int.reduceEq, Int.reduceNe, Int.reduceBEq, Int.reduceBNe, Int.reduceNeg, Nat.reducePow, Int.reducePow, Nat.reduceMod, Nat.reduceDiv, ite_pos', ite_neg', e0, e1, e6, e7, hil]
        have e : dropL k l = [] := by simpa [items] using hx0
        simp [e, its, items]
      · simp -implicitDefEqProofs -dsimp (disch := first | omega | (simp only [List.length_append, List.length_set, List.length_cons, List.length_nil, List.length_map]; omega) | decide +kernel) only [↓wkPre, ↓evC_region, ↓evC_text, ↓evC_cond, ↓evC_block, wkPost, wkF, skp, mkFn, evBuildSlice, fillS, results_tmp, mkTup, mkAgg, PV.flat, flatL, evFieldAddr, evLoad, evStore, evIndexAddr, evAlloc, evBuild, evBuiltin, evLen, lenAV, ldVar, ldArr, stVar, partA, partP, partC, withA, stride, setR, fillA, evConvert, convPV, evMakeSlice, evSlice, bnd, atI, binAV, eqAV, eqNil, leafEq, cellsEq, CfP, reduceIte, if_true, if_false, ite_true, ite_false, reduceCtorEq, ne_eq, eq_self, Nat.reduceAdd, Nat.reduceSub, Nat.reduceMul, Nat.reduceLT, Nat.reduceLeDiff, Nat.reduceEqDiff, Nat.reduceBEq, Nat.reduceBNe, Int.reduceToNat, Int.reduceLT, Int.reduceLE, Int.reduceAdd, Int.reduceSub, Int.reduceMul, Int.reduceEq, Int.reduceNe, Int.reduceBEq, Int.reduceBNe, Int.reduceNeg, Nat.reducePow, Int.reducePow, Nat.reduceMod, Nat.reduceDiv, ite_pos', ite_neg', e0, e1, e6, e7, hil, hb]
        rw [hfz]
        simp [oK, its, items_len]
  · simp -implicitDefEqProofs -dsimp (disch := first | omega | (simp only [List.length_append, List.length_set, List.length_cons, List.length_nil, List.length_map]; omega) | decide +kernel) only [↓wkPre, ↓evC_region, ↓evC_text, ↓evC_cond, ↓evC_block, wkPost, wkF, skp, mkFn, evBuildSlice, fillS, results_tmp, mkTup, mkAgg, PV.flat, flatL, evFieldAddr, evLoad, evStore, evIndexAddr, evAlloc, evBuild, evBuiltin, evLen, lenAV, ldVar, ldArr, stVar, partA, partP, partC, withA, stride, setR, fillA, evConvert, convPV, evMakeSlice, evSlice, bnd, atI, binAV, eqAV, eqNil, leafEq, cellsEq, CfP, reduceIte, if_true, if_false, ite_true, ite_false, reduceCtorEq, ne_eq, eq_self, Nat.reduceAdd, Nat.reduceSub, Nat.reduceMul, Nat.reduceLT, Nat.reduceLeDiff, Nat.reduceEqDiff, Nat.reduceBEq, Nat.reduceBNe, Int.reduceToNat, Int.reduceLT, Int.reduceLE, Int.reduceAdd, Int.reduceSub, Int.reduceMul, Int.reduceEq, Int.reduceNe, Int.reduceBEq, Int.reduceBNe, Int.reduceNeg, Nat.reducePow, Int.reducePow, Nat.reduceMod, Nat.reduceDiv, ite_pos', ite_neg']
    exact ⟨rfl, OwnS.nil _ _⟩
def stp (x : Int × Int) (s : List (Int × Int) × Bool × Bool) (q : Int × Int) : List (Int × Int) × Bool × Bool :=
  if q.1 = x.1 then (s.1 ++ [x], true, true) else if s.2.1 = false ∧ x.1 < q.1 then (s.1 ++ [x] ++ [q], true, s.2.2) else (s.1 ++ [q], s.2.1, s.2.2)
def putS (x : Int × Int) (l : List (Int × Int)) : List (Int × Int) × Bool × Bool := l.foldl (stp x) ([], false, false)
def putR (x : Int × Int) (l : List (Int × Int)) : List (Int × Int) := if (putS x l).2.1 then (putS x l).1 else (putS x l).1 ++ [x]
theorem putS_snoc (x : Int × Int) (l : List (Int × Int)) (i : Nat) (h : i < l.length) : putS x (l.take (i + 1)) = stp x (putS x (l.take i)) l[i] := by
  unfold putS; rw [List.take_succ_eq_append_getElem h, List.foldl_append]; rfl
theorem putS_len (x : Int × Int) : ∀ (l : List (Int × Int)) (s : List (Int × Int) × Bool × Bool), (l.foldl (stp x) s).1.length ≤ s.1.length + 2 * l.length
  | [], s => by simp
  | q :: l, s => by
    have h := putS_len x l (stp x s q)
    have h2 : (stp x s q).1.length ≤ s.1.length + 2 := by
      unfold stp; split
      · simp
      · split <;> simp
    simp only [List.foldl_cons, List.length_cons]
    omega
theorem frz_pair {H : Heap} {v : AV} {xs : List PV} (h : OwnS H v 2 xs) (me : Bool) : oK (frzR Try.prog H [25, 4] (mkTup [v, .p (B me)])) (fun r => r = .tup [.sl 2 xs, B me]) := by
  have hfz := frz_own (n := 4) telem_25 h
  rcases h with ⟨rfl, hx0⟩ | ⟨b, g, rfl, hb⟩
  · subst hx0
    rw [show mkTup [.nsl, .p (B me)] = .tup [.nsl, .p (B me)] from rfl, frzR_tup]
    simp only [frzL, List.headD_cons, List.tail_cons, hfz, Option.bind_some, frzN_p, Option.map_some, oK]
  · rw [show mkTup [.ref b g 0 xs.length false, .p (B me)] = .tup [.ref b g 0 xs.length false, .p (B me)] from rfl, frzR_tup]
    simp only [frzL, List.headD_cons, List.tail_cons, hfz, Option.bind_some, frzN_p, Option.map_some, oK]
theorem p40 (l : List (Int × Int)) (k v : Int) (hl : l.length ≤ 1000000) : PS Cf okf 40 [25, 4] [its l, .agg [.int .i64 k, .int .i64 v]] (fun r => r = .tup [its (putR (k, v) l), B (putS (k, v) l).2.2]) := by
  refine PS.mk extMono Try.func40 body40 (by decide) rfl ?_
  simp only [c40, Try.f40, Option.getD_some]
  simp -implicitDefEqProofs -dsimp (disch := first | omega | (simp only [List.length_append, List.length_set, List.length_cons, List.length_nil, List.length_map]; omega) | decide +kernel) only [↓wkPre, ↓evC_region, ↓evC_text, ↓evC_cond, ↓evC_block, wkPost, wkF, skp, mkFn, evBuildSlice, fillS, results_tmp, mkTup, mkAgg, PV.flat, flatL, evFieldAddr, evLoad, evStore, evIndexAddr, evAlloc, evBuild, evBuiltin, evLen, lenAV, ldVar, ldArr, stVar, partA, partP, partC, withA, stride, setR, fillA, evConvert, convPV, evMakeSlice, evSlice, bnd, atI, binAV, eqAV, eqNil, leafEq, cellsEq, CfP, reduceIte, if_true, if_false, ite_true, ite_false, reduceCtorEq, ne_eq, eq_self, Nat.reduceAdd, Nat.reduceSub, Nat.reduceMul, Nat.reduceLT, Nat.reduceLeDiff, Nat.reduceEqDiff, Nat.reduceBEq, Nat.reduceBNe, Int.reduceToNat, Int.reduceLT, Int.reduceLE, Int.reduceAdd, Int.reduceSub, Int.reduceMul, Int.reduceEq, Int.reduceNe, Int.reduceBEq, Int.reduceBNe, Int.reduceNeg, Nat.reducePow, Int.reducePow, Nat.reduceMod, Nat.reduceDiv, ite_pos', ite_neg', its]
  have hil := items_len l
  refine loop_use extMono (fun m e H => ∃ (i : Nat) (w : AV), m = l.length - i ∧ i ≤ l.length ∧ e 0 = .p (.sl 2 (items l)) ∧ e 3 = .vptr 0 0 ∧ e 6 = w ∧ e 7 = .p (B (putS (k, v) (l.take i)).2.1) ∧ e 8 = .p (B (putS (k, v) (l.take i)).2.2) ∧ e 9 = .p (I i) ∧ H[0]? = some (.var true (.p (.agg [.int .i64 k, .int .i64 v]))) ∧ 1 ≤ H.length ∧ w.blk ≠ some 0 ∧ OwnS H w 2 (items (putS (k, v) (l.take i)).1)) ?_ l.length _ _ ⟨0, .nsl, rfl, by omega, ?_⟩
  · rintro m e H ⟨i, w, rfl, hi, e0, e3, e6, e7, e8, e9, g0, g1, w0, hown⟩
    have hle := putS_len (k, v) (l.take i) ([], false, false)
    rw [show List.foldl (stp (k, v)) ([], false, false) (l.take i) = putS (k, v) (l.take i) from rfl] at hle
    simp only [List.length_nil, List.length_take] at hle
    rcases Nat.lt_or_ge i l.length with h | h
    · have gi := gi_it h
      have hst := putS_snoc (k, v) l i h
      obtain ⟨⟨o, pu, me⟩, hS⟩ : ∃ s, putS (k, v) (l.take i) = s := ⟨_, rfl⟩
      rw [hS] at hst hle hown e7 e8
      simp only at hle hown e7 e8
      by_cases h2 : l[i].1 = k
      · have h3 : (l[i].1 == k) = true := by simp [h2]
        simp -implicitDefEqProofs -dsimp (disch := first | omega | (simp only [List.length_append, List.length_set, List.length_cons, List.length_nil, List.length_map]; omega) | decide +kernel) only [↓wkPre, ↓evC_region, ↓evC_text, ↓evC_cond, ↓evC_block, wkPost, wkF, skp, mkFn, evBuildSlice, fillS, results_tmp, mkTup, mkAgg, PV.flat, flatL, evFieldAddr, evLoad, evStore, evIndexAddr, evAlloc, evBuild, evBuiltin, evLen, lenAV, ldVar, ldArr, stVar, partA, partP, partC, withA, stride, setR, fillA, evConvert, convPV, evMakeSlice, evSlice, bnd, atI, binAV, eqAV, eqNil, leafEq, cellsEq, CfP, reduceIte, if_true, if_false, ite_true, ite_false, reduceCtorEq, ne_eq, eq_self, Nat.reduceAdd, Nat.reduceSub, Nat.reduceMul, Nat.reduceLT, Nat.reduceLeDiff, Nat.reduceEqDiff, Nat.reduceBEq, Nat.reduceBNe, Int.reduceToNat, Int.reduceLT, Int.reduceLE, Int.reduceAdd, Int.reduceSub, Int.reduceMul, Int.reduceEq, Int.reduceNe, Int.reduceBEq, Int.reduceBNe, Int.reduceNeg, Nat.reducePow, Int.reducePow, Nat.reduceMod, Nat.reduceDiv, ite_pos', ite_neg', e0, e3, e6, e7, e8, e9, gi, g0, hil, h3]
        refine append_step telem_25 (elems_new (by simp) rfl) (by simp) (hown.app _) ?_ ?_
        · simp [byt_33, items_len]; omega
        intro v' H' hown' hfr hle' hb'
        have q0 := hfr 0 (by simp) w0
        rw [hs_app (by omega), g0] at q0
        simp only [List.length_append, List.length_cons, List.length_nil] at hle' hb'
        simp -implicitDefEqProofs -dsimp (disch := first | omega | (simp only [List.length_append, List.length_set, List.length_cons, List.length_nil, List.length_map]; omega) | decide +kernel) only [↓wkPre, ↓evC_region, ↓evC_text, ↓evC_cond, ↓evC_block, wkPost, wkF, skp, mkFn, evBuildSlice, fillS, results_tmp, mkTup, mkAgg, PV.flat, flatL, evFieldAddr, evLoad, evStore, evIndexAddr, evAlloc, evBuild, evBuiltin, evLen, lenAV, ldVar, ldArr, stVar, partA, partP, partC, withA, stride, setR, fillA, evConvert, convPV, evMakeSlice, evSlice, bnd, atI, binAV, eqAV, eqNil, leafEq, cellsEq, CfP, reduceIte, if_true, if_false, ite_true, ite_false, reduceCtorEq, ne_eq, eq_self, Nat.reduceAdd, Nat.reduceSub, Nat.reduceMul, Nat.reduceLT, Nat.reduceLeDiff, Nat.reduceEqDiff, Nat.reduceBEq, Nat.reduceBNe, Int.reduceToNat, Int.reduceLT, Int.reduceLE, Int.reduceAdd, Int.reduceSub, Int.reduceMul, Int.reduceEq, Int.reduceNe, Int.reduceBEq, Int.reduceBNe, Int.reduceNeg, Nat.reducePow, Int.reducePow, Nat.reduceMod, Nat.reduceDiv, ite_pos', ite_neg', e0, e3, e6, e7, e8, e9, gi, q0, hil, h3]
        refine ⟨l.length - (i + 1), by omega, i + 1, v', rfl, by omega, rfl, ?_, ?_, by push_cast; rfl, by omega, fun h => w0 (hb' 0 h (by omega)), ?_⟩
        · rw [hst, stp, if_pos h2]
        · rw [hst, stp, if_pos h2]
        · rw [hst, stp, if_pos h2]; simpa [items, it] using hown'
      · have h3 : (l[i].1 == k) = false := by simp [h2]
        by_cases h4 : pu = false ∧ k < l[i].1
        · obtain ⟨rfl, h4'⟩ := h4
          simp -implicitDefEqProofs -dsimp (disch := first | omega | (simp only [List.length_append, List.length_set, List.length_cons, List.length_nil, List.length_map]; omega) | decide +kernel) only [↓wkPre, ↓evC_region, ↓evC_text, ↓evC_cond, ↓evC_block, wkPost, wkF, skp, mkFn, evBuildSlice, fillS, results_tmp, mkTup, mkAgg, PV.flat, flatL, evFieldAddr, evLoad, evStore, evIndexAddr, evAlloc, evBuild, evBuiltin, evLen, lenAV, ldVar, ldArr, stVar, partA, partP, partC, withA, stride, setR, fillA, evConvert, convPV, evMakeSlice, evSlice, bnd, atI, binAV, eqAV, eqNil, leafEq, cellsEq, CfP, reduceIte, if_true, if_false, ite_true, ite_false, reduceCtorEq, ne_eq, eq_self, Nat.reduceAdd, Nat.reduceSub, Nat.reduceMul, Nat.reduceLT, Nat.reduceLeDiff, Nat.reduceEqDiff, Nat.reduceBEq, Nat.reduceBNe, Int.reduceToNat, Int.reduceLT, Int.reduceLE, Int.reduceAdd, Int.reduceSub, Int.reduceMul, Int.reduceEq, Int.reduceNe, Int.reduceBEq, Int.reduceBNe, Int.reduceNeg, Nat.reducePow, Int.reducePow, Nat.reduceMod, Nat.reduceDiv, ite_pos', ite_neg', e0, e3, e6, e7, e8, e9, gi, g0, hil, h3]
          refine append_step telem_25 (elems_new (by simp) rfl) (by simp) (hown.app _) ?_ ?_
          · simp [byt_33, items_len]; omega
          intro v1 H1 hown1 hfr1 hle1 hb1
          have q1 := hfr1 0 (by simp) w0
          rw [hs_app (by omega), g0] at q1
          simp only [List.length_append, List.length_cons, List.length_nil] at hle1 hb1
          have w1 : v1.blk ≠ some 0 := fun h => w0 (hb1 0 h (by omega))
          have l1 : 1 ≤ H1.length := by omega
          simp -implicitDefEqProofs -dsimp (disch := first | omega | (simp only [List.length_append, List.length_set, List.length_cons, List.length_nil, List.length_map]; omega) | decide +kernel) only [↓wkPre, ↓evC_region, ↓evC_text, ↓evC_cond, ↓evC_block, wkPost, wkF, skp, mkFn, evBuildSlice, fillS, results_tmp, mkTup, mkAgg, PV.flat, flatL, evFieldAddr, evLoad, evStore, evIndexAddr, evAlloc, evBuild, evBuiltin, evLen, lenAV, ldVar, ldArr, stVar, partA, partP, partC, withA, stride, setR, fillA, evConvert, convPV, evMakeSlice, evSlice, bnd, atI, binAV, eqAV, eqNil, leafEq, cellsEq, CfP, reduceIte, if_true, if_false, ite_true, ite_false, reduceCtorEq, ne_eq, eq_self, Nat.reduceAdd, Nat.reduceSub, Nat.reduceMul, Nat.reduceLT, Nat.reduceLeDiff, Nat.reduceEqDiff, Nat.reduceBEq, Nat.reduceBNe, Int.reduceToNat, Int.reduceLT, Int.reduceLE, Int.reduceAdd, Int.reduceSub, Int.reduceMul, Int.reduceEq, Int.reduceNe, Int.reduceBEq, Int.reduceBNe, Int.reduceNeg, Nat.reducePow, Int.reducePow, Nat.reduceMod, Nat.reduceDiv, ite_pos', ite_neg', e0, e3, e6, e7, e8, e9, gi, q1, hil, h3]
          refine append_step telem_25 (elems_new (by simp) rfl) (by simp) (hown1.app _) ?_ ?_
          · simp [byt_33, items_len]; omega
          intro v2 H2 hown2 hfr2 hle2 hb2
          have q2 := hfr2 0 (by simp) w1
          rw [hs_app (by omega), q1] at q2
          simp only [List.length_append, List.length_cons, List.length_nil] at hle2 hb2
          have w2 : v2.blk ≠ some 0 := fun h => w1 (hb2 0 h (by omega))
          have l2 : 1 ≤ H2.length := by omega
          have h5 : stp (k, v) (o, false, me) l[i] = (o ++ [(k, v)] ++ [l[i]], true, me) := by rw [stp, if_neg h2, if_pos ⟨rfl, h4'⟩]
          simp -implicitDefEqProofs -dsimp (disch := first | omega | (simp only [List.length_append, List.length_set, List.length_cons, List.length_nil, List.length_map]; omega) | decide +kernel) only [↓wkPre, ↓evC_region, ↓evC_text, ↓evC_cond, ↓evC_block, wkPost, wkF, skp, mkFn, evBuildSlice, fillS, results_tmp, mkTup, mkAgg, PV.flat, flatL, evFieldAddr, evLoad, evStore, evIndexAddr, evAlloc, evBuild, evBuiltin, evLen, lenAV, ldVar, ldArr, stVar, partA, partP, partC, withA, stride, setR, fillA, evConvert, convPV, evMakeSlice, evSlice, bnd, atI, binAV, eqAV, eqNil, leafEq, cellsEq, CfP, reduceIte, if_true, if_false, ite_true, ite_false, reduceCtorEq, ne_eq, eq_self, Nat.reduceAdd, Nat.reduceSub, Nat.reduceMul, Nat.reduceLT, Nat.reduceLeDiff, Nat.reduceEqDiff, Nat.reduceBEq, Nat.reduceBNe, Int.reduceToNat, Int.reduceLT, Int.reduceLE, Int.reduceAdd, Int.reduceSub, Int.reduceMul, Int.reduceEq, Int.reduceNe, Int.reduceBEq, Int.reduceBNe, Int.reduceNeg, Nat.reducePow, Int.reducePow, Nat.reduceMod, Nat.reduceDiv, ite_pos', ite_neg', e0, e3, e6, e7, e8, e9, gi, q2, hil, h3]
          refine ⟨l.length - (i + 1), by omega, i + 1, _, rfl, by omega, rfl, ?_, ?_, by push_cast; rfl, by omega, w2, ?_⟩
          · rw [hst, h5]
          · rw [hst, h5]
          · rw [hst, h5]; simpa [items, it] using hown2
        · have h5 : stp (k, v) (o, pu, me) l[i] = (o ++ [l[i]], pu, me) := by rw [stp, if_neg h2, if_neg h4]
          have h6 : pu = true ∨ (pu = false ∧ l[i].1 ≤ k) := by
            cases pu
            · right; refine ⟨rfl, ?_⟩
              apply Int.not_lt.1; intro hc; exact h4 ⟨rfl, hc⟩
            · left; rfl
          rcases h6 with rfl | ⟨rfl, h6⟩
          · simp -implicitDefEqProofs -dsimp (disch := first | omega | (simp only [List.length_append, List.length_set, List.length_cons, List.length_nil, List.length_map]; omega) | decide +kernel) only [↓wkPre, ↓evC_region, ↓evC_text, ↓evC_cond, ↓evC_block, wkPost, wkF, skp, mkFn, evBuildSlice, fillS, results_tmp, mkTup, mkAgg, PV.flat, flatL, evFieldAddr, evLoad, evStore, evIndexAddr, evAlloc, evBuild, evBuiltin, evLen, lenAV, ldVar, ldArr, stVar, partA, partP, partC, withA, stride, setR, fillA, evConvert, convPV, evMakeSlice, evSlice, bnd, atI, binAV, eqAV, eqNil, leafEq, cellsEq, CfP, reduceIte, if_true, if_false, ite_true, ite_false, reduceCtorEq, ne_eq, eq_self, Nat.reduceAdd, Nat.reduceSub, Nat.reduceMul, Nat.reduceLT, Nat.reduceLeDiff, Nat.reduceEqDiff, Nat.reduceBEq, Nat.reduceBNe, Int.reduceToNat, Int.reduceLT, Int.reduceLE, Int.reduceAdd, Int.reduceSub, Int.reduceMul, Int.reduceEq, Int.reduceNe, Int.reduceBEq, Int.reduceBNe, Int.reduceNeg, Nat.reducePow, Int.reducePow, Nat.reduceMod, Nat.reduceDiv, ite_pos', ite_neg', e0, e3, e6, e7, e8, e9, gi, g0, hil, h3]
            refine append_step telem_25 (elems_new (by simp) rfl) (by simp) (hown.app _) ?_ ?_
            · simp [byt_33, items_len]; omega
            intro v1 H1 hown1 hfr1 hle1 hb1
            have q1 := hfr1 0 (by simp) w0
            rw [hs_app (by omega), g0] at q1
            simp only [List.length_append, List.length_cons, List.length_nil] at hle1 hb1
            have w1 : v1.blk ≠ some 0 := fun h => w0 (hb1 0 h (by omega))
            have l1 : 1 ≤ H1.length := by omega
            simp -implicitDefEqProofs -dsimp (disch := first | omega | (simp only [List.length_append, List.length_set, List.length_cons, List.length_nil, List.length_map]; omega) | decide +kernel) only [↓wkPre, ↓evC_region, ↓evC_text, ↓evC_cond, ↓evC_block, wkPost, wkF, skp, mkFn, evBuildSlice, fillS, results_tmp, mkTup, mkAgg, PV.flat, flatL, evFieldAddr, evLoad, evStore, evIndexAddr, evAlloc, evBuild, evBuiltin, evLen, lenAV, ldVar, ldArr, stVar, partA, partP, partC, withA, stride, setR, fillA, evConvert, convPV, evMakeSlice, evSlice, bnd, atI, binAV, eqAV, eqNil, leafEq, cellsEq, CfP, reduceIte, if_true, if_false, ite_true, ite_false, reduceCtorEq, ne_eq, eq_self, Nat.reduceAdd, Nat.reduceSub, Nat.reduceMul, Nat.reduceLT, Nat.reduceLeDiff, Nat.reduceEqDiff, Nat.reduceBEq, Nat.reduceBNe, Int.reduceToNat, Int.reduceLT, Int.reduceLE, Int.reduceAdd, Int.reduceSub, Int.reduceMul, Int.reduceEq, Int.reduceNe, Int.reduceBEq, Int.reduceBNe, Int.reduceNeg, Nat.reducePow, Int.reducePow, Nat.reduceMod, Nat.reduceDiv, ite_pos', ite_neg', e0, e3, e6, e7, e8, e9, gi, q1, hil, h3]
            refine ⟨l.length - (i + 1), by omega, i + 1, _, rfl, by omega, rfl, ?_, ?_, by push_cast; rfl, by omega, w1, ?_⟩
            · rw [hst, h5]
            · rw [hst, h5]
            · rw [hst, h5]; simpa [items, it] using hown1
          · simp -implicitDefEqProofs -dsimp (disch := first | omega | (simp only [List.length_append, List.length_set, List.length_cons, List.length_nil, List.length_map]; omega) | decide +kernel) only [↓wkPre, ↓evC_region, ↓evC_text, ↓evC_cond, ↓evC_block, wkPost, wkF, skp, mkFn, evBuildSlice, fillS, results_tmp, mkTup, mkAgg, PV.flat, flatL, evFieldAddr, evLoad, evStore, evIndexAddr, evAlloc, evBuild, evBuiltin, evLen, lenAV, ldVar, ldArr, stVar, partA, partP, partC, withA, stride, setR, fillA, evConvert, convPV, evMakeSlice, evSlice, bnd, atI, binAV, eqAV, eqNil, leafEq, cellsEq, CfP, reduceIte, if_true, if_false, ite_true, ite_false, reduceCtorEq, ne_eq, eq_self, Nat.reduceAdd, Nat.reduceSub, Nat.reduceMul, Nat.reduceLT, Nat.reduceLeDiff, Nat.reduceEqDiff, Nat.reduceBEq, Nat.reduceBNe, Int.reduceToNat, Int.reduceLT, Int.reduceLE, Int.reduceAdd, Int.reduceSub, Int.reduceMul, Int.reduceEq, Int.reduceNe, Int.reduceBEq, Int.reduceBNe, Int.reduceNeg, Nat.reducePow, Int.reducePow, Nat.reduceMod, Nat.reduceDiv, ite_pos', ite_neg', e0, e3, e6, e7, e8, e9, gi, g0, hil, h3]
            refine append_step telem_25 (elems_new (by simp) rfl) (by simp) (hown.app _) ?_ ?_
            · simp [byt_33, items_len]; omega
            intro v1 H1 hown1 hfr1 hle1 hb1
            have q1 := hfr1 0 (by simp) w0
            rw [hs_app (by omega), g0] at q1
            simp only [List.length_append, List.length_cons, List.length_nil] at hle1 hb1
            have w1 : v1.blk ≠ some 0 := fun h => w0 (hb1 0 h (by omega))
            have l1 : 1 ≤ H1.length := by omega
            simp -implicitDefEqProofs -dsimp (disch := first | omega | (simp only [List.length_append, List.length_set, List.length_cons, List.length_nil, List.length_map]; omega) | decide +kernel) only [↓wkPre, ↓evC_region, ↓evC_text, ↓evC_cond, ↓evC_block, wkPost, wkF, skp, mkFn, evBuildSlice, fillS, results_tmp, mkTup, mkAgg, PV.flat, flatL, evFieldAddr, evLoad, evStore, evIndexAddr, evAlloc, evBuild, evBuiltin, evLen, lenAV, ldVar, ldArr, stVar, partA, partP, partC, withA, stride, setR, fillA, evConvert, convPV, evMakeSlice, evSlice, bnd, atI, binAV, eqAV, eqNil, leafEq, cellsEq, CfP, reduceIte, if_true, if_false, ite_true, ite_false, reduceCtorEq, ne_eq, eq_self, Nat.reduceAdd, Nat.reduceSub, Nat.reduceMul, Nat.reduceLT, Nat.reduceLeDiff, Nat.reduceEqDiff, Nat.reduceBEq, Nat.reduceBNe, Int.reduceToNat, Int.reduceLT, Int.reduceLE, Int.reduceAdd, Int.reduceSub, Int.reduceMul, Int.reduceEq, Int.reduceNe, Int.reduceBEq, Int.reduceBNe, Int.reduceNeg, Nat.reducePow, Int.reducePow, Nat.reduceMod, Nat.reduceDiv, ite_pos', ite_neg', e0, e3, e6, e7, e8, e9, gi, q1, hil, h3]
            refine ⟨l.length - (i + 1), by omega, i + 1, _, rfl, by omega, rfl, ?_, ?_, by push_cast; rfl, by omega, w1, ?_⟩
            · rw [hst, h5]
            · rw [hst, h5]
            · rw [hst, h5]; simpa [items, it] using hown1
    · have : i = l.length := by omega
      subst this
      rw [List.take_length] at hown e7 e8 hle
      unfold putR
      obtain ⟨⟨o, pu, me⟩, hS⟩ : ∃ s, putS (k, v) l = s := ⟨_, rfl⟩
      rw [hS] at hle hown e7 e8 ⊢
      simp only at hle hown e7 e8
      cases pu
      · simp -implicitDefEqProofs -dsimp (disch := first | omega | (simp only [List.length_append, List.length_set, List.length_cons, List.length_nil, List.length_map]; omega) | decide +kernel) only [↓wkPre, ↓evC_region, ↓evC_text, ↓evC_cond, ↓evC_block, wkPost, wkF, skp, mkFn, evBuildSlice, fillS, results_tmp, mkTup, mkAgg, PV.flat, flatL, evFieldAddr, evLoad, evStore, evIndexAddr, evAlloc, evBuild, evBuiltin, evLen, lenAV, ldVar, ldArr, stVar, partA, partP, partC, withA, stride, setR, fillA, evConvert, convPV, evMakeSlice, evSlice, bnd, atI, binAV, eqAV, eqNil, leafEq, cellsEq, CfP, reduceIte, if_true, if_false, ite_true, ite_false, reduceCtorEq, ne_eq, eq_self, Nat.reduceAdd, Nat.reduceSub, Nat.reduceMul, Nat.reduceLT, Nat.reduceLeDiff, Nat.reduceEqDiff, Nat.reduceBEq, Nat.reduceBNe, Int.reduceToNat, Int.reduceLT, Int.reduceLE, Int.reduceAdd, Int.reduceSub, Int.reduceMul, Int.reduceEq, Int.reduceNe, Int.reduceBEq, Int.reduceBNe, Int.reduceNeg, Nat.reducePow, Int.reducePow, Nat.reduceMod, Nat.reduceDiv, ite_pos', ite_neg', e0, e3, e6, e7, e8, e9, g0, hil]
        refine append_step telem_25 (elems_new (by simp) rfl) (by simp) (hown.app _) ?_ ?_
        · simp [byt_33, items_len]; omega
        intro v1 H1 hown1 hfr1 hle1 hb1
        have q1 := hfr1 0 (by simp) w0
        rw [hs_app (by omega), g0] at q1
        simp only [List.length_append, List.length_cons, List.length_nil] at hle1 hb1
        have w1 : v1.blk ≠ some 0 := fun h => w0 (hb1 0 h (by omega))
        have l1 : 1 ≤ H1.length := by omega
        simp -implicitDefEqProofs -dsimp (disch := first | omega | (simp only [List.length_append, List.length_set, List.length_cons, List.length_nil, List.length_map]; omega) | decide +kernel) only [↓wkPre, ↓evC_region, ↓evC_text, ↓evC_cond, ↓evC_block, wkPost, wkF, skp, mkFn, evBuildSlice, fillS, results_tmp, mkTup, mkAgg, PV.flat, flatL, evFieldAddr, evLoad, evStore, evIndexAddr, evAlloc, evBuild, evBuiltin, evLen, lenAV, ldVar, ldArr, stVar, partA, partP, partC, withA, stride, setR, fillA, evConvert, convPV, evMakeSlice, evSlice, bnd, atI, binAV, eqAV, eqNil, leafEq, cellsEq, CfP, reduceIte, if_true, if_false, ite_true, ite_false, reduceCtorEq, ne_eq, eq_self, Nat.reduceAdd, Nat.reduceSub, Nat.reduceMul, Nat.reduceLT, Nat.reduceLeDiff, Nat.reduceEqDiff, Nat.reduceBEq, Nat.reduceBNe, Int.reduceToNat, Int.reduceLT, Int.reduceLE, Int.reduceAdd, Int.reduceSub, Int.reduceMul, Int.reduceEq, Int.reduceNe, Int.reduceBEq, Int.reduceBNe, Int.reduceNeg, Nat.reducePow, Int.reducePow, Nat.reduceMod, Nat.reduceDiv, ite_pos', ite_neg', e0, e3, e6, e7, e8, e9, q1, hil]
        have := frz_pair hown1 me
        rw [show items o ++ [PV.agg [PV.int IntKind.i64 k, PV.int IntKind.i64 v]] = items (o ++ [(k, v)]) by simp [items, it]] at this
        exact this
      · simp -implicitDefEqProofs -dsimp (disch := first | omega | (simp only [List.length_append, List.length_set, List.length_cons, List.length_nil, List.length_map]; omega) | decide +kernel) only [↓wkPre, ↓evC_region, ↓evC_text, ↓evC_cond, ↓evC_block, wkPost, wkF, skp, mkFn, evBuildSlice, fillS, results_tmp, mkTup, mkAgg, PV.flat, flatL, evFieldAddr, evLoad, evStore, evIndexAddr, evAlloc, evBuild, evBuiltin, evLen, lenAV, ldVar, ldArr, stVar, partA, partP, partC, withA, stride, setR, fillA, evConvert, convPV, evMakeSlice, evSlice, bnd, atI, binAV, eqAV, eqNil, leafEq, cellsEq, CfP, reduceIte, if_true, if_false, ite_true, ite_false, reduceCtorEq, ne_eq, eq_self, Nat.reduceAdd, Nat.reduceSub, Nat.reduceMul, Nat.reduceLT, Nat.reduceLeDiff, Nat.reduceEqDiff, Nat.reduceBEq, Nat.reduceBNe, Int.reduceToNat, Int.reduceLT, Int.reduceLE, Int.reduceAdd, Int.reduceSub, Int.reduceMul, Int.reduceEq, Int.reduceNe, Int.reduceBEq, Int.reduceBNe, Int.reduceNeg, Nat.reducePow, Int.reducePow, Nat.reduceMod, Nat.reduceDiv, ite_pos', ite_neg', e0, e3, e6, e7, e8, e9, g0, hil]
        exact frz_pair hown me
  · simp -implicitDefEqProofs -dsimp (disch := first | omega | (simp only [List.length_append, List.length_set, List.length_cons, List.length_nil, List.length_map]; omega) | decide +kernel) only [↓wkPre, ↓evC_region, ↓evC_text, ↓evC_cond, ↓evC_block, wkPost, wkF, skp, mkFn, evBuildSlice, fillS, results_tmp, mkTup, mkAgg, PV.flat, flatL, evFieldAddr, evLoad, evStore, evIndexAddr, evAlloc, evBuild, evBuiltin, evLen, lenAV, ldVar, ldArr, stVar, partA, partP, partC, withA, stride, setR, fillA, evConvert, convPV, evMakeSlice, evSlice, bnd, atI, binAV, eqAV, eqNil, leafEq, cellsEq, CfP, reduceIte, if_true, if_false, ite_true, ite_false, reduceCtorEq, ne_eq, eq_self, Nat.reduceAdd, Nat.reduceSub, Nat.reduceMul, Nat.reduceLT, Nat.reduceLeDiff, Nat.reduceEqDiff, Nat.reduceBEq, Nat.reduceBNe, Int.reduceToNat, Int.reduceLT, Int.reduceLE, Int.reduceAdd, Int.reduceSub, Int.reduceMul, Int.reduceEq, Int.reduceNe, Int.reduceBEq, Int.reduceBNe, Int.reduceNeg, Nat.reducePow, Int.reducePow, Nat.reduceMod, Nat.reduceDiv, ite_pos', ite_neg']
    exact ⟨rfl, rfl, rfl, by simp [AV.blk], OwnS.nil _ _⟩
end Go.Ev.F31
end
section
namespace Go.Ev.F31
open Go.Proofs Go.Ev
set_option linter.all false
theorem abv_iff (a b : Int) : abv a b = true ↔ rk b < rk a ∨ (rk a = rk b ∧ a < b) := by simp [abv]
theorem abv_trans {a b c : Int} (h1 : abv a b = true) (h2 : abv b c = true) : abv a c = true := by
  rw [abv_iff] at *; omega
theorem abv_total {a b : Int} (h : a ≠ b) (h1 : ¬ abv a b = true) : abv b a = true := by
  rw [abv_iff] at *; omega
theorem abv_anti {a b : Int} (h1 : abv a b = true) (h2 : abv b a = true) : False := by
  rw [abv_iff] at *; omega
/-- A tree as it should be. -/
def Good : Tr → Prop
  | .nil => True
  | .node k _ l r => (∀ q ∈ l.lst, q.1 < k ∧ abv k q.1 = true) ∧ (∀ q ∈ r.lst, k < q.1 ∧ abv k q.1 = true) ∧ Good l ∧ Good r
theorem Good.snd : ∀ {t : Tr}, Good t → Snd t
  | .nil, _ => trivial
  | .node k v l r, ⟨h1, h2, h3, h4⟩ => by
    refine ⟨?_, ?_, h3.snd, h4.snd⟩
    · cases l with
      | nil => trivial
      | node k1 v1 l1 r1 => exact h1 (k1, v1) (by simp [Tr.lst])
    · cases r with
      | nil => trivial
      | node k1 v1 l1 r1 => exact h2 (k1, v1) (by simp [Tr.lst])
theorem Good.srt : ∀ {t : Tr}, Good t → Srt t.lst
  | .nil, _ => by simp [Srt, Tr.lst]
  | .node k v l r, ⟨h1, h2, h3, h4⟩ => by
    have a := h3.srt
    have b := h4.srt
    unfold Srt at *
    simp only [Tr.lst]
    rw [List.pairwise_append, List.pairwise_cons]
    refine ⟨a, ⟨fun q hq => (h2 q hq).1, b⟩, ?_⟩
    intro x hx y hy
    have := (h1 x hx).1
    rcases List.mem_cons.1 hy with rfl | hy
    · exact this
    · have := (h2 y hy).1; omega
def gtL (k : Int) (l : List (Int × Int)) : List (Int × Int) := l.filter fun q => decide (k < q.1)
def eqL (k : Int) (l : List (Int × Int)) : List (Int × Int) := l.filter fun q => decide (q.1 = k)
theorem fil_all {p : Int × Int → Bool} {l : List (Int × Int)} (h : ∀ q ∈ l, p q = true) : l.filter p = l := List.filter_eq_self.2 h
theorem fil_none {p : Int × Int → Bool} {l : List (Int × Int)} (h : ∀ q ∈ l, p q = false) : l.filter p = [] := List.filter_eq_nil_iff.2 (fun q hq => by simp [h q hq])
theorem splitT_ok (k : Int) : ∀ t : Tr, Good t → (splitT k t).1.lst = fromL k t.lst ∧ (splitT k t).2.2.lst = gtL k t.lst ∧ (oneT (splitT k t).2.1).lst = eqL k t.lst ∧ Good (splitT k t).1 ∧ Good (splitT k t).2.2
  | .nil, _ => ⟨rfl, rfl, rfl, trivial, trivial⟩
  | .node k' v l r, ⟨h1, h2, h3, h4⟩ => by
    obtain ⟨a1, a2, a3, a4, a5⟩ := splitT_ok k l h3
    obtain ⟨b1, b2, b3, b4, b5⟩ := splitT_ok k r h4
    unfold splitT
    split
    · rename_i h
      have e1 : fromL k r.lst = [] := fil_none fun q hq => by have := (h2 q hq).1; simp; omega
      have e2 : gtL k r.lst = r.lst := fil_all fun q hq => by have := (h2 q hq).1; simp; omega
      have e3 : eqL k r.lst = [] := fil_none fun q hq => by have := (h2 q hq).1; simp; omega
      refine ⟨?_, ?_, ?_, a4, ?_⟩
      · simp only [a1, Tr.lst]; unfold fromL at e1 ⊢; rw [List.filter_append, List.filter_cons, e1]; simp; omega
      · simp only [Tr.lst, a2]; unfold gtL at e2 ⊢; rw [List.filter_append, List.filter_cons, e2]; simp [h]
      · simp only [a3, Tr.lst]; unfold eqL at e3 ⊢; rw [List.filter_append, List.filter_cons, e3]; simp; omega
      · refine ⟨fun q hq => ?_, h2, a5, h4⟩
        rw [a2] at hq
        exact h1 q (List.mem_filter.1 hq).1
    · split
      · rename_i h0 h
        have e1 : fromL k l.lst = l.lst := fil_all fun q hq => by have := (h1 q hq).1; simp; omega
        have e2 : gtL k l.lst = [] := fil_none fun q hq => by have := (h1 q hq).1; simp; omega
        have e3 : eqL k l.lst = [] := fil_none fun q hq => by have := (h1 q hq).1; simp; omega
        refine ⟨?_, ?_, ?_, ?_, b5⟩
        · simp only [Tr.lst, b1]; unfold fromL at e1 ⊢; rw [List.filter_append, List.filter_cons, e1]; simp [h]
        · simp only [b2, Tr.lst]; unfold gtL at e2 ⊢; rw [List.filter_append, List.filter_cons, e2]; simp; omega
        · simp only [b3, Tr.lst]; unfold eqL at e3 ⊢; rw [List.filter_append, List.filter_cons, e3]; simp; omega
        · refine ⟨h1, fun q hq => ?_, h3, b4⟩
          rw [b1] at hq
          exact h2 q (List.mem_filter.1 hq).1
      · rename_i h0 h
        have hk : k' = k := by omega
        subst hk
        refine ⟨?_, ?_, ?_, h3, h4⟩
        · simp only [Tr.lst]
          unfold fromL
          rw [List.filter_append, List.filter_cons, fil_all (l := l.lst) fun q hq => by have := (h1 q hq).1; simpa using this, fil_none (l := r.lst) fun q hq => by have := (h2 q hq).1; simp; omega]
          simp
        · simp only [Tr.lst]
          unfold gtL
          rw [List.filter_append, List.filter_cons, fil_none (l := l.lst) fun q hq => by have := (h1 q hq).1; simp; omega, fil_all (l := r.lst) fun q hq => by have := (h2 q hq).1; simpa using this]
          simp
        · simp only [oneT, Tr.lst]
          unfold eqL
          rw [List.filter_append, List.filter_cons, fil_none (l := l.lst) fun q hq => by have := (h1 q hq).1; simp; omega, fil_none (l := r.lst) fun q hq => by have := (h2 q hq).1; simp; omega]
          simp
theorem joinT_ok : ∀ n (a b : Tr), a.sz + b.sz ≤ n → Good a → Good b → (∀ x ∈ a.lst, ∀ y ∈ b.lst, x.1 < y.1) → (joinT a b).lst = a.lst ++ b.lst ∧ Good (joinT a b) := by
  intro n
  induction n with
  | zero =>
    intro a b h ga gb hab
    cases a with
    | nil => rw [joinT]; exact ⟨rfl, gb⟩
    | node => simp [Tr.sz] at h
  | succ n ih =>
    intro a b h ga gb hab
    cases a with
    | nil => rw [joinT]; exact ⟨rfl, gb⟩
    | node k v l r =>
      cases b with
      | nil => rw [joinT]; exact ⟨by simp [Tr.lst], ga⟩; intro e; cases e
      | node k' v' l' r' =>
        simp only [Tr.sz] at h
        obtain ⟨a1, a2, a3, a4⟩ := ga
        obtain ⟨b1, b2, b3, b4⟩ := gb
        have hkk : k < k' := hab (k, v) (by simp [Tr.lst]) (k', v') (by simp [Tr.lst])
        rw [joinT]
        split
        · rename_i hc
          obtain ⟨i1, i2⟩ := ih r (.node k' v' l' r') (by simp only [Tr.sz]; omega) a4 ⟨b1, b2, b3, b4⟩ (fun x hx y hy => hab x (by simp [Tr.lst, hx]) y hy)
          refine ⟨by simp only [Tr.lst] at i1 ⊢; rw [i1]; simp, a1, fun q hq => ?_, a3, i2⟩
          rw [i1] at hq
          rcases List.mem_append.1 hq with hq | hq
          · exact a2 q hq
          · refine ⟨hab (k, v) (by simp [Tr.lst]) q hq, ?_⟩
            simp only [Tr.lst, List.mem_append, List.mem_cons] at hq
            rcases hq with hq | rfl | hq
            · exact abv_trans hc (b1 q hq).2
            · exact hc
            · exact abv_trans hc (b2 q hq).2
        · rename_i hc
          have hc' : abv k' k = true := abv_total (by omega) hc
          obtain ⟨i1, i2⟩ := ih (.node k v l r) l' (by simp only [Tr.sz]; omega) ⟨a1, a2, a3, a4⟩ b3 (fun x hx y hy => hab x hx y (by simp [Tr.lst, hy]))
          refine ⟨by simp only [Tr.lst] at i1 ⊢; rw [i1]; simp, fun q hq => ?_, b2, i2, b4⟩
          rw [i1] at hq
          rcases List.mem_append.1 hq with hq | hq
          · refine ⟨hab q hq (k', v') (by simp [Tr.lst]), ?_⟩
            simp only [Tr.lst, List.mem_append, List.mem_cons] at hq
            rcases hq with hq | rfl | hq
            · exact abv_trans hc' (a1 q hq).2
            · exact hc'
            · exact abv_trans hc' (a2 q hq).2
          · exact b1 q hq
theorem joinT_good {a b : Tr} (ga : Good a) (gb : Good b) (h : ∀ x ∈ a.lst, ∀ y ∈ b.lst, x.1 < y.1) : (joinT a b).lst = a.lst ++ b.lst ∧ Good (joinT a b) := joinT_ok _ a b (Nat.le_refl _) ga gb h
theorem Good_uniq : ∀ (a b : Tr), Good a → Good b → a.lst = b.lst → a = b
  | .nil, .nil, _, _, _ => rfl
  | .nil, .node k v l r, _, _, h => by simp [Tr.lst] at h
  | .node k v l r, .nil, _, _, h => by simp [Tr.lst] at h
  | .node k v l r, .node k' v' l' r', ⟨a1, a2, a3, a4⟩, ⟨b1, b2, b3, b4⟩, h => by
    simp only [Tr.lst] at h
    have m1 : (k, v) ∈ l'.lst ++ (k', v') :: r'.lst := by rw [← h]; simp
    have m2 : (k', v') ∈ l.lst ++ (k, v) :: r.lst := by rw [h]; simp
    have hk : k = k' := by
      apply Classical.byContradiction
      intro hne
      have h1 : abv k' k = true := by
        simp only [List.mem_append, List.mem_cons, Prod.mk.injEq] at m1
        rcases m1 with m | m | m
        · exact (b1 _ m).2
        · exact absurd m.1 hne
        · exact (b2 _ m).2
      have h2 : abv k k' = true := by
        simp only [List.mem_append, List.mem_cons, Prod.mk.injEq] at m2
        rcases m2 with m | m | m
        · exact (a1 _ m).2
        · exact absurd m.1.symm hne
        · exact (a2 _ m).2
      exact abv_anti h1 h2
    subst hk
    have f1 : ∀ (l r : Tr) (v : Int), (∀ q ∈ l.lst, q.1 < k ∧ abv k q.1 = true) → (∀ q ∈ r.lst, k < q.1 ∧ abv k q.1 = true) → fromL k (l.lst ++ (k, v) :: r.lst) = l.lst ∧ eqL k (l.lst ++ (k, v) :: r.lst) = [(k, v)] ∧ gtL k (l.lst ++ (k, v) :: r.lst) = r.lst := by
      intro l r v h1 h2
      refine ⟨?_, ?_, ?_⟩
      · unfold fromL
        rw [List.filter_append, List.filter_cons, fil_all (l := l.lst) fun q hq => by have := (h1 q hq).1; simpa using this, fil_none (l := r.lst) fun q hq => by have := (h2 q hq).1; simp; omega]
        simp
      · unfold eqL
        rw [List.filter_append, List.filter_cons, fil_none (l := l.lst) fun q hq => by have := (h1 q hq).1; simp; omega, fil_none (l := r.lst) fun q hq => by have := (h2 q hq).1; simp; omega]
        simp
      · unfold gtL
        rw [List.filter_append, List.filter_cons, fil_none (l := l.lst) fun q hq => by have := (h1 q hq).1; simp; omega, fil_all (l := r.lst) fun q hq => by have := (h2 q hq).1; simpa using this]
        simp
    obtain ⟨x1, x2, x3⟩ := f1 l r v a1 a2
    obtain ⟨y1, y2, y3⟩ := f1 l' r' v' b1 b2
    rw [h] at x1 x2 x3
    have e1 : l.lst = l'.lst := x1.symm.trans y1
    have e2 : [(k, v)] = [(k, v')] := x2.symm.trans y2
    have e3 : r.lst = r'.lst := x3.symm.trans y3
    rw [Good_uniq l l' a3 b3 e1, Good_uniq r r' a4 b4 e3]
    simp at e2
    rw [e2]
end Go.Ev.F31
end
section
namespace Go.Ev.F31
open Go.Proofs Go.Ev
set_option linter.all false
theorem mem_from {k : Int} {l : List (Int × Int)} {q : Int × Int} : q ∈ fromL k l ↔ q ∈ l ∧ q.1 < k := by simp [fromL]
theorem mem_gt {k : Int} {l : List (Int × Int)} {q : Int × Int} : q ∈ gtL k l ↔ q ∈ l ∧ k < q.1 := by simp [gtL]
theorem mem_eq {k : Int} {l : List (Int × Int)} {q : Int × Int} : q ∈ eqL k l ↔ q ∈ l ∧ q.1 = k := by simp [eqL]
theorem Srt.tail {q : Int × Int} {l : List (Int × Int)} (h : Srt (q :: l)) : Srt l := (List.pairwise_cons.1 h).2
theorem Srt.head {q : Int × Int} {l : List (Int × Int)} (h : Srt (q :: l)) : ∀ x ∈ l, q.1 < x.1 := (List.pairwise_cons.1 h).1
theorem cut3 (k : Int) : ∀ l : List (Int × Int), Srt l → l = fromL k l ++ eqL k l ++ gtL k l
  | [], _ => rfl
  | q :: l, h => by
    have ih := cut3 k l h.tail
    have hh := h.head
    rcases Int.lt_trichotomy q.1 k with c | c | c
    · have e1 : fromL k (q :: l) = q :: fromL k l := by simp [fromL, c]
      have e2 : eqL k (q :: l) = eqL k l := by unfold eqL; rw [List.filter_cons, if_neg (by simp; omega)]
      have e3 : gtL k (q :: l) = gtL k l := by unfold gtL; rw [List.filter_cons, if_neg (by simp; omega)]
      rw [e1, e2, e3, List.cons_append, List.cons_append, ← ih]
    · have e1 : fromL k (q :: l) = [] := fil_none fun x hx => by
        rcases List.mem_cons.1 hx with rfl | hx
        · simp; omega
        · have := hh x hx; simp; omega
      have e1' : fromL k l = [] := fil_none fun x hx => by have := hh x hx; simp; omega
      have e2 : eqL k (q :: l) = q :: eqL k l := by simp [eqL, c]
      have e3 : gtL k (q :: l) = gtL k l := by unfold gtL; rw [List.filter_cons, if_neg (by simp; omega)]
      rw [e1, e2, e3, List.nil_append, List.cons_append]
      rw [e1', List.nil_append] at ih
      rw [← ih]
    · have e1 : fromL k (q :: l) = [] := fil_none fun x hx => by
        rcases List.mem_cons.1 hx with rfl | hx
        · simp; omega
        · have := hh x hx; simp; omega
      have e1' : fromL k l = [] := fil_none fun x hx => by have := hh x hx; simp; omega
      have e2 : eqL k (q :: l) = [] := fil_none fun x hx => by
        rcases List.mem_cons.1 hx with rfl | hx
        · simp; omega
        · have := hh x hx; simp; omega
      have e2' : eqL k l = [] := fil_none fun x hx => by have := hh x hx; simp; omega
      have e3 : gtL k (q :: l) = q :: gtL k l := by simp [gtL, c]
      rw [e1, e2, e3, List.nil_append, List.nil_append]
      rw [e1', e2', List.nil_append, List.nil_append] at ih
      rw [← ih]
theorem take_from {k : Int} {l : List (Int × Int)} (h : Srt l) : l.take (fromL k l).length = fromL k l := by
  have e := cut3 k l h
  rw [List.append_assoc] at e
  generalize fromL k l = a at e ⊢
  rw [e]; simp
theorem drop_from {k : Int} {l : List (Int × Int)} (h : Srt l) : l.drop (fromL k l).length = eqL k l ++ gtL k l := by
  have e := cut3 k l h
  rw [List.append_assoc] at e
  generalize fromL k l = a at e ⊢
  generalize eqL k l = b at e ⊢
  generalize gtL k l = c at e ⊢
  rw [e]; simp
theorem from_le (k : Int) (l : List (Int × Int)) : (fromL k l).length ≤ l.length := List.length_filter_le _ _
theorem drop_eq {k : Int} {l : List (Int × Int)} (h : Srt l) : dropL k l = fromL k l ++ gtL k l := by
  have e := cut3 k l h
  have h1 : dropL k (fromL k l) = fromL k l := fil_all fun q hq => by have := (mem_from.1 hq).2; simp; omega
  have h2 : dropL k (eqL k l) = [] := fil_none fun q hq => by have := (mem_eq.1 hq).2; simp; omega
  have h3 : dropL k (gtL k l) = gtL k l := fil_all fun q hq => by have := (mem_gt.1 hq).2; simp; omega
  have : dropL k l = dropL k (fromL k l ++ eqL k l ++ gtL k l) := by rw [← e]
  rw [this]
  unfold dropL at h1 h2 h3 ⊢
  rw [List.filter_append, List.filter_append, h1, h2, h3]; simp
theorem drop_met {k : Int} {l : List (Int × Int)} (h : Srt l) : decide ((dropL k l).length < l.length) = !(eqL k l).isEmpty := by
  have e := congrArg List.length (cut3 k l h)
  rw [drop_eq h]
  simp only [List.length_append] at e ⊢
  cases he : eqL k l with
  | nil => rw [he] at e; simp at e ⊢; omega
  | cons q r => rw [he] at e; simp at e ⊢; omega
theorem stp_gt (x : Int × Int) (b : Bool) : ∀ (l acc : List (Int × Int)), (∀ q ∈ l, x.1 < q.1) → l.foldl (stp x) (acc, true, b) = (acc ++ l, true, b)
  | [], acc, _ => by simp
  | q :: l, acc, h => by
    have hq := h q (by simp)
    rw [List.foldl_cons, stp, if_neg (by omega), if_neg (by simp), stp_gt x b l _ (fun y hy => h y (by simp [hy]))]
    simp
theorem put_ok (x : Int × Int) : ∀ (l acc : List (Int × Int)), Srt l →
    (l.foldl (stp x) (acc, false, false)).2.2 = (!(eqL x.1 l).isEmpty) ∧ (if (l.foldl (stp x) (acc, false, false)).2.1 then (l.foldl (stp x) (acc, false, false)).1 else (l.foldl (stp x) (acc, false, false)).1 ++ [x]) = acc ++ (fromL x.1 l ++ x :: gtL x.1 l)
  | [], acc, _ => by simp [eqL, fromL, gtL]
  | q :: l, acc, h => by
    have hh := h.head
    rw [List.foldl_cons]
    rcases Int.lt_trichotomy q.1 x.1 with c | c | c
    · rw [show stp x (acc, false, false) q = (acc ++ [q], false, false) by rw [stp, if_neg (by omega), if_neg (by simp; omega)]]
      obtain ⟨i1, i2⟩ := put_ok x l (acc ++ [q]) h.tail
      have e1 : fromL x.1 (q :: l) = q :: fromL x.1 l := by simp [fromL, c]
      have e2 : eqL x.1 (q :: l) = eqL x.1 l := by unfold eqL; rw [List.filter_cons, if_neg (by simp; omega)]
      have e3 : gtL x.1 (q :: l) = gtL x.1 l := by unfold gtL; rw [List.filter_cons, if_neg (by simp; omega)]
      rw [e1, e2, e3]
      exact ⟨i1, by rw [i2]; simp⟩
    · rw [show stp x (acc, false, false) q = (acc ++ [x], true, true) by rw [stp, if_pos c], stp_gt x true l _ (fun y hy => by have := hh y hy; omega)]
      have e1 : fromL x.1 (q :: l) = [] := fil_none fun y hy => by
        rcases List.mem_cons.1 hy with rfl | hy
        · simp; omega
        · have := hh y hy; simp; omega
      have e2 : eqL x.1 (q :: l) = q :: eqL x.1 l := by simp [eqL, c]
      have e3 : gtL x.1 (q :: l) = l := by
        have : gtL x.1 l = l := fil_all fun y hy => by have := hh y hy; simp; omega
        rw [← this]; unfold gtL; rw [List.filter_cons, if_neg (by simp; omega)]; simp
      rw [e1, e2, e3]; simp
    · rw [show stp x (acc, false, false) q = (acc ++ [x] ++ [q], true, false) by rw [stp, if_neg (by omega), if_pos ⟨rfl, c⟩], stp_gt x false l _ (fun y hy => by have := hh y hy; omega)]
      have e1 : fromL x.1 (q :: l) = [] := fil_none fun y hy => by
        rcases List.mem_cons.1 hy with rfl | hy
        · simp; omega
        · have := hh y hy; simp; omega
      have e2 : eqL x.1 (q :: l) = [] := fil_none fun y hy => by
        rcases List.mem_cons.1 hy with rfl | hy
        · simp; omega
        · have := hh y hy; simp; omega
      have e3 : gtL x.1 (q :: l) = q :: l := fil_all fun y hy => by
        rcases List.mem_cons.1 hy with rfl | hy
        · simp; omega
        · have := hh y hy; simp; omega
      rw [e1, e2, e3]; simp
theorem putR_eq {x : Int × Int} {l : List (Int × Int)} (h : Srt l) : putR x l = fromL x.1 l ++ x :: gtL x.1 l := by
  have := (put_ok x l [] h).2
  rw [List.nil_append] at this; exact this
theorem put_met {x : Int × Int} {l : List (Int × Int)} (h : Srt l) : (putS x l).2.2 = !(eqL x.1 l).isEmpty := (put_ok x l [] h).1
theorem met_eq {k : Int} {t : Tr} (g : Good t) : (splitT k t).2.1.isN = !(eqL k t.lst).isEmpty := by
  rw [← (splitT_ok k t g).2.2.1]
  cases (splitT k t).2.1 <;> simp [oneT, Tr.lst, Tr.isN]
theorem putT_ok {k v : Int} {t : Tr} (g : Good t) : (putT k v t).lst = putR (k, v) t.lst ∧ Good (putT k v t) := by
  obtain ⟨a1, a2, _, a4, a5⟩ := splitT_ok k t g
  have h1 := joinT_good (a := (splitT k t).1) (b := .node k v .nil .nil) a4 ⟨by simp [Tr.lst], by simp [Tr.lst], trivial, trivial⟩ (fun x hx y hy => by
    rw [a1] at hx; simp [Tr.lst] at hy; subst hy; exact (mem_from.1 hx).2)
  have h2 := joinT_good h1.2 a5 (fun x hx y hy => by
    rw [h1.1, a1] at hx
    rw [a2] at hy
    have := (mem_gt.1 hy).2
    rcases List.mem_append.1 hx with hx | hx
    · have := (mem_from.1 hx).2; omega
    · simp [Tr.lst] at hx; subst hx; exact this)
  refine ⟨?_, h2.2⟩
  unfold putT
  rw [h2.1, h1.1, a1, a2, putR_eq g.srt]
  simp [Tr.lst]
theorem dropT_ok {k : Int} {t : Tr} (g : Good t) : (dropT k t).lst = dropL k t.lst ∧ Good (dropT k t) := by
  obtain ⟨a1, a2, _, a4, a5⟩ := splitT_ok k t g
  have h1 := joinT_good a4 a5 (fun x hx y hy => by
    rw [a1] at hx; rw [a2] at hy
    have := (mem_from.1 hx).2; have := (mem_gt.1 hy).2; omega)
  refine ⟨?_, h1.2⟩
  unfold dropT
  rw [h1.1, a1, a2, drop_eq g.srt]
theorem oneT_good (t : Tr) : Good (oneT t) := by
  cases t with
  | nil => trivial
  | node => exact ⟨by simp [Tr.lst], by simp [Tr.lst], trivial, trivial⟩
theorem cutT_ok {k : Int} {t : Tr} (g : Good t) : (cutT k t).lst = t.lst.drop (fromL k t.lst).length ∧ Good (cutT k t) := by
  obtain ⟨a1, a2, a3, a4, a5⟩ := splitT_ok k t g
  have h1 := joinT_good (oneT_good (splitT k t).2.1) a5 (fun x hx y hy => by
    rw [a3] at hx; rw [a2] at hy
    have := (mem_eq.1 hx).2; have := (mem_gt.1 hy).2; omega)
  refine ⟨?_, h1.2⟩
  unfold cutT
  rw [h1.1, a2, a3, drop_from g.srt]
theorem cutL_ok {k : Int} {t : Tr} (g : Good t) : (splitT k t).1.lst = t.lst.take (fromL k t.lst).length ∧ Good (splitT k t).1 := by
  obtain ⟨a1, a2, a3, a4, a5⟩ := splitT_ok k t g
  exact ⟨by rw [a1, take_from g.srt], a4⟩
end Go.Ev.F31
end
section
namespace Go.Ev.F31
open Go.Proofs Go.Ev
set_option maxRecDepth 100000
set_option linter.all false
/-- A list of items as the law holds it: none, or data. -/
def MV (v : AV) (l : List (Int × Int)) : Prop := (v = .nsl ∧ l = []) ∨ v = .p (its l)
theorem MV.frz {v : AV} {l : List (Int × Int)} (h : MV v l) (H : Heap) (n : Nat) : frzN Try.prog H n 25 v = some (its l) := by
  rcases h with ⟨rfl, rfl⟩ | rfl
  · rw [frzN_nsl, telem_25]; rfl
  · exact frzN_p _ _ _ _ _
theorem MV.ids {v : AV} {l : List (Int × Int)} (h : MV v l) : ids 4 v = [] := by
  rcases h with ⟨rfl, rfl⟩ | rfl
  · exact ids_nsl 4
  · exact ids_p 4 _
theorem hd_shape (t : Tr) : t.hd.shape = 2 := by simp [Tr.hd, PV.shape]
theorem frz_pt {H : Heap} {b : Nat} {l : Bool} {t : Tr} (h : H[b]? = some (.var l (.p t.hd))) (n : Nat) (ty : TypeId) : frzN Try.prog H n ty (.vptr b 0) = some t.pt := by
  rw [frzN_vptr, h]
  show some (PV.fp t.hd t.hd.shape 0) = _
  rw [hd_shape]; rfl
theorem frz1 {H : Heap} {b : Nat} {l : Bool} {t : Tr} (h : H[b]? = some (.var l (.p t.hd))) (ts : List TypeId) : frzL (frzN Try.prog H 4) [.vptr b 0] ts = some [t.pt] := by
  simp [frzL, frz_pt h]
theorem frz2 {H : Heap} {b : Nat} {l : Bool} {t : Tr} {v : AV} {m : List (Int × Int)} (h : H[b]? = some (.var l (.p t.hd))) (hv : MV v m) : frzL (frzN Try.prog H 4) [.vptr b 0, v] [24, 25] = some [t.pt, its m] := by
  simp [frzL, frz_pt h, hv.frz]
theorem frzM {H : Heap} {v : AV} {m : List (Int × Int)} (hv : MV v m) (x : PV) (ty : TypeId) : frzL (frzN Try.prog H 4) [v, .p x] [25, ty] = some [its m, x] := by
  simp [frzL, hv.frz, frzN_p]
abbrev O3 := Int × Int × Int
def opsP (l : List O3) : List PV := l.map fun o => .agg [.int .i64 o.1, .int .i64 o.2.1, .int .i64 o.2.2]
def ops (l : List O3) : PV := .sl 3 (opsP l)
/-- What made hands over. -/
def Mad (H0 H : Heap) (n : Nat) (a : AV) : Prop := ∃ (t : Tr) (v : AV) (b : Nat), a = mkTup [.vptr b 0, v, .p (B true)] ∧ H0.length ≤ b ∧ b < H.length ∧ H[b]? = some (.var true (.p t.hd)) ∧ Good t ∧ MV v t.lst ∧ t.sz ≤ n ∧ ∀ i, i < H0.length → H[i]? = H0[i]?
theorem p22' {t : Tr} (g : Good t) (hz : t.sz ≤ 1000) {m : List (Int × Int)} (hm : t.lst = m) : PS Cf okf 22 [4] [t.pt, its m] (fun r => r = B true) := by
  subst hm; exact p22 t g.snd g.srt (by omega)
theorem put_len_le (x : Int × Int) (l : List (Int × Int)) (h : Srt l) : (putR x l).length ≤ l.length + 1 := by
  have e := congrArg List.length (cut3 x.1 l h)
  rw [putR_eq h]
  simp only [List.length_append, List.length_cons] at e ⊢
  omega
theorem from_nil (k : Int) : (fromL k []).length = 0 := rfl
theorem sl_drop (n : Nat) (l : List (Int × Int)) : List.drop n (List.take l.length (items l)) = items (l.drop n) := by
  rw [List.take_of_length_le (by rw [items_len]; exact Nat.le_refl _)]; simp [items]
theorem sl_take (n : Nat) (l : List (Int × Int)) : List.take n (items l) = items (l.take n) := by simp [items]
theorem put_next {l : List (Int × Int)} (h : Srt l) (j : Nat) (hj : j < l.length) : putR (l[j].1, l[j].2) (l.take j) = l.take (j + 1) := by
  have hs : Srt (l.take j) := List.Pairwise.sublist (List.take_sublist _ _) h
  rw [putR_eq hs, List.take_succ_eq_append_getElem hj]
  have hall : ∀ q ∈ l.take j, q.1 < l[j].1 := by
    intro q hq
    obtain ⟨i, hi, rfl⟩ := List.getElem_of_mem hq
    rw [List.getElem_take]
    simp at hi
    exact List.pairwise_iff_getElem.1 h i j (by omega) hj (by omega)
  have e1 : fromL l[j].1 (l.take j) = l.take j := fil_all fun q hq => by have := hall q hq; simpa using this
  have e2 : gtL l[j].1 (l.take j) = [] := fil_none fun q hq => by have := hall q hq; simp; omega
  rw [e1, e2]
theorem w8 (os : List O3) (hn : os.length ≤ 80) (H0 : Heap) (Q : AV → Heap → Prop) (hq : ∀ a H, Mad H0 H os.length a → Q a H) : (W Cf okf).call 8 [.p (ops os)] H0 Q := by
  refine top_mk extMono Try.func8 body8 (by decide) rfl ?_
  simp only [c8, Try.f8, Option.getD_some]
  simp -implicitDefEqProofs -dsimp (disch := first | omega | (simp only [List.length_append, List.length_set, List.length_cons, List.length_nil, List.length_map]; omega) | decide +kernel) only [↓wkPre, ↓evC_region, ↓evC_text, ↓evC_cond, ↓evC_block, wkPost, wkF, skp, mkFn, evBuildSlice, fillS, results_tmp, mkTup, mkAgg, PV.flat, flatL, evFieldAddr, evLoad, evStore, evIndexAddr, evAlloc, evBuild, evBuiltin, evLen, lenAV, ldVar, ldArr, stVar, partA, partP, partC, withA, stride, setR, fillA, evConvert, convPV, evMakeSlice, evSlice, bnd, atI, binAV, eqAV, eqNil, leafEq, cellsEq, CfP, reduceIte, if_true, if_false, ite_true, ite_false, reduceCtorEq, ne_eq, eq_self, Nat.reduceAdd, Nat.reduceSub, Nat.reduceMul, Nat.reduceLT, Nat.reduceLeDiff, Nat.reduceEqDiff, Nat.reduceBEq, Nat.reduceBNe, Int.reduceToNat, Int.reduceLT, Int.reduceLE, Int.reduceAdd, Int.reduceSub, Int.reduceMul, Int.reduceEq, Int.reduceNe, Int.reduceBEq, Int.reduceBNe, Int.reduceNeg, Nat.reducePow, Int.reducePow, Nat.reduceMod, Nat.reduceDiv, ite_pos', ite_neg', ops]
  refine imp_call md_15 (w15 H0 _ ?_)
  intro H1 h1 h2 h3
  simp -implicitDefEqProofs -dsimp (disch := first | omega | (simp only [List.length_append, List.length_set, List.length_cons, List.length_nil, List.length_map]; omega) | decide +kernel) only [↓wkPre, ↓evC_region, ↓evC_text, ↓evC_cond, ↓evC_block, wkPost, wkF, skp, mkFn, evBuildSlice, fillS, results_tmp, mkTup, mkAgg, PV.flat, flatL, evFieldAddr, evLoad, evStore, evIndexAddr, evAlloc, evBuild, evBuiltin, evLen, lenAV, ldVar, ldArr, stVar, partA, partP, partC, withA, stride, setR, fillA, evConvert, convPV, evMakeSlice, evSlice, bnd, atI, binAV, eqAV, eqNil, leafEq, cellsEq, CfP, reduceIte, if_true, if_false, ite_true, ite_false, reduceCtorEq, ne_eq, eq_self, Nat.reduceAdd, Nat.reduceSub, Nat.reduceMul, Nat.reduceLT, Nat.reduceLeDiff, Nat.reduceEqDiff, Nat.reduceBEq, Nat.reduceBNe, Int.reduceToNat, Int.reduceLT, Int.reduceLE, Int.reduceAdd, Int.reduceSub, Int.reduceMul, Int.reduceEq, Int.reduceNe, Int.reduceBEq, Int.reduceBNe, Int.reduceNeg, Nat.reducePow, Int.reducePow, Nat.reduceMod, Nat.reduceDiv, ite_pos', ite_neg', ops]
  have hol : (opsP os).length = os.length := by simp [opsP]
  refine loop_use extMono (fun m e H => ∃ (i : Nat) (t : Tr) (v : AV), m = os.length - i ∧ i ≤ os.length ∧ e 0 = .p (.sl 3 (opsP os)) ∧ e 5 = .vptr H0.length 0 ∧ e 6 = v ∧ e 7 = .p (I i) ∧ H0.length < H.length ∧ H[H0.length]? = some (.var true (.p t.hd)) ∧ Good t ∧ MV v t.lst ∧ t.sz ≤ i ∧ ∀ i, i < H0.length → H[i]? = H0[i]?) ?_ os.length _ _ ⟨0, .nil, .nsl, rfl, by omega, ?_⟩
  · rintro m e H ⟨i, t, v, rfl, hi, e0, e5, e6, e7, hH, hb, g, mv, hz, hk⟩
    rcases Nat.lt_or_ge i os.length with h | h
    · obtain ⟨⟨kd, k, x⟩, ho⟩ : ∃ o, os[i] = o := ⟨_, rfl⟩
      have gi : (opsP os)[i]? = some (.agg [.int .i64 kd, .int .i64 k, .int .i64 x]) := by simp [opsP, h, ho]
      simp -implicitDefEqProofs -dsimp (disch := first | omega | (simp only [List.length_append, List.length_set, List.length_cons, List.length_nil, List.length_map]; omega) | decide +kernel) only [↓wkPre, ↓evC_region, ↓evC_text, ↓evC_cond, ↓evC_block_st [2], ↓evC_block_stop [2], wkPost, wkF, skp, mkFn, evBuildSlice, fillS, results_tmp, mkTup, mkAgg, PV.flat, flatL, evFieldAddr, evLoad, evStore, evIndexAddr, evAlloc, evBuild, evBuiltin, evLen, lenAV, ldVar, ldArr, stVar, partA, partP, partC, withA, stride, setR, fillA, evConvert, convPV, evMakeSlice, evSlice, bnd, atI, binAV, eqAV, eqNil, leafEq, cellsEq, CfP, reduceIte, if_true, if_false, ite_true, ite_false, reduceCtorEq, ne_eq, eq_self, Nat.reduceAdd, Nat.reduceSub, Nat.reduceMul, Nat.reduceLT, Nat.reduceLeDiff, Nat.reduceEqDiff, Nat.reduceBEq, Nat.reduceBNe, Int.reduceToNat, Int.reduceLT, Int.reduceLE, Int.reduceAdd, Int.reduceSub, Int.reduceMul, Int.reduceEq, Int.reduceNe, Int.reduceBEq, Int.reduceBNe, Int.reduceNeg, Nat.reducePow, Int.reducePow, Nat.reduceMod, Nat.reduceDiv, ite_pos', ite_neg', e0, e5, e6, e7, gi, hol]
      have hHl : H0.length < (H ++ [Blk.var true (AV.p (PV.agg [PV.int IntKind.i64 kd, PV.int IntKind.i64 k, PV.int IntKind.i64 x]))]).length := by simp; omega
      have hb1 : (H ++ [Blk.var true (AV.p (PV.agg [PV.int IntKind.i64 kd, PV.int IntKind.i64 k, PV.int IntKind.i64 x]))])[H0.length]? = some (.var true (.p t.hd)) := by rw [List.getElem?_append_left (by omega)]; exact hb
      have o1 : (H ++ [Blk.var true (AV.p (PV.agg [PV.int IntKind.i64 kd, PV.int IntKind.i64 k, PV.int IntKind.i64 x]))])[H.length]? = some (.var true (AV.p (PV.agg [PV.int IntKind.i64 kd, PV.int IntKind.i64 k, PV.int IntKind.i64 x]))) := by simp
      have hk1 : ∀ j, j < H0.length → (H ++ [Blk.var true (AV.p (PV.agg [PV.int IntKind.i64 kd, PV.int IntKind.i64 k, PV.int IntKind.i64 x]))])[j]? = H0[j]? := fun j hj => by rw [List.getElem?_append_left (by omega)]; exact hk j hj
      have hl1 : H.length < (H ++ [Blk.var true (AV.p (PV.agg [PV.int IntKind.i64 kd, PV.int IntKind.i64 k, PV.int IntKind.i64 x]))]).length := by simp
      refine stop_env (fun e => e 0 = .p (.sl 3 (opsP os)) ∧ e 5 = .vptr H0.length 0 ∧ e 6 = v ∧ e 7 = .p (I i) ∧ e 8 = .vptr H.length 0 ∧ e 28 = .p (I kd)) ?_ ?_
      · simp -implicitDefEqProofs -dsimp (disch := first | omega | (simp only [List.length_append, List.length_set, List.length_cons, List.length_nil, List.length_map]; omega) | decide +kernel) only [↓wkPre, ↓evC_region, ↓evC_text, ↓evC_cond, ↓evC_block, wkPost, wkF, skp, mkFn, evBuildSlice, fillS, results_tmp, mkTup, mkAgg, PV.flat, flatL, evFieldAddr, evLoad, evStore, evIndexAddr, evAlloc, evBuild, evBuiltin, evLen, lenAV, ldVar, ldArr, stVar, partA, partP, partC, withA, stride, setR, fillA, evConvert, convPV, evMakeSlice, evSlice, bnd, atI, binAV, eqAV, eqNil, leafEq, cellsEq, CfP, reduceIte, if_true, if_false, ite_true, ite_false, reduceCtorEq, ne_eq, eq_self, Nat.reduceAdd, Nat.reduceSub, Nat.reduceMul, Nat.reduceLT, Nat.reduceLeDiff, Nat.reduceEqDiff, Nat.reduceBEq, Nat.reduceBNe, Int.reduceToNat, Int.reduceLT, Int.reduceLE, Int.reduceAdd, Int.reduceSub, Int.reduceMul, Int.reduceEq, Int.reduceNe, Int.reduceBEq, Int.reduceBNe, Int.reduceNeg, Nat.reducePow, Int.reducePow, Nat.reduceMod, Nat.reduceDiv, ite_pos', ite_neg', e0, e5, e6, e7]
      rintro e ⟨q0, q5, q6, q7, q8, q28⟩
      generalize (H ++ [Blk.var true (AV.p (PV.agg [PV.int IntKind.i64 kd, PV.int IntKind.i64 k, PV.int IntKind.i64 x]))]) = H1 at hHl hb1 o1 hk1 hl1 ⊢
      refine stop_cut extMono (fun e H => ∃ (t : Tr) (v : AV), e 0 = .p (.sl 3 (opsP os)) ∧ e 5 = .vptr H0.length 0 ∧ e 6 = v ∧ e 7 = .p (I i) ∧ H0.length < H.length ∧ H[H0.length]? = some (.var true (.p t.hd)) ∧ Good t ∧ MV v t.lst ∧ t.sz ≤ i + 1 ∧ ∀ i, i < H0.length → H[i]? = H0[i]?) ?_ ?_
      · have hkd : kd = 0 ∨ kd = 1 ∨ kd = 2 ∨ kd = 3 ∨ ((kd == 0) = false ∧ (kd == 1) = false ∧ (kd == 2) = false ∧ (kd == 3) = false) := by
          simp only [beq_eq_false_iff_ne, ne_eq]; omega
        rcases hkd with rfl | rfl | rfl | rfl | ⟨k0, k1, k2, k3⟩
        · have hwf := w18 H0.length k x t _ hb1 (by omega)
          simp -implicitDefEqProofs -dsimp (disch := first | omega | (simp only [List.length_append, List.length_set, List.length_cons, List.length_nil, List.length_map]; omega) | decide +kernel) only [↓wkPre, ↓evC_region, ↓evC_text, ↓evC_cond, ↓evC_block, wkPost, wkF, skp, mkFn, evBuildSlice, fillS, results_tmp, mkTup, mkAgg, PV.flat, flatL, evFieldAddr, evLoad, evStore, evIndexAddr, evAlloc, evBuild, evBuiltin, evLen, lenAV, ldVar, ldArr, stVar, partA, partP, partC, withA, stride, setR, fillA, evConvert, convPV, evMakeSlice, evSlice, bnd, atI, binAV, eqAV, eqNil, leafEq, cellsEq, CfP, reduceIte, if_true, if_false, ite_true, ite_false, reduceCtorEq, ne_eq, eq_self, Nat.reduceAdd, Nat.reduceSub, Nat.reduceMul, Nat.reduceLT, Nat.reduceLeDiff, Nat.reduceEqDiff, Nat.reduceBEq, Nat.reduceBNe, Int.reduceToNat, Int.reduceLT, Int.reduceLE, Int.reduceAdd, Int.reduceSub, Int.reduceMul, Int.reduceEq, Int.reduceNe, Int.reduceBEq, Int.reduceBNe, Int.reduceNeg, Nat.reducePow, Int.reducePow, Nat.reduceMod, Nat.reduceDiv, ite_pos', ite_neg', q5, q6, q8, o1, q28]
          refine PS.app md_40 Try.func40 (p40 t.lst k x (by rw [lst_len]; omega)) (frzM mv _ _) ?_
          rintro r rfl
          simp -implicitDefEqProofs -dsimp (disch := first | omega | (simp only [List.length_append, List.length_set, List.length_cons, List.length_nil, List.length_map]; omega) | decide +kernel) only [↓wkPre, ↓evC_region, ↓evC_text, ↓evC_cond, ↓evC_block, wkPost, wkF, skp, mkFn, evBuildSlice, fillS, results_tmp, mkTup, mkAgg, PV.flat, flatL, evFieldAddr, evLoad, evStore, evIndexAddr, evAlloc, evBuild, evBuiltin, evLen, lenAV, ldVar, ldArr, stVar, partA, partP, partC, withA, stride, setR, fillA, evConvert, convPV, evMakeSlice, evSlice, bnd, atI, binAV, eqAV, eqNil, leafEq, cellsEq, CfP, reduceIte, if_true, if_false, ite_true, ite_false, reduceCtorEq, ne_eq, eq_self, Nat.reduceAdd, Nat.reduceSub, Nat.reduceMul, Nat.reduceLT, Nat.reduceLeDiff, Nat.reduceEqDiff, Nat.reduceBEq, Nat.reduceBNe, Int.reduceToNat, Int.reduceLT, Int.reduceLE, Int.reduceAdd, Int.reduceSub, Int.reduceMul, Int.reduceEq, Int.reduceNe, Int.reduceBEq, Int.reduceBNe, Int.reduceNeg, Nat.reducePow, Int.reducePow, Nat.reduceMod, Nat.reduceDiv, ite_pos', ite_neg', q5, q6, q8, o1, mv.ids, ite_self]
          refine imp_call md_18 (hwf _ ?_)
          rintro H2 ⟨u1, u2, u3⟩
          have o2 := (u2 H.length (by omega) (by omega)).trans o1
          rw [met_eq g, ← put_met (x := (k, x)) g.srt]
          simp -implicitDefEqProofs -dsimp (disch := first | omega | (simp only [List.length_append, List.length_set, List.length_cons, List.length_nil, List.length_map]; omega) | decide +kernel) only [↓wkPre, ↓evC_region, ↓evC_text, ↓evC_cond, ↓evC_block, wkPost, wkF, skp, mkFn, evBuildSlice, fillS, results_tmp, mkTup, mkAgg, PV.flat, flatL, evFieldAddr, evLoad, evStore, evIndexAddr, evAlloc, evBuild, evBuiltin, evLen, lenAV, ldVar, ldArr, stVar, partA, partP, partC, withA, stride, setR, fillA, evConvert, convPV, evMakeSlice, evSlice, bnd, atI, binAV, eqAV, eqNil, leafEq, cellsEq, CfP, reduceIte, if_true, if_false, ite_true, ite_false, reduceCtorEq, ne_eq, eq_self, Nat.reduceAdd, Nat.reduceSub, Nat.reduceMul, Nat.reduceLT, Nat.reduceLeDiff, Nat.reduceEqDiff, Nat.reduceBEq, Nat.reduceBNe, Int.reduceToNat, Int.reduceLT, Int.reduceLE, Int.reduceAdd, Int.reduceSub, Int.reduceMul, Int.reduceEq, Int.reduceNe, Int.reduceBEq, Int.reduceBNe, Int.reduceNeg, Nat.reducePow, Int.reducePow, Nat.reduceMod, Nat.reduceDiv, ite_pos', ite_neg', q0, q5, q6, q7, q8, o2, ite_self]
          have pk := putT_ok (k := k) (v := x) g
          have hln := put_len_le (k, x) t.lst g.srt
          rw [← pk.1, lst_len, lst_len] at hln
          exact ⟨putT k x t, _, rfl, by omega, u1, pk.2, .inr (by rw [pk.1]), by omega, fun j hj => (u2 j (by omega) (by omega)).trans (hk1 j hj)⟩
        · have hwf := w18 H0.length k x t _ hb1 (by omega)
          simp -implicitDefEqProofs -dsimp (disch := first | omega | (simp only [List.length_append, List.length_set, List.length_cons, List.length_nil, List.length_map]; omega) | decide +kernel) only [↓wkPre, ↓evC_region, ↓evC_text, ↓evC_cond, ↓evC_block, wkPost, wkF, skp, mkFn, evBuildSlice, fillS, results_tmp, mkTup, mkAgg, PV.flat, flatL, evFieldAddr, evLoad, evStore, evIndexAddr, evAlloc, evBuild, evBuiltin, evLen, lenAV, ldVar, ldArr, stVar, partA, partP, partC, withA, stride, setR, fillA, evConvert, convPV, evMakeSlice, evSlice, bnd, atI, binAV, eqAV, eqNil, leafEq, cellsEq, CfP, reduceIte, if_true, if_false, ite_true, ite_false, reduceCtorEq, ne_eq, eq_self, Nat.reduceAdd, Nat.reduceSub, Nat.reduceMul, Nat.reduceLT, Nat.reduceLeDiff, Nat.reduceEqDiff, Nat.reduceBEq, Nat.reduceBNe, Int.reduceToNat, Int.reduceLT, Int.reduceLE, Int.reduceAdd, Int.reduceSub, Int.reduceMul, Int.reduceEq, Int.reduceNe, Int.reduceBEq, Int.reduceBNe, Int.reduceNeg, Nat.reducePow, Int.reducePow, Nat.reduceMod, Nat.reduceDiv, ite_pos', ite_neg', q5, q6, q8, o1, q28]
          refine PS.app md_40 Try.func40 (p40 t.lst k x (by rw [lst_len]; omega)) (frzM mv _ _) ?_
          rintro r rfl
          simp -implicitDefEqProofs -dsimp (disch := first | omega | (simp only [List.length_append, List.length_set, List.length_cons, List.length_nil, List.length_map]; omega) | decide +kernel) only [↓wkPre, ↓evC_region, ↓evC_text, ↓evC_cond, ↓evC_block, wkPost, wkF, skp, mkFn, evBuildSlice, fillS, results_tmp, mkTup, mkAgg, PV.flat, flatL, evFieldAddr, evLoad, evStore, evIndexAddr, evAlloc, evBuild, evBuiltin, evLen, lenAV, ldVar, ldArr, stVar, partA, partP, partC, withA, stride, setR, fillA, evConvert, convPV, evMakeSlice, evSlice, bnd, atI, binAV, eqAV, eqNil, leafEq, cellsEq, CfP, reduceIte, if_true, if_false, ite_true, ite_false, reduceCtorEq, ne_eq, eq_self, Nat.reduceAdd, Nat.reduceSub, Nat.reduceMul, Nat.reduceLT, Nat.reduceLeDiff, Nat.reduceEqDiff, Nat.reduceBEq, Nat.reduceBNe, Int.reduceToNat, Int.reduceLT, Int.reduceLE, Int.reduceAdd, Int.reduceSub, Int.reduceMul, Int.reduceEq, Int.reduceNe, Int.reduceBEq, Int.reduceBNe, Int.reduceNeg, Nat.reducePow, Int.reducePow, Nat.reduceMod, Nat.reduceDiv, ite_pos', ite_neg', q5, q6, q8, o1, mv.ids, ite_self]
          refine imp_call md_18 (hwf _ ?_)
          rintro H2 ⟨u1, u2, u3⟩
          have o2 := (u2 H.length (by omega) (by omega)).trans o1
          rw [met_eq g, ← put_met (x := (k, x)) g.srt]
          simp -implicitDefEqProofs -dsimp (disch := first | omega | (simp only [List.length_append, List.length_set, List.length_cons, List.length_nil, List.length_map]; omega) | decide +kernel) only [↓wkPre, ↓evC_region, ↓evC_text, ↓evC_cond, ↓evC_block, wkPost, wkF, skp, mkFn, evBuildSlice, fillS, results_tmp, mkTup, mkAgg, PV.flat, flatL, evFieldAddr, evLoad, evStore, evIndexAddr, evAlloc, evBuild, evBuiltin, evLen, lenAV, ldVar, ldArr, stVar, partA, partP, partC, withA, stride, setR, fillA, evConvert, convPV, evMakeSlice, evSlice, bnd, atI, binAV, eqAV, eqNil, leafEq, cellsEq, CfP, reduceIte, if_true, if_false, ite_true, ite_false, reduceCtorEq, ne_eq, eq_self, Nat.reduceAdd, Nat.reduceSub, Nat.reduceMul, Nat.reduceLT, Nat.reduceLeDiff, Nat.reduceEqDiff, Nat.reduceBEq, Nat.reduceBNe, Int.reduceToNat, Int.reduceLT, Int.reduceLE, Int.reduceAdd, Int.reduceSub, Int.reduceMul, Int.reduceEq, Int.reduceNe, Int.reduceBEq, Int.reduceBNe, Int.reduceNeg, Nat.reducePow, Int.reducePow, Nat.reduceMod, Nat.reduceDiv, ite_pos', ite_neg', q0, q5, q6, q7, q8, o2, ite_self]
          have pk := putT_ok (k := k) (v := x) g
          have hln := put_len_le (k, x) t.lst g.srt
          rw [← pk.1, lst_len, lst_len] at hln
          exact ⟨putT k x t, _, rfl, by omega, u1, pk.2, .inr (by rw [pk.1]), by omega, fun j hj => (u2 j (by omega) (by omega)).trans (hk1 j hj)⟩
        · have hwf := w18 H0.length k x t _ hb1 (by omega)
          simp -implicitDefEqProofs -dsimp (disch := first | omega | (simp only [List.length_append, List.length_set, List.length_cons, List.length_nil, List.length_map]; omega) | decide +kernel) only [↓wkPre, ↓evC_region, ↓evC_text, ↓evC_cond, ↓evC_block, wkPost, wkF, skp, mkFn, evBuildSlice, fillS, results_tmp, mkTup, mkAgg, PV.flat, flatL, evFieldAddr, evLoad, evStore, evIndexAddr, evAlloc, evBuild, evBuiltin, evLen, lenAV, ldVar, ldArr, stVar, partA, partP, partC, withA, stride, setR, fillA, evConvert, convPV, evMakeSlice, evSlice, bnd, atI, binAV, eqAV, eqNil, leafEq, cellsEq, CfP, reduceIte, if_true, if_false, ite_true, ite_false, reduceCtorEq, ne_eq, eq_self, Nat.reduceAdd, Nat.reduceSub, Nat.reduceMul, Nat.reduceLT, Nat.reduceLeDiff, Nat.reduceEqDiff, Nat.reduceBEq, Nat.reduceBNe, Int.reduceToNat, Int.reduceLT, Int.reduceLE, Int.reduceAdd, Int.reduceSub, Int.reduceMul, Int.reduceEq, Int.reduceNe, Int.reduceBEq, Int.reduceBNe, Int.reduceNeg, Nat.reducePow, Int.reducePow, Nat.reduceMod, Nat.reduceDiv, ite_pos', ite_neg', q5, q6, q8, o1, q28]
          refine PS.app md_40 Try.func40 (p40 t.lst k x (by rw [lst_len]; omega)) (frzM mv _ _) ?_
          rintro r rfl
          simp -implicitDefEqProofs -dsimp (disch := first | omega | (simp only [List.length_append, List.length_set, List.length_cons, List.length_nil, List.length_map]; omega) | decide +kernel) only [↓wkPre, ↓evC_region, ↓evC_text, ↓evC_cond, ↓evC_block, wkPost, wkF, skp, mkFn, evBuildSlice, fillS, results_tmp, mkTup, mkAgg, PV.flat, flatL, evFieldAddr, evLoad, evStore, evIndexAddr, evAlloc, evBuild, evBuiltin, evLen, lenAV, ldVar, ldArr, stVar, partA, partP, partC, withA, stride, setR, fillA, evConvert, convPV, evMakeSlice, evSlice, bnd, atI, binAV, eqAV, eqNil, leafEq, cellsEq, CfP, reduceIte, if_true, if_false, ite_true, ite_false, reduceCtorEq, ne_eq, eq_self, Nat.reduceAdd, Nat.reduceSub, Nat.reduceMul, Nat.reduceLT, Nat.reduceLeDiff, Nat.reduceEqDiff, Nat.reduceBEq, Nat.reduceBNe, Int.reduceToNat, Int.reduceLT, Int.reduceLE, Int.reduceAdd, Int.reduceSub, Int.reduceMul, Int.reduceEq, Int.reduceNe, Int.reduceBEq, Int.reduceBNe, Int.reduceNeg, Nat.reducePow, Int.reducePow, Nat.reduceMod, Nat.reduceDiv, ite_pos', ite_neg', q5, q6, q8, o1, mv.ids, ite_self]
          refine imp_call md_18 (hwf _ ?_)
          rintro H2 ⟨u1, u2, u3⟩
          have o2 := (u2 H.length (by omega) (by omega)).trans o1
          rw [met_eq g, ← put_met (x := (k, x)) g.srt]
          simp -implicitDefEqProofs -dsimp (disch := first | omega | (simp only [List.length_append, List.length_set, List.length_cons, List.length_nil, List.length_map]; omega) | decide +kernel) only [↓wkPre, ↓evC_region, ↓evC_text, ↓evC_cond, ↓evC_block, wkPost, wkF, skp, mkFn, evBuildSlice, fillS, results_tmp, mkTup, mkAgg, PV.flat, flatL, evFieldAddr, evLoad, evStore, evIndexAddr, evAlloc, evBuild, evBuiltin, evLen, lenAV, ldVar, ldArr, stVar, partA, partP, partC, withA, stride, setR, fillA, evConvert, convPV, evMakeSlice, evSlice, bnd, atI, binAV, eqAV, eqNil, leafEq, cellsEq, CfP, reduceIte, if_true, if_false, ite_true, ite_false, reduceCtorEq, ne_eq, eq_self, Nat.reduceAdd, Nat.reduceSub, Nat.reduceMul, Nat.reduceLT, Nat.reduceLeDiff, Nat.reduceEqDiff, Nat.reduceBEq, Nat.reduceBNe, Int.reduceToNat, Int.reduceLT, Int.reduceLE, Int.reduceAdd, Int.reduceSub, Int.reduceMul, Int.reduceEq, Int.reduceNe, Int.reduceBEq, Int.reduceBNe, Int.reduceNeg, Nat.reducePow, Int.reducePow, Nat.reduceMod, Nat.reduceDiv, ite_pos', ite_neg', q0, q5, q6, q7, q8, o2, ite_self]
          have pk := putT_ok (k := k) (v := x) g
          have hln := put_len_le (k, x) t.lst g.srt
          rw [← pk.1, lst_len, lst_len] at hln
          exact ⟨putT k x t, _, rfl, by omega, u1, pk.2, .inr (by rw [pk.1]), by omega, fun j hj => (u2 j (by omega) (by omega)).trans (hk1 j hj)⟩
        · simp -implicitDefEqProofs -dsimp (disch := first | omega | (simp only [List.length_append, List.length_set, List.length_cons, List.length_nil, List.length_map]; omega) | decide +kernel) only [↓wkPre, ↓evC_region, ↓evC_text, ↓evC_cond, ↓evC_block, wkPost, wkF, skp, mkFn, evBuildSlice, fillS, results_tmp, mkTup, mkAgg, PV.flat, flatL, evFieldAddr, evLoad, evStore, evIndexAddr, evAlloc, evBuild, evBuiltin, evLen, lenAV, ldVar, ldArr, stVar, partA, partP, partC, withA, stride, setR, fillA, evConvert, convPV, evMakeSlice, evSlice, bnd, atI, binAV, eqAV, eqNil, leafEq, cellsEq, CfP, reduceIte, if_true, if_false, ite_true, ite_false, reduceCtorEq, ne_eq, eq_self, Nat.reduceAdd, Nat.reduceSub, Nat.reduceMul, Nat.reduceLT, Nat.reduceLeDiff, Nat.reduceEqDiff, Nat.reduceBEq, Nat.reduceBNe, Int.reduceToNat, Int.reduceLT, Int.reduceLE, Int.reduceAdd, Int.reduceSub, Int.reduceMul, Int.reduceEq, Int.reduceNe, Int.reduceBEq, Int.reduceBNe, Int.reduceNeg, Nat.reducePow, Int.reducePow, Nat.reduceMod, Nat.reduceDiv, ite_pos', ite_neg', q0, q5, q6, q7, q8, q28, o1]
          have hwf := w21 H0.length k t _ hb1 (by omega)
          refine PS.app md_41 Try.func41 (p41 t.lst k (by rw [lst_len]; omega)) (frzM mv _ _) ?_
          rintro r rfl
          simp -implicitDefEqProofs -dsimp (disch := first | omega | (simp only [List.length_append, List.length_set, List.length_cons, List.length_nil, List.length_map]; omega) | decide +kernel) only [↓wkPre, ↓evC_region, ↓evC_text, ↓evC_cond, ↓evC_block, wkPost, wkF, skp, mkFn, evBuildSlice, fillS, results_tmp, mkTup, mkAgg, PV.flat, flatL, evFieldAddr, evLoad, evStore, evIndexAddr, evAlloc, evBuild, evBuiltin, evLen, lenAV, ldVar, ldArr, stVar, partA, partP, partC, withA, stride, setR, fillA, evConvert, convPV, evMakeSlice, evSlice, bnd, atI, binAV, eqAV, eqNil, leafEq, cellsEq, CfP, reduceIte, if_true, if_false, ite_true, ite_false, reduceCtorEq, ne_eq, eq_self, Nat.reduceAdd, Nat.reduceSub, Nat.reduceMul, Nat.reduceLT, Nat.reduceLeDiff, Nat.reduceEqDiff, Nat.reduceBEq, Nat.reduceBNe, Int.reduceToNat, Int.reduceLT, Int.reduceLE, Int.reduceAdd, Int.reduceSub, Int.reduceMul, Int.reduceEq, Int.reduceNe, Int.reduceBEq, Int.reduceBNe, Int.reduceNeg, Nat.reducePow, Int.reducePow, Nat.reduceMod, Nat.reduceDiv, ite_pos', ite_neg', q5, q6, q8, o1, mv.ids, ite_self]
          refine imp_call md_21 (hwf _ ?_)
          rintro H2 ⟨u1, u2, u3⟩
          have o2 := (u2 H.length (by omega) (by omega)).trans o1
          rw [met_eq g, ← drop_met g.srt]
          simp -implicitDefEqProofs -dsimp (disch := first | omega | (simp only [List.length_append, List.length_set, List.length_cons, List.length_nil, List.length_map]; omega) | decide +kernel) only [↓wkPre, ↓evC_region, ↓evC_text, ↓evC_cond, ↓evC_block, wkPost, wkF, skp, mkFn, evBuildSlice, fillS, results_tmp, mkTup, mkAgg, PV.flat, flatL, evFieldAddr, evLoad, evStore, evIndexAddr, evAlloc, evBuild, evBuiltin, evLen, lenAV, ldVar, ldArr, stVar, partA, partP, partC, withA, stride, setR, fillA, evConvert, convPV, evMakeSlice, evSlice, bnd, atI, binAV, eqAV, eqNil, leafEq, cellsEq, CfP, reduceIte, if_true, if_false, ite_true, ite_false, reduceCtorEq, ne_eq, eq_self, Nat.reduceAdd, Nat.reduceSub, Nat.reduceMul, Nat.reduceLT, Nat.reduceLeDiff, Nat.reduceEqDiff, Nat.reduceBEq, Nat.reduceBNe, Int.reduceToNat, Int.reduceLT, Int.reduceLE, Int.reduceAdd, Int.reduceSub, Int.reduceMul, Int.reduceEq, Int.reduceNe, Int.reduceBEq, Int.reduceBNe, Int.reduceNeg, Nat.reducePow, Int.reducePow, Nat.reduceMod, Nat.reduceDiv, ite_pos', ite_neg', q0, q5, q6, q7, q8, o2, ite_self]
          have pk := dropT_ok (k := k) g
          have hln : (dropL k t.lst).length ≤ t.lst.length := List.length_filter_le _ _
          rw [← pk.1, lst_len, lst_len] at hln
          exact ⟨dropT k t, _, rfl, by omega, u1, pk.2, .inr (by rw [pk.1]), by omega, fun j hj => (u2 j (by omega) (by omega)).trans (hk1 j hj)⟩
        · simp -implicitDefEqProofs -dsimp (disch := first | omega | (simp only [List.length_append, List.length_set, List.length_cons, List.length_nil, List.length_map]; omega) | decide +kernel) only [↓wkPre, ↓evC_region, ↓evC_text, ↓evC_cond, ↓evC_block, wkPost, wkF, skp, mkFn, evBuildSlice, fillS, results_tmp, mkTup, mkAgg, PV.flat, flatL, evFieldAddr, evLoad, evStore, evIndexAddr, evAlloc, evBuild, evBuiltin, evLen, lenAV, ldVar, ldArr, stVar, partA, partP, partC, withA, stride, setR, fillA, evConvert, convPV, evMakeSlice, evSlice, bnd, atI, binAV, eqAV, eqNil, leafEq, cellsEq, CfP, reduceIte, if_true, if_false, ite_true, ite_false, reduceCtorEq, ne_eq, eq_self, Nat.reduceAdd, Nat.reduceSub, Nat.reduceMul, Nat.reduceLT, Nat.reduceLeDiff, Nat.reduceEqDiff, Nat.reduceBEq, Nat.reduceBNe, Int.reduceToNat, Int.reduceLT, Int.reduceLE, Int.reduceAdd, Int.reduceSub, Int.reduceMul, Int.reduceEq, Int.reduceNe, Int.reduceBEq, Int.reduceBNe, Int.reduceNeg, Nat.reducePow, Int.reducePow, Nat.reduceMod, Nat.reduceDiv, ite_pos', ite_neg', q0, q5, q6, q7, q8, q28, o1, k0, k1, k2, k3]
          have hfl := from_le k t.lst
          have hk4 : (kd == 4) = true ∨ (kd == 4) = false := by cases kd == 4 <;> simp
          have hil := items_len t.lst
          have hcl := cutL_ok (k := k) g
          have hct := cutT_ok (k := k) g
          have hln := lst_len t
          have hcz : (cutT k t).sz ≤ 1000 := by rw [← lst_len, hct.1]; simp; omega
          have hlz : (splitT k t).1.sz ≤ 1000 := by rw [← lst_len, hcl.1]; simp; omega
          refine PS.app md_9 Try.func9 (p9 t.lst k (by rw [lst_len]; omega)) (frzM mv _ _) ?_
          rintro r rfl
          simp -implicitDefEqProofs -dsimp (disch := first | omega | (simp only [List.length_append, List.length_set, List.length_cons, List.length_nil, List.length_map]; omega) | decide +kernel) only [↓wkPre, ↓evC_region, ↓evC_text, ↓evC_cond, ↓evC_block, wkPost, wkF, skp, mkFn, evBuildSlice, fillS, results_tmp, mkTup, mkAgg, PV.flat, flatL, evFieldAddr, evLoad, evStore, evIndexAddr, evAlloc, evBuild, evBuiltin, evLen, lenAV, ldVar, ldArr, stVar, partA, partP, partC, withA, stride, setR, fillA, evConvert, convPV, evMakeSlice, evSlice, bnd, atI, binAV, eqAV, eqNil, leafEq, cellsEq, CfP, reduceIte, if_true, if_false, ite_true, ite_false, reduceCtorEq, ne_eq, eq_self, Nat.reduceAdd, Nat.reduceSub, Nat.reduceMul, Nat.reduceLT, Nat.reduceLeDiff, Nat.reduceEqDiff, Nat.reduceBEq, Nat.reduceBNe, Int.reduceToNat, Int.reduceLT, Int.reduceLE, Int.reduceAdd, Int.reduceSub, Int.reduceMul, Int.reduceEq, Int.reduceNe, Int.reduceBEq, Int.reduceBNe, Int.reduceNeg, Nat.reducePow, Int.reducePow, Nat.reduceMod, Nat.reduceDiv, ite_pos', ite_neg', q5, q6, q8, o1, mv.ids, ite_self, k0, k1, k2, k3]
          refine imp_call md_24 (w24 H0.length k t _ hb1 (by omega) _ ?_)
          rintro H2 ⟨u1, u2, u3⟩ ca cl
          have o2 := (u2 H.length (by omega) (by omega)).trans o1
          rcases mv with ⟨rfl, hnil⟩ | rfl
          · rw [hnil]
            rw [hnil] at hct hcl
            simp -implicitDefEqProofs -dsimp (disch := first | omega | (simp only [List.length_append, List.length_set, List.length_cons, List.length_nil, List.length_map]; omega) | decide +kernel) only [↓wkPre, ↓evC_region, ↓evC_text, ↓evC_cond, ↓evC_block, wkPost, wkF, skp, mkFn, evBuildSlice, fillS, results_tmp, mkTup, mkAgg, PV.flat, flatL, evFieldAddr, evLoad, evStore, evIndexAddr, evAlloc, evBuild, evBuiltin, evLen, lenAV, ldVar, ldArr, stVar, partA, partP, partC, withA, stride, setR, fillA, evConvert, convPV, evMakeSlice, evSlice, bnd, atI, binAV, eqAV, eqNil, leafEq, cellsEq, CfP, reduceIte, if_true, if_false, ite_true, ite_false, reduceCtorEq, ne_eq, eq_self, Nat.reduceAdd, Nat.reduceSub, Nat.reduceMul, Nat.reduceLT, Nat.reduceLeDiff, Nat.reduceEqDiff, Nat.reduceBEq, Nat.reduceBNe, Int.reduceToNat, Int.reduceLT, Int.reduceLE, Int.reduceAdd, Int.reduceSub, Int.reduceMul, Int.reduceEq, Int.reduceNe, Int.reduceBEq, Int.reduceBNe, Int.reduceNeg, Nat.reducePow, Int.reducePow, Nat.reduceMod, Nat.reduceDiv, ite_pos', ite_neg', q0, q5, q6, q7, q8, o2, ite_self, from_nil]
            refine PS.app md_22 Try.func22 (p22' hct.2 hcz hct.1) (frz2 ca (.inl ⟨rfl, rfl⟩)) ?_
            rintro r rfl
            simp -implicitDefEqProofs -dsimp (disch := first | omega | (simp only [List.length_append, List.length_set, List.length_cons, List.length_nil, List.length_map]; omega) | decide +kernel) only [↓wkPre, ↓evC_region, ↓evC_text, ↓evC_cond, ↓evC_block, wkPost, wkF, skp, mkFn, evBuildSlice, fillS, results_tmp, mkTup, mkAgg, PV.flat, flatL, evFieldAddr, evLoad, evStore, evIndexAddr, evAlloc, evBuild, evBuiltin, evLen, lenAV, ldVar, ldArr, stVar, partA, partP, partC, withA, stride, setR, fillA, evConvert, convPV, evMakeSlice, evSlice, bnd, atI, binAV, eqAV, eqNil, leafEq, cellsEq, CfP, reduceIte, if_true, if_false, ite_true, ite_false, reduceCtorEq, ne_eq, eq_self, Nat.reduceAdd, Nat.reduceSub, Nat.reduceMul, Nat.reduceLT, Nat.reduceLeDiff, Nat.reduceEqDiff, Nat.reduceBEq, Nat.reduceBNe, Int.reduceToNat, Int.reduceLT, Int.reduceLE, Int.reduceAdd, Int.reduceSub, Int.reduceMul, Int.reduceEq, Int.reduceNe, Int.reduceBEq, Int.reduceBNe, Int.reduceNeg, Nat.reducePow, Int.reducePow, Nat.reduceMod, Nat.reduceDiv, ite_pos', ite_neg', q0, q5, q6, q7, q8, o2, ite_self, from_nil]
            refine PS.app md_22 Try.func22 (p22' hcl.2 hlz hcl.1) (frz2 u1 (.inl ⟨rfl, rfl⟩)) ?_
            rintro r rfl
            have hz0 : (splitT k t).1.sz = 0 := by rw [← lst_len, hcl.1]; simp
            have hkk : ∀ j, j < H0.length → H2[j]? = H0[j]? := fun j hj => (u2 j (by omega) (by omega)).trans (hk1 j hj)
            rcases hk4 with k4 | k4
            · simp -implicitDefEqProofs -dsimp (disch := first | omega | (simp only [List.length_append, List.length_set, List.length_cons, List.length_nil, List.length_map]; omega) | decide +kernel) only [↓wkPre, ↓evC_region, ↓evC_text, ↓evC_cond, ↓evC_block, wkPost, wkF, skp, mkFn, evBuildSlice, fillS, results_tmp, mkTup, mkAgg, PV.flat, flatL, evFieldAddr, evLoad, evStore, evIndexAddr, evAlloc, evBuild, evBuiltin, evLen, lenAV, ldVar, ldArr, stVar, partA, partP, partC, withA, stride, setR, fillA, evConvert, convPV, evMakeSlice, evSlice, bnd, atI, binAV, eqAV, eqNil, leafEq, cellsEq, CfP, reduceIte, if_true, if_false, ite_true, ite_false, reduceCtorEq, ne_eq, eq_self, Nat.reduceAdd, Nat.reduceSub, Nat.reduceMul, Nat.reduceLT, Nat.reduceLeDiff, Nat.reduceEqDiff, Nat.reduceBEq, Nat.reduceBNe, Int.reduceToNat, Int.reduceLT, Int.reduceLE, Int.reduceAdd, Int.reduceSub, Int.reduceMul, Int.reduceEq, Int.reduceNe, Int.reduceBEq, Int.reduceBNe, Int.reduceNeg, Nat.reducePow, Int.reducePow, Nat.reduceMod, Nat.reduceDiv, ite_pos', ite_neg', q0, q5, q6, q7, q8, o2, ite_self, from_nil, k4]
              refine loop_use extMono (fun m e H => m = 0 ∧ e 0 = .p (.sl 3 (opsP os)) ∧ e 5 = .vptr H0.length 0 ∧ e 6 = .nsl ∧ e 7 = .p (I i) ∧ e 12 = .p (I 0) ∧ H = H2) ?_ 0 _ _ ⟨rfl, ?_⟩
              · rintro m e H ⟨rfl, q0, q5, q6, q7, q12, rfl⟩
                simp -implicitDefEqProofs -dsimp (disch := first | omega | (simp only [List.length_append, List.length_set, List.length_cons, List.length_nil, List.length_map]; omega) | decide +kernel) only [↓wkPre, ↓evC_region, ↓evC_text, ↓evC_cond, ↓evC_block, wkPost, wkF, skp, mkFn, evBuildSlice, fillS, results_tmp, mkTup, mkAgg, PV.flat, flatL, evFieldAddr, evLoad, evStore, evIndexAddr, evAlloc, evBuild, evBuiltin, evLen, lenAV, ldVar, ldArr, stVar, partA, partP, partC, withA, stride, setR, fillA, evConvert, convPV, evMakeSlice, evSlice, bnd, atI, binAV, eqAV, eqNil, leafEq, cellsEq, CfP, reduceIte, if_true, if_false, ite_true, ite_false, reduceCtorEq, ne_eq, eq_self, Nat.reduceAdd, Nat.reduceSub, Nat.reduceMul, Nat.reduceLT, Nat.reduceLeDiff, Nat.reduceEqDiff, Nat.reduceBEq, Nat.reduceBNe, Int.reduceToNat, Int.reduceLT, Int.reduceLE, Int.reduceAdd, Int.reduceSub, Int.reduceMul, Int.reduceEq, Int.reduceNe, Int.reduceBEq, Int.reduceBNe, Int.reduceNeg, Nat.reducePow, Int.reducePow, Nat.reduceMod, Nat.reduceDiv, ite_pos', ite_neg', q0, q5, q6, q7, q12]
                exact ⟨_, _, rfl, by omega, u1, hcl.2, .inl ⟨rfl, by rw [hcl.1]; rfl⟩, by omega, hkk⟩
              · simp -implicitDefEqProofs -dsimp (disch := first | omega | (simp only [List.length_append, List.length_set, List.length_cons, List.length_nil, List.length_map]; omega) | decide +kernel) only [↓wkPre, ↓evC_region, ↓evC_text, ↓evC_cond, ↓evC_block, wkPost, wkF, skp, mkFn, evBuildSlice, fillS, results_tmp, mkTup, mkAgg, PV.flat, flatL, evFieldAddr, evLoad, evStore, evIndexAddr, evAlloc, evBuild, evBuiltin, evLen, lenAV, ldVar, ldArr, stVar, partA, partP, partC, withA, stride, setR, fillA, evConvert, convPV, evMakeSlice, evSlice, bnd, atI, binAV, eqAV, eqNil, leafEq, cellsEq, CfP, reduceIte, if_true, if_false, ite_true, ite_false, reduceCtorEq, ne_eq, eq_self, Nat.reduceAdd, Nat.reduceSub, Nat.reduceMul, Nat.reduceLT, Nat.reduceLeDiff, Nat.reduceEqDiff, Nat.reduceBEq, Nat.reduceBNe, Int.reduceToNat, Int.reduceLT, Int.reduceLE, Int.reduceAdd, Int.reduceSub, Int.reduceMul, Int.reduceEq, Int.reduceNe, Int.reduceBEq, Int.reduceBNe, Int.reduceNeg, Nat.reducePow, Int.reducePow, Nat.reduceMod, Nat.reduceDiv, ite_pos', ite_neg', q0, q5, q6, q7]
                rfl
            · simp -implicitDefEqProofs -dsimp (disch := first | omega | (simp only [List.length_append, List.length_set, List.length_cons, List.length_nil, List.length_map]; omega) | decide +kernel) only [↓wkPre, ↓evC_region, ↓evC_text, ↓evC_cond, ↓evC_block, wkPost, wkF, skp, mkFn, evBuildSlice, fillS, results_tmp, mkTup, mkAgg, PV.flat, flatL, evFieldAddr, evLoad, evStore, evIndexAddr, evAlloc, evBuild, evBuiltin, evLen, lenAV, ldVar, ldArr, stVar, partA, partP, partC, withA, stride, setR, fillA, evConvert, convPV, evMakeSlice, evSlice, bnd, atI, binAV, eqAV, eqNil, leafEq, cellsEq, CfP, reduceIte, if_true, if_false, ite_true, ite_false, reduceCtorEq, ne_eq, eq_self, Nat.reduceAdd, Nat.reduceSub, Nat.reduceMul, Nat.reduceLT, Nat.reduceLeDiff, Nat.reduceEqDiff, Nat.reduceBEq, Nat.reduceBNe, Int.reduceToNat, Int.reduceLT, Int.reduceLE, Int.reduceAdd, Int.reduceSub, Int.reduceMul, Int.reduceEq, Int.reduceNe, Int.reduceBEq, Int.reduceBNe, Int.reduceNeg, Nat.reducePow, Int.reducePow, Nat.reduceMod, Nat.reduceDiv, ite_pos', ite_neg', q0, q5, q6, q7, q8, o2, ite_self, from_nil, k4]
              exact ⟨_, _, rfl, by omega, u1, hcl.2, .inl ⟨rfl, by rw [hcl.1]; rfl⟩, by omega, hkk⟩
          · simp only [its] at q6
            simp -implicitDefEqProofs -dsimp (disch := first | omega | (simp only [List.length_append, List.length_set, List.length_cons, List.length_nil, List.length_map]; omega) | decide +kernel) only [↓wkPre, ↓evC_region, ↓evC_text, ↓evC_cond, ↓evC_block, wkPost, wkF, skp, mkFn, evBuildSlice, fillS, results_tmp, mkTup, mkAgg, PV.flat, flatL, evFieldAddr, evLoad, evStore, evIndexAddr, evAlloc, evBuild, evBuiltin, evLen, lenAV, ldVar, ldArr, stVar, partA, partP, partC, withA, stride, setR, fillA, evConvert, convPV, evMakeSlice, evSlice, bnd, atI, binAV, eqAV, eqNil, leafEq, cellsEq, CfP, reduceIte, if_true, if_false, ite_true, ite_false, reduceCtorEq, ne_eq, eq_self, Nat.reduceAdd, Nat.reduceSub, Nat.reduceMul, Nat.reduceLT, Nat.reduceLeDiff, Nat.reduceEqDiff, Nat.reduceBEq, Nat.reduceBNe, Int.reduceToNat, Int.reduceLT, Int.reduceLE, Int.reduceAdd, Int.reduceSub, Int.reduceMul, Int.reduceEq, Int.reduceNe, Int.reduceBEq, Int.reduceBNe, Int.reduceNeg, Nat.reducePow, Int.reducePow, Nat.reduceMod, Nat.reduceDiv, ite_pos', ite_neg', q0, q5, q6, q7, q8, o2, ite_self, hfl, hil]
            rw [sl_drop]
            refine PS.app md_22 Try.func22 (p22' hct.2 hcz hct.1) (frz2 ca (.inr rfl)) ?_
            rintro r rfl
            simp -implicitDefEqProofs -dsimp (disch := first | omega | (simp only [List.length_append, List.length_set, List.length_cons, List.length_nil, List.length_map]; omega) | decide +kernel) only [↓wkPre, ↓evC_region, ↓evC_text, ↓evC_cond, ↓evC_block, wkPost, wkF, skp, mkFn, evBuildSlice, fillS, results_tmp, mkTup, mkAgg, PV.flat, flatL, evFieldAddr, evLoad, evStore, evIndexAddr, evAlloc, evBuild, evBuiltin, evLen, lenAV, ldVar, ldArr, stVar, partA, partP, partC, withA, stride, setR, fillA, evConvert, convPV, evMakeSlice, evSlice, bnd, atI, binAV, eqAV, eqNil, leafEq, cellsEq, CfP, reduceIte, if_true, if_false, ite_true, ite_false, reduceCtorEq, ne_eq, eq_self, Nat.reduceAdd, Nat.reduceSub, Nat.reduceMul, Nat.reduceLT, Nat.reduceLeDiff, Nat.reduceEqDiff, Nat.reduceBEq, Nat.reduceBNe, Int.reduceToNat, Int.reduceLT, Int.reduceLE, Int.reduceAdd, Int.reduceSub, Int.reduceMul, Int.reduceEq, Int.reduceNe, Int.reduceBEq, Int.reduceBNe, Int.reduceNeg, Nat.reducePow, Int.reducePow, Nat.reduceMod, Nat.reduceDiv, ite_pos', ite_neg', q0, q5, q6, q7, q8, o2, ite_self, hfl, hil]
            rw [sl_take]
            refine PS.app md_22 Try.func22 (p22' hcl.2 hlz hcl.1) (frz2 u1 (.inr rfl)) ?_
            rintro r rfl
            simp -implicitDefEqProofs -dsimp (disch := first | omega | (simp only [List.length_append, List.length_set, List.length_cons, List.length_nil, List.length_map]; omega) | decide +kernel) only [↓wkPre, ↓evC_region, ↓evC_text, ↓evC_cond, ↓evC_block, wkPost, wkF, skp, mkFn, evBuildSlice, fillS, results_tmp, mkTup, mkAgg, PV.flat, flatL, evFieldAddr, evLoad, evStore, evIndexAddr, evAlloc, evBuild, evBuiltin, evLen, lenAV, ldVar, ldArr, stVar, partA, partP, partC, withA, stride, setR, fillA, evConvert, convPV, evMakeSlice, evSlice, bnd, atI, binAV, eqAV, eqNil, leafEq, cellsEq, CfP, reduceIte, if_true, if_false, ite_true, ite_false, reduceCtorEq, ne_eq, eq_self, Nat.reduceAdd, Nat.reduceSub, Nat.reduceMul, Nat.reduceLT, Nat.reduceLeDiff, Nat.reduceEqDiff, Nat.reduceBEq, Nat.reduceBNe, Int.reduceToNat, Int.reduceLT, Int.reduceLE, Int.reduceAdd, Int.reduceSub, Int.reduceMul, Int.reduceEq, Int.reduceNe, Int.reduceBEq, Int.reduceBNe, Int.reduceNeg, Nat.reducePow, Int.reducePow, Nat.reduceMod, Nat.reduceDiv, ite_pos', ite_neg', q0, q5, q6, q7, q8, o2, ite_self, hfl, hil]
            have hkk : ∀ j, j < H0.length → H2[j]? = H0[j]? := fun j hj => (u2 j (by omega) (by omega)).trans (hk1 j hj)
            rcases hk4 with k4 | k4
            · simp -implicitDefEqProofs -dsimp (disch := first | omega | (simp only [List.length_append, List.length_set, List.length_cons, List.length_nil, List.length_map]; omega) | decide +kernel) only [↓wkPre, ↓evC_region, ↓evC_text, ↓evC_cond, ↓evC_block, wkPost, wkF, skp, mkFn, evBuildSlice, fillS, results_tmp, mkTup, mkAgg, PV.flat, flatL, evFieldAddr, evLoad, evStore, evIndexAddr, evAlloc, evBuild, evBuiltin, evLen, lenAV, ldVar, ldArr, stVar, partA, partP, partC, withA, stride, setR, fillA, evConvert, convPV, evMakeSlice, evSlice, bnd, atI, binAV, eqAV, eqNil, leafEq, cellsEq, CfP, reduceIte, if_true, if_false, ite_true, ite_false, reduceCtorEq, ne_eq, eq_self, Nat.reduceAdd, Nat.reduceSub, Nat.reduceMul, Nat.reduceLT, Nat.reduceLeDiff, Nat.reduceEqDiff, Nat.reduceBEq, Nat.reduceBNe, Int.reduceToNat, Int.reduceLT, Int.reduceLE, Int.reduceAdd, Int.reduceSub, Int.reduceMul, Int.reduceEq, Int.reduceNe, Int.reduceBEq, Int.reduceBNe, Int.reduceNeg, Nat.reducePow, Int.reducePow, Nat.reduceMod, Nat.reduceDiv, ite_pos', ite_neg', q0, q5, q6, q7, q8, o2, ite_self, k4]
              generalize hN : (fromL k t.lst).length = N at hfl hcl ⊢
              refine loop_use extMono (fun m e H => ∃ (j : Nat) (t' : Tr), m = t.lst.length - j ∧ N ≤ j ∧ j ≤ t.lst.length ∧ e 0 = .p (.sl 3 (opsP os)) ∧ e 5 = .vptr H0.length 0 ∧ e 6 = .p (.sl 2 (items t.lst)) ∧ e 7 = .p (I i) ∧ e 12 = .p (I j) ∧ H0.length < H.length ∧ H[H0.length]? = some (.var true (.p t'.hd)) ∧ Good t' ∧ t'.lst = t.lst.take j ∧ ∀ i, i < H0.length → H[i]? = H0[i]?) ?_ (t.lst.length - N) _ _ ⟨N, (splitT k t).1, rfl, by omega, by omega, ?_⟩
              · rintro m e H ⟨j, t', rfl, hNj, hj, q0, q5, q6, q7, q12, hH, hb, g', hl', hk⟩
                rcases Nat.lt_or_ge j t.lst.length with h | h
                · have gi' := gi_it h
                  have hlt' : t'.sz = j := by rw [← lst_len, hl']; simp; omega
                  have hwf := w18 H0.length t.lst[j].1 t.lst[j].2 t' _ hb (by omega)
                  simp -implicitDefEqProofs -dsimp (disch := first | omega | (simp only [List.length_append, List.length_set, List.length_cons, List.length_nil, List.length_map]; omega) | decide +kernel) only [↓wkPre, ↓evC_region, ↓evC_text, ↓evC_cond, ↓evC_block, wkPost, wkF, skp, mkFn, evBuildSlice, fillS, results_tmp, mkTup, mkAgg, PV.flat, flatL, evFieldAddr, evLoad, evStore, evIndexAddr, evAlloc, evBuild, evBuiltin, evLen, lenAV, ldVar, ldArr, stVar, partA, partP, partC, withA, stride, setR, fillA, evConvert, convPV, evMakeSlice, evSlice, bnd, atI, binAV, eqAV, eqNil, leafEq, cellsEq, CfP, reduceIte, if_true, if_false, ite_true, ite_false, reduceCtorEq, ne_eq, eq_self, Nat.reduceAdd, Nat.reduceSub, Nat.reduceMul, Nat.reduceLT, Nat.reduceLeDiff, Nat.reduceEqDiff, Nat.reduceBEq, Nat.reduceBNe, Int.reduceToNat, Int.reduceLT, Int.reduceLE, Int.reduceAdd, Int.reduceSub, Int.reduceMul, Int.reduceEq, Int.reduceNe, Int.reduceBEq, Int.reduceBNe, Int.reduceNeg, Nat.reducePow, Int.reducePow, Nat.reduceMod, Nat.reduceDiv, ite_pos', ite_neg', q0, q5, q6, q7, q12, hil, gi', nonNil]
                  refine imp_call md_18 (hwf _ ?_)
                  rintro H3 ⟨x1, x2, x3⟩
                  have pk := putT_ok (k := t.lst[j].1) (v := t.lst[j].2) g'
                  rw [hl', put_next g.srt j h] at pk
                  simp -implicitDefEqProofs -dsimp (disch := first | omega | (simp only [List.length_append, List.length_set, List.length_cons, List.length_nil, List.length_map]; omega) | decide +kernel) only [↓wkPre, ↓evC_region, ↓evC_text, ↓evC_cond, ↓evC_block, wkPost, wkF, skp, mkFn, evBuildSlice, fillS, results_tmp, mkTup, mkAgg, PV.flat, flatL, evFieldAddr, evLoad, evStore, evIndexAddr, evAlloc, evBuild, evBuiltin, evLen, lenAV, ldVar, ldArr, stVar, partA, partP, partC, withA, stride, setR, fillA, evConvert, convPV, evMakeSlice, evSlice, bnd, atI, binAV, eqAV, eqNil, leafEq, cellsEq, CfP, reduceIte, if_true, if_false, ite_true, ite_false, reduceCtorEq, ne_eq, eq_self, Nat.reduceAdd, Nat.reduceSub, Nat.reduceMul, Nat.reduceLT, Nat.reduceLeDiff, Nat.reduceEqDiff, Nat.reduceBEq, Nat.reduceBNe, Int.reduceToNat, Int.reduceLT, Int.reduceLE, Int.reduceAdd, Int.reduceSub, Int.reduceMul, Int.reduceEq, Int.reduceNe, Int.reduceBEq, Int.reduceBNe, Int.reduceNeg, Nat.reducePow, Int.reducePow, Nat.reduceMod, Nat.reduceDiv, ite_pos', ite_neg', q0, q5, q6, q7, q12, hil, gi', nonNil]
                  exact ⟨t.lst.length - (j + 1), by omega, j + 1, _, rfl, by omega, by omega, by push_cast; rfl, by omega, x1, pk.2, pk.1, fun i hi => (x2 i (by omega) (by omega)).trans (hk i hi)⟩
                · have : j = t.lst.length := by omega
                  subst this
                  rw [List.take_length] at hl'
                  simp -implicitDefEqProofs -dsimp (disch := first | omega | (simp only [List.length_append, List.length_set, List.length_cons, List.length_nil, List.length_map]; omega) | decide +kernel) only [↓wkPre, ↓evC_region, ↓evC_text, ↓evC_cond, ↓evC_block, wkPost, wkF, skp, mkFn, evBuildSlice, fillS, results_tmp, mkTup, mkAgg, PV.flat, flatL, evFieldAddr, evLoad, evStore, evIndexAddr, evAlloc, evBuild, evBuiltin, evLen, lenAV, ldVar, ldArr, stVar, partA, partP, partC, withA, stride, setR, fillA, evConvert, convPV, evMakeSlice, evSlice, bnd, atI, binAV, eqAV, eqNil, leafEq, cellsEq, CfP, reduceIte, if_true, if_false, ite_true, ite_false, reduceCtorEq, ne_eq, eq_self, Nat.reduceAdd, Nat.reduceSub, Nat.reduceMul, Nat.reduceLT, Nat.reduceLeDiff, Nat.reduceEqDiff, Nat.reduceBEq, Nat.reduceBNe, Int.reduceToNat, Int.reduceLT, Int.reduceLE, Int.reduceAdd, Int.reduceSub, Int.reduceMul, Int.reduceEq, Int.reduceNe, Int.reduceBEq, Int.reduceBNe, Int.reduceNeg, Nat.reducePow, Int.reducePow, Nat.reduceMod, Nat.reduceDiv, ite_pos', ite_neg', q0, q5, q6, q7, q12, hil]
                  exact ⟨t', _, rfl, hH, hb, g', .inr (by rw [hl']; rfl), by rw [← lst_len, hl', lst_len]; omega, hk⟩
              · simp -implicitDefEqProofs -dsimp (disch := first | omega | (simp only [List.length_append, List.length_set, List.length_cons, List.length_nil, List.length_map]; omega) | decide +kernel) only [↓wkPre, ↓evC_region, ↓evC_text, ↓evC_cond, ↓evC_block, wkPost, wkF, skp, mkFn, evBuildSlice, fillS, results_tmp, mkTup, mkAgg, PV.flat, flatL, evFieldAddr, evLoad, evStore, evIndexAddr, evAlloc, evBuild, evBuiltin, evLen, lenAV, ldVar, ldArr, stVar, partA, partP, partC, withA, stride, setR, fillA, evConvert, convPV, evMakeSlice, evSlice, bnd, atI, binAV, eqAV, eqNil, leafEq, cellsEq, CfP, reduceIte, if_true, if_false, ite_true, ite_false, reduceCtorEq, ne_eq, eq_self, Nat.reduceAdd, Nat.reduceSub, Nat.reduceMul, Nat.reduceLT, Nat.reduceLeDiff, Nat.reduceEqDiff, Nat.reduceBEq, Nat.reduceBNe, Int.reduceToNat, Int.reduceLT, Int.reduceLE, Int.reduceAdd, Int.reduceSub, Int.reduceMul, Int.reduceEq, Int.reduceNe, Int.reduceBEq, Int.reduceBNe, Int.reduceNeg, Nat.reducePow, Int.reducePow, Nat.reduceMod, Nat.reduceDiv, ite_pos', ite_neg', q0, q5, q6, q7]
                exact ⟨by omega, u1, hcl.2, hcl.1, hkk⟩
            · simp -implicitDefEqProofs -dsimp (disch := first | omega | (simp only [List.length_append, List.length_set, List.length_cons, List.length_nil, List.length_map]; omega) | decide +kernel) only [↓wkPre, ↓evC_region, ↓evC_text, ↓evC_cond, ↓evC_block, wkPost, wkF, skp, mkFn, evBuildSlice, fillS, results_tmp, mkTup, mkAgg, PV.flat, flatL, evFieldAddr, evLoad, evStore, evIndexAddr, evAlloc, evBuild, evBuiltin, evLen, lenAV, ldVar, ldArr, stVar, partA, partP, partC, withA, stride, setR, fillA, evConvert, convPV, evMakeSlice, evSlice, bnd, atI, binAV, eqAV, eqNil, leafEq, cellsEq, CfP, reduceIte, if_true, if_false, ite_true, ite_false, reduceCtorEq, ne_eq, eq_self, Nat.reduceAdd, Nat.reduceSub, Nat.reduceMul, Nat.reduceLT, Nat.reduceLeDiff, Nat.reduceEqDiff, Nat.reduceBEq, Nat.reduceBNe, Int.reduceToNat, Int.reduceLT, Int.reduceLE, Int.reduceAdd, Int.reduceSub, Int.reduceMul, Int.reduceEq, Int.reduceNe, Int.reduceBEq, Int.reduceBNe, Int.reduceNeg, Nat.reducePow, Int.reducePow, Nat.reduceMod, Nat.reduceDiv, ite_pos', ite_neg', q0, q5, q6, q7, q8, o2, ite_self, hfl, hil, k4]
              rw [sl_take]
              exact ⟨_, _, rfl, by omega, u1, hcl.2, .inr (by rw [hcl.1]; rfl), by rw [← lst_len, hcl.1]; simp; omega, hkk⟩
      · rintro e H2 ⟨t', v', e0, e5, e6, e7, hH, hb, g, mv, hz, hk⟩
        simp -implicitDefEqProofs -dsimp (disch := first | omega | (simp only [List.length_append, List.length_set, List.length_cons, List.length_nil, List.length_map]; omega) | decide +kernel) only [↓wkPre, ↓evC_region, ↓evC_text, ↓evC_cond, ↓evC_block, wkPost, wkF, skp, mkFn, evBuildSlice, fillS, results_tmp, mkTup, mkAgg, PV.flat, flatL, evFieldAddr, evLoad, evStore, evIndexAddr, evAlloc, evBuild, evBuiltin, evLen, lenAV, ldVar, ldArr, stVar, partA, partP, partC, withA, stride, setR, fillA, evConvert, convPV, evMakeSlice, evSlice, bnd, atI, binAV, eqAV, eqNil, leafEq, cellsEq, CfP, reduceIte, if_true, if_false, ite_true, ite_false, reduceCtorEq, ne_eq, eq_self, Nat.reduceAdd, Nat.reduceSub, Nat.reduceMul, Nat.reduceLT, Nat.reduceLeDiff, Nat.reduceEqDiff, Nat.reduceBEq, Nat.reduceBNe, Int.reduceToNat, Int.reduceLT, Int.reduceLE, Int.reduceAdd, Int.reduceSub, Int.reduceMul, Int.reduceEq, Int.reduceNe, Int.reduceBEq, Int.reduceBNe, Int.reduceNeg, Nat.reducePow, Int.reducePow, Nat.reduceMod, Nat.reduceDiv, ite_pos', ite_neg', e0, e5, e6, e7]
        refine PS.app md_22 Try.func22 (p22' g (by omega) rfl) (frz2 hb mv) ?_
        rintro r rfl
        simp -implicitDefEqProofs -dsimp (disch := first | omega | (simp only [List.length_append, List.length_set, List.length_cons, List.length_nil, List.length_map]; omega) | decide +kernel) only [↓wkPre, ↓evC_region, ↓evC_text, ↓evC_cond, ↓evC_block, wkPost, wkF, skp, mkFn, evBuildSlice, fillS, results_tmp, mkTup, mkAgg, PV.flat, flatL, evFieldAddr, evLoad, evStore, evIndexAddr, evAlloc, evBuild, evBuiltin, evLen, lenAV, ldVar, ldArr, stVar, partA, partP, partC, withA, stride, setR, fillA, evConvert, convPV, evMakeSlice, evSlice, bnd, atI, binAV, eqAV, eqNil, leafEq, cellsEq, CfP, reduceIte, if_true, if_false, ite_true, ite_false, reduceCtorEq, ne_eq, eq_self, Nat.reduceAdd, Nat.reduceSub, Nat.reduceMul, Nat.reduceLT, Nat.reduceLeDiff, Nat.reduceEqDiff, Nat.reduceBEq, Nat.reduceBNe, Int.reduceToNat, Int.reduceLT, Int.reduceLE, Int.reduceAdd, Int.reduceSub, Int.reduceMul, Int.reduceEq, Int.reduceNe, Int.reduceBEq, Int.reduceBNe, Int.reduceNeg, Nat.reducePow, Int.reducePow, Nat.reduceMod, Nat.reduceDiv, ite_pos', ite_neg', e0, e5, e6, e7]
        exact ⟨os.length - (i + 1), by omega, i + 1, t', v', rfl, by omega, rfl, by push_cast; rfl, hH, hb, g, mv, hz, hk⟩
    · have : i = os.length := by omega
      subst this
      simp -implicitDefEqProofs -dsimp (disch := first | omega | (simp only [List.length_append, List.length_set, List.length_cons, List.length_nil, List.length_map]; omega) | decide +kernel) only [↓wkPre, ↓evC_region, ↓evC_text, ↓evC_cond, ↓evC_block, wkPost, wkF, skp, mkFn, evBuildSlice, fillS, results_tmp, mkTup, mkAgg, PV.flat, flatL, evFieldAddr, evLoad, evStore, evIndexAddr, evAlloc, evBuild, evBuiltin, evLen, lenAV, ldVar, ldArr, stVar, partA, partP, partC, withA, stride, setR, fillA, evConvert, convPV, evMakeSlice, evSlice, bnd, atI, binAV, eqAV, eqNil, leafEq, cellsEq, CfP, reduceIte, if_true, if_false, ite_true, ite_false, reduceCtorEq, ne_eq, eq_self, Nat.reduceAdd, Nat.reduceSub, Nat.reduceMul, Nat.reduceLT, Nat.reduceLeDiff, Nat.reduceEqDiff, Nat.reduceBEq, Nat.reduceBNe, Int.reduceToNat, Int.reduceLT, Int.reduceLE, Int.reduceAdd, Int.reduceSub, Int.reduceMul, Int.reduceEq, Int.reduceNe, Int.reduceBEq, Int.reduceBNe, Int.reduceNeg, Nat.reducePow, Int.reducePow, Nat.reduceMod, Nat.reduceDiv, ite_pos', ite_neg', e0, e5, e6, e7, hol]
      exact hq _ _ ⟨t, v, H0.length, rfl, by omega, hH, hb, g, mv, hz, hk⟩
  · simp -implicitDefEqProofs -dsimp (disch := first | omega | (simp only [List.length_append, List.length_set, List.length_cons, List.length_nil, List.length_map]; omega) | decide +kernel) only [↓wkPre, ↓evC_region, ↓evC_text, ↓evC_cond, ↓evC_block, wkPost, wkF, skp, mkFn, evBuildSlice, fillS, results_tmp, mkTup, mkAgg, PV.flat, flatL, evFieldAddr, evLoad, evStore, evIndexAddr, evAlloc, evBuild, evBuiltin, evLen, lenAV, ldVar, ldArr, stVar, partA, partP, partC, withA, stride, setR, fillA, evConvert, convPV, evMakeSlice, evSlice, bnd, atI, binAV, eqAV, eqNil, leafEq, cellsEq, CfP, reduceIte, if_true, if_false, ite_true, ite_false, reduceCtorEq, ne_eq, eq_self, Nat.reduceAdd, Nat.reduceSub, Nat.reduceMul, Nat.reduceLT, Nat.reduceLeDiff, Nat.reduceEqDiff, Nat.reduceBEq, Nat.reduceBNe, Int.reduceToNat, Int.reduceLT, Int.reduceLE, Int.reduceAdd, Int.reduceSub, Int.reduceMul, Int.reduceEq, Int.reduceNe, Int.reduceBEq, Int.reduceBNe, Int.reduceNeg, Nat.reducePow, Int.reducePow, Nat.reduceMod, Nat.reduceDiv, ite_pos', ite_neg']
    exact ⟨rfl, h3, h1, trivial, .inl ⟨rfl, rfl⟩, by simp [Tr.sz], h2⟩
end Go.Ev.F31
end
