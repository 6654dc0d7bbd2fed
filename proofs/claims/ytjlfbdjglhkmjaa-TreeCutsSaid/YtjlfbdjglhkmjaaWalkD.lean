/- A part of the proof: walks of the functions that the law calls. No condition. -/
import Derived.Test.YtjlfbdjglhkmjaaWalkC
set_option linter.all false
section
namespace Go.Ev.F31
open Go.Proofs Go.Ev
set_option maxRecDepth 100000
set_option linter.all false
def shT : Tr → List Int
  | .nil => []
  | .node k _ l r => k :: (shT l ++ shT r)
def ints (l : List Int) : List PV := l.map I
theorem shT_len : ∀ t : Tr, (shT t).length = t.sz
  | .nil => rfl
  | .node k v l r => by simp only [shT, Tr.sz, List.length_cons, List.length_append, shT_len l, shT_len r]; omega
theorem append_any {P : Program} {t e : TypeId} {sh : Nat} (ht : telem P t = some (e, sh)) {H : Heap} {v x : AV} {xs ys : List PV} {k : AV → Heap → Prop} {tg : Tag k} (hx : elems H sh x = some ys)
    (h : OwnS H v sh xs) (hsz : (xs.length + ys.length) * P.bytesOf e ≤ 2 ^ 46 ∧ xs.length + ys.length ≤ 2 ^ 46)
    (hk : ∀ v' H', OwnS H' v' sh (xs ++ ys) → (∀ c, c < H.length → v.blk ≠ some c → H'[c]? = H[c]?) → H.length ≤ H'.length → (∀ c, v'.blk = some c → c < H.length → v.blk = some c) → k v' H') :
    oK2 (evAppend P t v x H) k tg := by
  by_cases hy : ys = []
  · subst hy
    unfold evAppend
    rw [ht]
    simp only [Option.bind_some, hx]
    rcases h with ⟨rfl, rfl⟩ | ⟨b, g, rfl, hb⟩
    · simp only [List.length_nil, Nat.zero_add] at hsz ⊢
      rw [if_pos hsz]
      exact hk _ _ (OwnS.nil _ _) (fun c _ _ => rfl) (Nat.le_refl _) (fun c hc => by cases hc)
    · have hlt := (List.getElem?_eq_some_iff.1 hb).1
      simp only [hb]
      rw [if_pos ⟨trivial, trivial, by omega⟩, if_pos hsz, if_pos ⟨trivial, by omega⟩]
      refine hk _ _ (.inr ⟨b, g + 1, by simp, by simp [hlt]⟩) (fun c hc hne => ?_) (by simp) (fun c hc _ => hc)
      have : b ≠ c := fun e => hne (by rw [e]; rfl)
      rw [List.getElem?_set_ne this]
  · exact append_step ht hx hy h hsz hk
/-- What the walk over a tree keeps. -/
def ShJ (n0 c d : Nat) (H0 : Heap) (acc : List Int) (H : Heap) : Prop :=
  ∃ v : AV, H[c]? = some (.var true v) ∧ OwnS H v 0 (ints acc) ∧ H[d]? = some (.var true (.fn 51 [.vptr c 0, .vptr d 0])) ∧ (∀ b, v.blk = some b → n0 ≤ b ∧ b ≠ c ∧ b ≠ d) ∧ (∀ i, i < n0 → H[i]? = H0[i]?) ∧ n0 ≤ H.length
theorem own_shape {H : Heap} {v : AV} {sh : Nat} {xs : List PV} (h : OwnS H v sh xs) : v.shape = 0 ∧ v.isU = false ∧ v.stor = true := by
  rcases h with ⟨rfl, _⟩ | ⟨b, g, rfl, _⟩ <;> exact ⟨rfl, rfl, rfl⟩
theorem w51 (n0 c d : Nat) (H0 : Heap) (hcd : c ≠ d) (hc0 : n0 ≤ c) (hd0 : n0 ≤ d) : ∀ (t : Tr) (acc : List Int) (H : Heap) (Q : AV → Heap → Prop), ShJ n0 c d H0 acc H → acc.length + t.sz ≤ 1000000 →
    (∀ H', ShJ n0 c d H0 (acc ++ shT t) H' → Q (.p (.tup [])) H') → (W Cf okf).call 51 [.p t.tv, .vptr c 0, .vptr d 0] H Q
  | .nil, acc, H, Q, hj, hz, hq => by
    refine top_mk extMono Try.func51 body51 (by decide) rfl ?_
    simp only [c51, Try.f51, Option.getD_some]
    simp -implicitDefEqProofs -dsimp (disch := first | omega | (simp only [List.length_append, List.length_set, List.length_cons, List.length_nil, List.length_map]; omega) | decide +kernel) only [↓wkPre, ↓evC_region, ↓evC_text, ↓evC_cond, ↓evC_block, wkPost, wkF, skp, mkFn, evBuildSlice, fillS, results_tmp, mkTup, mkAgg, PV.flat, flatL, evFieldAddr, evLoad, evStore, evIndexAddr, evAlloc, evBuild, evBuiltin, evLen, lenAV, ldVar, ldArr, stVar, partA, partP, partC, withA, stride, setR, fillA, evConvert, convPV, evMakeSlice, evSlice, bnd, atI, binAV, eqAV, eqNil, leafEq, cellsEq, CfP, reduceIte, if_true, if_false, ite_true, ite_false, reduceCtorEq, ne_eq, eq_self, Nat.reduceAdd, Nat.reduceSub, Nat.reduceMul, Nat.reduceLT, Nat.reduceLeDiff, Nat.reduceEqDiff, Nat.reduceBEq, Nat.reduceBNe, Int.reduceToNat, Int.reduceLT, Int.reduceLE, Int.reduceAdd, Int.reduceSub, Int.reduceMul, Int.reduceEq, Int.reduceNe, Int.reduceBEq, Int.reduceBNe, Int.reduceNeg, Nat.reducePow, Int.reducePow, Nat.reduceMod, Nat.reduceDiv, ite_pos', ite_neg', tv_nil]
    exact hq _ (by simpa [shT] using hj)
  | .node k v l r, acc, H, Q, hj, hz, hq => by
    obtain ⟨w, h1, h2, h3, h4, h5, h6⟩ := hj
    obtain ⟨s1, s2, s3⟩ := own_shape h2
    have hcl : c < H.length := (List.getElem?_eq_some_iff.1 h1).1
    have hdl : d < H.length := (List.getElem?_eq_some_iff.1 h3).1
    simp only [Tr.sz] at hz
    refine top_mk extMono Try.func51 body51 (by decide) rfl ?_
    simp only [c51, Try.f51, Option.getD_some]
    simp -implicitDefEqProofs -dsimp (disch := first | omega | (simp only [List.length_append, List.length_set, List.length_cons, List.length_nil, List.length_map]; omega) | decide +kernel) only [↓wkPre, ↓evC_region_st [1], ↓evC_text_st [1], ↓evC_cond, ↓evC_block, ↓evC_stop [1], wkPost, wkF, skp, mkFn, evBuildSlice, fillS, results_tmp, mkTup, mkAgg, PV.flat, flatL, evFieldAddr, evLoad, evStore, evIndexAddr, evAlloc, evBuild, evBuiltin, evLen, lenAV, ldVar, ldArr, stVar, partA, partP, partC, withA, stride, setR, fillA, evConvert, convPV, evMakeSlice, evSlice, bnd, atI, binAV, eqAV, eqNil, leafEq, cellsEq, CfP, reduceIte, if_true, if_false, ite_true, ite_false, reduceCtorEq, ne_eq, eq_self, Nat.reduceAdd, Nat.reduceSub, Nat.reduceMul, Nat.reduceLT, Nat.reduceLeDiff, Nat.reduceEqDiff, Nat.reduceBEq, Nat.reduceBNe, Int.reduceToNat, Int.reduceLT, Int.reduceLE, Int.reduceAdd, Int.reduceSub, Int.reduceMul, Int.reduceEq, Int.reduceNe, Int.reduceBEq, Int.reduceBNe, Int.reduceNeg, Nat.reducePow, Int.reducePow, Nat.reduceMod, Nat.reduceDiv, ite_pos', ite_neg', tv_node]
    refine stop_cut extMono (fun e' H' => e' 0 = .p (Tr.tv (.node k v l r)) ∧ e' 1 = .vptr c 0 ∧ e' 2 = .vptr d 0 ∧ ShJ n0 c d H0 (acc ++ [k]) H') ?_ ?_
    · refine evC_pl pl_51_1 (by kernel_rfl) (by decide +kernel) ?_
      simp only [pl_51_1]
      simp -implicitDefEqProofs -dsimp (disch := first | omega | (simp only [List.length_append, List.length_set, List.length_cons, List.length_nil, List.length_map]; omega) | decide +kernel) only [↓wkPre, ↓evC_region, ↓evC_text, ↓evC_cond, ↓evC_block, wkPost, wkF, skp, mkFn, evBuildSlice, fillS, results_tmp, mkTup, mkAgg, PV.flat, flatL, evFieldAddr, evLoad, evStore, evIndexAddr, evAlloc, evBuild, evBuiltin, evLen, lenAV, ldVar, ldArr, stVar, partA, partP, partC, withA, stride, setR, fillA, evConvert, convPV, evMakeSlice, evSlice, bnd, atI, binAV, eqAV, eqNil, leafEq, cellsEq, CfP, reduceIte, if_true, if_false, ite_true, ite_false, reduceCtorEq, ne_eq, eq_self, Nat.reduceAdd, Nat.reduceSub, Nat.reduceMul, Nat.reduceLT, Nat.reduceLeDiff, Nat.reduceEqDiff, Nat.reduceBEq, Nat.reduceBNe, Int.reduceToNat, Int.reduceLT, Int.reduceLE, Int.reduceAdd, Int.reduceSub, Int.reduceMul, Int.reduceEq, Int.reduceNe, Int.reduceBEq, Int.reduceBNe, Int.reduceNeg, Nat.reducePow, Int.reducePow, Nat.reduceMod, Nat.reduceDiv, ite_pos', ite_neg', tv_node, nonNil, h1, s1, s2, s3]
      refine append_any telem_46 (elems_new rfl rfl) (h2.app _) ?_ ?_
      · simp [ints, byt_3]; omega
      intro w' H' hown hfr hle hb'
      simp only [List.length_append, List.length_cons, List.length_nil] at hle hb' hfr
      have wc : w.blk ≠ some c := fun h => (h4 c h).2.1 rfl
      have wd : w.blk ≠ some d := fun h => (h4 d h).2.2 rfl
      have q1 := hfr c (by omega) wc
      rw [hs_app hcl, h1] at q1
      have q2 := hfr d (by omega) wd
      rw [hs_app hdl, h3] at q2
      obtain ⟨u1, u2, u3⟩ := own_shape hown
      have hcl' : c < H'.length := by omega
      have hb2 : ∀ b, w'.blk = some b → n0 ≤ b ∧ b ≠ c ∧ b ≠ d := fun b h => by
        by_cases hb : b < H.length + 1
        · exact h4 b (hb' b h hb)
        · omega
      simp -implicitDefEqProofs -dsimp (disch := first | omega | (simp only [List.length_append, List.length_set, List.length_cons, List.length_nil, List.length_map]; omega) | decide +kernel) only [↓wkPre, ↓evC_region, ↓evC_text, ↓evC_cond, ↓evC_block, wkPost, wkF, skp, mkFn, evBuildSlice, fillS, results_tmp, mkTup, mkAgg, PV.flat, flatL, evFieldAddr, evLoad, evStore, evIndexAddr, evAlloc, evBuild, evBuiltin, evLen, lenAV, ldVar, ldArr, stVar, partA, partP, partC, withA, stride, setR, fillA, evConvert, convPV, evMakeSlice, evSlice, bnd, atI, binAV, eqAV, eqNil, leafEq, cellsEq, CfP, reduceIte, if_true, if_false, ite_true, ite_false, reduceCtorEq, ne_eq, eq_self, Nat.reduceAdd, Nat.reduceSub, Nat.reduceMul, Nat.reduceLT, Nat.reduceLeDiff, Nat.reduceEqDiff, Nat.reduceBEq, Nat.reduceBNe, Int.reduceToNat, Int.reduceLT, Int.reduceLE, Int.reduceAdd, Int.reduceSub, Int.reduceMul, Int.reduceEq, Int.reduceNe, Int.reduceBEq, Int.reduceBNe, Int.reduceNeg, Nat.reducePow, Int.reducePow, Nat.reduceMod, Nat.reduceDiv, ite_pos', ite_neg', tv_node, nonNil, q1, u1, u2, u3, s1, s2, s3]
      refine ⟨w', hs_set hcl', ?_, (hs_ne hcd).trans q2, hb2, fun i hi => ?_, by simp; omega⟩
      · have := hown.set (i := c) (x := .var true w') (fun h => (hb2 c h).2.1 rfl)
        simpa [ints] using this
      · rw [hs_ne (by omega), hfr i (by omega) (fun h => by have := h4 i h; omega), hs_app (by omega)]
        exact h5 i hi
    rintro e2 H2 ⟨e0, e1, e2', hj2⟩
    have h3' := hj2
    obtain ⟨_, _, _, h3', _⟩ := h3'
    simp -implicitDefEqProofs -dsimp (disch := first | omega | (simp only [List.length_append, List.length_set, List.length_cons, List.length_nil, List.length_map]; omega) | decide +kernel) only [↓wkPre, ↓evC_region, ↓evC_text, ↓evC_cond, ↓evC_block, wkPost, wkF, skp, mkFn, evBuildSlice, fillS, results_tmp, mkTup, mkAgg, PV.flat, flatL, evFieldAddr, evLoad, evStore, evIndexAddr, evAlloc, evBuild, evBuiltin, evLen, lenAV, ldVar, ldArr, stVar, partA, partP, partC, withA, stride, setR, fillA, evConvert, convPV, evMakeSlice, evSlice, bnd, atI, binAV, eqAV, eqNil, leafEq, cellsEq, CfP, reduceIte, if_true, if_false, ite_true, ite_false, reduceCtorEq, ne_eq, eq_self, Nat.reduceAdd, Nat.reduceSub, Nat.reduceMul, Nat.reduceLT, Nat.reduceLeDiff, Nat.reduceEqDiff, Nat.reduceBEq, Nat.reduceBNe, Int.reduceToNat, Int.reduceLT, Int.reduceLE, Int.reduceAdd, Int.reduceSub, Int.reduceMul, Int.reduceEq, Int.reduceNe, Int.reduceBEq, Int.reduceBNe, Int.reduceNeg, Nat.reducePow, Int.reducePow, Nat.reduceMod, Nat.reduceDiv, ite_pos', ite_neg', e0, e1, e2', h3', tv_node, nonNil]
    refine imp_call md_51 (w51 n0 c d H0 hcd hc0 hd0 l (acc ++ [k]) _ _ hj2 (by simp; omega) ?_)
    rintro H3 hj3
    have h3'' := hj3
    obtain ⟨_, _, _, h3'', _⟩ := h3''
    simp -implicitDefEqProofs -dsimp (disch := first | omega | (simp only [List.length_append, List.length_set, List.length_cons, List.length_nil, List.length_map]; omega) | decide +kernel) only [↓wkPre, ↓evC_region, ↓evC_text, ↓evC_cond, ↓evC_block, wkPost, wkF, skp, mkFn, evBuildSlice, fillS, results_tmp, mkTup, mkAgg, PV.flat, flatL, evFieldAddr, evLoad, evStore, evIndexAddr, evAlloc, evBuild, evBuiltin, evLen, lenAV, ldVar, ldArr, stVar, partA, partP, partC, withA, stride, setR, fillA, evConvert, convPV, evMakeSlice, evSlice, bnd, atI, binAV, eqAV, eqNil, leafEq, cellsEq, CfP, reduceIte, if_true, if_false, ite_true, ite_false, reduceCtorEq, ne_eq, eq_self, Nat.reduceAdd, Nat.reduceSub, Nat.reduceMul, Nat.reduceLT, Nat.reduceLeDiff, Nat.reduceEqDiff, Nat.reduceBEq, Nat.reduceBNe, Int.reduceToNat, Int.reduceLT, Int.reduceLE, Int.reduceAdd, Int.reduceSub, Int.reduceMul, Int.reduceEq, Int.reduceNe, Int.reduceBEq, Int.reduceBNe, Int.reduceNeg, Nat.reducePow, Int.reducePow, Nat.reduceMod, Nat.reduceDiv, ite_pos', ite_neg', e0, e1, e2', h3'', tv_node, nonNil]
    refine imp_call md_51 (w51 n0 c d H0 hcd hc0 hd0 r (acc ++ [k] ++ shT l) _ _ hj3 (by simp [shT_len]; omega) ?_)
    rintro H4 hj4
    simp -implicitDefEqProofs -dsimp (disch := first | omega | (simp only [List.length_append, List.length_set, List.length_cons, List.length_nil, List.length_map]; omega) | decide +kernel) only [↓wkPre, ↓evC_region, ↓evC_text, ↓evC_cond, ↓evC_block, wkPost, wkF, skp, mkFn, evBuildSlice, fillS, results_tmp, mkTup, mkAgg, PV.flat, flatL, evFieldAddr, evLoad, evStore, evIndexAddr, evAlloc, evBuild, evBuiltin, evLen, lenAV, ldVar, ldArr, stVar, partA, partP, partC, withA, stride, setR, fillA, evConvert, convPV, evMakeSlice, evSlice, bnd, atI, binAV, eqAV, eqNil, leafEq, cellsEq, CfP, reduceIte, if_true, if_false, ite_true, ite_false, reduceCtorEq, ne_eq, eq_self, Nat.reduceAdd, Nat.reduceSub, Nat.reduceMul, Nat.reduceLT, Nat.reduceLeDiff, Nat.reduceEqDiff, Nat.reduceBEq, Nat.reduceBNe, Int.reduceToNat, Int.reduceLT, Int.reduceLE, Int.reduceAdd, Int.reduceSub, Int.reduceMul, Int.reduceEq, Int.reduceNe, Int.reduceBEq, Int.reduceBNe, Int.reduceNeg, Nat.reducePow, Int.reducePow, Nat.reduceMod, Nat.reduceDiv, ite_pos', ite_neg']
    exact hq _ (by simpa [shT] using hj4)
theorem w19 (b : Nat) (t : Tr) (H : Heap) (lv : Bool) (hb : H[b]? = some (.var lv (.p t.hd))) (hz : t.sz ≤ 1000000) (Q : AV → Heap → Prop)
    (hq : ∀ v H', OwnS H' v 0 (ints (shT t)) → (∀ c, v.blk = some c → H.length ≤ c) → (∀ i, i < H.length → H'[i]? = H[i]?) → H.length ≤ H'.length → Q v H') : (W Cf okf).call 19 [.vptr b 0] H Q := by
  refine top_mk extMono Try.func19 body19 (by decide) rfl ?_
  simp only [c19, Try.f19, Option.getD_some]
  have hbl : b < H.length := (List.getElem?_eq_some_iff.1 hb).1
  rw [hd_eq] at hb
  simp -implicitDefEqProofs -dsimp (disch := first | omega | (simp only [List.length_append, List.length_set, List.length_cons, List.length_nil, List.length_map]; omega) | decide +kernel) only [↓wkPre, ↓evC_region, ↓evC_text, ↓evC_cond, ↓evC_block, wkPost, wkF, skp, mkFn, evBuildSlice, fillS, results_tmp, mkTup, mkAgg, PV.flat, flatL, evFieldAddr, evLoad, evStore, evIndexAddr, evAlloc, evBuild, evBuiltin, evLen, lenAV, ldVar, ldArr, stVar, partA, partP, partC, withA, stride, setR, fillA, evConvert, convPV, evMakeSlice, evSlice, bnd, atI, binAV, eqAV, eqNil, leafEq, cellsEq, CfP, reduceIte, if_true, if_false, ite_true, ite_false, reduceCtorEq, ne_eq, eq_self, Nat.reduceAdd, Nat.reduceSub, Nat.reduceMul, Nat.reduceLT, Nat.reduceLeDiff, Nat.reduceEqDiff, Nat.reduceBEq, Nat.reduceBNe, Int.reduceToNat, Int.reduceLT, Int.reduceLE, Int.reduceAdd, Int.reduceSub, Int.reduceMul, Int.reduceEq, Int.reduceNe, Int.reduceBEq, Int.reduceBNe, Int.reduceNeg, Nat.reducePow, Int.reducePow, Nat.reduceMod, Nat.reduceDiv, ite_pos', ite_neg', hb, nonNil, ite_self, ↓tvA_shape, ↓tvA_stor, ↓tvA_cells, ↓tvP_shape, ↓tvP_cells, ↓tvP_stor]
  refine imp_call md_51 (w51 H.length H.length (H.length + 1) H (by omega) (by omega) (by omega) t [] _ _ ?_ (by simpa using hz) ?_)
  · refine ⟨.nsl, by simp, OwnS.nil _ _, by simp, (fun b h => by cases h), fun i hi => ?_, by simp⟩
    rw [hs_app hi]
  · rintro H' ⟨w, h1, h2, h3, h4, h5, h6⟩
    obtain ⟨s1, s2, s3⟩ := own_shape h2
    simp -implicitDefEqProofs -dsimp (disch := first | omega | (simp only [List.length_append, List.length_set, List.length_cons, List.length_nil, List.length_map]; omega) | decide +kernel) only [↓wkPre, ↓evC_region, ↓evC_text, ↓evC_cond, ↓evC_block, wkPost, wkF, skp, mkFn, evBuildSlice, fillS, results_tmp, mkTup, mkAgg, PV.flat, flatL, evFieldAddr, evLoad, evStore, evIndexAddr, evAlloc, evBuild, evBuiltin, evLen, lenAV, ldVar, ldArr, stVar, partA, partP, partC, withA, stride, setR, fillA, evConvert, convPV, evMakeSlice, evSlice, bnd, atI, binAV, eqAV, eqNil, leafEq, cellsEq, CfP, reduceIte, if_true, if_false, ite_true, ite_false, reduceCtorEq, ne_eq, eq_self, Nat.reduceAdd, Nat.reduceSub, Nat.reduceMul, Nat.reduceLT, Nat.reduceLeDiff, Nat.reduceEqDiff, Nat.reduceBEq, Nat.reduceBNe, Int.reduceToNat, Int.reduceLT, Int.reduceLE, Int.reduceAdd, Int.reduceSub, Int.reduceMul, Int.reduceEq, Int.reduceNe, Int.reduceBEq, Int.reduceBNe, Int.reduceNeg, Nat.reducePow, Int.reducePow, Nat.reduceMod, Nat.reduceDiv, ite_pos', ite_neg', h1, s1, s2, s3]
    exact hq _ _ (by simpa using h2) (fun c hc => (h4 c hc).1) h5 h6
theorem sl_its (l : List (Int × Int)) : its l = .sl 2 (items l) := rfl
theorem p20 : ∀ (t : Tr), Good t → t.sz ≤ 1000 → PS Cf okf 20 [46] [its t.lst] (fun r => r = .sl 0 (ints (shT t)))
  | .nil, _, _ => by
    refine PS.mk extMono Try.func20 body20 (by decide) rfl ?_
    simp only [c20, Try.f20, Option.getD_some]
    simp -implicitDefEqProofs -dsimp (disch := first | omega | (simp only [List.length_append, List.length_set, List.length_cons, List.length_nil, List.length_map]; omega) | decide +kernel) only [↓wkPre, ↓evC_region, ↓evC_text, ↓evC_cond, ↓evC_block, wkPost, wkF, skp, mkFn, evBuildSlice, fillS, results_tmp, mkTup, mkAgg, PV.flat, flatL, evFieldAddr, evLoad, evStore, evIndexAddr, evAlloc, evBuild, evBuiltin, evLen, lenAV, ldVar, ldArr, stVar, partA, partP, partC, withA, stride, setR, fillA, evConvert, convPV, evMakeSlice, evSlice, bnd, atI, binAV, eqAV, eqNil, leafEq, cellsEq, CfP, reduceIte, if_true, if_false, ite_true, ite_false, reduceCtorEq, ne_eq, eq_self, Nat.reduceAdd, Nat.reduceSub, Nat.reduceMul, Nat.reduceLT, Nat.reduceLeDiff, Nat.reduceEqDiff, Nat.reduceBEq, Nat.reduceBNe, Int.reduceToNat, Int.reduceLT, Int.reduceLE, Int.reduceAdd, Int.reduceSub, Int.reduceMul, Int.reduceEq, Int.reduceNe, Int.reduceBEq, Int.reduceBNe, Int.reduceNeg, Nat.reducePow, Int.reducePow, Nat.reduceMod, Nat.reduceDiv, ite_pos', ite_neg', sl_its, Tr.lst, items]
    rfl
  | .node k v l r, g, hz => by
    refine PS.mk extMono Try.func20 body20 (by decide) rfl ?_
    simp only [c20, Try.f20, Option.getD_some]
    have g' := g
    obtain ⟨g1, g2, g3, g4⟩ := g'
    simp only [Tr.sz] at hz
    have hll := lst_len l
    have hlr := lst_len r
    have hL : (Tr.lst (.node k v l r)) = l.lst ++ (k, v) :: r.lst := rfl
    generalize hLL : Tr.lst (.node k v l r) = L at hL ⊢
    have hlen : L.length = l.sz + (r.sz + 1) := by rw [hL]; simp [hll, hlr]
    have hil := items_len L
    have hk : L[l.sz]? = some (k, v) := by rw [hL, List.getElem?_append_right (by omega)]; simp [hll]
    simp -implicitDefEqProofs -dsimp (disch := first | omega | (simp only [List.length_append, List.length_set, List.length_cons, List.length_nil, List.length_map]; omega) | decide +kernel) only [↓wkPre, ↓evC_region, ↓evC_text, ↓evC_cond, ↓evC_block, wkPost, wkF, skp, mkFn, evBuildSlice, fillS, results_tmp, mkTup, mkAgg, PV.flat, flatL, evFieldAddr, evLoad, evStore, evIndexAddr, evAlloc, evBuild, evBuiltin, evLen, lenAV, ldVar, ldArr, stVar, partA, partP, partC, withA, stride, setR, fillA, evConvert, convPV, evMakeSlice, evSlice, bnd, atI, binAV, eqAV, eqNil, leafEq, cellsEq, CfP, reduceIte, if_true, if_false, ite_true, ite_false, reduceCtorEq, ne_eq, eq_self, Nat.reduceAdd, Nat.reduceSub, Nat.reduceMul, Nat.reduceLT, Nat.reduceLeDiff, Nat.reduceEqDiff, Nat.reduceBEq, Nat.reduceBNe, Int.reduceToNat, Int.reduceLT, Int.reduceLE, Int.reduceAdd, Int.reduceSub, Int.reduceMul, Int.reduceEq, Int.reduceNe, Int.reduceBEq, Int.reduceBNe, Int.reduceNeg, Nat.reducePow, Int.reducePow, Nat.reduceMod, Nat.reduceDiv, ite_pos', ite_neg', sl_its]
    refine loop_use extMono (fun m e H => ∃ (i b : Nat) (q : Int × Int), m = L.length - i ∧ 1 ≤ i ∧ i ≤ L.length ∧ b < i ∧ e 0 = .p (.sl 2 (items L)) ∧ e 3 = .p (I b) ∧ e 4 = .p (I i) ∧ H = [] ∧ L[b]? = some q ∧ (∀ (j : Nat) x, j < i → L[j]? = some x → rk x.1 ≤ rk q.1) ∧ (∀ (j : Nat) x, j < b → L[j]? = some x → rk x.1 < rk q.1)) ?_ (L.length - 1) _ _ ?_
    · rintro m e H ⟨i, b, q, rfl, hi1, hi, hbi, e0, e3, e4, rfl, hq, ha, hb⟩
      have gq : (items L)[b]? = some (it q) := by simp [items, hq]
      rw [it] at gq
      rcases Nat.lt_or_ge i L.length with h | h
      · have hx : L[i]? = some L[i] := by simp [h]
        generalize L[i] = x at hx
        have gx : (items L)[i]? = some (it x) := by simp [items, hx]
        rw [it] at gx
        simp -implicitDefEqProofs -dsimp (disch := first | omega | (simp only [List.length_append, List.length_set, List.length_cons, List.length_nil, List.length_map]; omega) | decide +kernel) only [↓wkPre, ↓evC_region_st [7], ↓evC_text_st [7], ↓evC_cond, ↓evC_block, ↓evC_stop [7], wkPost, wkF, skp, mkFn, evBuildSlice, fillS, results_tmp, mkTup, mkAgg, PV.flat, flatL, evFieldAddr, evLoad, evStore, evIndexAddr, evAlloc, evBuild, evBuiltin, evLen, lenAV, ldVar, ldArr, stVar, partA, partP, partC, withA, stride, setR, fillA, evConvert, convPV, evMakeSlice, evSlice, bnd, atI, binAV, eqAV, eqNil, leafEq, cellsEq, CfP, reduceIte, if_true, if_false, ite_true, ite_false, reduceCtorEq, ne_eq, eq_self, Nat.reduceAdd, Nat.reduceSub, Nat.reduceMul, Nat.reduceLT, Nat.reduceLeDiff, Nat.reduceEqDiff, Nat.reduceBEq, Nat.reduceBNe, Int.reduceToNat, Int.reduceLT, Int.reduceLE, Int.reduceAdd, Int.reduceSub, Int.reduceMul, Int.reduceEq, Int.reduceNe, Int.reduceBEq, Int.reduceBNe, Int.reduceNeg, Nat.reducePow, Int.reducePow, Nat.reduceMod, Nat.reduceDiv, ite_pos', ite_neg', e0, e3, e4, hil]
        refine stop_cut extMono (fun e' H' => H' = [] ∧ e' 0 = .p (.sl 2 (items L)) ∧ e' 3 = .p (I b) ∧ e' 4 = .p (I i) ∧ e' 27 = .p (B (decide (rk q.1 < rk x.1)))) ?_ ?_
        · refine evC_pl pl_20_7 (by kernel_rfl) (by decide +kernel) ?_
          simp only [pl_20_7]
          simp -implicitDefEqProofs -dsimp (disch := first | omega | (simp only [List.length_append, List.length_set, List.length_cons, List.length_nil, List.length_map]; omega) | decide +kernel) only [↓wkPre, ↓evC_region, ↓evC_text, ↓evC_cond, ↓evC_block, wkPost, wkF, skp, mkFn, evBuildSlice, fillS, results_tmp, mkTup, mkAgg, PV.flat, flatL, evFieldAddr, evLoad, evStore, evIndexAddr, evAlloc, evBuild, evBuiltin, evLen, lenAV, ldVar, ldArr, stVar, partA, partP, partC, withA, stride, setR, fillA, evConvert, convPV, evMakeSlice, evSlice, bnd, atI, binAV, eqAV, eqNil, leafEq, cellsEq, CfP, reduceIte, if_true, if_false, ite_true, ite_false, reduceCtorEq, ne_eq, eq_self, Nat.reduceAdd, Nat.reduceSub, Nat.reduceMul, Nat.reduceLT, Nat.reduceLeDiff, Nat.reduceEqDiff, Nat.reduceBEq, Nat.reduceBNe, Int.reduceToNat, Int.reduceLT, Int.reduceLE, Int.reduceAdd, Int.reduceSub, Int.reduceMul, Int.reduceEq, Int.reduceNe, Int.reduceBEq, Int.reduceBNe, Int.reduceNeg, Nat.reducePow, Int.reducePow, Nat.reduceMod, Nat.reduceDiv, ite_pos', ite_neg', e0, e3, e4, hil, gx, gq]
          refine PS.app md_16 Try.func16 (p16 x.1) rfl ?_
          rintro r rfl
          simp -implicitDefEqProofs -dsimp (disch := first | omega | (simp only [List.length_append, List.length_set, List.length_cons, List.length_nil, List.length_map]; omega) | decide +kernel) only [↓wkPre, ↓evC_region, ↓evC_text, ↓evC_cond, ↓evC_block, wkPost, wkF, skp, mkFn, evBuildSlice, fillS, results_tmp, mkTup, mkAgg, PV.flat, flatL, evFieldAddr, evLoad, evStore, evIndexAddr, evAlloc, evBuild, evBuiltin, evLen, lenAV, ldVar, ldArr, stVar, partA, partP, partC, withA, stride, setR, fillA, evConvert, convPV, evMakeSlice, evSlice, bnd, atI, binAV, eqAV, eqNil, leafEq, cellsEq, CfP, reduceIte, if_true, if_false, ite_true, ite_false, reduceCtorEq, ne_eq, eq_self, Nat.reduceAdd, Nat.reduceSub, Nat.reduceMul, Nat.reduceLT, Nat.reduceLeDiff, Nat.reduceEqDiff, Nat.reduceBEq, Nat.reduceBNe, Int.reduceToNat, Int.reduceLT, Int.reduceLE, Int.reduceAdd, Int.reduceSub, Int.reduceMul, Int.reduceEq, Int.reduceNe, Int.reduceBEq, Int.reduceBNe, Int.reduceNeg, Nat.reducePow, Int.reducePow, Nat.reduceMod, Nat.reduceDiv, ite_pos', ite_neg', e0, e3, e4, hil, gx, gq]
          refine PS.app md_16 Try.func16 (p16 q.1) rfl ?_
          rintro r rfl
          simp -implicitDefEqProofs -dsimp (disch := first | omega | (simp only [List.length_append, List.length_set, List.length_cons, List.length_nil, List.length_map]; omega) | decide +kernel) only [↓wkPre, ↓evC_region, ↓evC_text, ↓evC_cond, ↓evC_block, wkPost, wkF, skp, mkFn, evBuildSlice, fillS, results_tmp, mkTup, mkAgg, PV.flat, flatL, evFieldAddr, evLoad, evStore, evIndexAddr, evAlloc, evBuild, evBuiltin, evLen, lenAV, ldVar, ldArr, stVar, partA, partP, partC, withA, stride, setR, fillA, evConvert, convPV, evMakeSlice, evSlice, bnd, atI, binAV, eqAV, eqNil, leafEq, cellsEq, CfP, reduceIte, if_true, if_false, ite_true, ite_false, reduceCtorEq, ne_eq, eq_self, Nat.reduceAdd, Nat.reduceSub, Nat.reduceMul, Nat.reduceLT, Nat.reduceLeDiff, Nat.reduceEqDiff, Nat.reduceBEq, Nat.reduceBNe, Int.reduceToNat, Int.reduceLT, Int.reduceLE, Int.reduceAdd, Int.reduceSub, Int.reduceMul, Int.reduceEq, Int.reduceNe, Int.reduceBEq, Int.reduceBNe, Int.reduceNeg, Nat.reducePow, Int.reducePow, Nat.reduceMod, Nat.reduceDiv, ite_pos', ite_neg', e0, e3, e4, hil, gx, gq]
        · rintro e2 H2 ⟨rfl, e0, e3, e4, e27⟩
          rcases Int.lt_or_le (rk q.1) (rk x.1) with hr | hr
          · have hd : decide (rk q.1 < rk x.1) = true := decide_eq_true hr
            simp -implicitDefEqProofs -dsimp (disch := first | omega | (simp only [List.length_append, List.length_set, List.length_cons, List.length_nil, List.length_map]; omega) | decide +kernel) only [↓wkPre, ↓evC_region, ↓evC_text, ↓evC_cond, ↓evC_block, wkPost, wkF, skp, mkFn, evBuildSlice, fillS, results_tmp, mkTup, mkAgg, PV.flat, flatL, evFieldAddr, evLoad, evStore, evIndexAddr, evAlloc, evBuild, evBuiltin, evLen, lenAV, ldVar, ldArr, stVar, partA, partP, partC, withA, stride, setR, fillA, evConvert, convPV, evMakeSlice, evSlice, bnd, atI, binAV, eqAV, eqNil, leafEq, cellsEq, CfP, reduceIte, if_true, if_false, ite_true, ite_false, reduceCtorEq, ne_eq, eq_self, Nat.reduceAdd, Nat.reduceSub, Nat.reduceMul, Nat.reduceLT, Nat.reduceLeDiff, Nat.reduceEqDiff, Nat.reduceBEq, Nat.reduceBNe, Int.reduceToNat, Int.reduceLT, Int.reduceLE, Int.reduceAdd, Int.reduceSub, Int.reduceMul, Int.reduceEq, Int.reduceNe, Int.reduceBEq, Int.reduceBNe, Int.reduceNeg, Nat.reducePow, Int.reducePow, Nat.reduceMod, Nat.reduceDiv, ite_pos', ite_neg', e0, e3, e4, e27, hd]
            refine ⟨L.length - (i + 1), by omega, i + 1, i, x, rfl, by omega, by omega, by omega, rfl, by push_cast; rfl, hx, fun j y hj hy => ?_, fun j y hj hy => ?_⟩
            · by_cases hji : j = i
              · subst hji; rw [hx] at hy; cases hy; omega
              · have := ha j y (by omega) hy; omega
            · have := ha j y hj hy; omega
          · have hd : decide (rk q.1 < rk x.1) = false := decide_eq_false (by omega)
            simp -implicitDefEqProofs -dsimp (disch := first | omega | (simp only [List.length_append, List.length_set, List.length_cons, List.length_nil, List.length_map]; omega) | decide +kernel) only [↓wkPre, ↓evC_region, ↓evC_text, ↓evC_cond, ↓evC_block, wkPost, wkF, skp, mkFn, evBuildSlice, fillS, results_tmp, mkTup, mkAgg, PV.flat, flatL, evFieldAddr, evLoad, evStore, evIndexAddr, evAlloc, evBuild, evBuiltin, evLen, lenAV, ldVar, ldArr, stVar, partA, partP, partC, withA, stride, setR, fillA, evConvert, convPV, evMakeSlice, evSlice, bnd, atI, binAV, eqAV, eqNil, leafEq, cellsEq, CfP, reduceIte, if_true, if_false, ite_true, ite_false, reduceCtorEq, ne_eq, eq_self, Nat.reduceAdd, Nat.reduceSub, Nat.reduceMul, Nat.reduceLT, Nat.reduceLeDiff, Nat.reduceEqDiff, Nat.reduceBEq, Nat.reduceBNe, Int.reduceToNat, Int.reduceLT, Int.reduceLE, Int.reduceAdd, Int.reduceSub, Int.reduceMul, Int.reduceEq, Int.reduceNe, Int.reduceBEq, Int.reduceBNe, Int.reduceNeg, Nat.reducePow, Int.reducePow, Nat.reduceMod, Nat.reduceDiv, ite_pos', ite_neg', e0, e3, e4, e27, hd]
            refine ⟨L.length - (i + 1), by omega, i + 1, b, q, rfl, by omega, by omega, by omega, rfl, by push_cast; rfl, hq, fun j y hj hy => ?_, hb⟩
            by_cases hji : j = i
            · subst hji; rw [hx] at hy; cases hy; omega
            · exact ha j y (by omega) hy
      · obtain rfl : i = L.length := by omega
        have hbl : b = l.sz := by
          have hkq := ha l.sz (k, v) (by omega) hk
          rcases Nat.lt_trichotomy b l.sz with h1 | h1 | h1
          · exfalso
            have : q ∈ l.lst := by
              rw [hL, List.getElem?_append_left (by omega)] at hq
              exact List.mem_of_getElem? hq
            have := g1 q this
            have h3 := (abv_iff _ _).1 this.2
            simp only at hkq
            omega
          · exact h1
          · exfalso
            have h4 := hb l.sz (k, v) h1 hk
            have : q ∈ r.lst := by
              rw [hL, List.getElem?_append_right (by omega), List.getElem?_cons] at hq
              split at hq
              · omega
              · exact List.mem_of_getElem? hq
            have := g2 q this
            have h3 := (abv_iff _ _).1 this.2
            simp only at h4
            omega
        subst hbl
        obtain rfl : q = (k, v) := by rw [hk] at hq; cases hq; rfl
        have ht1 : (items L).take l.sz = items l.lst := by rw [sl_take, hL, List.take_left' hll]
        have ht2 : (items L).drop (l.sz + 1) = items r.lst := by
          rw [hL]; unfold items; rw [← List.map_drop, List.drop_append]; simp [hll]
        have ht3 : List.drop ((l.sz : Int) + 1).toNat (List.take L.length (items L)) = items r.lst := by
          rw [show ((l.sz : Int) + 1).toNat = l.sz + 1 by omega, ← hil, List.take_length, ht2]
        simp -implicitDefEqProofs -dsimp (disch := first | omega | (simp only [List.length_append, List.length_set, List.length_cons, List.length_nil, List.length_map]; omega) | decide +kernel) only [↓wkPre, ↓evC_region, ↓evC_text, ↓evC_cond, ↓evC_block, wkPost, wkF, skp, mkFn, evBuildSlice, fillS, results_tmp, mkTup, mkAgg, PV.flat, flatL, evFieldAddr, evLoad, evStore, evIndexAddr, evAlloc, evBuild, evBuiltin, evLen, lenAV, ldVar, ldArr, stVar, partA, partP, partC, withA, stride, setR, fillA, evConvert, convPV, evMakeSlice, evSlice, bnd, atI, binAV, eqAV, eqNil, leafEq, cellsEq, CfP, reduceIte, if_true, if_false, ite_true, ite_false, reduceCtorEq, ne_eq, eq_self, Nat.reduceAdd, Nat.reduceSub, Nat.reduceMul, Nat.reduceLT, Nat.reduceLeDiff, Nat.reduceEqDiff, Nat.reduceBEq, Nat.reduceBNe, Int.reduceToNat, Int.reduceLT, Int.reduceLE, Int.reduceAdd, Int.reduceSub, Int.reduceMul, Int.reduceEq, Int.reduceNe, Int.reduceBEq, Int.reduceBNe, Int.reduceNeg, Nat.reducePow, Int.reducePow, Nat.reduceMod, Nat.reduceDiv, ite_pos', ite_neg', e0, e3, e4, hil, gq, ht1]
        refine PS.app md_20 Try.func20 (p20 l g3 (by omega)) rfl ?_
        rintro x rfl
        simp -implicitDefEqProofs -dsimp (disch := first | omega | (simp only [List.length_append, List.length_set, List.length_cons, List.length_nil, List.length_map]; omega) | decide +kernel) only [↓wkPre, ↓evC_region, ↓evC_text, ↓evC_cond, ↓evC_block, wkPost, wkF, skp, mkFn, evBuildSlice, fillS, results_tmp, mkTup, mkAgg, PV.flat, flatL, evFieldAddr, evLoad, evStore, evIndexAddr, evAlloc, evBuild, evBuiltin, evLen, lenAV, ldVar, ldArr, stVar, partA, partP, partC, withA, stride, setR, fillA, evConvert, convPV, evMakeSlice, evSlice, bnd, atI, binAV, eqAV, eqNil, leafEq, cellsEq, CfP, reduceIte, if_true, if_false, ite_true, ite_false, reduceCtorEq, ne_eq, eq_self, Nat.reduceAdd, Nat.reduceSub, Nat.reduceMul, Nat.reduceLT, Nat.reduceLeDiff, Nat.reduceEqDiff, Nat.reduceBEq, Nat.reduceBNe, Int.reduceToNat, Int.reduceLT, Int.reduceLE, Int.reduceAdd, Int.reduceSub, Int.reduceMul, Int.reduceEq, Int.reduceNe, Int.reduceBEq, Int.reduceBNe, Int.reduceNeg, Nat.reducePow, Int.reducePow, Nat.reduceMod, Nat.reduceDiv, ite_pos', ite_neg', e0, e3, e4, hil]
        refine append_any (ys := ints (shT l)) (xs := [I k]) telem_46 (by simp [elems]) (.inr ⟨0, 0, rfl, by simp⟩) ?_ ?_
        · simp [ints, byt_3, shT_len]; omega
        intro w1 H1 hown hfr hle hb'
        simp -implicitDefEqProofs -dsimp (disch := first | omega | (simp only [List.length_append, List.length_set, List.length_cons, List.length_nil, List.length_map]; omega) | decide +kernel) only [↓wkPre, ↓evC_region, ↓evC_text, ↓evC_cond, ↓evC_block, wkPost, wkF, skp, mkFn, evBuildSlice, fillS, results_tmp, mkTup, mkAgg, PV.flat, flatL, evFieldAddr, evLoad, evStore, evIndexAddr, evAlloc, evBuild, evBuiltin, evLen, lenAV, ldVar, ldArr, stVar, partA, partP, partC, withA, stride, setR, fillA, evConvert, convPV, evMakeSlice, evSlice, bnd, atI, binAV, eqAV, eqNil, leafEq, cellsEq, CfP, reduceIte, if_true, if_false, ite_true, ite_false, reduceCtorEq, ne_eq, eq_self, Nat.reduceAdd, Nat.reduceSub, Nat.reduceMul, Nat.reduceLT, Nat.reduceLeDiff, Nat.reduceEqDiff, Nat.reduceBEq, Nat.reduceBNe, Int.reduceToNat, Int.reduceLT, Int.reduceLE, Int.reduceAdd, Int.reduceSub, Int.reduceMul, Int.reduceEq, Int.reduceNe, Int.reduceBEq, Int.reduceBNe, Int.reduceNeg, Nat.reducePow, Int.reducePow, Nat.reduceMod, Nat.reduceDiv, ite_pos', ite_neg', e0, e3, e4, hil, ht3]
        refine PS.app md_20 Try.func20 (p20 r g4 (by omega)) rfl ?_
        rintro x rfl
        simp -implicitDefEqProofs -dsimp (disch := first | omega | (simp only [List.length_append, List.length_set, List.length_cons, List.length_nil, List.length_map]; omega) | decide +kernel) only [↓wkPre, ↓evC_region, ↓evC_text, ↓evC_cond, ↓evC_block, wkPost, wkF, skp, mkFn, evBuildSlice, fillS, results_tmp, mkTup, mkAgg, PV.flat, flatL, evFieldAddr, evLoad, evStore, evIndexAddr, evAlloc, evBuild, evBuiltin, evLen, lenAV, ldVar, ldArr, stVar, partA, partP, partC, withA, stride, setR, fillA, evConvert, convPV, evMakeSlice, evSlice, bnd, atI, binAV, eqAV, eqNil, leafEq, cellsEq, CfP, reduceIte, if_true, if_false, ite_true, ite_false, reduceCtorEq, ne_eq, eq_self, Nat.reduceAdd, Nat.reduceSub, Nat.reduceMul, Nat.reduceLT, Nat.reduceLeDiff, Nat.reduceEqDiff, Nat.reduceBEq, Nat.reduceBNe, Int.reduceToNat, Int.reduceLT, Int.reduceLE, Int.reduceAdd, Int.reduceSub, Int.reduceMul, Int.reduceEq, Int.reduceNe, Int.reduceBEq, Int.reduceBNe, Int.reduceNeg, Nat.reducePow, Int.reducePow, Nat.reduceMod, Nat.reduceDiv, ite_pos', ite_neg', e0, e3, e4, hil]
        refine append_any (ys := ints (shT r)) telem_46 (by simp [elems]) hown ?_ ?_
        · simp [ints, byt_3, shT_len]; omega
        intro w2 H2 hown2 hfr2 hle2 hb2'
        have hfz := frz_own (P := Try.prog) (n := 4) telem_46 hown2
        have hs : [I k] ++ ints (shT l) ++ ints (shT r) = ints (shT (.node k v l r)) := by simp [ints, shT]
        rw [hs] at hfz hown2
        rcases hown2 with ⟨rfl, hx0⟩ | ⟨b, g, rfl, hb⟩
        · simp -implicitDefEqProofs -dsimp (disch := first | omega | (simp only [List.length_append, List.length_set, List.length_cons, List.length_nil, List.length_map]; omega) | decide +kernel) only [↓wkPre, ↓evC_region, ↓evC_text, ↓evC_cond, ↓evC_block, wkPost, wkF, skp, mkFn, evBuildSlice, fillS, results_tmp, mkTup, mkAgg, PV.flat, flatL, evFieldAddr, evLoad, evStore, evIndexAddr, evAlloc, evBuild, evBuiltin, evLen, lenAV, ldVar, ldArr, stVar, partA, partP, partC, withA, stride, setR, fillA, evConvert, convPV, evMakeSlice, evSlice, bnd, atI, binAV, eqAV, eqNil, leafEq, cellsEq, CfP, reduceIte, if_true, if_false, ite_true, ite_false, reduceCtorEq, ne_eq, eq_self, Nat.reduceAdd, Nat.reduceSub, Nat.reduceMul, Nat.reduceLT, Nat.reduceLeDiff, Nat.reduceEqDiff, Nat.reduceBEq, Nat.reduceBNe, Int.reduceToNat, Int.reduceLT, Int.reduceLE, Int.reduceAdd, Int.reduceSub, Int.reduceMul, Int.reduceEq, Int.reduceNe, Int.reduceBEq, Int.reduceBNe, Int.reduceNeg, Nat.reducePow, Int.reducePow, Nat.reduceMod, Nat.reduceDiv, ite_pos', ite_neg']
          simp [ints, shT] at hx0
        · simp -implicitDefEqProofs -dsimp (disch := first | omega | (simp only [List.length_append, List.length_set, List.length_cons, List.length_nil, List.length_map]; omega) | decide +kernel) only [↓wkPre, ↓evC_region, ↓evC_text, ↓evC_cond, ↓evC_block, wkPost, wkF, skp, mkFn, evBuildSlice, fillS, results_tmp, mkTup, mkAgg, PV.flat, flatL, evFieldAddr, evLoad, evStore, evIndexAddr, evAlloc, evBuild, evBuiltin, evLen, lenAV, ldVar, ldArr, stVar, partA, partP, partC, withA, stride, setR, fillA, evConvert, convPV, evMakeSlice, evSlice, bnd, atI, binAV, eqAV, eqNil, leafEq, cellsEq, CfP, reduceIte, if_true, if_false, ite_true, ite_false, reduceCtorEq, ne_eq, eq_self, Nat.reduceAdd, Nat.reduceSub, Nat.reduceMul, Nat.reduceLT, Nat.reduceLeDiff, Nat.reduceEqDiff, Nat.reduceBEq, Nat.reduceBNe, Int.reduceToNat, Int.reduceLT, Int.reduceLE, Int.reduceAdd, Int.reduceSub, Int.reduceMul, Int.reduceEq, Int.reduceNe, Int.reduceBEq, Int.reduceBNe, Int.reduceNeg, Nat.reducePow, Int.reducePow, Nat.reduceMod, Nat.reduceDiv, ite_pos', ite_neg', hb]
          rw [hfz]
          simp [oK]
    · simp -implicitDefEqProofs -dsimp (disch := first | omega | (simp only [List.length_append, List.length_set, List.length_cons, List.length_nil, List.length_map]; omega) | decide +kernel) only [↓wkPre, ↓evC_region, ↓evC_text, ↓evC_cond, ↓evC_block, wkPost, wkF, skp, mkFn, evBuildSlice, fillS, results_tmp, mkTup, mkAgg, PV.flat, flatL, evFieldAddr, evLoad, evStore, evIndexAddr, evAlloc, evBuild, evBuiltin, evLen, lenAV, ldVar, ldArr, stVar, partA, partP, partC, withA, stride, setR, fillA, evConvert, convPV, evMakeSlice, evSlice, bnd, atI, binAV, eqAV, eqNil, leafEq, cellsEq, CfP, reduceIte, if_true, if_false, ite_true, ite_false, reduceCtorEq, ne_eq, eq_self, Nat.reduceAdd, Nat.reduceSub, Nat.reduceMul, Nat.reduceLT, Nat.reduceLeDiff, Nat.reduceEqDiff, Nat.reduceBEq, Nat.reduceBNe, Int.reduceToNat, Int.reduceLT, Int.reduceLE, Int.reduceAdd, Int.reduceSub, Int.reduceMul, Int.reduceEq, Int.reduceNe, Int.reduceBEq, Int.reduceBNe, Int.reduceNeg, Nat.reducePow, Int.reducePow, Nat.reduceMod, Nat.reduceDiv, ite_pos', ite_neg']
      obtain ⟨q0, h0⟩ : ∃ q0, L[0]? = some q0 := ⟨L[0]'(by omega), by simp [hlen]⟩
      exact ⟨1, 0, q0, rfl, by omega, by omega, by omega, rfl, rfl, h0, fun j x hj hx => by
        obtain rfl : j = 0 := by omega
        rw [h0] at hx; cases hx; omega, fun j x hj => by omega⟩
end Go.Ev.F31
end
section
namespace Go.Ev.F31
open Go.Proofs Go.Ev
set_option maxRecDepth 100000
set_option linter.all false
theorem put_sz {k v : Int} {t : Tr} (g : Good t) : (putT k v t).sz ≤ t.sz + 1 := by
  have h := (putT_ok (k := k) (v := v) g).1
  rw [← lst_len, h, ← lst_len]
  exact put_len_le _ _ g.srt
theorem drop_sz {k : Int} {t : Tr} (g : Good t) : (dropT k t).sz ≤ t.sz := by
  have h := (dropT_ok (k := k) g).1
  rw [← lst_len, h, ← lst_len]
  exact List.length_filter_le _ _
theorem putR_head {q : Int × Int} {l : List (Int × Int)} (h : Srt (q :: l)) : putR q l = q :: l := by
  have hs := h.tail
  have hh := h.head
  rw [putR_eq hs, show fromL q.1 l = [] from fil_none fun x hx => by have := hh x hx; simp; omega, show gtL q.1 l = l from fil_all fun x hx => by have := hh x hx; simp; omega]
  rfl
theorem own_elem {H : Heap} {v : AV} {l : List Int} {i : Nat} {x : Int} (h : OwnS H v 0 (ints l)) (hi : l[i]? = some x) : ∃ b g, v = .ref b g 0 l.length false ∧ H[b]? = some (.arr true g 0 (ints l)) := by
  rcases h with ⟨rfl, h⟩ | ⟨b, g, rfl, hb⟩
  · have : l = [] := by simpa [ints] using h
    subst this; simp at hi
  · exact ⟨b, g, by simp [ints], hb⟩
theorem own_len {H : Heap} {v : AV} {l : List Int} (h : OwnS H v 0 (ints l)) (H' : Heap) (n : Nat) : lenAV H' (3, n) v = some l.length := by
  rcases h with ⟨rfl, h⟩ | ⟨b, g, rfl, hb⟩
  · have : l = [] := by simpa [ints] using h
    subst this; rfl
  · simp [lenAV, ints]
set_option maxHeartbeats 4000000 in
theorem shapes (os : List O3) (x : Int) : (W Cf okf).call 5 [.p (ops os), .p (I x)] [] fun v _ => v = .p (.bool true) := by
  refine top_mk extMono Try.func5 body5 (by decide) rfl ?_
  simp only [c5, Try.f5, Option.getD_some, List.append_eq, List.cons_append, List.nil_append]
  have hol : (opsP os).length = os.length := by simp [opsP]
  rcases Nat.lt_or_ge 80 os.length with h | h
  · simp -implicitDefEqProofs -dsimp (disch := first | omega | (simp only [List.length_append, List.length_set, List.length_cons, List.length_nil, List.length_map]; omega) | decide +kernel) only [↓wkPre, ↓evC_region, ↓evC_text, ↓evC_cond, ↓evC_block, wkPost, wkF, skp, mkFn, evBuildSlice, fillS, results_tmp, mkTup, mkAgg, PV.flat, flatL, evFieldAddr, evLoad, evStore, evIndexAddr, evAlloc, evBuild, evBuiltin, evLen, lenAV, ldVar, ldArr, stVar, partA, partP, partC, withA, stride, setR, fillA, evConvert, convPV, evMakeSlice, evSlice, bnd, atI, binAV, eqAV, eqNil, leafEq, cellsEq, CfP, reduceIte, if_true, if_false, ite_true, ite_false, reduceCtorEq, ne_eq, eq_self, Nat.reduceAdd, Nat.reduceSub, Nat.reduceMul, Nat.reduceLT, Nat.reduceLeDiff, Nat.reduceEqDiff, Nat.reduceBEq, Nat.reduceBNe, Int.reduceToNat, Int.reduceLT, Int.reduceLE, Int.reduceAdd, Int.reduceSub, Int.reduceMul, Int.reduceEq, Int.reduceNe, Int.reduceBEq, Int.reduceBNe, Int.reduceNeg, Nat.reducePow, Int.reducePow, Nat.reduceMod, Nat.reduceDiv, ite_pos', ite_neg', ops, hol]
    refine PS.app md_7 Try.func7 pWorks rfl ?_
    rintro r rfl
    simp -implicitDefEqProofs -dsimp (disch := first | omega | (simp only [List.length_append, List.length_set, List.length_cons, List.length_nil, List.length_map]; omega) | decide +kernel) only [↓wkPre, ↓evC_region, ↓evC_text, ↓evC_cond, ↓evC_block, wkPost, wkF, skp, mkFn, evBuildSlice, fillS, results_tmp, mkTup, mkAgg, PV.flat, flatL, evFieldAddr, evLoad, evStore, evIndexAddr, evAlloc, evBuild, evBuiltin, evLen, lenAV, ldVar, ldArr, stVar, partA, partP, partC, withA, stride, setR, fillA, evConvert, convPV, evMakeSlice, evSlice, bnd, atI, binAV, eqAV, eqNil, leafEq, cellsEq, CfP, reduceIte, if_true, if_false, ite_true, ite_false, reduceCtorEq, ne_eq, eq_self, Nat.reduceAdd, Nat.reduceSub, Nat.reduceMul, Nat.reduceLT, Nat.reduceLeDiff, Nat.reduceEqDiff, Nat.reduceBEq, Nat.reduceBNe, Int.reduceToNat, Int.reduceLT, Int.reduceLE, Int.reduceAdd, Int.reduceSub, Int.reduceMul, Int.reduceEq, Int.reduceNe, Int.reduceBEq, Int.reduceBNe, Int.reduceNeg, Nat.reducePow, Int.reducePow, Nat.reduceMod, Nat.reduceDiv, ite_pos', ite_neg']
  · simp -implicitDefEqProofs -dsimp (disch := first | omega | (simp only [List.length_append, List.length_set, List.length_cons, List.length_nil, List.length_map]; omega) | decide +kernel) only [↓wkPre, ↓evC_region, ↓evC_text, ↓evC_cond, ↓evC_block, wkPost, wkF, skp, mkFn, evBuildSlice, fillS, results_tmp, mkTup, mkAgg, PV.flat, flatL, evFieldAddr, evLoad, evStore, evIndexAddr, evAlloc, evBuild, evBuiltin, evLen, lenAV, ldVar, ldArr, stVar, partA, partP, partC, withA, stride, setR, fillA, evConvert, convPV, evMakeSlice, evSlice, bnd, atI, binAV, eqAV, eqNil, leafEq, cellsEq, CfP, reduceIte, if_true, if_false, ite_true, ite_false, reduceCtorEq, ne_eq, eq_self, Nat.reduceAdd, Nat.reduceSub, Nat.reduceMul, Nat.reduceLT, Nat.reduceLeDiff, Nat.reduceEqDiff, Nat.reduceBEq, Nat.reduceBNe, Int.reduceToNat, Int.reduceLT, Int.reduceLE, Int.reduceAdd, Int.reduceSub, Int.reduceMul, Int.reduceEq, Int.reduceNe, Int.reduceBEq, Int.reduceBNe, Int.reduceNeg, Nat.reducePow, Int.reducePow, Nat.reduceMod, Nat.reduceDiv, ite_pos', ite_neg', ops, hol]
    refine imp_call md_8 (w8 os h _ _ ?_)
    rintro a H1 ⟨t, v, b, rfl, hb1, hb2, hb, g, mv, hz, hk⟩
    have hvs := mv.shape
    have hvu := mv.isU
    have hvt := mv.stor
    have hlv := mv.len
    unfold lenAV at hlv
    have hln := lst_len t
    have hil := items_len t.lst
    simp -implicitDefEqProofs -dsimp (disch := first | omega | (simp only [List.length_append, List.length_set, List.length_cons, List.length_nil, List.length_map]; omega) | decide +kernel) only [↓wkPre, ↓evC_region, ↓evC_text, ↓evC_cond, ↓evC_block, wkPost, wkF, skp, mkFn, evBuildSlice, fillS, results_tmp, mkTup, mkAgg, PV.flat, flatL, evFieldAddr, evLoad, evStore, evIndexAddr, evAlloc, evBuild, evBuiltin, evLen, lenAV, ldVar, ldArr, stVar, partA, partP, partC, withA, stride, setR, fillA, evConvert, convPV, evMakeSlice, evSlice, bnd, atI, binAV, eqAV, eqNil, leafEq, cellsEq, CfP, reduceIte, if_true, if_false, ite_true, ite_false, reduceCtorEq, ne_eq, eq_self, Nat.reduceAdd, Nat.reduceSub, Nat.reduceMul, Nat.reduceLT, Nat.reduceLeDiff, Nat.reduceEqDiff, Nat.reduceBEq, Nat.reduceBNe, Int.reduceToNat, Int.reduceLT, Int.reduceLE, Int.reduceAdd, Int.reduceSub, Int.reduceMul, Int.reduceEq, Int.reduceNe, Int.reduceBEq, Int.reduceBNe, Int.reduceNeg, Nat.reducePow, Int.reducePow, Nat.reduceMod, Nat.reduceDiv, ite_pos', ite_neg', hvs, hvu, hvt, hlv]
    refine imp_call md_15 (w15 _ _ ?_)
    intro H2 hu hk2 hl2
    have hb' := (hk2 b hb2).trans hb
    simp -implicitDefEqProofs -dsimp (disch := first | omega | (simp only [List.length_append, List.length_set, List.length_cons, List.length_nil, List.length_map]; omega) | decide +kernel) only [↓wkPre, ↓evC_region, ↓evC_text, ↓evC_cond, ↓evC_block, wkPost, wkF, skp, mkFn, evBuildSlice, fillS, results_tmp, mkTup, mkAgg, PV.flat, flatL, evFieldAddr, evLoad, evStore, evIndexAddr, evAlloc, evBuild, evBuiltin, evLen, lenAV, ldVar, ldArr, stVar, partA, partP, partC, withA, stride, setR, fillA, evConvert, convPV, evMakeSlice, evSlice, bnd, atI, binAV, eqAV, eqNil, leafEq, cellsEq, CfP, reduceIte, if_true, if_false, ite_true, ite_false, reduceCtorEq, ne_eq, eq_self, Nat.reduceAdd, Nat.reduceSub, Nat.reduceMul, Nat.reduceLT, Nat.reduceLeDiff, Nat.reduceEqDiff, Nat.reduceBEq, Nat.reduceBNe, Int.reduceToNat, Int.reduceLT, Int.reduceLE, Int.reduceAdd, Int.reduceSub, Int.reduceMul, Int.reduceEq, Int.reduceNe, Int.reduceBEq, Int.reduceBNe, Int.reduceNeg, Nat.reducePow, Int.reducePow, Nat.reduceMod, Nat.reduceDiv, ite_pos', ite_neg', hvs, hvu, hvt, hlv]
    refine imp_call md_17 (w17 b t H2 hb' _ ?_)
    intro H3 hw hk3 hl3
    have hb3 := (hk3 b (by omega)).trans hb'
    have hu3 := (hk3 _ (by omega)).trans hu
    simp -implicitDefEqProofs -dsimp (disch := first | omega | (simp only [List.length_append, List.length_set, List.length_cons, List.length_nil, List.length_map]; omega) | decide +kernel) only [↓wkPre, ↓evC_region, ↓evC_text, ↓evC_cond, ↓evC_block, wkPost, wkF, skp, mkFn, evBuildSlice, fillS, results_tmp, mkTup, mkAgg, PV.flat, flatL, evFieldAddr, evLoad, evStore, evIndexAddr, evAlloc, evBuild, evBuiltin, evLen, lenAV, ldVar, ldArr, stVar, partA, partP, partC, withA, stride, setR, fillA, evConvert, convPV, evMakeSlice, evSlice, bnd, atI, binAV, eqAV, eqNil, leafEq, cellsEq, CfP, reduceIte, if_true, if_false, ite_true, ite_false, reduceCtorEq, ne_eq, eq_self, Nat.reduceAdd, Nat.reduceSub, Nat.reduceMul, Nat.reduceLT, Nat.reduceLeDiff, Nat.reduceEqDiff, Nat.reduceBEq, Nat.reduceBNe, Int.reduceToNat, Int.reduceLT, Int.reduceLE, Int.reduceAdd, Int.reduceSub, Int.reduceMul, Int.reduceEq, Int.reduceNe, Int.reduceBEq, Int.reduceBNe, Int.reduceNeg, Nat.reducePow, Int.reducePow, Nat.reduceMod, Nat.reduceDiv, ite_pos', ite_neg', hvs, hvu, hvt, hlv]
    have hbu : b < H1.length := hb2
    have huw : H1.length < H2.length := hl2
    clear hk hk2 hk3 hb hb' hu hb1 hb2 hl2
    generalize H1.length = u at *
    generalize H2.length = w at *
    refine loop_use extMono (fun m e H => ∃ (i : Nat) (t' : Tr), m = i ∧ i ≤ t.lst.length ∧ e 1 = .p (I x) ∧ e 5 = .vptr b 0 ∧ e 6 = v ∧ e 8 = .vptr u 0 ∧ e 9 = .vptr w 0 ∧ e 10 = .p (I ((i : Int) - 1)) ∧ Good t' ∧ t'.lst = t.lst.drop i ∧
      H[b]? = some (.var true (.p t.hd)) ∧ H[u]? = some (.var true (.p t'.hd)) ∧ H[w]? = some (.var true (.p t.hd))) ?_ t.lst.length _ _ ⟨t.lst.length, .nil, rfl, Nat.le_refl _, ?_⟩
    · rintro m e H ⟨i, t', rfl, hi, e1, e5, e6, e8, e9, e10, g', ht', kb, ku, kw⟩
      cases m with
      | succ j =>
        obtain ⟨q, hq⟩ : ∃ q, t.lst[j]? = some q := ⟨t.lst[j]'(by omega), by simp⟩
        have gi : (items t.lst)[(((j + 1 : Nat) : Int) - 1).toNat]? = some (it q) := by
          rw [show (((j + 1 : Nat) : Int) - 1).toNat = j by omega]; simp [items, hq]
        rw [it] at gi
        have hv := mv.ne gi
        rw [hv] at e6
        have hd : t.lst.drop j = q :: t.lst.drop (j + 1) := by
          have hjl : j < t.lst.length := by omega
          rw [List.drop_eq_getElem_cons hjl]; congr 1
          rw [List.getElem?_eq_getElem hjl] at hq; exact Option.some.inj hq
        have hsz : t'.sz ≤ 80 := by have := lst_len t'; rw [ht', List.length_drop] at this; omega
        simp -implicitDefEqProofs -dsimp (disch := first | omega | (simp only [List.length_append, List.length_set, List.length_cons, List.length_nil, List.length_map]; omega) | decide +kernel) only [↓wkPre, ↓evC_region, ↓evC_text, ↓evC_cond, ↓evC_block, wkPost, wkF, skp, mkFn, evBuildSlice, fillS, results_tmp, mkTup, mkAgg, PV.flat, flatL, evFieldAddr, evLoad, evStore, evIndexAddr, evAlloc, evBuild, evBuiltin, evLen, lenAV, ldVar, ldArr, stVar, partA, partP, partC, withA, stride, setR, fillA, evConvert, convPV, evMakeSlice, evSlice, bnd, atI, binAV, eqAV, eqNil, leafEq, cellsEq, CfP, reduceIte, if_true, if_false, ite_true, ite_false, reduceCtorEq, ne_eq, eq_self, Nat.reduceAdd, Nat.reduceSub, Nat.reduceMul, Nat.reduceLT, Nat.reduceLeDiff, Nat.reduceEqDiff, Nat.reduceBEq, Nat.reduceBNe, Int.reduceToNat, Int.reduceLT, Int.reduceLE, Int.reduceAdd, Int.reduceSub, Int.reduceMul, Int.reduceEq, Int.reduceNe, Int.reduceBEq, Int.reduceBNe, Int.reduceNeg, Nat.reducePow, Int.reducePow, Nat.reduceMod, Nat.reduceDiv, ite_pos', ite_neg', e1, e5, e6, e8, e9, e10, gi, hil]
        refine imp_call md_18 (w18 u q.1 q.2 t' H ku (by omega) _ ?_)
        intro H' ⟨k1, k2, k3⟩
        have hul : u < H.length := (List.getElem?_eq_some_iff.1 ku).1
        have hbl : b < H.length := (List.getElem?_eq_some_iff.1 kb).1
        have hwl : w < H.length := (List.getElem?_eq_some_iff.1 kw).1
        have hp := putT_ok (k := q.1) (v := q.2) g'
        simp -implicitDefEqProofs -dsimp (disch := first | omega | (simp only [List.length_append, List.length_set, List.length_cons, List.length_nil, List.length_map]; omega) | decide +kernel) only [↓wkPre, ↓evC_region, ↓evC_text, ↓evC_cond, ↓evC_block, wkPost, wkF, skp, mkFn, evBuildSlice, fillS, results_tmp, mkTup, mkAgg, PV.flat, flatL, evFieldAddr, evLoad, evStore, evIndexAddr, evAlloc, evBuild, evBuiltin, evLen, lenAV, ldVar, ldArr, stVar, partA, partP, partC, withA, stride, setR, fillA, evConvert, convPV, evMakeSlice, evSlice, bnd, atI, binAV, eqAV, eqNil, leafEq, cellsEq, CfP, reduceIte, if_true, if_false, ite_true, ite_false, reduceCtorEq, ne_eq, eq_self, Nat.reduceAdd, Nat.reduceSub, Nat.reduceMul, Nat.reduceLT, Nat.reduceLeDiff, Nat.reduceEqDiff, Nat.reduceBEq, Nat.reduceBNe, Int.reduceToNat, Int.reduceLT, Int.reduceLE, Int.reduceAdd, Int.reduceSub, Int.reduceMul, Int.reduceEq, Int.reduceNe, Int.reduceBEq, Int.reduceBNe, Int.reduceNeg, Nat.reducePow, Int.reducePow, Nat.reduceMod, Nat.reduceDiv, ite_pos', ite_neg', e1, e5, e6, e8, e9, e10]
        refine ⟨j, by omega, j, putT q.1 q.2 t', rfl, by omega, hv.symm, by congr 2; omega, hp.2, ?_, (k2 b (by omega) hbl).trans kb, k1, (k2 w (by omega) hwl).trans kw⟩
        rw [hp.1, ht', hd]
        refine putR_head ?_
        rw [← hd]
        exact g.srt.sublist (List.drop_sublist _ _)
      | zero =>
        obtain rfl : t' = t := Good_uniq _ _ g' g (by simpa using ht')
        simp -implicitDefEqProofs -dsimp (disch := first | omega | (simp only [List.length_append, List.length_set, List.length_cons, List.length_nil, List.length_map]; omega) | decide +kernel) only [↓wkPre, ↓evC_region, ↓evC_text, ↓evC_cond, ↓evC_block, wkPost, wkF, skp, mkFn, evBuildSlice, fillS, results_tmp, mkTup, mkAgg, PV.flat, flatL, evFieldAddr, evLoad, evStore, evIndexAddr, evAlloc, evBuild, evBuiltin, evLen, lenAV, ldVar, ldArr, stVar, partA, partP, partC, withA, stride, setR, fillA, evConvert, convPV, evMakeSlice, evSlice, bnd, atI, binAV, eqAV, eqNil, leafEq, cellsEq, CfP, reduceIte, if_true, if_false, ite_true, ite_false, reduceCtorEq, ne_eq, eq_self, Nat.reduceAdd, Nat.reduceSub, Nat.reduceMul, Nat.reduceLT, Nat.reduceLeDiff, Nat.reduceEqDiff, Nat.reduceBEq, Nat.reduceBNe, Int.reduceToNat, Int.reduceLT, Int.reduceLE, Int.reduceAdd, Int.reduceSub, Int.reduceMul, Int.reduceEq, Int.reduceNe, Int.reduceBEq, Int.reduceBNe, Int.reduceNeg, Nat.reducePow, Int.reducePow, Nat.reduceMod, Nat.reduceDiv, ite_pos', ite_neg', e1, e5, e6, e8, e9, e10, hvs, hvu, hvt, hlv]
        refine imp_call md_19 (w19 b t' H true kb (by omega) _ ?_)
        intro v1 H4 ho1 hb1 hk1 hl1
        have hul : u < H.length := (List.getElem?_eq_some_iff.1 ku).1
        have hbl : b < H.length := (List.getElem?_eq_some_iff.1 kb).1
        have hwl : w < H.length := (List.getElem?_eq_some_iff.1 kw).1
        have ku4 := (hk1 u hul).trans ku
        have hvi := mv.ids
        simp -implicitDefEqProofs -dsimp (disch := first | omega | (simp only [List.length_append, List.length_set, List.length_cons, List.length_nil, List.length_map]; omega) | decide +kernel) only [↓wkPre, ↓evC_region, ↓evC_text, ↓evC_cond, ↓evC_block, wkPost, wkF, skp, mkFn, evBuildSlice, fillS, results_tmp, mkTup, mkAgg, PV.flat, flatL, evFieldAddr, evLoad, evStore, evIndexAddr, evAlloc, evBuild, evBuiltin, evLen, lenAV, ldVar, ldArr, stVar, partA, partP, partC, withA, stride, setR, fillA, evConvert, convPV, evMakeSlice, evSlice, bnd, atI, binAV, eqAV, eqNil, leafEq, cellsEq, CfP, reduceIte, if_true, if_false, ite_true, ite_false, reduceCtorEq, ne_eq, eq_self, Nat.reduceAdd, Nat.reduceSub, Nat.reduceMul, Nat.reduceLT, Nat.reduceLeDiff, Nat.reduceEqDiff, Nat.reduceBEq, Nat.reduceBNe, Int.reduceToNat, Int.reduceLT, Int.reduceLE, Int.reduceAdd, Int.reduceSub, Int.reduceMul, Int.reduceEq, Int.reduceNe, Int.reduceBEq, Int.reduceBNe, Int.reduceNeg, Nat.reducePow, Int.reducePow, Nat.reduceMod, Nat.reduceDiv, ite_pos', ite_neg', e1, e5, e6, e8, e9, e10, hvs, hvu, hvt, hlv]
        refine imp_call md_19 (w19 u t' H4 true ku4 (by omega) _ ?_)
        intro v2 H5 ho2 hb2 hk2 hl2
        have ho1' : OwnS H5 v1 0 (ints (shT t')) := ho1.keep fun c hc => hk2 c (ho1.lt c hc)
        have kb5 := (hk2 b (by omega)).trans ((hk1 b hbl).trans kb)
        have kw5 := (hk2 w (by omega)).trans ((hk1 w hwl).trans kw)
        simp -implicitDefEqProofs -dsimp (disch := first | omega | (simp only [List.length_append, List.length_set, List.length_cons, List.length_nil, List.length_map]; omega) | decide +kernel) only [↓wkPre, ↓evC_region, ↓evC_text, ↓evC_cond, ↓evC_block, wkPost, wkF, skp, mkFn, evBuildSlice, fillS, results_tmp, mkTup, mkAgg, PV.flat, flatL, evFieldAddr, evLoad, evStore, evIndexAddr, evAlloc, evBuild, evBuiltin, evLen, lenAV, ldVar, ldArr, stVar, partA, partP, partC, withA, stride, setR, fillA, evConvert, convPV, evMakeSlice, evSlice, bnd, atI, binAV, eqAV, eqNil, leafEq, cellsEq, CfP, reduceIte, if_true, if_false, ite_true, ite_false, reduceCtorEq, ne_eq, eq_self, Nat.reduceAdd, Nat.reduceSub, Nat.reduceMul, Nat.reduceLT, Nat.reduceLeDiff, Nat.reduceEqDiff, Nat.reduceBEq, Nat.reduceBNe, Int.reduceToNat, Int.reduceLT, Int.reduceLE, Int.reduceAdd, Int.reduceSub, Int.reduceMul, Int.reduceEq, Int.reduceNe, Int.reduceBEq, Int.reduceBNe, Int.reduceNeg, Nat.reducePow, Int.reducePow, Nat.reduceMod, Nat.reduceDiv, ite_pos', ite_neg', e1, e5, e6, e8, e9, e10, hvs, hvu, hvt, hlv]
        refine PS.app md_20 Try.func20 (p20 t' g (by omega)) (by show frzL (frzN Try.prog H5 4) [v] [25] = _; simp [frzL, mv.frz]) ?_
        rintro r rfl
        have hl1 := own_len ho1'
        have hl2 := own_len ho2
        unfold lenAV at hl1 hl2
        have hil3 : (ints (shT t')).length = (shT t').length := by simp [ints]
        simp -implicitDefEqProofs -dsimp (disch := first | omega | (simp only [List.length_append, List.length_set, List.length_cons, List.length_nil, List.length_map]; omega) | decide +kernel) only [↓wkPre, ↓evC_region, ↓evC_text, ↓evC_cond, ↓evC_block, wkPost, wkF, skp, mkFn, evBuildSlice, fillS, results_tmp, mkTup, mkAgg, PV.flat, flatL, evFieldAddr, evLoad, evStore, evIndexAddr, evAlloc, evBuild, evBuiltin, evLen, lenAV, ldVar, ldArr, stVar, partA, partP, partC, withA, stride, setR, fillA, evConvert, convPV, evMakeSlice, evSlice, bnd, atI, binAV, eqAV, eqNil, leafEq, cellsEq, CfP, reduceIte, if_true, if_false, ite_true, ite_false, reduceCtorEq, ne_eq, eq_self, Nat.reduceAdd, Nat.reduceSub, Nat.reduceMul, Nat.reduceLT, Nat.reduceLeDiff, Nat.reduceEqDiff, Nat.reduceBEq, Nat.reduceBNe, Int.reduceToNat, Int.reduceLT, Int.reduceLE, Int.reduceAdd, Int.reduceSub, Int.reduceMul, Int.reduceEq, Int.reduceNe, Int.reduceBEq, Int.reduceBNe, Int.reduceNeg, Nat.reducePow, Int.reducePow, Nat.reduceMod, Nat.reduceDiv, ite_pos', ite_neg', e1, e5, e6, e8, e9, e10, hvi, hl1, hl2, hil3]
        have hSz := shT_len t'
        generalize hS : shT t' = S at *
        refine loop_use extMono (fun m e H => ∃ (i : Nat), m = S.length - i ∧ i ≤ S.length ∧ e 1 = .p (I x) ∧ e 5 = .vptr b 0 ∧ e 6 = v ∧ e 9 = .vptr w 0 ∧ e 11 = v1 ∧ e 12 = v2 ∧ e 13 = .p (.sl 0 (ints S)) ∧ e 14 = .p (I i) ∧ H = H5) ?_ S.length _ _ ⟨0, rfl, by omega, ?_⟩
        · rintro m e H ⟨i, rfl, hi, e1, e5, e6, e9, e11, e12, e13, e14, rfl⟩
          rcases Nat.lt_or_ge i S.length with hlt | hge
          · have hq : S[i]? = some S[i] := by simp [hlt]
            have gq : (ints S)[i]? = some (I S[i]) := by simp [ints, hlt]
            obtain ⟨b1, g1, rfl, k1⟩ := own_elem ho1' hq
            obtain ⟨b2, g2, rfl, k2⟩ := own_elem ho2 hq
            simp -implicitDefEqProofs -dsimp (disch := first | omega | (simp only [List.length_append, List.length_set, List.length_cons, List.length_nil, List.length_map]; omega) | decide +kernel) only [↓wkPre, ↓evC_region, ↓evC_text, ↓evC_cond, ↓evC_block, wkPost, wkF, skp, mkFn, evBuildSlice, fillS, results_tmp, mkTup, mkAgg, PV.flat, flatL, evFieldAddr, evLoad, evStore, evIndexAddr, evAlloc, evBuild, evBuiltin, evLen, lenAV, ldVar, ldArr, stVar, partA, partP, partC, withA, stride, setR, fillA, evConvert, convPV, evMakeSlice, evSlice, bnd, atI, binAV, eqAV, eqNil, leafEq, cellsEq, CfP, reduceIte, if_true, if_false, ite_true, ite_false, reduceCtorEq, ne_eq, eq_self, Nat.reduceAdd, Nat.reduceSub, Nat.reduceMul, Nat.reduceLT, Nat.reduceLeDiff, Nat.reduceEqDiff, Nat.reduceBEq, Nat.reduceBNe, Int.reduceToNat, Int.reduceLT, Int.reduceLE, Int.reduceAdd, Int.reduceSub, Int.reduceMul, Int.reduceEq, Int.reduceNe, Int.reduceBEq, Int.reduceBNe, Int.reduceNeg, Nat.reducePow, Int.reducePow, Nat.reduceMod, Nat.reduceDiv, ite_pos', ite_neg', e1, e5, e6, e9, e11, e12, e13, e14, k1, k2, gq, hil3]
            exact ⟨S.length - (i + 1), by omega, i + 1, rfl, by omega, by push_cast; rfl⟩
          · obtain rfl : i = S.length := by omega
            simp -implicitDefEqProofs -dsimp (disch := first | omega | (simp only [List.length_append, List.length_set, List.length_cons, List.length_nil, List.length_map]; omega) | decide +kernel) only [↓wkPre, ↓evC_region, ↓evC_text, ↓evC_cond, ↓evC_block, wkPost, wkF, skp, mkFn, evBuildSlice, fillS, results_tmp, mkTup, mkAgg, PV.flat, flatL, evFieldAddr, evLoad, evStore, evIndexAddr, evAlloc, evBuild, evBuiltin, evLen, lenAV, ldVar, ldArr, stVar, partA, partP, partC, withA, stride, setR, fillA, evConvert, convPV, evMakeSlice, evSlice, bnd, atI, binAV, eqAV, eqNil, leafEq, cellsEq, CfP, reduceIte, if_true, if_false, ite_true, ite_false, reduceCtorEq, ne_eq, eq_self, Nat.reduceAdd, Nat.reduceSub, Nat.reduceMul, Nat.reduceLT, Nat.reduceLeDiff, Nat.reduceEqDiff, Nat.reduceBEq, Nat.reduceBNe, Int.reduceToNat, Int.reduceLT, Int.reduceLE, Int.reduceAdd, Int.reduceSub, Int.reduceMul, Int.reduceEq, Int.reduceNe, Int.reduceBEq, Int.reduceBNe, Int.reduceNeg, Nat.reducePow, Int.reducePow, Nat.reduceMod, Nat.reduceDiv, ite_pos', ite_neg', e1, e5, e6, e9, e11, e12, e13, e14, hil3]
            refine imp_call md_21 (w21 w x t' H kw5 (by omega) _ ?_)
            intro H6 ⟨k61, k62, k63⟩
            have gd := dropT_ok (k := x) g
            have zd := drop_sz (k := x) g
            have kb6 := (k62 b (by omega) (by omega)).trans kb5
            simp -implicitDefEqProofs -dsimp (disch := first | omega | (simp only [List.length_append, List.length_set, List.length_cons, List.length_nil, List.length_map]; omega) | decide +kernel) only [↓wkPre, ↓evC_region, ↓evC_text, ↓evC_cond, ↓evC_block, wkPost, wkF, skp, mkFn, evBuildSlice, fillS, results_tmp, mkTup, mkAgg, PV.flat, flatL, evFieldAddr, evLoad, evStore, evIndexAddr, evAlloc, evBuild, evBuiltin, evLen, lenAV, ldVar, ldArr, stVar, partA, partP, partC, withA, stride, setR, fillA, evConvert, convPV, evMakeSlice, evSlice, bnd, atI, binAV, eqAV, eqNil, leafEq, cellsEq, CfP, reduceIte, if_true, if_false, ite_true, ite_false, reduceCtorEq, ne_eq, eq_self, Nat.reduceAdd, Nat.reduceSub, Nat.reduceMul, Nat.reduceLT, Nat.reduceLeDiff, Nat.reduceEqDiff, Nat.reduceBEq, Nat.reduceBNe, Int.reduceToNat, Int.reduceLT, Int.reduceLE, Int.reduceAdd, Int.reduceSub, Int.reduceMul, Int.reduceEq, Int.reduceNe, Int.reduceBEq, Int.reduceBNe, Int.reduceNeg, Nat.reducePow, Int.reducePow, Nat.reduceMod, Nat.reduceDiv, ite_pos', ite_neg', e1, e5, e6, e9, e11, e12, e13, e14, hil3]
            refine imp_call md_18 (w18 w x (-1) (dropT x t') H6 k61 (by omega) _ ?_)
            intro H7 ⟨k71, k72, k73⟩
            have gp := putT_ok (k := x) (v := -1) gd.2
            have zp := put_sz (k := x) (v := -1) gd.2
            have kb7 := (k72 b (by omega) (by omega)).trans kb6
            simp -implicitDefEqProofs -dsimp (disch := first | omega | (simp only [List.length_append, List.length_set, List.length_cons, List.length_nil, List.length_map]; omega) | decide +kernel) only [↓wkPre, ↓evC_region, ↓evC_text, ↓evC_cond, ↓evC_block, wkPost, wkF, skp, mkFn, evBuildSlice, fillS, results_tmp, mkTup, mkAgg, PV.flat, flatL, evFieldAddr, evLoad, evStore, evIndexAddr, evAlloc, evBuild, evBuiltin, evLen, lenAV, ldVar, ldArr, stVar, partA, partP, partC, withA, stride, setR, fillA, evConvert, convPV, evMakeSlice, evSlice, bnd, atI, binAV, eqAV, eqNil, leafEq, cellsEq, CfP, reduceIte, if_true, if_false, ite_true, ite_false, reduceCtorEq, ne_eq, eq_self, Nat.reduceAdd, Nat.reduceSub, Nat.reduceMul, Nat.reduceLT, Nat.reduceLeDiff, Nat.reduceEqDiff, Nat.reduceBEq, Nat.reduceBNe, Int.reduceToNat, Int.reduceLT, Int.reduceLE, Int.reduceAdd, Int.reduceSub, Int.reduceMul, Int.reduceEq, Int.reduceNe, Int.reduceBEq, Int.reduceBNe, Int.reduceNeg, Nat.reducePow, Int.reducePow, Nat.reduceMod, Nat.reduceDiv, ite_pos', ite_neg', e1, e5, e6, e9, e11, e12, e13, e14, hil3]
            refine imp_call md_18 (w18 w _ 5 (putT x (-1) (dropT x t')) H7 k71 (by omega) _ ?_)
            generalize IntKind.i64.wrap _ = y
            intro H8 ⟨k81, k82, k83⟩
            have gp2 := putT_ok (k := y) (v := 5) gp.2
            have zp2 := put_sz (k := y) (v := 5) gp.2
            have kb8 := (k82 b (by omega) (by omega)).trans kb7
            simp -implicitDefEqProofs -dsimp (disch := first | omega | (simp only [List.length_append, List.length_set, List.length_cons, List.length_nil, List.length_map]; omega) | decide +kernel) only [↓wkPre, ↓evC_region, ↓evC_text, ↓evC_cond, ↓evC_block, wkPost, wkF, skp, mkFn, evBuildSlice, fillS, results_tmp, mkTup, mkAgg, PV.flat, flatL, evFieldAddr, evLoad, evStore, evIndexAddr, evAlloc, evBuild, evBuiltin, evLen, lenAV, ldVar, ldArr, stVar, partA, partP, partC, withA, stride, setR, fillA, evConvert, convPV, evMakeSlice, evSlice, bnd, atI, binAV, eqAV, eqNil, leafEq, cellsEq, CfP, reduceIte, if_true, if_false, ite_true, ite_false, reduceCtorEq, ne_eq, eq_self, Nat.reduceAdd, Nat.reduceSub, Nat.reduceMul, Nat.reduceLT, Nat.reduceLeDiff, Nat.reduceEqDiff, Nat.reduceBEq, Nat.reduceBNe, Int.reduceToNat, Int.reduceLT, Int.reduceLE, Int.reduceAdd, Int.reduceSub, Int.reduceMul, Int.reduceEq, Int.reduceNe, Int.reduceBEq, Int.reduceBNe, Int.reduceNeg, Nat.reducePow, Int.reducePow, Nat.reduceMod, Nat.reduceDiv, ite_pos', ite_neg', e1, e5, e6, e9, e11, e12, e13, e14, hil3]
            refine PS.app md_22 Try.func22 (p22' g (by omega) rfl) (frz2 kb8 mv) ?_
            rintro r rfl
            simp -implicitDefEqProofs -dsimp (disch := first | omega | (simp only [List.length_append, List.length_set, List.length_cons, List.length_nil, List.length_map]; omega) | decide +kernel) only [↓wkPre, ↓evC_region, ↓evC_text, ↓evC_cond, ↓evC_block, wkPost, wkF, skp, mkFn, evBuildSlice, fillS, results_tmp, mkTup, mkAgg, PV.flat, flatL, evFieldAddr, evLoad, evStore, evIndexAddr, evAlloc, evBuild, evBuiltin, evLen, lenAV, ldVar, ldArr, stVar, partA, partP, partC, withA, stride, setR, fillA, evConvert, convPV, evMakeSlice, evSlice, bnd, atI, binAV, eqAV, eqNil, leafEq, cellsEq, CfP, reduceIte, if_true, if_false, ite_true, ite_false, reduceCtorEq, ne_eq, eq_self, Nat.reduceAdd, Nat.reduceSub, Nat.reduceMul, Nat.reduceLT, Nat.reduceLeDiff, Nat.reduceEqDiff, Nat.reduceBEq, Nat.reduceBNe, Int.reduceToNat, Int.reduceLT, Int.reduceLE, Int.reduceAdd, Int.reduceSub, Int.reduceMul, Int.reduceEq, Int.reduceNe, Int.reduceBEq, Int.reduceBNe, Int.reduceNeg, Nat.reducePow, Int.reducePow, Nat.reduceMod, Nat.reduceDiv, ite_pos', ite_neg', e1, e5, e6, e9, e11, e12, e13, e14, hil3]
            refine PS.app md_23 Try.func23 (p23 _ gp2.2.snd gp2.2.srt (by omega)) (frz1 k81 _) ?_
            rintro r rfl
            simp -implicitDefEqProofs -dsimp (disch := first | omega | (simp only [List.length_append, List.length_set, List.length_cons, List.length_nil, List.length_map]; omega) | decide +kernel) only [↓wkPre, ↓evC_region, ↓evC_text, ↓evC_cond, ↓evC_block, wkPost, wkF, skp, mkFn, evBuildSlice, fillS, results_tmp, mkTup, mkAgg, PV.flat, flatL, evFieldAddr, evLoad, evStore, evIndexAddr, evAlloc, evBuild, evBuiltin, evLen, lenAV, ldVar, ldArr, stVar, partA, partP, partC, withA, stride, setR, fillA, evConvert, convPV, evMakeSlice, evSlice, bnd, atI, binAV, eqAV, eqNil, leafEq, cellsEq, CfP, reduceIte, if_true, if_false, ite_true, ite_false, reduceCtorEq, ne_eq, eq_self, Nat.reduceAdd, Nat.reduceSub, Nat.reduceMul, Nat.reduceLT, Nat.reduceLeDiff, Nat.reduceEqDiff, Nat.reduceBEq, Nat.reduceBNe, Int.reduceToNat, Int.reduceLT, Int.reduceLE, Int.reduceAdd, Int.reduceSub, Int.reduceMul, Int.reduceEq, Int.reduceNe, Int.reduceBEq, Int.reduceBNe, Int.reduceNeg, Nat.reducePow, Int.reducePow, Nat.reduceMod, Nat.reduceDiv, ite_pos', ite_neg', e1, e5, e6, e9, e11, e12, e13, e14, hil3]
            refine PS.app md_7 Try.func7 pWorks rfl ?_
            rintro r rfl
            simp -implicitDefEqProofs -dsimp (disch := first | omega | (simp only [List.length_append, List.length_set, List.length_cons, List.length_nil, List.length_map]; omega) | decide +kernel) only [↓wkPre, ↓evC_region, ↓evC_text, ↓evC_cond, ↓evC_block, wkPost, wkF, skp, mkFn, evBuildSlice, fillS, results_tmp, mkTup, mkAgg, PV.flat, flatL, evFieldAddr, evLoad, evStore, evIndexAddr, evAlloc, evBuild, evBuiltin, evLen, lenAV, ldVar, ldArr, stVar, partA, partP, partC, withA, stride, setR, fillA, evConvert, convPV, evMakeSlice, evSlice, bnd, atI, binAV, eqAV, eqNil, leafEq, cellsEq, CfP, reduceIte, if_true, if_false, ite_true, ite_false, reduceCtorEq, ne_eq, eq_self, Nat.reduceAdd, Nat.reduceSub, Nat.reduceMul, Nat.reduceLT, Nat.reduceLeDiff, Nat.reduceEqDiff, Nat.reduceBEq, Nat.reduceBNe, Int.reduceToNat, Int.reduceLT, Int.reduceLE, Int.reduceAdd, Int.reduceSub, Int.reduceMul, Int.reduceEq, Int.reduceNe, Int.reduceBEq, Int.reduceBNe, Int.reduceNeg, Nat.reducePow, Int.reducePow, Nat.reduceMod, Nat.reduceDiv, ite_pos', ite_neg']
        · simp -implicitDefEqProofs -dsimp (disch := first | omega | (simp only [List.length_append, List.length_set, List.length_cons, List.length_nil, List.length_map]; omega) | decide +kernel) only [↓wkPre, ↓evC_region, ↓evC_text, ↓evC_cond, ↓evC_block, wkPost, wkF, skp, mkFn, evBuildSlice, fillS, results_tmp, mkTup, mkAgg, PV.flat, flatL, evFieldAddr, evLoad, evStore, evIndexAddr, evAlloc, evBuild, evBuiltin, evLen, lenAV, ldVar, ldArr, stVar, partA, partP, partC, withA, stride, setR, fillA, evConvert, convPV, evMakeSlice, evSlice, bnd, atI, binAV, eqAV, eqNil, leafEq, cellsEq, CfP, reduceIte, if_true, if_false, ite_true, ite_false, reduceCtorEq, ne_eq, eq_self, Nat.reduceAdd, Nat.reduceSub, Nat.reduceMul, Nat.reduceLT, Nat.reduceLeDiff, Nat.reduceEqDiff, Nat.reduceBEq, Nat.reduceBNe, Int.reduceToNat, Int.reduceLT, Int.reduceLE, Int.reduceAdd, Int.reduceSub, Int.reduceMul, Int.reduceEq, Int.reduceNe, Int.reduceBEq, Int.reduceBNe, Int.reduceNeg, Nat.reducePow, Int.reducePow, Nat.reduceMod, Nat.reduceDiv, ite_pos', ite_neg']
          exact ⟨e1, e5, e6, e9, rfl⟩
    · simp -implicitDefEqProofs -dsimp (disch := first | omega | (simp only [List.length_append, List.length_set, List.length_cons, List.length_nil, List.length_map]; omega) | decide +kernel) only [↓wkPre, ↓evC_region, ↓evC_text, ↓evC_cond, ↓evC_block, wkPost, wkF, skp, mkFn, evBuildSlice, fillS, results_tmp, mkTup, mkAgg, PV.flat, flatL, evFieldAddr, evLoad, evStore, evIndexAddr, evAlloc, evBuild, evBuiltin, evLen, lenAV, ldVar, ldArr, stVar, partA, partP, partC, withA, stride, setR, fillA, evConvert, convPV, evMakeSlice, evSlice, bnd, atI, binAV, eqAV, eqNil, leafEq, cellsEq, CfP, reduceIte, if_true, if_false, ite_true, ite_false, reduceCtorEq, ne_eq, eq_self, Nat.reduceAdd, Nat.reduceSub, Nat.reduceMul, Nat.reduceLT, Nat.reduceLeDiff, Nat.reduceEqDiff, Nat.reduceBEq, Nat.reduceBNe, Int.reduceToNat, Int.reduceLT, Int.reduceLE, Int.reduceAdd, Int.reduceSub, Int.reduceMul, Int.reduceEq, Int.reduceNe, Int.reduceBEq, Int.reduceBNe, Int.reduceNeg, Nat.reducePow, Int.reducePow, Nat.reduceMod, Nat.reduceDiv, ite_pos', ite_neg']
      exact ⟨trivial, by simp [Tr.lst], hb3, hu3, hw⟩
theorem lawTreeShapes : ∀ xs, Tyas [(0, [Ty.sl 3 [Ty.int .i64, Ty.int .i64, Ty.int .i64]]), (0, [Ty.int .i64])] xs → (Ev.W Cf okf).call 5 (xs.map AV.p) [] fun v _ => v = .p (.bool true) := by
  intro xs h
  simp only [Tyas] at h
  obtain ⟨x2, r2, rfl, h2, xa, ra, rfl, ha, rfl⟩ := h
  have h3 := Tya_one h2
  simp only [Tyd] at h3
  obtain ⟨ys, rfl, _, h4⟩ := h3
  obtain ⟨os, rfl⟩ := ops_list h4
  obtain ⟨a, rfl, _⟩ := Tya_one ha
  exact shapes os a
end Go.Ev.F31
end
