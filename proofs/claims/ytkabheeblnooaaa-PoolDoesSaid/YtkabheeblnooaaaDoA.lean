/- A part of the proof: walks of the functions that the law calls. No condition. -/
import Derived.Test.YtkabheeblnooaaaPlain
set_option linter.all false
section
namespace Go.Ev.F28
open Go.Proofs Go.Ev Go.Sort
set_option maxRecDepth 100000
set_option linter.all false
section
variable {H : Heap} {c : Pos} {m : Md} {X : List Fx} {t w : Nat}
set_option maxHeartbeats 1000000 in
theorem w19n (h : Inv H c m X t w) (hr : m.room < 50) (Q : AV → Heap → Prop)
    (hq : ∀ R v H', R.Pairwise (· < ·) → R.Perm (m.L.map (·.n)) → OwnS H' v 0 (isL R) → (∀ b, v.blk = some b → H.length ≤ b) → (∀ i, i < H.length → H'[i]? = H[i]?) → H.length ≤ H'.length → (R = [] → v = .nsl) → Q v H') : (Ev.W Cf okf).call 19 [.vptr c.pp 0] H Q := by
  refine top_mk extMono Try.func19 body19 (by decide) rfl ?_
  simp only [c19, Try.f19, Option.getD_some]
  have hp := h.pool
  obtain ⟨g, E, h5, hE⟩ := h.map
  have hlt := h.lt
  have hmb := hlt c.mb (by simp [Foot])
  have hfull := h.full
  have hEl : E.length = X.length := by rw [hE.length_eq]; simp
  have hEn : (E.map (·.1)).Perm (m.L.map (·.n)) := by
    have := hE.map (·.1)
    rw [List.map_map] at this
    rw [h.L, List.map_map]; exact this
  have hEd : (m.L.map (·.n)).Nodup := by rw [h.L, List.map_map]; exact h.nn
  simp -implicitDefEqProofs -dsimp (maxSteps := 1000000) (disch := first | omega | (simp only [wkLen]; omega) | decide +kernel) only [↓wkPre, ↓wkPre2, ↓wkE, wkPost, wkDef, wkF, simprocAttr, hp, nn_v, nn_fn, List.length_map, pgL_len, allP_map, take_pg, take_pgm, get0, get1, get2, getm0, getm1, getm2, get00, getm00, setm0, setm1, setm2, setm00, setR_pg, setR_pg1, flat_pg, flatL_app, eq_pg]
  rw [show evRange Try.prog 69 (.map c.mb) H = some (.it H.length, H ++ [.mit c.mb g (0 :: List.range E.length)]) by unfold evRange; simp [tmap_69, h5, kI]]
  simp -implicitDefEqProofs -dsimp (maxSteps := 1000000) (disch := first | omega | (simp only [wkLen]; omega) | decide +kernel) only [↓wkPre, ↓wkPre2, ↓wkE, wkPost, wkDef, wkF, simprocAttr]
  refine loop_use extMono (fun m' e Hc => ∃ (todo : List Nat) (ld : Nat) (O : List Int) (w : AV), m' = todo.length ∧ e 3 = w ∧ e 9 = .it H.length ∧ H.length < Hc.length ∧ (∀ i, i < H.length → Hc[i]? = H[i]?) ∧ Hc[H.length]? = some (.mit c.mb g (ld :: todo)) ∧
    (∀ b, w.blk = some b → H.length < b) ∧ OwnS Hc w 0 (isL O) ∧ (∀ j ∈ todo, j < E.length) ∧ (O ++ todo.map (fun j => E[j]!.1)).Perm (E.map (·.1)) ∧ (O = [] → w = .nsl)) ?_ E.length _ _ ⟨List.range E.length, 0, [], .nsl, by simp, ?_⟩
  · rintro m' e Hc ⟨todo, ld, O, w, rfl, e3, e9, hcl, hfr, hit, hwb, hown, htd, hperm, hOn⟩
    have hOl : O.length ≤ E.length := by have := hperm.length_eq; simp at this; omega
    have hm1 := (hfr _ hmb).trans h5
    simp -implicitDefEqProofs -dsimp (maxSteps := 1000000) (disch := first | omega | (simp only [wkLen]; omega) | decide +kernel) only [↓wkPre, ↓wkPre2, ↓wkE, wkPost, wkDef, wkF, simprocAttr, e9]
    rw [show iterOf Hc H.length = some (kI .i64 (E.map (·.1)), E.map (fun e => AV.vptr e.2 0), todo, fun l => Hc.set H.length (.mit c.mb g l)) by unfold iterOf; simp [hit, hm1], oK_some]
    refine ⟨fun hn => ?_, fun j hj => ?_⟩
    · simp only at hn
      subst hn
      simp only [List.map_nil, List.append_nil] at hperm
      obtain ⟨r1, r2⟩ := sorted_rise (hperm.trans hEn) hEd
      simp -implicitDefEqProofs -dsimp (maxSteps := 1000000) (disch := first | omega | (simp only [wkLen]; omega) | decide +kernel) only [↓wkPre, ↓wkPre2, ↓wkE, wkPost, wkDef, wkF, simprocAttr, e3]
      refine imp_call md_35 (wSortO w O Hc hown (by omega) _ ?_)
      intro H1 hown1 hfr1 hl1
      simp -implicitDefEqProofs -dsimp (maxSteps := 1000000) (disch := first | omega | (simp only [wkLen]; omega) | decide +kernel) only [↓wkPre, ↓wkPre2, ↓wkE, wkPost, wkDef, wkF, simprocAttr, e3]
      exact hq _ _ _ r1 r2 hown1 (fun b hb => by have := hwb b hb; omega) (fun i hi => (hfr1 i (fun e => by have := hwb _ e; omega) (by omega)).trans (hfr i hi)) (by omega) (fun h => hOn (by have := congrArg List.length h; simp at this; exact this))
    · simp only at hj
      have hjM := htd j hj
      have hg1 : (kI .i64 (E.map (·.1)))[j]? = some (I E[j]!.1) := by simp [kI, hjM]
      have hg2 : (E.map (fun e : Int × Nat => AV.vptr e.2 0))[j]? = some (.vptr E[j]!.2 0) := by simp [hjM]
      simp only [hg1, oK_some, hg2]
      have hkey : entOf (Hc.set H.length (.mit c.mb g ((j + 1) :: todo.erase j))) H.length = some (I E[j]!.1, .vptr E[j]!.2 0) := by
        unfold entOf
        rw [hs_set hcl]
        simp only [hs_ne (show H.length ≠ c.mb by omega), hm1, hg1, hg2, if_true, Option.bind_some, Option.map_some]
      simp -implicitDefEqProofs -dsimp (maxSteps := 1000000) (disch := first | omega | (simp only [wkLen]; omega) | decide +kernel) only [↓wkPre, ↓wkPre2, ↓wkE, wkPost, wkDef, wkF, simprocAttr, e3, e9, hkey]
      refine append_step telem_52 (elems_new (by simp) rfl) (by simp) ((hown.set (fun h => by have := hwb _ h; omega)).app _) ?_ ?_
      · rw [byt_3, isL_len]; simp; omega
      intro w' H' hown' hfr' hle hb'
      simp only [List.length_append, List.length_set, List.length_cons, List.length_nil] at hfr' hle hb'
      simp -implicitDefEqProofs -dsimp (maxSteps := 1000000) (disch := first | omega | (simp only [wkLen]; omega) | decide +kernel) only [↓wkPre, ↓wkPre2, ↓wkE, wkPost, wkDef, wkF, simprocAttr, e3, e9]
      have hp := (List.perm_cons_erase hj).symm
      refine ⟨(todo.erase j).length, by rw [List.length_erase_of_mem hj]; have := List.length_pos_of_mem hj; omega, todo.erase j, j + 1, O ++ [E[j]!.1], w', rfl, rfl, by omega, ?_, ?_, fun c hc => ?_, ?_, fun i hi => htd i (List.mem_of_mem_erase hi), ?_, fun h => absurd h (by simp)⟩
      · intro i hi
        rw [hfr' i (by omega) (fun e => by have := hwb _ e; omega), hs_app (by simp; omega), hs_ne (by omega)]; exact hfr i hi
      · rw [hfr' H.length (by omega) (fun e => by have := hwb _ e; omega), hs_app (by simp; omega), hs_set hcl]
      · by_cases hcl2 : c < Hc.length + (0 + 1)
        · exact hwb c (hb' c hc hcl2)
        · omega
      · rw [isL_snoc]; exact hown'
      · refine List.Perm.trans ?_ hperm
        rw [List.append_assoc]
        refine List.Perm.append_left O ?_
        have := hp.map (fun j => E[j]!.1)
        simpa using this
  · simp -implicitDefEqProofs -dsimp (maxSteps := 1000000) (disch := first | omega | (simp only [wkLen]; omega) | decide +kernel) only [↓wkPre, ↓wkPre2, ↓wkE, wkPost, wkDef, wkF, simprocAttr]
    refine ⟨by omega, fun i hi => hs_app hi, (fun c h => by cases h), OwnS.nil _ _, fun j hj => by simpa using hj, ?_⟩
    have : (List.range E.length).map (fun j => E[j]!.1) = E.map (·.1) := by
      apply List.ext_getElem (by simp)
      intro i h1 h2
      simp at h1
      simp [h1]
    rw [this]
    exact ⟨List.Perm.refl _, fun _ => trivial⟩
end
end Go.Ev.F28
end
section
namespace Go.Ev.F28
open Go.Proofs Go.Ev
set_option maxRecDepth 100000
set_option linter.all false
/-- The ref's pool as a value: all of it data, or, ahead of the first act, with what lies beneath as a live row. -/
def MV (H : Heap) (F : List Nat) (v : AV) (m : Md) : Prop := v = .p (md m) ∨ (m.L = [] ∧ ∃ ba l g, ba ∉ F ∧ v = .agg [.p (I m.room), .nsl, .ref ba g 0 m.W.length false, .p (I m.met), .p (I m.miss)] ∧ H[ba]? = some (.arr l g 224 (pgs m.W)))
theorem MV.facts {H : Heap} {F : List Nat} {v : AV} {m : Md} (h : MV H F v m) : v.shape = 5 ∧ v.isU = false ∧ v.stor = true ∧ frzN Try.prog H 4 31 v = some (md m) := by
  rcases h with rfl | ⟨h0, ba, l, g, hb, rfl, hH⟩
  · exact ⟨rfl, rfl, by simp [AV.stor, PV.stor], rfl⟩
  · refine ⟨rfl, rfl, rfl, ?_⟩
    have hl := pgs_len m.W
    simp [frzN, hleaf31, frzL, hH, telem_28, hl, md, frs, h0, List.take_of_length_le]
theorem MV.keep {H H' : Heap} {F F' : List Nat} {v : AV} {m : Md} (h : MV H F v m) (hF : ∀ i ∈ F', i ∈ F ∨ H.length ≤ i) (k : ∀ (i : Nat) l g s xs, i ∉ F → H[i]? = some (.arr l g s xs) → ∃ l', H'[i]? = some (.arr l' g s xs)) : MV H' F' v m := by
  rcases h with rfl | ⟨h0, ba, l, g, hb, rfl, hH⟩
  · exact .inl rfl
  · obtain ⟨l', h'⟩ := k ba l g _ _ hb hH
    exact .inr ⟨h0, ba, l', g, fun h => (hF ba h).elim hb (fun h2 => by have := (List.getElem?_eq_some_iff.1 hH).1; omega), rfl, h'⟩
theorem MV.keep' {c : Pos} {H H' : Heap} {X X' : List Fx} {v : AV} {m : Md} (h : MV H (Foot c X) v m) (k : Keep c H H' X X') : MV H' (Foot c X') v m :=
  h.keep k.q (fun i l g s xs hi hb => ⟨l, (k.same i (List.getElem?_eq_some_iff.1 hb).1 hi).trans hb⟩)
theorem frzL_p (f : TypeId → AV → Option PV) (hf : ∀ t x, f t (.p x) = some x) : ∀ (pr : List PV) (ts : List TypeId), frzL f (pr.map AV.p) ts = some pr
  | [], _ => rfl
  | x :: pr, ts => by simp [frzL, hf, frzL_p f hf pr ts.tail]
theorem frzN_p (H : Heap) (t : TypeId) (x : PV) : frzN Try.prog H 4 t (.p x) = some x := rfl
theorem ids_map_p (pr : List PV) : (pr.map AV.p).flatMap (ids 4) = [] := by
  induction pr with
  | nil => rfl
  | cons x pr ih => simp [ids_p, ih]
/-- A call of a pure function at it. -/
theorem MV.call {H : Heap} {F : List Nat} {v : AV} {m : Md} {f : FuncId} {fn : Func} {args : List AV} {pr : List PV} {R : PV → Prop} {k : AV → Heap → Prop} {t : Tag k} {ts : List TypeId} (hv : MV H F v m) (hm : Cf.md f = .pure) (hf : Cf.P.funcs[f]? = some fn)
    (h : PS Cf okf f fn.resultTypes.toList (md m :: pr) R) (hp : fn.params.toList = 31 :: ts) (ha : args = v :: pr.map AV.p)
    (hk : ∀ r H', R r → H'.length = H.length → (∀ i ∈ F, H'[i]? = H[i]?) → (∀ (i : Nat) x, H[i]? = some (.var true x) → H'[i]? = some (.var true x)) → MV H' F v m → k (.p r) H') : evCallT Cf (Ev.W Cf okf) f args H k t := by
  subst ha
  refine PS.app hm hf h (by rw [hp]; simp only [frzL, List.headD_cons, List.tail_cons]; show (frzN Try.prog H 4 31 v).bind _ = _; rw [hv.facts.2.2.2]; simp only [Option.bind_some]; rw [show frzL (frzN Cf.P H 4) (pr.map AV.p) ts = some pr from frzL_p _ (fun t x => rfl) pr ts]; rfl) fun r hr => ?_
  split
  · exact hk r H hr rfl (fun _ _ => rfl) (fun _ _ h => h) hv
  · rw [List.flatMap_cons, ids_map_p, List.append_nil]
    rcases hv with rfl | ⟨h0, ba, l, g, hb, rfl, hH⟩
    · rw [ids_p]
      exact hk r H hr rfl (fun _ _ => rfl) (fun _ _ h => h) (.inl rfl)
    · have hids : ids 4 (AV.agg [.p (I m.room), .nsl, .ref ba g 0 m.W.length false, .p (I m.met), .p (I m.miss)]) = [ba] := rfl
      rw [hids]
      refine hk r _ hr (freezeIds_length _ _) (fun i hi => ?_) (fun i x hx => ?_) (.inr ⟨h0, ba, false, g, hb, rfl, ?_⟩)
      · rw [freezeIds_get, if_neg (fun e => hb (by rw [List.mem_singleton] at e; exact e ▸ hi))]
      · rw [freezeIds_get]
        split
        · rename_i e
          rw [List.mem_singleton] at e
          subst e
          rw [hH] at hx; cases hx
        · exact hx
      · rw [freezeIds_get, if_pos (List.mem_singleton.2 rfl), hH]; rfl
section
variable {H : Heap} {c : Pos} {m : Md} {X : List Fx} {t w : Nat}
set_option maxHeartbeats 2000000 in
theorem w9 (hI : Inv H c m X t w) (hr : m.room < 50) (v : AV) (hv : MV H (Foot c X) v m) (Q : AV → Heap → Prop)
    (hq : ∀ H', H.length ≤ H'.length → (∀ i, i < H.length → H'[i]? = H[i]?) → Q (.p (B true)) H') : (Ev.W Cf okf).call 9 [.vptr c.pp 0, .vptr c.bb 0, v] H Q := by
  refine top_mk extMono Try.func9 body9 (by decide) rfl ?_
  simp only [c9, Try.f9, Option.getD_some]
  have hv5 := hv.facts
  have hXL : m.L.length = X.length := by rw [hI.L]; simp
  have hfull := hI.full
  have hL1000 := hI.ok.L
  have hW1000 := hI.ok.W
  have hnd : (m.L.map (·.n)).Nodup := by rw [hI.L, List.map_map]; exact hI.nn
  rcases hv with rfl | ⟨h0, ba, l, g, hb, rfl, hH⟩
  · have hG := hI.app [.var true (.p (md m))]
    have kG : (H ++ [Blk.var true (.p (md m))])[H.length]? = some (.var true (.p (md m))) := by simp
    have hGk : ∀ i, i < H.length → (H ++ [Blk.var true (.p (md m))])[i]? = H[i]? := fun i hi => hs_app hi
    have hGl : H.length + 1 ≤ (H ++ [Blk.var true (.p (md m))]).length := by simp
    generalize hG2 : H ++ [Blk.var true (.p (md m))] = G at hG kG hGk hGl
    have hl := frs_len m.L
    obtain ⟨room, L, W, met, miss⟩ := m
    dsimp only at *
    have hpl := pgs_len W
    by_cases hL0 : L = []
    · subst hL0
      simp -implicitDefEqProofs -dsimp (maxSteps := 1000000) (disch := first | omega | (simp only [wkLen]; omega) | decide +kernel) only [↓wkPre, ↓wkPre2, ↓wkE, wkPost, wkDef, wkF, simprocAttr, hG2, nn_v, nn_fn, List.length_map, pgL_len, allP_map, take_pg, take_pgm, get0, get1, get2, getm0, getm1, getm2, get00, getm00, setm0, setm1, setm2, setm00, setR_pg, setR_pg1, flat_pg, flatL_app, eq_pg]
      refine imp_call md_23 (w23 hG _ ?_)
      simp -implicitDefEqProofs -dsimp (maxSteps := 1000000) (disch := first | omega | (simp only [wkLen]; omega) | decide +kernel) only [↓wkPre, ↓wkPre2, ↓wkE, wkPost, wkDef, wkF, simprocAttr, kG, nn_v, nn_fn, List.length_map, pgL_len, allP_map, take_pg, take_pgm, get0, get1, get2, getm0, getm1, getm2, get00, getm00, setm0, setm1, setm2, setm00, setR_pg, setR_pg1, flat_pg, flatL_app, eq_pg]
      refine evC_pl pl_9_2 (by kernel_rfl) (by decide +kernel) ?_
      simp only [pl_9_2]
      simp -implicitDefEqProofs -dsimp (maxSteps := 1000000) (disch := first | omega | (simp only [wkLen]; omega) | decide +kernel) only [↓wkPre, ↓wkPre2, ↓wkE, wkPost, wkDef, wkF, simprocAttr, kG, hl, nn_v, nn_fn, List.length_map, pgL_len, allP_map, take_pg, take_pgm, get0, get1, get2, getm0, getm1, getm2, get00, getm00, setm0, setm1, setm2, setm00, setR_pg, setR_pg1, flat_pg, flatL_app, eq_pg]
      refine imp_call md_18 (w18 hG _ ?_)
      simp -implicitDefEqProofs -dsimp (maxSteps := 1000000) (disch := first | omega | (simp only [wkLen]; omega) | decide +kernel) only [↓wkPre, ↓wkPre2, ↓wkE, wkPost, wkDef, wkF, simprocAttr, kG, hl, nn_v, nn_fn, List.length_map, pgL_len, allP_map, take_pg, take_pgm, get0, get1, get2, getm0, getm1, getm2, get00, getm00, setm0, setm1, setm2, setm00, setR_pg, setR_pg1, flat_pg, flatL_app, eq_pg]
      refine imp_call md_19 (w19n hG hr _ ?_)
      intro R v H2 hR1 hR2 hown hvb hfr hle hnil
      have hR0 : R = [] := by
        have := hR2.length_eq
        simpa using this
      have hv0 := hnil hR0
      subst hv0
      have hI2 := hG.keep (fun i hi => hfr i (hG.lt i hi))
      have k2 := (hfr _ (List.getElem?_eq_some_iff.1 kG).1).trans kG
      simp -implicitDefEqProofs -dsimp (maxSteps := 1000000) (disch := first | omega | (simp only [wkLen]; omega) | decide +kernel) only [↓wkPre, ↓wkPre2, ↓wkE, wkPost, wkDef, wkF, simprocAttr, k2, hl, nn_v, nn_fn, List.length_map, pgL_len, allP_map, take_pg, take_pgm, get0, get1, get2, getm0, getm1, getm2, get00, getm00, setm0, setm1, setm2, setm00, setR_pg, setR_pg1, flat_pg, flatL_app, eq_pg]
      refine imp_call md_18 (w18 hI2 _ ?_)
      simp -implicitDefEqProofs -dsimp (maxSteps := 1000000) (disch := first | omega | (simp only [wkLen]; omega) | decide +kernel) only [↓wkPre, ↓wkPre2, ↓wkE, wkPost, wkDef, wkF, simprocAttr, k2, hl, nn_v, nn_fn, List.length_map, pgL_len, allP_map, take_pg, take_pgm, get0, get1, get2, getm0, getm1, getm2, get00, getm00, setm0, setm1, setm2, setm00, setR_pg, setR_pg1, flat_pg, flatL_app, eq_pg]
      refine loop_use extMono (fun m' e Hc => m' = 0 ∧ e 0 = .vptr c.pp 0 ∧ e 1 = .vptr c.bb 0 ∧ e 5 = .vptr H.length 0 ∧ e 9 = .p (I 0) ∧ H2 = Hc) ?_ 0 _ _ ⟨rfl, ?_⟩
      · rintro m' e Hc ⟨rfl, e0, e1, e5, e9, rfl⟩
        simp -implicitDefEqProofs -dsimp (maxSteps := 1000000) (disch := first | omega | (simp only [wkLen]; omega) | decide +kernel) only [↓wkPre, ↓wkPre2, ↓wkE, wkPost, wkDef, wkF, simprocAttr, e0, e1, e5, e9, k2, hl, nn_v, nn_fn, List.length_map, pgL_len, allP_map, take_pg, take_pgm, get0, get1, get2, getm0, getm1, getm2, get00, getm00, setm0, setm1, setm2, setm00, setR_pg, setR_pg1, flat_pg, flatL_app, eq_pg]
        refine imp_call md_19 (w19n hI2 hr _ ?_)
        intro R v H3 hR1 hR2 hown hvb hfr3 hle3 hnil
        have hR0 : R = [] := by
          have := hR2.length_eq
          simpa using this
        have hv0 := hnil hR0
        subst hv0
        have hI3 := hI2.keep (fun i hi => hfr3 i (hI2.lt i hi))
        have kZ := (hfr3 _ (List.getElem?_eq_some_iff.1 k2).1).trans k2
        have hlZ : H.length ≤ H3.length := by omega
        have hkZ : ∀ i, i < H.length → H3[i]? = H[i]? := fun i hi => (hfr3 i (by omega)).trans ((hfr i (by omega)).trans (hGk i hi))
        obtain ⟨gz, qZ1, qZ2⟩ := hI3.ben
        simp -implicitDefEqProofs -dsimp (maxSteps := 1000000) (disch := first | omega | (simp only [wkLen]; omega) | decide +kernel) only [↓wkPre, ↓wkPre2, ↓wkE, wkPost, wkDef, wkF, simprocAttr, e0, e1, e5, kZ, nn_v, nn_fn, List.length_map, pgL_len, allP_map, take_pg, take_pgm, get0, get1, get2, getm0, getm1, getm2, get00, getm00, setm0, setm1, setm2, setm00, setR_pg, setR_pg1, flat_pg, flatL_app, eq_pg]
        refine loop_use extMono (fun m' e Hc => m' = 0 ∧ e 1 = .vptr c.bb 0 ∧ e 5 = .vptr H.length 0 ∧ e 10 = .nsl ∧ e 11 = .p (I 0) ∧ H3 = Hc) ?_ 0 _ _ ⟨rfl, ?_⟩
        · rintro m' e Hc ⟨rfl, e1, e5, e10, e11, rfl⟩
          simp -implicitDefEqProofs -dsimp (maxSteps := 1000000) (disch := first | omega | (simp only [wkLen]; omega) | decide +kernel) only [↓wkPre, ↓wkPre2, ↓wkE, wkPost, wkDef, wkF, simprocAttr, e1, e5, e10, e11, kZ, nn_v, nn_fn, List.length_map, pgL_len, allP_map, take_pg, take_pgm, get0, get1, get2, getm0, getm1, getm2, get00, getm00, setm0, setm1, setm2, setm00, setR_pg, setR_pg1, flat_pg, flatL_app, eq_pg]
          refine loop_use extMono (fun m' e Hc => ∃ (i : Nat), m' = W.length - i ∧ i ≤ W.length ∧ e 1 = .vptr c.bb 0 ∧ e 5 = .vptr H.length 0 ∧ e 12 = .p (I i) ∧ H3 = Hc) ?_ W.length _ _ ⟨0, rfl, by omega, ?_⟩
          · rintro m' e Hc ⟨i, rfl, hi, e1, e5, e12, rfl⟩
            rcases Nat.lt_or_ge i W.length with hlt | hge
            · have gw := pgs_get hlt
              simp -implicitDefEqProofs -dsimp (maxSteps := 1000000) (disch := first | omega | (simp only [wkLen]; omega) | decide +kernel) only [↓wkPre, ↓wkPre2, ↓wkE, wkPost, wkDef, wkF, simprocAttr, e1, e5, e12, kZ, qZ1, qZ2, hpl, gw, nn_v, nn_fn, List.length_map, pgL_len, allP_map, take_pg, take_pgm, get0, get1, get2, getm0, getm1, getm2, get00, getm00, setm0, setm1, setm2, setm00, setR_pg, setR_pg1, flat_pg, flatL_app, eq_pg]
              exact ⟨W.length - (i + 1), by omega, i + 1, rfl, by omega, by push_cast; rfl⟩
            · simp -implicitDefEqProofs -dsimp (maxSteps := 1000000) (disch := first | omega | (simp only [wkLen]; omega) | decide +kernel) only [↓wkPre, ↓wkPre2, ↓wkE, wkPost, wkDef, wkF, simprocAttr, e1, e5, e12, kZ, qZ1, qZ2, hpl, nn_v, nn_fn, List.length_map, pgL_len, allP_map, take_pg, take_pgm, get0, get1, get2, getm0, getm1, getm2, get00, getm00, setm0, setm1, setm2, setm00, setR_pg, setR_pg1, flat_pg, flatL_app, eq_pg]
              exact hq _ hlZ hkZ
          · simp -implicitDefEqProofs -dsimp (maxSteps := 1000000) (disch := first | omega | (simp only [wkLen]; omega) | decide +kernel) only [↓wkPre, ↓wkPre2, ↓wkE, wkPost, wkDef, wkF, simprocAttr, e1, e5]
        · simp -implicitDefEqProofs -dsimp (maxSteps := 1000000) (disch := first | omega | (simp only [wkLen]; omega) | decide +kernel) only [↓wkPre, ↓wkPre2, ↓wkE, wkPost, wkDef, wkF, simprocAttr, e0, e1, e5]
      · simp -implicitDefEqProofs -dsimp (maxSteps := 1000000) (disch := first | omega | (simp only [wkLen]; omega) | decide +kernel) only [↓wkPre, ↓wkPre2, ↓wkE, wkPost, wkDef, wkF, simprocAttr]
    · simp -implicitDefEqProofs -dsimp (maxSteps := 1000000) (disch := first | omega | (simp only [wkLen]; omega) | decide +kernel) only [↓wkPre, ↓wkPre2, ↓wkE, wkPost, wkDef, wkF, simprocAttr, hG2, nn_v, nn_fn, List.length_map, pgL_len, allP_map, take_pg, take_pgm, get0, get1, get2, getm0, getm1, getm2, get00, getm00, setm0, setm1, setm2, setm00, setR_pg, setR_pg1, flat_pg, flatL_app, eq_pg]
      refine imp_call md_23 (w23 hG _ ?_)
      simp -implicitDefEqProofs -dsimp (maxSteps := 1000000) (disch := first | omega | (simp only [wkLen]; omega) | decide +kernel) only [↓wkPre, ↓wkPre2, ↓wkE, wkPost, wkDef, wkF, simprocAttr, kG, nn_v, nn_fn, List.length_map, pgL_len, allP_map, take_pg, take_pgm, get0, get1, get2, getm0, getm1, getm2, get00, getm00, setm0, setm1, setm2, setm00, setR_pg, setR_pg1, flat_pg, flatL_app, eq_pg]
      refine evC_pl pl_9_2 (by kernel_rfl) (by decide +kernel) ?_
      simp only [pl_9_2]
      simp -implicitDefEqProofs -dsimp (maxSteps := 1000000) (disch := first | omega | (simp only [wkLen]; omega) | decide +kernel) only [↓wkPre, ↓wkPre2, ↓wkE, wkPost, wkDef, wkF, simprocAttr, kG, hl, nn_v, nn_fn, List.length_map, pgL_len, allP_map, take_pg, take_pgm, get0, get1, get2, getm0, getm1, getm2, get00, getm00, setm0, setm1, setm2, setm00, setR_pg, setR_pg1, flat_pg, flatL_app, eq_pg]
      refine imp_call md_18 (w18 hG _ ?_)
      simp -implicitDefEqProofs -dsimp (maxSteps := 1000000) (disch := first | omega | (simp only [wkLen]; omega) | decide +kernel) only [↓wkPre, ↓wkPre2, ↓wkE, wkPost, wkDef, wkF, simprocAttr, kG, hl, nn_v, nn_fn, List.length_map, pgL_len, allP_map, take_pg, take_pgm, get0, get1, get2, getm0, getm1, getm2, get00, getm00, setm0, setm1, setm2, setm00, setR_pg, setR_pg1, flat_pg, flatL_app, eq_pg]
      refine imp_call md_19 (w19n hG hr _ ?_)
      intro R v H2 hR1 hR2 hown hvb hfr hle hnil
      have hRl : R.length = L.length := by rw [hR2.length_eq, List.length_map]
      have il := isL_len R
      rcases hown with ⟨_, hx⟩ | ⟨bv, gv, rfl, hbv⟩
      · have := congrArg List.length hx
        rw [il, hRl, List.length_nil] at this
        exact absurd (List.length_eq_zero_iff.1 this) hL0
      have hI2 := hG.keep (fun i hi => hfr i (hG.lt i hi))
      have k2 := (hfr _ (List.getElem?_eq_some_iff.1 kG).1).trans kG
      simp -implicitDefEqProofs -dsimp (maxSteps := 1000000) (disch := first | omega | (simp only [wkLen]; omega) | decide +kernel) only [↓wkPre, ↓wkPre2, ↓wkE, wkPost, wkDef, wkF, simprocAttr, k2, hl, il, hRl, nn_v, nn_fn, List.length_map, pgL_len, allP_map, take_pg, take_pgm, get0, get1, get2, getm0, getm1, getm2, get00, getm00, setm0, setm1, setm2, setm00, setR_pg, setR_pg1, flat_pg, flatL_app, eq_pg]
      refine imp_call md_18 (w18 hI2 _ ?_)
      simp -implicitDefEqProofs -dsimp (maxSteps := 1000000) (disch := first | omega | (simp only [wkLen]; omega) | decide +kernel) only [↓wkPre, ↓wkPre2, ↓wkE, wkPost, wkDef, wkF, simprocAttr, k2, hl, il, hRl, nn_v, nn_fn, List.length_map, pgL_len, allP_map, take_pg, take_pgm, get0, get1, get2, getm0, getm1, getm2, get00, getm00, setm0, setm1, setm2, setm00, setR_pg, setR_pg1, flat_pg, flatL_app, eq_pg]
      refine loop_use extMono (fun m' e Hc => ∃ (i : Nat), m' = L.length - i ∧ i ≤ L.length ∧ e 0 = .vptr c.pp 0 ∧ e 1 = .vptr c.bb 0 ∧ e 5 = .vptr H.length 0 ∧ e 9 = .p (I i) ∧ H2 = Hc) ?_ L.length _ _ ⟨0, rfl, by omega, ?_⟩
      · rintro m' e Hc ⟨i, rfl, hi, e0, e1, e5, e9, rfl⟩
        rcases Nat.lt_or_ge i L.length with hlt | hge
        · have gi := frs_get hlt
          have hpm := pins_mem (m := ⟨room, L, W, met, miss⟩) hnd (List.getElem_mem hlt)
          have hdm := dirty_mem (m := ⟨room, L, W, met, miss⟩) hnd (List.getElem_mem hlt)
          generalize L[i] = f at gi hpm hdm
          obtain ⟨fn, fb, fk, fd⟩ := f
          dsimp only at hpm hdm
          simp -implicitDefEqProofs -dsimp (maxSteps := 1000000) (disch := first | omega | (simp only [wkLen]; omega) | decide +kernel) only [↓wkPre, ↓wkPre2, ↓wkE, wkPost, wkDef, wkF, simprocAttr, e0, e1, e5, e9, k2, hl, gi, nn_v, nn_fn, List.length_map, pgL_len, allP_map, take_pg, take_pgm, get0, get1, get2, getm0, getm1, getm2, get00, getm00, setm0, setm1, setm2, setm00, setR_pg, setR_pg1, flat_pg, flatL_app, eq_pg]
          refine evC_pl pl_9_7 (by kernel_rfl) (by decide +kernel) ?_
          simp only [pl_9_7]
          simp -implicitDefEqProofs -dsimp (maxSteps := 1000000) (disch := first | omega | (simp only [wkLen]; omega) | decide +kernel) only [↓wkPre, ↓wkPre2, ↓wkE, wkPost, wkDef, wkF, simprocAttr, e0, e1, e5, e9, k2, hl, gi, nn_v, nn_fn, List.length_map, pgL_len, allP_map, take_pg, take_pgm, get0, get1, get2, getm0, getm1, getm2, get00, getm00, setm0, setm1, setm2, setm00, setR_pg, setR_pg1, flat_pg, flatL_app, eq_pg]
          refine imp_call md_21 (w21 hI2 fn _ ?_)
          rw [hpm]
          simp -implicitDefEqProofs -dsimp (maxSteps := 1000000) (disch := first | omega | (simp only [wkLen]; omega) | decide +kernel) only [↓wkPre, ↓wkPre2, ↓wkE, wkPost, wkDef, wkF, simprocAttr, e0, e1, e5, e9, k2, hl, gi, nn_v, nn_fn, List.length_map, pgL_len, allP_map, take_pg, take_pgm, get0, get1, get2, getm0, getm1, getm2, get00, getm00, setm0, setm1, setm2, setm00, setR_pg, setR_pg1, flat_pg, flatL_app, eq_pg]
          refine imp_call md_17 (w17 hI2 fn _ ?_)
          rw [hdm]
          simp -implicitDefEqProofs -dsimp (maxSteps := 1000000) (disch := first | omega | (simp only [wkLen]; omega) | decide +kernel) only [↓wkPre, ↓wkPre2, ↓wkE, wkPost, wkDef, wkF, simprocAttr, e0, e1, e5, e9, k2, hl, gi, nn_v, nn_fn, List.length_map, pgL_len, allP_map, take_pg, take_pgm, get0, get1, get2, getm0, getm1, getm2, get00, getm00, setm0, setm1, setm2, setm00, setR_pg, setR_pg1, flat_pg, flatL_app, eq_pg]
          exact ⟨L.length - (i + 1), by omega, i + 1, rfl, by omega, by push_cast; rfl⟩
        · simp -implicitDefEqProofs -dsimp (maxSteps := 1000000) (disch := first | omega | (simp only [wkLen]; omega) | decide +kernel) only [↓wkPre, ↓wkPre2, ↓wkE, wkPost, wkDef, wkF, simprocAttr, e0, e1, e5, e9, k2, hl, nn_v, nn_fn, List.length_map, pgL_len, allP_map, take_pg, take_pgm, get0, get1, get2, getm0, getm1, getm2, get00, getm00, setm0, setm1, setm2, setm00, setR_pg, setR_pg1, flat_pg, flatL_app, eq_pg]
          refine imp_call md_19 (w19n hI2 hr _ ?_)
          intro R v H3 hR1 hR2 hown hvb hfr3 hle3 hnil
          have hRl : R.length = L.length := by rw [hR2.length_eq, List.length_map]
          have il := isL_len R
          rcases hown with ⟨_, hx⟩ | ⟨bv, gv, rfl, hbv⟩
          · have := congrArg List.length hx
            rw [il, hRl, List.length_nil] at this
            exact absurd (List.length_eq_zero_iff.1 this) hL0
          have hI3 := hI2.keep (fun i hi => hfr3 i (hI2.lt i hi))
          have kZ := (hfr3 _ (List.getElem?_eq_some_iff.1 k2).1).trans k2
          have hlZ : H.length ≤ H3.length := by omega
          have hkZ : ∀ i, i < H.length → H3[i]? = H[i]? := fun i hi => (hfr3 i (by omega)).trans ((hfr i (by omega)).trans (hGk i hi))
          obtain ⟨gz, qZ1, qZ2⟩ := hI3.ben
          simp -implicitDefEqProofs -dsimp (maxSteps := 1000000) (disch := first | omega | (simp only [wkLen]; omega) | decide +kernel) only [↓wkPre, ↓wkPre2, ↓wkE, wkPost, wkDef, wkF, simprocAttr, e0, e1, e5, kZ, nn_v, nn_fn, List.length_map, pgL_len, allP_map, take_pg, take_pgm, get0, get1, get2, getm0, getm1, getm2, get00, getm00, setm0, setm1, setm2, setm00, setR_pg, setR_pg1, flat_pg, flatL_app, eq_pg]
          refine loop_use extMono (fun m' e Hc => ∃ (i : Nat), m' = R.length - i ∧ i ≤ R.length ∧ e 1 = .vptr c.bb 0 ∧ e 5 = .vptr H.length 0 ∧ e 10 = .ref bv gv 0 R.length false ∧ e 11 = .p (I i) ∧ H3 = Hc) ?_ R.length _ _ ⟨0, rfl, by omega, ?_⟩
          · rintro m' e Hc ⟨i, rfl, hi, e1, e5, e10, e11, rfl⟩
            rcases Nat.lt_or_ge i R.length with hlt | hge
            · have gi := isL_get hlt
              have h32 := p32 ⟨room, L, W, met, miss⟩ R[i] (by dsimp only; omega)
              obtain ⟨q, hq2⟩ : ∃ q : Nat, findF L R[i] = some q := by
                cases hf : findF L R[i] with
                | some q => exact ⟨q, rfl⟩
                | none => exact absurd (hR2.mem_iff.1 (List.getElem_mem hlt)) (find_none.1 hf)
              rw [posF_some hq2] at h32
              by_cases hi0 : i = 0
              · subst hi0
                simp -implicitDefEqProofs -dsimp (maxSteps := 1000000) (disch := first | omega | (simp only [wkLen]; omega) | decide +kernel) only [↓wkPre, ↓wkPre2, ↓wkE, wkPost, wkDef, wkF, simprocAttr, e1, e5, e10, e11, kZ, hbv, il, gi, nn_v, nn_fn, List.length_map, pgL_len, allP_map, take_pg, take_pgm, get0, get1, get2, getm0, getm1, getm2, get00, getm00, setm0, setm1, setm2, setm00, setR_pg, setR_pg1, flat_pg, flatL_app, eq_pg]
                refine PS.app md_32 Try.func32 h32 rfl ?_
                rintro _ rfl
                simp -implicitDefEqProofs -dsimp (maxSteps := 1000000) (disch := first | omega | (simp only [wkLen]; omega) | decide +kernel) only [↓wkPre, ↓wkPre2, ↓wkE, wkPost, wkDef, wkF, simprocAttr, e1, e5, e10, e11, kZ, hbv, il, gi, nn_v, nn_fn, List.length_map, pgL_len, allP_map, take_pg, take_pgm, get0, get1, get2, getm0, getm1, getm2, get00, getm00, setm0, setm1, setm2, setm00, setR_pg, setR_pg1, flat_pg, flatL_app, eq_pg]
                exact ⟨R.length - (0 + 1), by omega, 0 + 1, rfl, by omega, by push_cast; rfl⟩
              · obtain ⟨j, rfl⟩ : ∃ j, i = j + 1 := ⟨i - 1, by omega⟩
                have gj := isL_get (l := R) (i := j) (by omega)
                have hij := List.pairwise_iff_getElem.1 hR1 j (j + 1) (by omega) hlt (by omega)
                have hjc : ((j + 1 : Nat) : Int) - 1 = (j : Int) := by omega
                simp -implicitDefEqProofs -dsimp (maxSteps := 1000000) (disch := first | omega | (simp only [wkLen]; omega) | decide +kernel) only [↓wkPre, ↓wkPre2, ↓wkE, wkPost, wkDef, wkF, simprocAttr, e1, e5, e10, e11, kZ, hbv, il, gi, gj, hjc, nn_v, nn_fn, List.length_map, pgL_len, allP_map, take_pg, take_pgm, get0, get1, get2, getm0, getm1, getm2, get00, getm00, setm0, setm1, setm2, setm00, setR_pg, setR_pg1, flat_pg, flatL_app, eq_pg]
                refine PS.app md_32 Try.func32 h32 rfl ?_
                rintro _ rfl
                simp -implicitDefEqProofs -dsimp (maxSteps := 1000000) (disch := first | omega | (simp only [wkLen]; omega) | decide +kernel) only [↓wkPre, ↓wkPre2, ↓wkE, wkPost, wkDef, wkF, simprocAttr, e1, e5, e10, e11, kZ, hbv, il, gi, gj, hjc, nn_v, nn_fn, List.length_map, pgL_len, allP_map, take_pg, take_pgm, get0, get1, get2, getm0, getm1, getm2, get00, getm00, setm0, setm1, setm2, setm00, setR_pg, setR_pg1, flat_pg, flatL_app, eq_pg]
                exact ⟨R.length - (j + 1 + 1), by omega, j + 1 + 1, rfl, by omega, by push_cast; rfl⟩
            · simp -implicitDefEqProofs -dsimp (maxSteps := 1000000) (disch := first | omega | (simp only [wkLen]; omega) | decide +kernel) only [↓wkPre, ↓wkPre2, ↓wkE, wkPost, wkDef, wkF, simprocAttr, e1, e5, e10, e11, kZ, nn_v, nn_fn, List.length_map, pgL_len, allP_map, take_pg, take_pgm, get0, get1, get2, getm0, getm1, getm2, get00, getm00, setm0, setm1, setm2, setm00, setR_pg, setR_pg1, flat_pg, flatL_app, eq_pg]
              refine loop_use extMono (fun m' e Hc => ∃ (i : Nat), m' = W.length - i ∧ i ≤ W.length ∧ e 1 = .vptr c.bb 0 ∧ e 5 = .vptr H.length 0 ∧ e 12 = .p (I i) ∧ H3 = Hc) ?_ W.length _ _ ⟨0, rfl, by omega, ?_⟩
              · rintro m' e Hc ⟨i, rfl, hi, e1, e5, e12, rfl⟩
                rcases Nat.lt_or_ge i W.length with hlt | hge
                · have gw := pgs_get hlt
                  simp -implicitDefEqProofs -dsimp (maxSteps := 1000000) (disch := first | omega | (simp only [wkLen]; omega) | decide +kernel) only [↓wkPre, ↓wkPre2, ↓wkE, wkPost, wkDef, wkF, simprocAttr, e1, e5, e12, kZ, qZ1, qZ2, hpl, gw, nn_v, nn_fn, List.length_map, pgL_len, allP_map, take_pg, take_pgm, get0, get1, get2, getm0, getm1, getm2, get00, getm00, setm0, setm1, setm2, setm00, setR_pg, setR_pg1, flat_pg, flatL_app, eq_pg]
                  exact ⟨W.length - (i + 1), by omega, i + 1, rfl, by omega, by push_cast; rfl⟩
                · simp -implicitDefEqProofs -dsimp (maxSteps := 1000000) (disch := first | omega | (simp only [wkLen]; omega) | decide +kernel) only [↓wkPre, ↓wkPre2, ↓wkE, wkPost, wkDef, wkF, simprocAttr, e1, e5, e12, kZ, qZ1, qZ2, hpl, nn_v, nn_fn, List.length_map, pgL_len, allP_map, take_pg, take_pgm, get0, get1, get2, getm0, getm1, getm2, get00, getm00, setm0, setm1, setm2, setm00, setR_pg, setR_pg1, flat_pg, flatL_app, eq_pg]
                  exact hq _ hlZ hkZ
              · simp -implicitDefEqProofs -dsimp (maxSteps := 1000000) (disch := first | omega | (simp only [wkLen]; omega) | decide +kernel) only [↓wkPre, ↓wkPre2, ↓wkE, wkPost, wkDef, wkF, simprocAttr, e1, e5]
          · simp -implicitDefEqProofs -dsimp (maxSteps := 1000000) (disch := first | omega | (simp only [wkLen]; omega) | decide +kernel) only [↓wkPre, ↓wkPre2, ↓wkE, wkPost, wkDef, wkF, simprocAttr, e0, e1, e5, il]
      · simp -implicitDefEqProofs -dsimp (maxSteps := 1000000) (disch := first | omega | (simp only [wkLen]; omega) | decide +kernel) only [↓wkPre, ↓wkPre2, ↓wkE, wkPost, wkDef, wkF, simprocAttr]
  · have hG := hI.app [.var true (.agg [.p (I m.room), .nsl, .ref ba g 0 m.W.length false, .p (I m.met), .p (I m.miss)])]
    have kG : (H ++ [Blk.var true (.agg [.p (I m.room), .nsl, .ref ba g 0 m.W.length false, .p (I m.met), .p (I m.miss)])])[H.length]? = some (.var true (.agg [.p (I m.room), .nsl, .ref ba g 0 m.W.length false, .p (I m.met), .p (I m.miss)])) := by simp
    have hGk : ∀ i, i < H.length → (H ++ [Blk.var true (.agg [.p (I m.room), .nsl, .ref ba g 0 m.W.length false, .p (I m.met), .p (I m.miss)])])[i]? = H[i]? := fun i hi => hs_app hi
    have hGl : H.length + 1 ≤ (H ++ [Blk.var true (.agg [.p (I m.room), .nsl, .ref ba g 0 m.W.length false, .p (I m.met), .p (I m.miss)])]).length := by simp
    have baG := (hGk ba (List.getElem?_eq_some_iff.1 hH).1).trans hH
    generalize hG2 : H ++ [Blk.var true (.agg [.p (I m.room), .nsl, .ref ba g 0 m.W.length false, .p (I m.met), .p (I m.miss)])] = G at hG kG hGk hGl baG
    have hl : (0 : Nat) = 0 := rfl
    obtain ⟨room, L, W, met, miss⟩ := m
    dsimp only at *
    subst h0
    have hpl := pgs_len W
    simp -implicitDefEqProofs -dsimp (maxSteps := 1000000) (disch := first | omega | (simp only [wkLen]; omega) | decide +kernel) only [↓wkPre, ↓wkPre2, ↓wkE, wkPost, wkDef, wkF, simprocAttr, hG2, nn_v, nn_fn, List.length_map, pgL_len, allP_map, take_pg, take_pgm, get0, get1, get2, getm0, getm1, getm2, get00, getm00, setm0, setm1, setm2, setm00, setR_pg, setR_pg1, flat_pg, flatL_app, eq_pg]
    refine imp_call md_23 (w23 hG _ ?_)
    simp -implicitDefEqProofs -dsimp (maxSteps := 1000000) (disch := first | omega | (simp only [wkLen]; omega) | decide +kernel) only [↓wkPre, ↓wkPre2, ↓wkE, wkPost, wkDef, wkF, simprocAttr, kG, nn_v, nn_fn, List.length_map, pgL_len, allP_map, take_pg, take_pgm, get0, get1, get2, getm0, getm1, getm2, get00, getm00, setm0, setm1, setm2, setm00, setR_pg, setR_pg1, flat_pg, flatL_app, eq_pg]
    refine evC_pl pl_9_2 (by kernel_rfl) (by decide +kernel) ?_
    simp only [pl_9_2]
    simp -implicitDefEqProofs -dsimp (maxSteps := 1000000) (disch := first | omega | (simp only [wkLen]; omega) | decide +kernel) only [↓wkPre, ↓wkPre2, ↓wkE, wkPost, wkDef, wkF, simprocAttr, kG, hl, baG, nn_v, nn_fn, List.length_map, pgL_len, allP_map, take_pg, take_pgm, get0, get1, get2, getm0, getm1, getm2, get00, getm00, setm0, setm1, setm2, setm00, setR_pg, setR_pg1, flat_pg, flatL_app, eq_pg]
    refine imp_call md_18 (w18 hG _ ?_)
    simp -implicitDefEqProofs -dsimp (maxSteps := 1000000) (disch := first | omega | (simp only [wkLen]; omega) | decide +kernel) only [↓wkPre, ↓wkPre2, ↓wkE, wkPost, wkDef, wkF, simprocAttr, kG, hl, baG, nn_v, nn_fn, List.length_map, pgL_len, allP_map, take_pg, take_pgm, get0, get1, get2, getm0, getm1, getm2, get00, getm00, setm0, setm1, setm2, setm00, setR_pg, setR_pg1, flat_pg, flatL_app, eq_pg]
    refine imp_call md_19 (w19n hG hr _ ?_)
    intro R v H2 hR1 hR2 hown hvb hfr hle hnil
    have hR0 : R = [] := by
      have := hR2.length_eq
      simpa using this
    have hv0 := hnil hR0
    subst hv0
    have hI2 := hG.keep (fun i hi => hfr i (hG.lt i hi))
    have ba2 := (hfr _ (List.getElem?_eq_some_iff.1 baG).1).trans baG
    have k2 := (hfr _ (List.getElem?_eq_some_iff.1 kG).1).trans kG
    simp -implicitDefEqProofs -dsimp (maxSteps := 1000000) (disch := first | omega | (simp only [wkLen]; omega) | decide +kernel) only [↓wkPre, ↓wkPre2, ↓wkE, wkPost, wkDef, wkF, simprocAttr, k2, hl, ba2, nn_v, nn_fn, List.length_map, pgL_len, allP_map, take_pg, take_pgm, get0, get1, get2, getm0, getm1, getm2, get00, getm00, setm0, setm1, setm2, setm00, setR_pg, setR_pg1, flat_pg, flatL_app, eq_pg]
    refine imp_call md_18 (w18 hI2 _ ?_)
    simp -implicitDefEqProofs -dsimp (maxSteps := 1000000) (disch := first | omega | (simp only [wkLen]; omega) | decide +kernel) only [↓wkPre, ↓wkPre2, ↓wkE, wkPost, wkDef, wkF, simprocAttr, k2, hl, ba2, nn_v, nn_fn, List.length_map, pgL_len, allP_map, take_pg, take_pgm, get0, get1, get2, getm0, getm1, getm2, get00, getm00, setm0, setm1, setm2, setm00, setR_pg, setR_pg1, flat_pg, flatL_app, eq_pg]
    refine loop_use extMono (fun m' e Hc => m' = 0 ∧ e 0 = .vptr c.pp 0 ∧ e 1 = .vptr c.bb 0 ∧ e 5 = .vptr H.length 0 ∧ e 9 = .p (I 0) ∧ H2 = Hc) ?_ 0 _ _ ⟨rfl, ?_⟩
    · rintro m' e Hc ⟨rfl, e0, e1, e5, e9, rfl⟩
      simp -implicitDefEqProofs -dsimp (maxSteps := 1000000) (disch := first | omega | (simp only [wkLen]; omega) | decide +kernel) only [↓wkPre, ↓wkPre2, ↓wkE, wkPost, wkDef, wkF, simprocAttr, e0, e1, e5, e9, k2, hl, ba2, nn_v, nn_fn, List.length_map, pgL_len, allP_map, take_pg, take_pgm, get0, get1, get2, getm0, getm1, getm2, get00, getm00, setm0, setm1, setm2, setm00, setR_pg, setR_pg1, flat_pg, flatL_app, eq_pg]
      refine imp_call md_19 (w19n hI2 hr _ ?_)
      intro R v H3 hR1 hR2 hown hvb hfr3 hle3 hnil
      have hR0 : R = [] := by
        have := hR2.length_eq
        simpa using this
      have hv0 := hnil hR0
      subst hv0
      have hI3 := hI2.keep (fun i hi => hfr3 i (hI2.lt i hi))
      have kZ := (hfr3 _ (List.getElem?_eq_some_iff.1 k2).1).trans k2
      have hlZ : H.length ≤ H3.length := by omega
      have hkZ : ∀ i, i < H.length → H3[i]? = H[i]? := fun i hi => (hfr3 i (by omega)).trans ((hfr i (by omega)).trans (hGk i hi))
      obtain ⟨gz, qZ1, qZ2⟩ := hI3.ben
      have baZ := (hfr3 _ (List.getElem?_eq_some_iff.1 ba2).1).trans ba2
      simp -implicitDefEqProofs -dsimp (maxSteps := 1000000) (disch := first | omega | (simp only [wkLen]; omega) | decide +kernel) only [↓wkPre, ↓wkPre2, ↓wkE, wkPost, wkDef, wkF, simprocAttr, e0, e1, e5, kZ, baZ, nn_v, nn_fn, List.length_map, pgL_len, allP_map, take_pg, take_pgm, get0, get1, get2, getm0, getm1, getm2, get00, getm00, setm0, setm1, setm2, setm00, setR_pg, setR_pg1, flat_pg, flatL_app, eq_pg]
      refine loop_use extMono (fun m' e Hc => m' = 0 ∧ e 1 = .vptr c.bb 0 ∧ e 5 = .vptr H.length 0 ∧ e 10 = .nsl ∧ e 11 = .p (I 0) ∧ H3 = Hc) ?_ 0 _ _ ⟨rfl, ?_⟩
      · rintro m' e Hc ⟨rfl, e1, e5, e10, e11, rfl⟩
        simp -implicitDefEqProofs -dsimp (maxSteps := 1000000) (disch := first | omega | (simp only [wkLen]; omega) | decide +kernel) only [↓wkPre, ↓wkPre2, ↓wkE, wkPost, wkDef, wkF, simprocAttr, e1, e5, e10, e11, kZ, baZ, nn_v, nn_fn, List.length_map, pgL_len, allP_map, take_pg, take_pgm, get0, get1, get2, getm0, getm1, getm2, get00, getm00, setm0, setm1, setm2, setm00, setR_pg, setR_pg1, flat_pg, flatL_app, eq_pg]
        refine loop_use extMono (fun m' e Hc => ∃ (i : Nat), m' = W.length - i ∧ i ≤ W.length ∧ e 1 = .vptr c.bb 0 ∧ e 5 = .vptr H.length 0 ∧ e 12 = .p (I i) ∧ H3 = Hc) ?_ W.length _ _ ⟨0, rfl, by omega, ?_⟩
        · rintro m' e Hc ⟨i, rfl, hi, e1, e5, e12, rfl⟩
          rcases Nat.lt_or_ge i W.length with hlt | hge
          · have gw := pgs_get hlt
            simp -implicitDefEqProofs -dsimp (maxSteps := 1000000) (disch := first | omega | (simp only [wkLen]; omega) | decide +kernel) only [↓wkPre, ↓wkPre2, ↓wkE, wkPost, wkDef, wkF, simprocAttr, e1, e5, e12, kZ, qZ1, qZ2, hpl, gw, baZ, nn_v, nn_fn, List.length_map, pgL_len, allP_map, take_pg, take_pgm, get0, get1, get2, getm0, getm1, getm2, get00, getm00, setm0, setm1, setm2, setm00, setR_pg, setR_pg1, flat_pg, flatL_app, eq_pg]
            exact ⟨W.length - (i + 1), by omega, i + 1, rfl, by omega, by push_cast; rfl⟩
          · simp -implicitDefEqProofs -dsimp (maxSteps := 1000000) (disch := first | omega | (simp only [wkLen]; omega) | decide +kernel) only [↓wkPre, ↓wkPre2, ↓wkE, wkPost, wkDef, wkF, simprocAttr, e1, e5, e12, kZ, qZ1, qZ2, hpl, baZ, nn_v, nn_fn, List.length_map, pgL_len, allP_map, take_pg, take_pgm, get0, get1, get2, getm0, getm1, getm2, get00, getm00, setm0, setm1, setm2, setm00, setR_pg, setR_pg1, flat_pg, flatL_app, eq_pg]
            exact hq _ hlZ hkZ
        · simp -implicitDefEqProofs -dsimp (maxSteps := 1000000) (disch := first | omega | (simp only [wkLen]; omega) | decide +kernel) only [↓wkPre, ↓wkPre2, ↓wkE, wkPost, wkDef, wkF, simprocAttr, e1, e5]
      · simp -implicitDefEqProofs -dsimp (maxSteps := 1000000) (disch := first | omega | (simp only [wkLen]; omega) | decide +kernel) only [↓wkPre, ↓wkPre2, ↓wkE, wkPost, wkDef, wkF, simprocAttr, e0, e1, e5]
    · simp -implicitDefEqProofs -dsimp (maxSteps := 1000000) (disch := first | omega | (simp only [wkLen]; omega) | decide +kernel) only [↓wkPre, ↓wkPre2, ↓wkE, wkPost, wkDef, wkF, simprocAttr]
end
end Go.Ev.F28
end
