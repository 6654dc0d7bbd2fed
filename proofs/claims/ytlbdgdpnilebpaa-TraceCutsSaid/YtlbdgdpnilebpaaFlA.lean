/- A part of the proof: walks of the functions that the law calls. No condition. -/
import Derived.Test.YtlbdgdpnilebpaaRefC
set_option linter.all false
section
namespace Go.Ev.F35
open Go.Proofs Go.Ev
set_option maxRecDepth 100000
set_option linter.all false
theorem ext_call {C : Cfg} {X : Tr} {f : FuncId} {args : List AV} {H : Heap} {k : AV → Heap → Prop} {t : Tag k} {spec : List AV → Heap → (AV → Heap → Prop) → Prop} (hm : C.md f = .ext spec) (h : spec args H k) : evCallT C X f args H k t := by
  unfold evCallT evCall
  rw [hm]
  exact h
abbrev kU (E : List Rc) : List PV := E.map fun r => U r.key
theorem kU_get {E : List Rc} {j : Nat} (h : j < E.length) : (kU E)[j]? = some (U E[j]!.key) := by simp [kU, h]
theorem rcs_get' {E : List Rc} {j : Nat} (h : j < E.length) : (rcs E)[j]? = some (rcP E[j]!) := by simp [rcs, h]
theorem p46 (K V : List PV) : PS Cf okf 68 [128] [.fmap K V] (fun r => r = .fn 88 [.fp (.fmap K V) 0 0]) := by
  refine PS.mk extMono Try.func68 body68 (by decide) rfl ?_
  simp only [c68, Try.f68, Option.getD_some]
  simp -implicitDefEqProofs -dsimp (maxSteps := 1000000) (disch := first | omega | (simp only [wkLen]; omega) | decide +kernel) only [↓wkPre, ↓wkPre2, ↓wkE, wkPost, wkDef, wkF, simprocAttr]
  done
theorem w58 (E : List Rc) (hE : E.length ≤ 1000) (Q : AV → Heap → Prop) (hq : ∀ v H' O, OwnS H' v 6 (rcs O) → O.Perm E → Q v H') : (W Cf okf).call 87 [.nsl, .p (.fn 88 [.fp (.fmap (kU E) (rcs E)) 0 0])] [] Q := by
  refine top_mk extMono Try.func87 body87 (by decide) rfl ?_
  simp only [c87, Try.f87, Option.getD_some]
  have hkl : (kU E).length = E.length := by simp [kU]
  simp -implicitDefEqProofs -dsimp (maxSteps := 1000000) (disch := first | omega | (simp only [wkLen]; omega) | decide +kernel) only [↓wkPre, ↓wkPre2, ↓wkE, wkPost, wkDef, wkF, simprocAttr]
  refine stop_st (fun e H' => H' = [.var true .nsl] ∧ e 2 = .vptr 0 0 ∧ e 6 = .p (.fn 88 [.fp (.fmap (kU E) (rcs E)) 0 0])) ⟨rfl, rfl, rfl⟩ ?_
  rintro e H ⟨rfl, e2, e6⟩
  refine stop_range (g := 88) (caps := [.fp (.fmap (kU E) (rcs E)) 0 0]) (by rw [oper_tmp, e6]) md_88 ?_
  generalize hLB : Blk.loop LoopState.ready none e #[7] _ _ = LB
  refine top_mk extMono Try.func88 body88 (by decide) rfl ?_
  simp only [c88, Try.f88, Option.getD_some]
  simp -implicitDefEqProofs -dsimp (maxSteps := 1000000) (disch := first | omega | (simp only [wkLen]; omega) | decide +kernel) only [↓wkPre, ↓wkPre2, ↓wkE, wkPost, wkDef, wkF, simprocAttr]
  rw [show evRange Try.prog 87 (.p (.fmap (kU E) (rcs E))) [Blk.var true .nsl, LB] = some (.it 2, [Blk.var true .nsl, LB, .fit (kU E) (rcs E) (0 :: List.range E.length)]) by unfold evRange; simp [tmap_87]]
  simp -implicitDefEqProofs -dsimp (maxSteps := 1000000) (disch := first | omega | (simp only [wkLen]; omega) | decide +kernel) only [↓wkPre, ↓wkPre2, ↓wkE, wkPost, wkDef, wkF, simprocAttr]
  refine loop_use extMono (fun m' e' Hc => ∃ (todo : List Nat) (ld : Nat) (O : List Rc) (w : AV), m' = todo.length ∧ e' 0 = .yld 1 ∧ e' 6 = .it 2 ∧ Hc[0]? = some (.var true w) ∧ Hc[1]? = some LB ∧ Hc[2]? = some (.fit (kU E) (rcs E) (ld :: todo)) ∧
    (∀ b, w.blk = some b → 3 ≤ b) ∧ OwnS Hc w 6 (rcs O) ∧ (∀ j ∈ todo, j < E.length) ∧ (O ++ todo.map (fun j => E[j]!)).Perm E) ?_ E.length _ _ ⟨List.range E.length, 0, [], .nsl, by simp, ?_⟩
  · rintro m' e' Hc ⟨todo, ld, O, w, rfl, e0, e6', k0, k1, hit, hwb, hown, htd, hperm⟩
    have hOl : O.length ≤ E.length := by have := hperm.length_eq; simp at this; omega
    have hcl := (List.getElem?_eq_some_iff.1 hit).1
    simp -implicitDefEqProofs -dsimp (maxSteps := 1000000) (disch := first | omega | (simp only [wkLen]; omega) | decide +kernel) only [↓wkPre, ↓wkPre2, ↓wkE, wkPost, wkDef, wkF, simprocAttr, e0, e6']
    rw [show iterOf Hc 2 = some (kU E, (rcs E).map AV.p, todo, fun l => Hc.set 2 (.fit (kU E) (rcs E) l)) by unfold iterOf; simp [hit], oK_some]
    refine ⟨fun hn => ?_, fun j hj => ?_⟩
    · simp only at hn
      subst hn
      simp only [List.map_nil, List.append_nil] at hperm
      simp -implicitDefEqProofs -dsimp (maxSteps := 1000000) (disch := first | omega | (simp only [wkLen]; omega) | decide +kernel) only [↓wkPre, ↓wkPre2, ↓wkE, wkPost, wkDef, wkF, simprocAttr, e0, e6']
      refine rfin_normal (by rw [k1, ← hLB]) ?_
      have z0 : ∀ x : Blk, (Hc.set 1 x)[0]? = some (.var true w) := fun x => (hs_ne (by omega)).trans k0
      obtain ⟨ws1, ws2, ws3⟩ := own_shape hown
      simp -implicitDefEqProofs -dsimp (maxSteps := 1000000) (disch := first | omega | (simp only [wkLen]; omega) | decide +kernel) only [↓wkPre, ↓wkPre2, ↓wkE, wkPost, wkDef, wkF, simprocAttr, e2, z0, ws1, ws2, ws3]
      exact hq _ _ O (hown.set (fun (h : w.blk = some 1) => by have := hwb 1 h; omega)) hperm
    · simp only at hj
      have hjM := htd j hj
      have hg1 := kU_get hjM
      have hg2 : ((rcs E).map AV.p)[j]? = some (.p (rcP E[j]!)) := by rw [List.getElem?_map, rcs_get' hjM]; rfl
      simp only [hg1, oK_some, hg2]
      have hkey : entOf (Hc.set 2 (.fit (kU E) (rcs E) ((j + 1) :: todo.erase j))) 2 = some (U E[j]!.key, .p (rcP E[j]!)) := by
        unfold entOf
        rw [hs_set hcl]
        simp only [hg1, rcs_get' hjM, Option.bind_some, Option.map_some]
      simp -implicitDefEqProofs -dsimp (maxSteps := 1000000) (disch := first | omega | (simp only [wkLen]; omega) | decide +kernel) only [↓wkPre, ↓wkPre2, ↓wkE, wkPost, wkDef, wkF, simprocAttr, e0, e6', hkey]
      generalize hG : Hc.set 2 (.fit (kU E) (rcs E) ((j + 1) :: todo.erase j)) ++ [Blk.var true (.p (rcP E[j]!))] = G
      have g0 : G[0]? = some (.var true w) := by rw [← hG, hs_app (by simp; omega), hs_ne (by omega)]; exact k0
      have g1 : G[1]? = some LB := by rw [← hG, hs_app (by simp; omega), hs_ne (by omega)]; exact k1
      have g2 : G[2]? = some (.fit (kU E) (rcs E) ((j + 1) :: todo.erase j)) := by rw [← hG, hs_app (by simp; omega), hs_set hcl]
      have gown : OwnS G w 6 (rcs O) := by rw [← hG]; exact (hown.set (fun h => by have := hwb _ h; omega)).app _
      have gl := (List.getElem?_eq_some_iff.1 g2).1
      clear hG
      refine yield_use extMono (by rw [g1, ← hLB]) (by rfl) ?_
      show evC _ _ _ (parE [7] [_] _) _ _
      rw [parE_one]
      simp -implicitDefEqProofs -dsimp (maxSteps := 1000000) (disch := first | omega | (simp only [wkLen]; omega) | decide +kernel) only [↓wkPre, ↓wkPre2, ↓wkE, wkPost, wkDef, wkF, simprocAttr]
      refine yA_normal (by rw [hs_app (by omega), g1, ← hLB]) ?_
      generalize hLB2 : Blk.loop LoopState.busy none e #[7] _ _ = LB2
      generalize hG2 : (G ++ [Blk.var true (.p (rcP E[j]!))]).set 1 LB2 = G2
      have q0 : G2[0]? = some (.var true w) := by rw [← hG2, hs_ne (by omega), hs_app (by omega)]; exact g0
      have q1 : G2[1]? = some LB2 := by rw [← hG2, hs_set (by simp; omega)]
      have q2 : G2[2]? = some (.fit (kU E) (rcs E) ((j + 1) :: todo.erase j)) := by rw [← hG2, hs_ne (by omega), hs_app (by omega)]; exact g2
      have q3 : G2[G.length]? = some (.var true (.p (rcP E[j]!))) := by rw [← hG2, hs_ne (by omega)]; simp
      have qown : OwnS G2 w 6 (rcs O) := by rw [← hG2]; exact (gown.app _).set (fun h => by have := hwb _ h; omega)
      clear hG2
      obtain ⟨ws1, ws2, ws3⟩ := own_shape qown
      simp -implicitDefEqProofs -dsimp (maxSteps := 1000000) (disch := first | omega | (simp only [wkLen]; omega) | decide +kernel) only [↓wkPre, ↓wkPre2, ↓wkE, wkPost, wkDef, wkF, simprocAttr, e2, q0, q3, ws1, ws2, ws3]
      refine append_step telem_36 (ys := [rcP E[j]!]) (elems_new rfl rfl) (by simp) (qown.app _) ?_ ?_
      · rw [byt_64, rcs_len]; simp; omega
      intro w' H' hown' hfr' hle hb'
      simp only [List.length_append, List.length_cons, List.length_nil] at hfr' hle hb'
      have ql := (List.getElem?_eq_some_iff.1 q2).1
      have r0 : H'[0]? = some (.var true w) := (hfr' 0 (by omega) (fun h => by have := hwb 0 h; omega)).trans ((hs_app (by omega)).trans q0)
      have r1 : H'[1]? = some LB2 := (hfr' 1 (by omega) (fun h => by have := hwb 1 h; omega)).trans ((hs_app (by omega)).trans q1)
      have r2 : H'[2]? = some (.fit (kU E) (rcs E) ((j + 1) :: todo.erase j)) := (hfr' 2 (by omega) (fun h => by have := hwb 2 h; omega)).trans ((hs_app (by omega)).trans q2)
      have hwb' : ∀ c, w'.blk = some c → 3 ≤ c := fun c hc => by
        by_cases h : c < G2.length + (0 + 1)
        · exact hwb c (hb' c hc h)
        · omega
      have hrl := (List.getElem?_eq_some_iff.1 r2).1
      obtain ⟨vs1, vs2, vs3⟩ := own_shape hown'
      simp -implicitDefEqProofs -dsimp (maxSteps := 1000000) (disch := first | omega | (simp only [wkLen]; omega) | decide +kernel) only [↓wkPre, ↓wkPre2, ↓wkE, wkPost, wkDef, wkF, simprocAttr, e2, r0, ws1, ws2, ws3, vs1, vs2, vs3]
      refine yB_normal (by rw [hs_ne (by omega), r1, ← hLB2]) ?_
      rw [hLB]
      simp -implicitDefEqProofs -dsimp (maxSteps := 1000000) (disch := first | omega | (simp only [wkLen]; omega) | decide +kernel) only [↓wkPre, ↓wkPre2, ↓wkE, wkPost, wkDef, wkF, simprocAttr, e0, e6']
      have hp := (List.perm_cons_erase hj).symm
      refine ⟨(todo.erase j).length, by rw [List.length_erase_of_mem hj]; have := List.length_pos_of_mem hj; omega, todo.erase j, j + 1, O ++ [E[j]!], w', rfl, rfl, r2, hwb', ?_, fun i hi => htd i (List.mem_of_mem_erase hi), ?_⟩
      · rw [rcs_snoc]
        exact (hown'.set (fun h => by have := hwb' _ h; omega)).set (fun h => by have := hwb' _ h; omega)
      · refine List.Perm.trans ?_ hperm
        rw [List.append_assoc]
        refine List.Perm.append_left O ?_
        have := hp.map (fun j => E[j]!)
        simpa using this
  · simp -implicitDefEqProofs -dsimp (maxSteps := 1000000) (disch := first | omega | (simp only [wkLen]; omega) | decide +kernel) only [↓wkPre, ↓wkPre2, ↓wkE, wkPost, wkDef, wkF, simprocAttr]
    refine ⟨fun c h => (by cases h), OwnS.nil _ _, fun j hj => by simpa using hj, ?_⟩
    have : (List.range E.length).map (fun j => E[j]!) = E := by
      apply List.ext_getElem (by simp)
      intro i h1 h2
      simp at h1
      simp [h1]
    rw [this]
theorem asc_of_sorted {xs M : List Rc} (hp : xs.Perm M) (ha : Asc M) (h : ∀ i j, i < j → j < xs.length → ltC xs[j]! xs[i]! = false) : xs = M := by
  refine Asc.ext ?_ ha hp
  have nd : (xs.map (·.key)).Nodup := ((hp.map (·.key)).nodup_iff).2 ha.nodup
  refine List.pairwise_iff_getElem.2 fun i j hi hj hij => ?_
  have h1 := h i j hij hj
  have h2 : ¬ xs[i].key = xs[j].key := fun e => by have := key_inj nd hi hj e; omega
  simp [ltC, hi, hj] at h1
  omega
/-- Records by rising keys, in a list of the caller's own. -/
theorem w34 (E M : List Rc) (hE : E.length ≤ 1000) (hp : E.Perm M) (ha : Asc M) (Q : AV → Heap → Prop) (hq : ∀ v H', OwnS H' v 6 (rcs M) → Q v H') : (W Cf okf).call 45 [.p (.fmap (kU E) (rcs E))] [] Q := by
  refine top_mk extMono Try.func45 body45 (by decide) rfl ?_
  simp only [c45, Try.f45, Option.getD_some]
  simp -implicitDefEqProofs -dsimp (maxSteps := 1000000) (disch := first | omega | (simp only [wkLen]; omega) | decide +kernel) only [↓wkPre, ↓wkPre2, ↓wkE, wkPost, wkDef, wkF, simprocAttr]
  refine PS.app md_68 Try.func68 (p46 _ _) rfl ?_
  rintro _ rfl
  simp -implicitDefEqProofs -dsimp (maxSteps := 1000000) (disch := first | omega | (simp only [wkLen]; omega) | decide +kernel) only [↓wkPre, ↓wkPre2, ↓wkE, wkPost, wkDef, wkF, simprocAttr]
  refine imp_app extMono md_67 Try.func67 body67 (by decide) rfl ?_
  simp only [c67, Try.f67, Option.getD_some]
  simp -implicitDefEqProofs -dsimp (maxSteps := 1000000) (disch := first | omega | (simp only [wkLen]; omega) | decide +kernel) only [↓wkPre, ↓wkPre2, ↓wkE, wkPost, wkDef, wkF, simprocAttr]
  refine imp_call md_87 (w58 E hE _ ?_)
  intro v H O hown hO
  simp -implicitDefEqProofs -dsimp (maxSteps := 1000000) (disch := first | omega | (simp only [wkLen]; omega) | decide +kernel) only [↓wkPre, ↓wkPre2, ↓wkE, wkPost, wkDef, wkF, simprocAttr]
  have hOM := hO.trans hp
  rcases hown with ⟨rfl, hx⟩ | ⟨b, g, rfl, hb⟩
  · refine ext_call md_69 (.inl ⟨rfl, ?_⟩)
    have : O = [] := by cases O with
      | nil => rfl
      | cons a l => simp [rcs] at hx
    subst this
    have hM := List.nil_perm.1 hOM
    simp -implicitDefEqProofs -dsimp (maxSteps := 1000000) (disch := first | omega | (simp only [wkLen]; omega) | decide +kernel) only [↓wkPre, ↓wkPre2, ↓wkE, wkPost, wkDef, wkF, simprocAttr]
    refine hq _ _ ?_
    rw [hM]
    exact OwnS.nil _ _
  · have hl := rcs_len O
    have hOl : O.length ≤ 1000 := by rw [hO.length_eq]; exact hE
    refine ext_call md_69 (.inr ⟨b, g, false, O, hb, by omega, by rw [hl], fun ys h5 h6 => ?_⟩)
    have e := asc_of_sorted (h5.trans hOM) ha h6
    subst e
    have hblt := (List.getElem?_eq_some_iff.1 hb).1
    simp -implicitDefEqProofs -dsimp (maxSteps := 1000000) (disch := first | omega | (simp only [wkLen]; omega) | decide +kernel) only [↓wkPre, ↓wkPre2, ↓wkE, wkPost, wkDef, wkF, simprocAttr]
    refine hq _ _ (.inr ⟨b, g, ?_, hs_set hblt⟩)
    rw [hl, rcs_len, h5.length_eq]
/-- A call apart that hands over a list of its own. -/
theorem own_call {C : Cfg} {X : Tr} {f : FuncId} {fn : Func} {args : List AV} {pa : List PV} {H : Heap} {k : AV → Heap → Prop} {t : Tag k} (hm : C.md f = .own) (hf : C.P.funcs[f]? = some fn)
    (hpa : frzL (frzN C.P H 4) args fn.params.toList = some pa)
    (h : X.call f (pa.map AV.p) [] fun av H' => oK (takeOwn av H' (freezeIds (args.flatMap (ids 4)) H)) fun r => k r.1 r.2) : evCallT C X f args H k t := by
  unfold evCallT evCall
  rw [hm]
  simp only [hf, oK_some, hpa]
  exact h
theorem takeOwn_own {H' H1 : Heap} {v : AV} {sh : Nat} {xs : List PV} (h : OwnS H' v sh xs) : ∃ v1 H2, takeOwn v H' H1 = some (v1, H2) ∧ OwnS H2 v1 sh xs ∧ (∀ c, v1.blk = some c → c = H1.length) ∧ (∀ i, i < H1.length → H2[i]? = H1[i]?) ∧ H1.length ≤ H2.length := by
  rcases h with ⟨rfl, rfl⟩ | ⟨b, g, rfl, hb⟩
  · exact ⟨.nsl, H1, rfl, OwnS.nil _ _, fun c h => (by cases h), fun _ _ => rfl, Nat.le_refl _⟩
  · refine ⟨.ref H1.length 0 0 xs.length false, H1 ++ [.arr true 0 sh xs], ?_, .inr ⟨H1.length, 0, rfl, by simp⟩, fun c h => by cases h; rfl, fun i hi => hs_app hi, by simp⟩
    unfold takeOwn
    simp only [hb]
    rw [if_pos ⟨trivial, trivial⟩]
end Go.Ev.F35
end
section
namespace Go.Ev.F35
open Go.Proofs Go.Ev
set_option maxRecDepth 100000
set_option linter.all false
/-- A slice that begins where its row begins. -/
def TS (H : Heap) (v : AV) (sh : Nat) (xs : List PV) : Prop := (v = .nsl ∧ xs = []) ∨ ∃ b g n ex l ys, v = .ref b g 0 n ex ∧ H[b]? = some (.arr l g sh ys) ∧ n ≤ ys.length ∧ xs = ys.take n ∧ (ex = false → l = true)
theorem OwnS.ts {H : Heap} {v : AV} {sh : Nat} {xs : List PV} (h : OwnS H v sh xs) : TS H v sh xs := by
  rcases h with ⟨rfl, rfl⟩ | ⟨b, g, rfl, hb⟩
  · exact .inl ⟨rfl, rfl⟩
  · exact .inr ⟨b, g, _, _, _, _, rfl, hb, Nat.le_refl _, by simp, fun _ => rfl⟩
theorem TS.keep {H H' : Heap} {v : AV} {sh : Nat} {xs : List PV} (h : TS H v sh xs) (k : ∀ b, v.blk = some b → H'[b]? = H[b]?) : TS H' v sh xs := by
  rcases h with h | ⟨b, g, n, ex, l, ys, rfl, hb, h2⟩
  · exact .inl h
  · exact .inr ⟨b, g, n, ex, l, ys, rfl, (k b rfl).trans hb, h2⟩
theorem TS.lt {H : Heap} {v : AV} {sh : Nat} {xs : List PV} (h : TS H v sh xs) {c : Nat} (hc : v.blk = some c) : c < H.length := by
  rcases h with ⟨rfl, _⟩ | ⟨b, g, n, ex, l, ys, rfl, hb, h2⟩
  · cases hc
  · cases hc; exact (List.getElem?_eq_some_iff.1 hb).1
theorem TS.frz {H : Heap} {t e : TypeId} {sh n : Nat} {v : AV} {xs : List PV} (ht : telem Try.prog t = some (e, sh)) (h : TS H v sh xs) : frzN Try.prog H n t v = some (.sl sh xs) := by
  rcases h with ⟨rfl, rfl⟩ | ⟨b, g, k, ex, l, ys, rfl, hb, h2, rfl, _⟩
  · rw [frzN_nsl, ht]; rfl
  · rw [frzN_ref, hb]; simp [h2]
theorem TS.elems {H : Heap} {sh : Nat} {v : AV} {xs : List PV} (h : TS H v sh xs) : elems H sh v = some xs := by
  rcases h with ⟨rfl, rfl⟩ | ⟨b, g, k, ex, l, ys, rfl, hb, h2, rfl, _⟩
  · rfl
  · simp [Go.Ev.elems, hb, h2]
theorem TS.lenv {H : Heap} {sh k : Nat} {v : AV} {xs : List PV} (h : TS H v sh xs) : lenAV H (3, k) v = some xs.length := by
  rcases h with ⟨rfl, rfl⟩ | ⟨b, g, k, ex, l, ys, rfl, hb, h2, rfl, _⟩
  · rfl
  · simp [lenAV, h2]
theorem ts_shape {H : Heap} {v : AV} {sh : Nat} {xs : List PV} (h : TS H v sh xs) : v.shape = 0 ∧ v.isU = false ∧ v.stor = true := by
  rcases h with ⟨rfl, _⟩ | ⟨b, g, n, ex, l, ys, rfl, _⟩ <;> exact ⟨rfl, rfl, rfl⟩
theorem hasF_iff (w : Re) (r : Rc) : hasF w r = true ↔ w.x0 ≤ r.x ∧ r.x ≤ w.x1 ∧ w.y0 ≤ r.y ∧ r.y ≤ w.y1 := by
  simp [hasF, and_assoc]
theorem p44 (w : Re) (r : Rc) : PS Cf okf 66 [4] [reP w, u32 r.x, u32 r.y] (fun v => v = B (hasF w r)) := by
  refine PS.mk extMono Try.func66 body66 (by decide) rfl ?_
  simp only [c66, Try.f66, Option.getD_some]
  obtain ⟨x0, y0, x1, y1⟩ := w
  obtain ⟨rk, rx, ry, rv⟩ := r
  unfold hasF
  dsimp only
  by_cases h1 : x0 ≤ rx
  · by_cases h2 : rx ≤ x1
    · by_cases h3 : y0 ≤ ry
      · by_cases h4 : ry ≤ y1
        · simp -implicitDefEqProofs -dsimp (maxSteps := 1000000) (disch := first | omega | (simp only [wkLen]; omega) | decide +kernel) only [↓wkPre, ↓wkPre2, ↓wkE, wkPost, wkDef, wkF, simprocAttr, h1, h2, h3, h4]
          done
        · simp -implicitDefEqProofs -dsimp (maxSteps := 1000000) (disch := first | omega | (simp only [wkLen]; omega) | decide +kernel) only [↓wkPre, ↓wkPre2, ↓wkE, wkPost, wkDef, wkF, simprocAttr, h1, h2, h3, h4]
          done
      · simp -implicitDefEqProofs -dsimp (maxSteps := 1000000) (disch := first | omega | (simp only [wkLen]; omega) | decide +kernel) only [↓wkPre, ↓wkPre2, ↓wkE, wkPost, wkDef, wkF, simprocAttr, h1, h2, h3]
        done
    · simp -implicitDefEqProofs -dsimp (maxSteps := 1000000) (disch := first | omega | (simp only [wkLen]; omega) | decide +kernel) only [↓wkPre, ↓wkPre2, ↓wkE, wkPost, wkDef, wkF, simprocAttr, h1, h2]
      done
  · simp -implicitDefEqProofs -dsimp (maxSteps := 1000000) (disch := first | omega | (simp only [wkLen]; omega) | decide +kernel) only [↓wkPre, ↓wkPre2, ↓wkE, wkPost, wkDef, wkF, simprocAttr, h1]
    done
theorem w43 (w : Re) (r : Rc) (b : Nat) (l : Bool) (H : Heap) (hb : H[b]? = some (.var l (.p (reP w)))) (Q : AV → Heap → Prop)
    (hq : ∀ H', (∀ i, i < H.length → H'[i]? = H[i]?) → H.length ≤ H'.length → Q (.p (B (!hasF w r))) H') : (W Cf okf).call 65 [.p (rcP r), .vptr b 0] H Q := by
  refine top_mk extMono Try.func65 body65 (by decide) rfl ?_
  simp only [c65, Try.f65, Option.getD_some]
  have hlt := (List.getElem?_eq_some_iff.1 hb).1
  have hb' : ∀ x : Blk, (H ++ [x])[b]? = some (.var l (.p (reP w))) := fun x => (hs_app hlt).trans hb
  simp -implicitDefEqProofs -dsimp (maxSteps := 1000000) (disch := first | omega | (simp only [wkLen]; omega) | decide +kernel) only [↓wkPre, ↓wkPre2, ↓wkE, wkPost, wkDef, wkF, simprocAttr, hb, hb']
  refine PS.app md_66 Try.func66 (p44 w r) rfl ?_
  rintro _ rfl
  simp -implicitDefEqProofs -dsimp (maxSteps := 1000000) (disch := first | omega | (simp only [wkLen]; omega) | decide +kernel) only [↓wkPre, ↓wkPre2, ↓wkE, wkPost, wkDef, wkF, simprocAttr]
  exact hq _ (fun i hi => hs_app hi) (by simp)
def ixF (w : Re) (L : List Rc) : Int := match L.findIdx? (fun r => !hasF w r) with | some i => i | none => -1
theorem w57 (w : Re) (L : List Rc) (hL : L.length ≤ 1000) (b g c : Nat) (ex l l' : Bool) (H : Heap) (hb : H[b]? = some (.arr l g 6 (rcs L))) (hc : H[c]? = some (.var l' (.p (reP w)))) (Q : AV → Heap → Prop)
    (hq : ∀ H', (∀ i, i < H.length → H'[i]? = H[i]?) → H.length ≤ H'.length → Q (.p (I (ixF w L))) H') : (W Cf okf).call 86 [.ref b g 0 L.length ex, .fn 65 [.vptr c 0]] H Q := by
  refine top_mk extMono Try.func86 body86 (by decide) rfl ?_
  simp only [c86, Try.f86, Option.getD_some]
  have hblt := (List.getElem?_eq_some_iff.1 hb).1
  have hclt := (List.getElem?_eq_some_iff.1 hc).1
  have hl := rcs_len L
  simp -implicitDefEqProofs -dsimp (maxSteps := 1000000) (disch := first | omega | (simp only [wkLen]; omega) | decide +kernel) only [↓wkPre, ↓wkPre2, ↓wkE, wkPost, wkDef, wkF, simprocAttr]
  refine loop_use extMono (fun m' e Hc => ∃ (i : Nat), m' = L.length - i ∧ i ≤ L.length ∧ e 0 = .ref b g 0 L.length ex ∧ e 1 = .fn 65 [.vptr c 0] ∧ e 7 = .p (I L.length) ∧ e 8 = .p (I i) ∧ (∀ i, i < H.length → Hc[i]? = H[i]?) ∧ H.length ≤ Hc.length ∧ ∀ j (h : j < L.length), j < i → hasF w L[j] = true) ?_ L.length _ _ ⟨0, rfl, by omega, ?_⟩
  · rintro m' e Hc ⟨i, rfl, hi, e0, e1, e7, e8, hfr, hlen, hno⟩
    rcases Nat.lt_or_ge i L.length with hlt | hge
    · have gi := rcs_get hlt
      have kb := (hfr b hblt).trans hb
      have kc := (hfr c hclt).trans hc
      simp -implicitDefEqProofs -dsimp (maxSteps := 1000000) (disch := first | omega | (simp only [wkLen]; omega) | decide +kernel) only [↓wkPre, ↓wkPre2, ↓wkE, wkPost, wkDef, wkF, simprocAttr, e0, e1, e7, e8, kb, gi, hl]
      refine imp_call md_65 (w43 w L[i] c l' Hc kc _ ?_)
      intro H' hfr' hlen'
      cases hh : hasF w L[i] with
      | true =>
        simp -implicitDefEqProofs -dsimp (maxSteps := 1000000) (disch := first | omega | (simp only [wkLen]; omega) | decide +kernel) only [↓wkPre, ↓wkPre2, ↓wkE, wkPost, wkDef, wkF, simprocAttr, e0, e1, e7, e8, hh]
        refine ⟨L.length - (i + 1), by omega, i + 1, rfl, by omega, by push_cast; rfl, fun j hj => (hfr' j (by omega)).trans (hfr j hj), by omega, fun j h hj => ?_⟩
        by_cases hji : j = i
        · subst hji; exact hh
        · exact hno j h (by omega)
      | false =>
        simp -implicitDefEqProofs -dsimp (maxSteps := 1000000) (disch := first | omega | (simp only [wkLen]; omega) | decide +kernel) only [↓wkPre, ↓wkPre2, ↓wkE, wkPost, wkDef, wkF, simprocAttr, e0, e1, e7, e8, hh]
        have hF : ixF w L = i := by
          unfold ixF
          rw [List.findIdx?_eq_some_iff_getElem.2 ⟨hlt, by simpa using hh, fun j hj => by simpa using hno j (by omega) hj⟩]
        rw [hF] at hq
        exact hq _ (fun j hj => (hfr' j (by omega)).trans (hfr j hj)) (by omega)
    · simp -implicitDefEqProofs -dsimp (maxSteps := 1000000) (disch := first | omega | (simp only [wkLen]; omega) | decide +kernel) only [↓wkPre, ↓wkPre2, ↓wkE, wkPost, wkDef, wkF, simprocAttr, e0, e1, e7, e8]
      have hF : ixF w L = -1 := by
        unfold ixF
        rw [List.findIdx?_eq_none_iff.2 fun f hf => by
          obtain ⟨j, hj, e⟩ := List.mem_iff_getElem.1 hf
          have := hno j hj (by omega)
          rw [e] at this
          simpa using this]
      rw [hF] at hq
      exact hq _ hfr hlen
  · simp -implicitDefEqProofs -dsimp (maxSteps := 1000000) (disch := first | omega | (simp only [wkLen]; omega) | decide +kernel) only [↓wkPre, ↓wkPre2, ↓wkE, wkPost, wkDef, wkF, simprocAttr]
    exact ⟨fun _ _ => trivial, Nat.le_refl _, fun j h hj => by omega⟩
theorem w57n (H : Heap) (f : AV) (Q : AV → Heap → Prop) (hq : Q (.p (I (-1))) H) : (W Cf okf).call 86 [.nsl, f] H Q := by
  refine top_mk extMono Try.func86 body86 (by decide) rfl ?_
  simp only [c86, Try.f86, Option.getD_some]
  simp -implicitDefEqProofs -dsimp (maxSteps := 1000000) (disch := first | omega | (simp only [wkLen]; omega) | decide +kernel) only [↓wkPre, ↓wkPre2, ↓wkE, wkPost, wkDef, wkF, simprocAttr]
  refine loop_use extMono (fun m' e Hc => m' = 0 ∧ e 7 = .p (I 0) ∧ e 8 = .p (I 0) ∧ Hc = H) ?_ 0 _ _ ⟨rfl, ?_⟩
  · rintro m' e Hc ⟨rfl, e7, e8, rfl⟩
    simp -implicitDefEqProofs -dsimp (maxSteps := 1000000) (disch := first | omega | (simp only [wkLen]; omega) | decide +kernel) only [↓wkPre, ↓wkPre2, ↓wkE, wkPost, wkDef, wkF, simprocAttr, e7, e8]
    exact hq
  · simp -implicitDefEqProofs -dsimp (maxSteps := 1000000) (disch := first | omega | (simp only [wkLen]; omega) | decide +kernel) only [↓wkPre, ↓wkPre2, ↓wkE, wkPost, wkDef, wkF, simprocAttr]
theorem setR_tail {α : Type} {xs ys : List α} {q : Nat} (h : q + ys.length = xs.length) : setR xs q ys = xs.take q ++ ys := by
  apply List.ext_getElem?
  intro i
  rw [setR_get]
  rcases Nat.lt_or_ge i q with h1 | h1
  · rw [if_neg (by omega), List.getElem?_append_left (by rw [List.length_take]; omega), List.getElem?_take, if_pos h1]
  · rw [List.getElem?_append_right (by rw [List.length_take]; omega), List.length_take, Nat.min_eq_left (by omega)]
    split
    · rfl
    · rw [List.getElem?_eq_none (by omega), List.getElem?_eq_none (by omega)]
theorem clr {P : Program} {t e : TypeId} {sh : Nat} {y : PV} (ht : telem P t = some (e, sh)) (hz : tzero P e = some (.p y)) (hy : y.shape = sh) {H : Heap} {b g off len : Nat} {ex : Bool} {xs : List PV} (hb : H[b]? = some (.arr true g sh xs))
    (h1 : off + len ≤ xs.length) (h2 : len ≠ 0) : noRes (evClearS P t (.ref b g off len ex) H) = some (.p (.tup []), H.set b (.arr true g sh (setR xs off (List.replicate len y)))) := by
  unfold evClearS noRes
  simp [ht, hz, frzN_p, ids_p, hy, hb, h1, h2]
theorem rcs_set (D : List Rc) (i : Nat) (r : Rc) : (rcs D).set i (rcP r) = rcs (D.set i r) := by simp [rcs, List.map_set]
theorem rcs_take (D : List Rc) (i : Nat) : (rcs D).take i = rcs (D.take i) := by simp [rcs, List.map_take]
theorem inF_all {L : List Rc} {w : Re} (h : ∀ j (h : j < L.length), hasF w L[j] = true) : inF L w = L := by
  unfold inF
  rw [List.filter_eq_self.2]
  intro x hx
  obtain ⟨j, hj, rfl⟩ := List.mem_iff_getElem.1 hx
  exact h j hj
theorem w42 (w : Re) (L : List Rc) (hL : L.length ≤ 1000) (v : AV) (c : Nat) (l' : Bool) (H : Heap) (hv : OwnS H v 6 (rcs L)) (hc : H[c]? = some (.var l' (.p (reP w)))) (Q : AV → Heap → Prop)
    (hq : ∀ v' H', TS H' v' 6 (rcs (inF L w)) → (∀ b, v'.blk = some b → v.blk = some b) → (∀ i, i < H.length → v.blk ≠ some i → H'[i]? = H[i]?) → H.length ≤ H'.length → Q v' H') : (W Cf okf).call 64 [v, .fn 65 [.vptr c 0]] H Q := by
  refine top_mk extMono Try.func64 body64 (by decide) rfl ?_
  simp only [c64, Try.f64, Option.getD_some]
  have hclt := (List.getElem?_eq_some_iff.1 hc).1
  have hl := rcs_len L
  rcases hv with ⟨rfl, hx⟩ | ⟨b, g, rfl, hb⟩
  · have : L = [] := by cases L with
      | nil => rfl
      | cons a l => simp [rcs] at hx
    subst this
    simp -implicitDefEqProofs -dsimp (maxSteps := 1000000) (disch := first | omega | (simp only [wkLen]; omega) | decide +kernel) only [↓wkPre, ↓wkPre2, ↓wkE, wkPost, wkDef, wkF, simprocAttr]
    refine imp_call md_86 (w57n H _ _ ?_)
    simp -implicitDefEqProofs -dsimp (maxSteps := 1000000) (disch := first | omega | (simp only [wkLen]; omega) | decide +kernel) only [↓wkPre, ↓wkPre2, ↓wkE, wkPost, wkDef, wkF, simprocAttr]
    exact hq _ _ (.inl ⟨rfl, rfl⟩) (fun b h => h) (fun _ _ _ => rfl) (Nat.le_refl _)
  · have hblt := (List.getElem?_eq_some_iff.1 hb).1
    have hcb : c ≠ b := by rintro rfl; rw [hb] at hc; simp at hc
    simp -implicitDefEqProofs -dsimp (maxSteps := 1000000) (disch := first | omega | (simp only [wkLen]; omega) | decide +kernel) only [↓wkPre, ↓wkPre2, ↓wkE, wkPost, wkDef, wkF, simprocAttr]
    rw [hl]
    refine imp_call md_86 (w57 w L hL b g c false true l' H hb hc _ ?_)
    intro H1 hfr1 hle1
    unfold ixF
    cases hf : L.findIdx? (fun r => !hasF w r) with
    | none =>
      simp -implicitDefEqProofs -dsimp (maxSteps := 1000000) (disch := first | omega | (simp only [wkLen]; omega) | decide +kernel) only [↓wkPre, ↓wkPre2, ↓wkE, wkPost, wkDef, wkF, simprocAttr]
      have hall := inF_all (L := L) (w := w) (fun j hj => by simpa using List.findIdx?_eq_none_iff.1 hf L[j] (List.getElem_mem hj))
      refine hq _ _ ?_ (fun b h => h) (fun i h _ => hfr1 i h) hle1
      rw [hall]
      exact .inr ⟨b, g, L.length, false, true, rcs L, rfl, (hfr1 b hblt).trans hb, by omega, by rw [← hl, List.take_length], fun _ => rfl⟩
    | some i0 =>
      obtain ⟨hi0, hdel, hkeep⟩ := List.findIdx?_eq_some_iff_getElem.1 hf
      have hdel : hasF w L[i0] = false := by simpa using hdel
      have e1 : inF (L.take i0) w = L.take i0 := inF_all (fun j hj => by
        rw [List.getElem_take]
        simpa using hkeep j (by rw [List.length_take] at hj; omega))
      have hpre : L.take i0 = inF (L.take (i0 + 1)) w := by
        have := inF_snoc (L.take i0) w L[i0]
        rw [← List.take_succ_eq_append_getElem hi0, hdel, e1] at this
        simpa using this.symm
      have hne2 : ¬ (i0 : Int) = -1 := by omega
      simp -implicitDefEqProofs -dsimp (maxSteps := 1000000) (disch := first | omega | (simp only [wkLen]; omega) | decide +kernel) only [↓wkPre, ↓wkPre2, ↓wkE, wkPost, wkDef, wkF, simprocAttr, hne2]
      refine loop_use extMono (fun m' e Hc => ∃ (i j : Nat) (D : List Rc), m' = L.length - j ∧ i < j ∧ j ≤ L.length ∧ e 0 = .ref b g 0 L.length false ∧ e 1 = .fn 65 [.vptr c 0] ∧ e 5 = .p (I i) ∧ e 6 = .p (I j) ∧ D.length = L.length ∧ Hc[b]? = some (.arr true g 6 (rcs D)) ∧
        D.take i = inF (L.take j) w ∧ (∀ k, j ≤ k → D[k]? = L[k]?) ∧ (∀ k, k < H.length → k ≠ b → Hc[k]? = H[k]?) ∧ H.length ≤ Hc.length) ?_ (L.length - (i0 + 1)) _ _ ⟨i0, i0 + 1, L, rfl, by omega, by omega, ?_⟩
      · rintro m' e Hc ⟨i, j, D, rfl, hij, hj, e0, e1, e5, e6, hDl, kb, hD1, hD2, hfr, hlen⟩
        have hdl := rcs_len D
        have kc := (hfr c hclt hcb).trans hc
        have kblt := (List.getElem?_eq_some_iff.1 kb).1
        rcases Nat.lt_or_ge j L.length with hlt | hge
        · have gj : (rcs D)[j]? = some (rcP L[j]) := by
            have := hD2 j (Nat.le_refl _)
            simp [rcs, this, hlt]
          have hs := inF_snoc (L.take j) w L[j]
          rw [← List.take_succ_eq_append_getElem hlt] at hs
          simp -implicitDefEqProofs -dsimp (maxSteps := 1000000) (disch := first | omega | (simp only [wkLen]; omega) | decide +kernel) only [↓wkPre, ↓wkPre2, ↓wkE, wkPost, wkDef, wkF, simprocAttr, e0, e1, e5, e6, kb, gj, hdl, hDl]
          have hnew : ∀ x : Blk, (Hc ++ [x])[Hc.length]? = some x := fun x => by simp
          refine imp_call md_65 (w43 w L[j] c l' _ ((hs_app (List.getElem?_eq_some_iff.1 kc).1).trans kc) _ ?_)
          intro H2 hfr2 hle2
          simp only [List.length_append, List.length_cons, List.length_nil] at hfr2 hle2
          have k2b := (hfr2 b (by omega)).trans ((hs_app kblt).trans kb)
          have k2n := (hfr2 Hc.length (by omega)).trans (hnew _)
          cases hh : hasF w L[j] with
          | true =>
            rw [hh, if_pos rfl] at hs
            have gi : (rcs D)[i]? = some (rcP D[i]!) := by simp [rcs, show i < D.length by omega]
            simp -implicitDefEqProofs -dsimp (maxSteps := 1000000) (disch := first | omega | (simp only [wkLen]; omega) | decide +kernel) only [↓wkPre, ↓wkPre2, ↓wkE, wkPost, wkDef, wkF, simprocAttr, e0, e1, e5, e6, hh, k2b, k2n, hdl, hDl, gi]
            refine ⟨L.length - (j + 1), by omega, i + 1, j + 1, D.set i L[j], rfl, by omega, by omega, by push_cast; rfl, by push_cast; rfl, by simpa using hDl, ?_, ?_, ?_, ?_, ?_⟩
            · rw [rcs_set]
            · rw [hs, ← hD1, List.take_succ_eq_append_getElem (by simp; omega)]
              simp [List.take_set_of_le]
            · intro k hk
              rw [List.getElem?_set_ne (by omega)]
              exact hD2 k (by omega)
            · intro k hk hkb
              rw [hs_ne (Ne.symm hkb), hfr2 k (by omega), hs_app (by omega)]
              exact hfr k hk hkb
            · first | omega | (simp; omega)
          | false =>
            rw [hh] at hs
            simp -implicitDefEqProofs -dsimp (maxSteps := 1000000) (disch := first | omega | (simp only [wkLen]; omega) | decide +kernel) only [↓wkPre, ↓wkPre2, ↓wkE, wkPost, wkDef, wkF, simprocAttr, e0, e1, e5, e6, hh, k2b, k2n, hdl, hDl]
            refine ⟨L.length - (j + 1), by omega, i, j + 1, D, rfl, by omega, by omega, rfl, by push_cast; rfl, hDl, rfl, ?_, fun k hk => hD2 k (by omega), ?_, by omega⟩
            · rw [hD1, hs]; simp
            · intro k hk hkb
              rw [hfr2 k (by omega), hs_app (by omega)]
              exact hfr k hk hkb
        · obtain rfl : j = L.length := by omega
          have hcl := clr (P := Try.prog) (t := 36) (off := i) (len := L.length - i) (ex := false) telem_36 tzero_64 rfl kb (by omega) (by omega)
          rw [setR_tail (by simp; omega), rcs_take, hD1, List.take_length] at hcl
          have hil : (inF L w).length = i := by
            have := congrArg List.length hD1
            rw [List.take_length, List.length_take] at this; omega
          simp -implicitDefEqProofs -dsimp (maxSteps := 1000000) (disch := first | omega | (simp only [wkLen]; omega) | decide +kernel) only [↓wkPre, ↓wkPre2, ↓wkE, wkPost, wkDef, wkF, simprocAttr, e0, e1, e5, e6, kb, hdl, hDl, hcl]
          rw [Nat.sub_zero]
          refine hq _ _ (.inr ⟨b, g, i, false, true, _, rfl, hs_set kblt, by simp [rcs_len, hil], ?_, fun _ => rfl⟩) (fun b h => h) (fun k hk hne => (hs_ne (fun e => hne (by rw [e]; rfl))).trans (hfr k hk (fun e => hne (by rw [e]; rfl)))) (by simpa using hlen)
          rw [List.take_append_of_le_length (by rw [rcs_len]; omega), List.take_of_length_le (by rw [rcs_len]; omega)]
      · simp -implicitDefEqProofs -dsimp (maxSteps := 1000000) (disch := first | omega | (simp only [wkLen]; omega) | decide +kernel) only [↓wkPre, ↓wkPre2, ↓wkE, wkPost, wkDef, wkF, simprocAttr]
        exact ⟨by push_cast; rfl, (hfr1 b hblt).trans hb, hpre, fun _ _ => trivial, fun k hk _ => hfr1 k hk, hle1⟩
theorem w33 (w : Re) (L : List Rc) (hL : L.length ≤ 1000) (v : AV) (H : Heap) (hv : OwnS H v 6 (rcs L)) (Q : AV → Heap → Prop)
    (hq : ∀ v' H', TS H' v' 6 (rcs (inF L w)) → (∀ b, v'.blk = some b → v.blk = some b) → (∀ i, i < H.length → v.blk ≠ some i → H'[i]? = H[i]?) → H.length ≤ H'.length → Q v' H') : (W Cf okf).call 44 [v, .p (reP w)] H Q := by
  refine top_mk extMono Try.func44 body44 (by decide) rfl ?_
  simp only [c44, Try.f44, Option.getD_some]
  simp -implicitDefEqProofs -dsimp (maxSteps := 1000000) (disch := first | omega | (simp only [wkLen]; omega) | decide +kernel) only [↓wkPre, ↓wkPre2, ↓wkE, wkPost, wkDef, wkF, simprocAttr]
  refine imp_call md_64 (w42 w L hL v H.length true _ (hv.app _) (by simp) _ ?_)
  intro v' H' h1 h2 h3 h4
  simp only [List.length_append, List.length_cons, List.length_nil] at h3 h4
  simp -implicitDefEqProofs -dsimp (maxSteps := 1000000) (disch := first | omega | (simp only [wkLen]; omega) | decide +kernel) only [↓wkPre, ↓wkPre2, ↓wkE, wkPost, wkDef, wkF, simprocAttr]
  exact hq _ _ h1 h2 (fun i hi hne => (h3 i (by omega) hne).trans (hs_app hi)) (by omega)
end Go.Ev.F35
end
