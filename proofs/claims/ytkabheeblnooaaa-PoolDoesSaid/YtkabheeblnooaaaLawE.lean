/- A part of the proof: walks of the functions that the law calls. No condition. -/
import Derived.Test.YtkabheeblnooaaaPlain
set_option linter.all false
section
namespace Go.Ev.F28
open Go.Proofs Go.Ev
set_option maxRecDepth 100000
set_option linter.all false
structure Op3 where
  k : Int
  n : Int
  b : UInt8
abbrev opV (o : Op3) : PV := opP o.k o.n o.b
def opsP (l : List Op3) : List PV := l.map opV
theorem opsP_len (l : List Op3) : (opsP l).length = l.length := by simp [opsP]
theorem opsP_get {l : List Op3} {i : Nat} (h : i < l.length) : (opsP l)[i]? = some (opV l[i]) := by simp [opsP, h]
set_option maxHeartbeats 2000000 in
theorem law5 (pg : Nat) (hp : pg < 256) (l : List Op3) (n : Int) : (Ev.W Cf okf).call 5 [.p (.int .u8 pg), .p (.sl 3 (opsP l)), .p (I n)] [] fun v _ => v = .p (.bool true) := by
  refine top_mk extMono Try.func5 body5 (by decide) rfl ?_
  simp only [c5, Try.f5, Option.getD_some]
  have hl := opsP_len l
  by_cases h100 : 100 < l.length
  · simp -implicitDefEqProofs -dsimp (maxSteps := 1000000) (disch := first | omega | (simp only [wkLen]; omega) | decide +kernel) only [↓wkPre, ↓wkPre2, ↓wkE, wkPost, wkDef, wkF, simprocAttr, hl, h100]
    refine PS.app md_6 Try.func6 p6 rfl ?_
    rintro _ rfl
    simp -implicitDefEqProofs -dsimp (maxSteps := 1000000) (disch := first | omega | (simp only [wkLen]; omega) | decide +kernel) only [↓wkPre, ↓wkPre2, ↓wkE, wkPost, wkDef, wkF, simprocAttr]
  · simp -implicitDefEqProofs -dsimp (maxSteps := 1000000) (disch := first | omega | (simp only [wkLen]; omega) | decide +kernel) only [↓wkPre, ↓wkPre2, ↓wkE, wkPost, wkDef, wkF, simprocAttr, hl, h100]
    rw [show (2 + (pg : Int) % 9) = ((2 + pg % 9 : Nat) : Int) by push_cast; rfl]
    have hk1 : 2 ≤ 2 + pg % 9 := by omega
    have hk2 : 2 + pg % 9 ≤ 10 := by omega
    generalize 2 + pg % 9 = k at *
    refine imp_call md_7 (w7 2 k (by omega) (by omega) (by omega) (by omega) _ (fun H0 c hI0 => ?_))
    by_cases hb : n < 0 ∨ (k : Int) ≤ n
    · have hW : ∀ (P : Prop), P → P := fun _ h => h
      by_cases h0 : n < 0
      · simp -implicitDefEqProofs -dsimp (maxSteps := 1000000) (disch := first | omega | (simp only [wkLen]; omega) | decide +kernel) only [↓wkPre, ↓wkPre2, ↓wkE, wkPost, wkDef, wkF, simprocAttr, h0]
        refine PS.app md_6 Try.func6 p6 rfl ?_
        rintro _ rfl
        simp -implicitDefEqProofs -dsimp (maxSteps := 1000000) (disch := first | omega | (simp only [wkLen]; omega) | decide +kernel) only [↓wkPre, ↓wkPre2, ↓wkE, wkPost, wkDef, wkF, simprocAttr]
      · simp -implicitDefEqProofs -dsimp (maxSteps := 1000000) (disch := first | omega | (simp only [wkLen]; omega) | decide +kernel) only [↓wkPre, ↓wkPre2, ↓wkE, wkPost, wkDef, wkF, simprocAttr, h0]
        refine PS.app md_6 Try.func6 p6 rfl ?_
        rintro _ rfl
        simp -implicitDefEqProofs -dsimp (maxSteps := 1000000) (disch := first | omega | (simp only [wkLen]; omega) | decide +kernel) only [↓wkPre, ↓wkPre2, ↓wkE, wkPost, wkDef, wkF, simprocAttr]
    · have hwf0 : Md.wf ⟨2, [], W0 k, 0, 0⟩ := ⟨List.nodup_nil, (fun f h => by cases h), (fun f h => by cases h)⟩
      have hbd0 : Bd ⟨2, [], W0 k, 0, 0⟩ 0 := ⟨Nat.le_refl _, Nat.le_refl _, fun f h => by cases h⟩
      have hc0 : (pinF ⟨2, [], W0 k, 0, 0⟩ n).2.2 = 0 := pinF_new (by omega) (by omega) (by omega)
      have hok := pinF_ok hwf0 n
      have hbd := pinF_bd hbd0 n
      have hsh := pinF_sh ⟨2, [], W0 k, 0, 0⟩ n
      have h10 := w10 hI0 n (by omega) (by omega) (by simp) (by simp) (fun f h => by cases h)
      have hwle := pinW_le ⟨2, [], W0 k, 0, 0⟩ n
      generalize pinF ⟨2, [], W0 k, 0, 0⟩ n = P at *
      obtain ⟨m1, b1, c1⟩ := P
      dsimp only at *
      subst hc0
      simp -implicitDefEqProofs -dsimp (maxSteps := 1000000) (disch := first | omega | (simp only [wkLen]; omega) | decide +kernel) only [↓wkPre, ↓wkPre2, ↓wkE, wkPost, wkDef, wkF, simprocAttr]
      refine imp_call md_10 (h10 _ ?_)
      intro H1 X1 t1 w1 hI1 ht1 hw1 hK1
      simp -implicitDefEqProofs -dsimp (maxSteps := 1000000) (disch := first | omega | (simp only [wkLen]; omega) | decide +kernel) only [↓wkPre, ↓wkPre2, ↓wkE, wkPost, wkDef, wkF, simprocAttr, nn_v, nn_fn, List.length_map, pgL_len, allP_map, take_pg, take_pgm, get0, get1, get2, getm0, getm1, getm2, get00, getm00, setm0, setm1, setm2, setm00, setR_pg, setR_pg1, flat_pg, flatL_app, eq_pg]
      refine loop_use extMono (fun m' e Hc => ∃ (i : Nat) (m : Md) (X : List Fx) (t w : Nat), m' = l.length - i ∧ i ≤ l.length ∧ e 1 = .p (.sl 3 (opsP l)) ∧ e 2 = .p (I n) ∧ e 8 = .vptr c.pp 0 ∧ e 12 = .p (I i) ∧ Inv Hc c m X t w ∧ m.wf ∧ Bd m (i + 1) ∧ t ≤ i + 1 ∧ w ≤ i + 1 ∧ m.room = 2 ∧ ∃ f ∈ m.L, f.n = n ∧ 1 ≤ f.k) ?_ l.length _ _ ⟨0, m1, X1, t1, w1, rfl, by omega, ?_⟩
      · rintro m' e Hc ⟨i, m, X, t, w, rfl, hi, e1, e2, e8, e12, hI, hwf, hbd, ht, hw, hroom, hpd⟩
        rcases Nat.lt_or_ge i l.length with hlt | hge
        · have gi := opsP_get hlt
          generalize l[i] = o at gi
          obtain ⟨ok, on, ob⟩ := o
          have hG := hI.app [.var true (.p (opP ok on ob))]
          have kG : (Hc ++ [Blk.var true (.p (opP ok on ob))])[Hc.length]? = some (.var true (.p (opP ok on ob))) := by simp
          have hfo : Hc.length ∉ Foot c X := fun h => by have := hI.lt _ h; omega
          by_cases hsk : on = n ∧ ok = 3
          · obtain ⟨rfl, rfl⟩ := hsk
            simp -implicitDefEqProofs -dsimp (maxSteps := 1000000) (disch := first | omega | (simp only [wkLen]; omega) | decide +kernel) only [↓wkPre, ↓wkPre2, ↓wkE, wkPost, wkDef, wkF, simprocAttr, e1, e2, e8, e12, hl, gi, nn_v, nn_fn, List.length_map, pgL_len, allP_map, take_pg, take_pgm, get0, get1, get2, getm0, getm1, getm2, get00, getm00, setm0, setm1, setm2, setm00, setR_pg, setR_pg1, flat_pg, flatL_app, eq_pg]
            exact ⟨l.length - (i + 1), by omega, i + 1, m, X, t, w, rfl, by omega, by push_cast; rfl, hG, hwf, hbd.mono (by omega), by omega, by omega, hroom, hpd⟩
          · generalize hG2 : Hc ++ [Blk.var true (.p (opP ok on ob))] = G at hG kG
            have hG3 : Hc ++ [Blk.var true (.p (.agg [I ok, I on, .int .u8 ob.toNat]))] = G := hG2
            have key : ∀ (H3 : Heap) (m3 : Md) (X3 : List Fx) (t3 w3 : Nat), Inv H3 c m3 X3 t3 w3 → m3.wf → Bd m3 (i + 1 + 1) → t3 ≤ i + 1 + 1 → w3 ≤ i + 1 + 1 → m3.room = 2 → (∃ f ∈ m3.L, f.n = n ∧ 1 ≤ f.k) → ∀ (k : AV → Heap → Prop), (∀ pk : Nat, 1 ≤ pk → k (.p (I pk)) H3) → (Ev.W Cf okf).call 21 [.vptr c.pp 0, .p (I n)] H3 k := by
              intro H3 m3 X3 t3 w3 hI3 hwf3 hbd3 ht3 hw3 hroom3 hpd3 k hk
              refine w21 hI3 n _ (hk _ ?_)
              obtain ⟨f, hf, e, hkf⟩ := hpd3
              rw [← e, pins_mem hwf3.nd hf]; exact hkf
            have hne : ¬ (on = n ∧ ok = 3) := hsk
            by_cases hon : on = n
            · subst hon
              have hok3 : ok ≠ 3 := fun h => hsk ⟨rfl, h⟩
              simp -implicitDefEqProofs -dsimp (maxSteps := 1000000) (disch := first | omega | (simp only [wkLen]; omega) | decide +kernel) only [↓wkPre, ↓wkPre2, ↓wkE, wkPost, wkDef, wkF, simprocAttr, e1, e2, e8, e12, hl, gi, hG3, hok3, kG, nn_v, nn_fn, List.length_map, pgL_len, allP_map, take_pg, take_pgm, get0, get1, get2, getm0, getm1, getm2, get00, getm00, setm0, setm1, setm2, setm00, setR_pg, setR_pg1, flat_pg, flatL_app, eq_pg]
              refine imp_call md_18 (w18 hG _ ?_)
              simp -implicitDefEqProofs -dsimp (maxSteps := 1000000) (disch := first | omega | (simp only [wkLen]; omega) | decide +kernel) only [↓wkPre, ↓wkPre2, ↓wkE, wkPost, wkDef, wkF, simprocAttr, e1, e2, e8, e12, kG, nn_v, nn_fn, List.length_map, pgL_len, allP_map, take_pg, take_pgm, get0, get1, get2, getm0, getm1, getm2, get00, getm00, setm0, setm1, setm2, setm00, setR_pg, setR_pg1, flat_pg, flatL_app, eq_pg]
              refine imp_call md_19 (w19 hG (by omega) _ ?_)
              intro R v H2 hR1 hR2 hown hvb hfr hle
              have hI2 := hG.keep (fun i hi => hfr i (hG.lt i hi))
              have k2 : H2[Hc.length]? = some (.var true (.p (opP ok on ob))) := (hfr _ (List.getElem?_eq_some_iff.1 kG).1).trans kG
              have hvf : ∀ b, v.blk = some b → b ∉ Foot c X := fun b hb hf => by have := hG.lt b hf; have := hvb b hb; omega
              have hpo := pinF_ok hwf on
              have hpb := pinF_bd hbd on
              have hpk := (pinF_k m on).2
              have hps := pinF_sh m on
              have hpw := pinW_le m on
              have hful := pinF_full hwf (n := on)
              by_cases hk0 : ok = 0
              · subst hk0
                simp -implicitDefEqProofs -dsimp (maxSteps := 1000000) (disch := first | omega | (simp only [wkLen]; omega) | decide +kernel) only [↓wkPre, ↓wkPre2, ↓wkE, wkPost, wkDef, wkF, simprocAttr, e1, e2, e8, e12, k2, nn_v, nn_fn, List.length_map, pgL_len, allP_map, take_pg, take_pgm, get0, get1, get2, getm0, getm1, getm2, get00, getm00, setm0, setm1, setm2, setm00, setR_pg, setR_pg1, flat_pg, flatL_app, eq_pg]
                refine imp_call md_10 (w10 hI2 on (by omega) (by omega) (by have := hbd.met; omega) (by have := hbd.miss; omega) (fun f hf => by have := hbd.k f hf; omega) _ ?_)
                intro H3 X3 t3 w3 hI3 ht3 hw3 hK3
                generalize pinF m on = P at *
                obtain ⟨m3, b3, c3⟩ := P
                dsimp only at *
                have hpd3 : ∃ f ∈ m3.L, f.n = on ∧ 1 ≤ f.k := by
                  obtain ⟨f, hf, e, hk⟩ := hpd
                  obtain ⟨g, hg, e2, hk2⟩ := hpk f hf hk
                  exact ⟨g, hg, e2.trans e, by omega⟩
                by_cases h6 : c3 = 6
                · subst h6
                  obtain ⟨hfl, hfr3⟩ := hful rfl
                  have hm2 : m.L.length = 2 := by have := hI.full; have h2 := hI.L; rw [h2, List.length_map] at hfr3 ⊢; omega
                  have hRl : R.length = 2 := by rw [hR2.length_eq, List.length_map]; exact hm2
                  obtain ⟨ra, rb, rfl⟩ : ∃ ra rb, R = [ra, rb] := by
                    match R, hRl with
                    | [ra, rb], _ => exact ⟨ra, rb, rfl⟩
                  rcases hown with ⟨_, hx⟩ | ⟨bv, gv, rfl, hbv⟩
                  · cases hx
                  obtain ⟨hbv3, hvf3⟩ := hK3.track hbv (hvf bv rfl)
                  have hGG := hI3.app [.var true (.p (pgP b3))]
                  have hbv4 : (H3 ++ [Blk.var true (.p (pgP b3))])[bv]? = some (.arr true gv 0 (isL [ra, rb])) := (hs_app (List.getElem?_eq_some_iff.1 hbv3).1).trans hbv3
                  have hb3 : H3 ++ [Blk.var true (.p (.agg (pgL b3)))] = H3 ++ [Blk.var true (.p (pgP b3))] := rfl
                  simp -implicitDefEqProofs -dsimp (maxSteps := 1000000) (disch := first | omega | (simp only [wkLen]; omega) | decide +kernel) only [↓wkPre, ↓wkPre2, ↓wkE, wkPost, wkDef, wkF, simprocAttr, e1, e2, e8, e12, k2, hm2, nn_v, nn_fn, List.length_map, pgL_len, allP_map, take_pg, take_pgm, get0, get1, get2, getm0, getm1, getm2, get00, getm00, setm0, setm1, setm2, setm00, setR_pg, setR_pg1, flat_pg, flatL_app, eq_pg]
                  refine evC_pl pl_5_22 (by kernel_rfl) (by decide +kernel) ?_
                  simp only [pl_5_22]
                  simp -implicitDefEqProofs -dsimp (maxSteps := 1000000) (disch := first | omega | (simp only [wkLen]; omega) | decide +kernel) only [↓wkPre, ↓wkPre2, ↓wkE, wkPost, wkDef, wkF, simprocAttr, e1, e2, e8, e12, k2, hm2, nn_v, nn_fn, List.length_map, pgL_len, allP_map, take_pg, take_pgm, get0, get1, get2, getm0, getm1, getm2, get00, getm00, setm0, setm1, setm2, setm00, setR_pg, setR_pg1, flat_pg, flatL_app, eq_pg]
                  generalize H3 ++ [Blk.var true (.p (pgP b3))] = G3 at *
                  refine imp_call md_18 (w18 hGG _ ?_)
                  have hm3 : m3.L.length = 2 := by rw [hfl]; exact hm2
                  rw [hm3]
                  have il : (isL [ra, rb]).length = 2 := rfl
                  have i0 : (isL [ra, rb])[0]? = some (I ra) := rfl
                  have i1 : (isL [ra, rb])[1]? = some (I rb) := rfl
                  simp -implicitDefEqProofs -dsimp (maxSteps := 1000000) (disch := first | omega | (simp only [wkLen]; omega) | decide +kernel) only [↓wkPre, ↓wkPre2, ↓wkE, wkPost, wkDef, wkF, simprocAttr, e1, e2, e8, e12, k2, hm2, hbv4, il, i0, i1, nn_v, nn_fn, List.length_map, pgL_len, allP_map, take_pg, take_pgm, get0, get1, get2, getm0, getm1, getm2, get00, getm00, setm0, setm1, setm2, setm00, setR_pg, setR_pg1, flat_pg, flatL_app, eq_pg]
                  refine imp_call md_19 (w19 hGG (by have := hps.1; omega) _ ?_)
                  intro R4 v4 H4 hR41 hR42 hown4 hvb4 hfr4 hle4
                  have hR4 : R4 = [ra, rb] := sort_eq hR41 hR1 (hR42.trans (by rw [hfl]; exact hR2.symm))
                  subst hR4
                  rcases hown4 with ⟨_, hx⟩ | ⟨bv4, gv4, rfl, hbv4'⟩
                  · cases hx
                  have hI4 := hGG.keep (fun i hi => hfr4 i (hGG.lt i hi))
                  have hbvv := (hfr4 bv (List.getElem?_eq_some_iff.1 hbv4).1).trans hbv4
                  simp -implicitDefEqProofs -dsimp (maxSteps := 1000000) (disch := first | omega | (simp only [wkLen]; omega) | decide +kernel) only [↓wkPre, ↓wkPre2, ↓wkE, wkPost, wkDef, wkF, simprocAttr, e1, e2, e8, e12, k2, hm2, hbvv, hbv4', il, i0, i1, nn_v, nn_fn, List.length_map, pgL_len, allP_map, take_pg, take_pgm, get0, get1, get2, getm0, getm1, getm2, get00, getm00, setm0, setm1, setm2, setm00, setR_pg, setR_pg1, flat_pg, flatL_app, eq_pg]
                  refine imp_call md_19 (w19 hI4 (by have := hps.1; omega) _ ?_)
                  intro R5 v5 H5 hR51 hR52 hown5 hvb5 hfr5 hle5
                  have hR5 : R5 = [ra, rb] := sort_eq hR51 hR1 (hR52.trans (by rw [hfl]; exact hR2.symm))
                  subst hR5
                  rcases hown5 with ⟨_, hx⟩ | ⟨bv5, gv5, rfl, hbv5'⟩
                  · cases hx
                  have hI5 := hI4.keep (fun i hi => hfr5 i (hI4.lt i hi))
                  have hbvw := (hfr5 bv (List.getElem?_eq_some_iff.1 hbvv).1).trans hbvv
                  simp -implicitDefEqProofs -dsimp (maxSteps := 1000000) (disch := first | omega | (simp only [wkLen]; omega) | decide +kernel) only [↓wkPre, ↓wkPre2, ↓wkE, wkPost, wkDef, wkF, simprocAttr, e1, e2, e8, e12, k2, hm2, hbvw, hbv5', il, i0, i1, nn_v, nn_fn, List.length_map, pgL_len, allP_map, take_pg, take_pgm, get0, get1, get2, getm0, getm1, getm2, get00, getm00, setm0, setm1, setm2, setm00, setR_pg, setR_pg1, flat_pg, flatL_app, eq_pg]
                  refine imp_call md_21 (key H5 m3 X3 t3 w3 hI5 hpo.1 hpb (by omega) (by omega) (hps.1.trans hroom) hpd3 _ (fun pk hpk1 => ?_))
                  simp -implicitDefEqProofs -dsimp (maxSteps := 1000000) (disch := first | omega | (simp only [wkLen]; omega) | decide +kernel) only [↓wkPre, ↓wkPre2, ↓wkE, wkPost, wkDef, wkF, simprocAttr, e1, e2, e8, e12, nn_v, nn_fn, List.length_map, pgL_len, allP_map, take_pg, take_pgm, get0, get1, get2, getm0, getm1, getm2, get00, getm00, setm0, setm1, setm2, setm00, setR_pg, setR_pg1, flat_pg, flatL_app, eq_pg]
                  exact ⟨l.length - (i + 1), by omega, i + 1, m3, X3, t3, w3, rfl, by omega, by push_cast; rfl, hI5, hpo.1, hpb, by omega, by omega, hps.1.trans hroom, hpd3⟩
                · have h6' : ((c3 : Int) == 6) = false := by simp; omega
                  simp -implicitDefEqProofs -dsimp (maxSteps := 1000000) (disch := first | omega | (simp only [wkLen]; omega) | decide +kernel) only [↓wkPre, ↓wkPre2, ↓wkE, wkPost, wkDef, wkF, simprocAttr, e1, e2, e8, e12, k2, h6, h6', nn_v, nn_fn, List.length_map, pgL_len, allP_map, take_pg, take_pgm, get0, get1, get2, getm0, getm1, getm2, get00, getm00, setm0, setm1, setm2, setm00, setR_pg, setR_pg1, flat_pg, flatL_app, eq_pg]
                  refine evC_pl pl_5_22 (by kernel_rfl) (by decide +kernel) ?_
                  simp only [pl_5_22]
                  simp -implicitDefEqProofs -dsimp (maxSteps := 1000000) (disch := first | omega | (simp only [wkLen]; omega) | decide +kernel) only [↓wkPre, ↓wkPre2, ↓wkE, wkPost, wkDef, wkF, simprocAttr, e1, e2, e8, e12, k2, h6, h6', nn_v, nn_fn, List.length_map, pgL_len, allP_map, take_pg, take_pgm, get0, get1, get2, getm0, getm1, getm2, get00, getm00, setm0, setm1, setm2, setm00, setR_pg, setR_pg1, flat_pg, flatL_app, eq_pg]
                  refine imp_call md_21 (key _ m3 X3 t3 w3 (hI3.app _) hpo.1 hpb (by omega) (by omega) (hps.1.trans hroom) hpd3 _ (fun pk hpk1 => ?_))
                  simp -implicitDefEqProofs -dsimp (maxSteps := 1000000) (disch := first | omega | (simp only [wkLen]; omega) | decide +kernel) only [↓wkPre, ↓wkPre2, ↓wkE, wkPost, wkDef, wkF, simprocAttr, e1, e2, e8, e12, nn_v, nn_fn, List.length_map, pgL_len, allP_map, take_pg, take_pgm, get0, get1, get2, getm0, getm1, getm2, get00, getm00, setm0, setm1, setm2, setm00, setR_pg, setR_pg1, flat_pg, flatL_app, eq_pg]
                  exact ⟨l.length - (i + 1), by omega, i + 1, m3, X3, t3, w3, rfl, by omega, by push_cast; rfl, hI3.app _, hpo.1, hpb, by omega, by omega, hps.1.trans hroom, hpd3⟩
              · by_cases hk1 : ok = 1
                · subst hk1
                  simp -implicitDefEqProofs -dsimp (maxSteps := 1000000) (disch := first | omega | (simp only [wkLen]; omega) | decide +kernel) only [↓wkPre, ↓wkPre2, ↓wkE, wkPost, wkDef, wkF, simprocAttr, e1, e2, e8, e12, k2, nn_v, nn_fn, List.length_map, pgL_len, allP_map, take_pg, take_pgm, get0, get1, get2, getm0, getm1, getm2, get00, getm00, setm0, setm1, setm2, setm00, setR_pg, setR_pg1, flat_pg, flatL_app, eq_pg]
                  refine imp_call md_10 (w10 hI2 on (by omega) (by omega) (by have := hbd.met; omega) (by have := hbd.miss; omega) (fun f hf => by have := hbd.k f hf; omega) _ ?_)
                  intro H3 X3 t3 w3 hI3 ht3 hw3 hK3
                  generalize pinF m on = P at *
                  obtain ⟨m3, b3, c3⟩ := P
                  dsimp only at *
                  have hpd3 : ∃ f ∈ m3.L, f.n = on ∧ 1 ≤ f.k := by
                    obtain ⟨f, hf, e, hk⟩ := hpd
                    obtain ⟨g, hg, e2, hk2⟩ := hpk f hf hk
                    exact ⟨g, hg, e2.trans e, by omega⟩
                  by_cases h6 : c3 = 6
                  · subst h6
                    obtain ⟨hfl, hfr3⟩ := hful rfl
                    have hm2 : m.L.length = 2 := by have := hI.full; have h2 := hI.L; rw [h2, List.length_map] at hfr3 ⊢; omega
                    have hRl : R.length = 2 := by rw [hR2.length_eq, List.length_map]; exact hm2
                    obtain ⟨ra, rb, rfl⟩ : ∃ ra rb, R = [ra, rb] := by
                      match R, hRl with
                      | [ra, rb], _ => exact ⟨ra, rb, rfl⟩
                    rcases hown with ⟨_, hx⟩ | ⟨bv, gv, rfl, hbv⟩
                    · cases hx
                    obtain ⟨hbv3, hvf3⟩ := hK3.track hbv (hvf bv rfl)
                    have hGG := hI3.app [.var true (.p (pgP b3))]
                    have hbv4 : (H3 ++ [Blk.var true (.p (pgP b3))])[bv]? = some (.arr true gv 0 (isL [ra, rb])) := (hs_app (List.getElem?_eq_some_iff.1 hbv3).1).trans hbv3
                    have hb3 : H3 ++ [Blk.var true (.p (.agg (pgL b3)))] = H3 ++ [Blk.var true (.p (pgP b3))] := rfl
                    simp -implicitDefEqProofs -dsimp (maxSteps := 1000000) (disch := first | omega | (simp only [wkLen]; omega) | decide +kernel) only [↓wkPre, ↓wkPre2, ↓wkE, wkPost, wkDef, wkF, simprocAttr, e1, e2, e8, e12, k2, hm2, nn_v, nn_fn, List.length_map, pgL_len, allP_map, take_pg, take_pgm, get0, get1, get2, getm0, getm1, getm2, get00, getm00, setm0, setm1, setm2, setm00, setR_pg, setR_pg1, flat_pg, flatL_app, eq_pg]
                    refine evC_pl pl_5_22 (by kernel_rfl) (by decide +kernel) ?_
                    simp only [pl_5_22]
                    simp -implicitDefEqProofs -dsimp (maxSteps := 1000000) (disch := first | omega | (simp only [wkLen]; omega) | decide +kernel) only [↓wkPre, ↓wkPre2, ↓wkE, wkPost, wkDef, wkF, simprocAttr, e1, e2, e8, e12, k2, hm2, nn_v, nn_fn, List.length_map, pgL_len, allP_map, take_pg, take_pgm, get0, get1, get2, getm0, getm1, getm2, get00, getm00, setm0, setm1, setm2, setm00, setR_pg, setR_pg1, flat_pg, flatL_app, eq_pg]
                    generalize H3 ++ [Blk.var true (.p (pgP b3))] = G3 at *
                    refine imp_call md_18 (w18 hGG _ ?_)
                    have hm3 : m3.L.length = 2 := by rw [hfl]; exact hm2
                    rw [hm3]
                    have il : (isL [ra, rb]).length = 2 := rfl
                    have i0 : (isL [ra, rb])[0]? = some (I ra) := rfl
                    have i1 : (isL [ra, rb])[1]? = some (I rb) := rfl
                    simp -implicitDefEqProofs -dsimp (maxSteps := 1000000) (disch := first | omega | (simp only [wkLen]; omega) | decide +kernel) only [↓wkPre, ↓wkPre2, ↓wkE, wkPost, wkDef, wkF, simprocAttr, e1, e2, e8, e12, k2, hm2, hbv4, il, i0, i1, nn_v, nn_fn, List.length_map, pgL_len, allP_map, take_pg, take_pgm, get0, get1, get2, getm0, getm1, getm2, get00, getm00, setm0, setm1, setm2, setm00, setR_pg, setR_pg1, flat_pg, flatL_app, eq_pg]
                    refine imp_call md_19 (w19 hGG (by have := hps.1; omega) _ ?_)
                    intro R4 v4 H4 hR41 hR42 hown4 hvb4 hfr4 hle4
                    have hR4 : R4 = [ra, rb] := sort_eq hR41 hR1 (hR42.trans (by rw [hfl]; exact hR2.symm))
                    subst hR4
                    rcases hown4 with ⟨_, hx⟩ | ⟨bv4, gv4, rfl, hbv4'⟩
                    · cases hx
                    have hI4 := hGG.keep (fun i hi => hfr4 i (hGG.lt i hi))
                    have hbvv := (hfr4 bv (List.getElem?_eq_some_iff.1 hbv4).1).trans hbv4
                    simp -implicitDefEqProofs -dsimp (maxSteps := 1000000) (disch := first | omega | (simp only [wkLen]; omega) | decide +kernel) only [↓wkPre, ↓wkPre2, ↓wkE, wkPost, wkDef, wkF, simprocAttr, e1, e2, e8, e12, k2, hm2, hbvv, hbv4', il, i0, i1, nn_v, nn_fn, List.length_map, pgL_len, allP_map, take_pg, take_pgm, get0, get1, get2, getm0, getm1, getm2, get00, getm00, setm0, setm1, setm2, setm00, setR_pg, setR_pg1, flat_pg, flatL_app, eq_pg]
                    refine imp_call md_19 (w19 hI4 (by have := hps.1; omega) _ ?_)
                    intro R5 v5 H5 hR51 hR52 hown5 hvb5 hfr5 hle5
                    have hR5 : R5 = [ra, rb] := sort_eq hR51 hR1 (hR52.trans (by rw [hfl]; exact hR2.symm))
                    subst hR5
                    rcases hown5 with ⟨_, hx⟩ | ⟨bv5, gv5, rfl, hbv5'⟩
                    · cases hx
                    have hI5 := hI4.keep (fun i hi => hfr5 i (hI4.lt i hi))
                    have hbvw := (hfr5 bv (List.getElem?_eq_some_iff.1 hbvv).1).trans hbvv
                    simp -implicitDefEqProofs -dsimp (maxSteps := 1000000) (disch := first | omega | (simp only [wkLen]; omega) | decide +kernel) only [↓wkPre, ↓wkPre2, ↓wkE, wkPost, wkDef, wkF, simprocAttr, e1, e2, e8, e12, k2, hm2, hbvw, hbv5', il, i0, i1, nn_v, nn_fn, List.length_map, pgL_len, allP_map, take_pg, take_pgm, get0, get1, get2, getm0, getm1, getm2, get00, getm00, setm0, setm1, setm2, setm00, setR_pg, setR_pg1, flat_pg, flatL_app, eq_pg]
                    refine imp_call md_21 (key H5 m3 X3 t3 w3 hI5 hpo.1 hpb (by omega) (by omega) (hps.1.trans hroom) hpd3 _ (fun pk hpk1 => ?_))
                    simp -implicitDefEqProofs -dsimp (maxSteps := 1000000) (disch := first | omega | (simp only [wkLen]; omega) | decide +kernel) only [↓wkPre, ↓wkPre2, ↓wkE, wkPost, wkDef, wkF, simprocAttr, e1, e2, e8, e12, nn_v, nn_fn, List.length_map, pgL_len, allP_map, take_pg, take_pgm, get0, get1, get2, getm0, getm1, getm2, get00, getm00, setm0, setm1, setm2, setm00, setR_pg, setR_pg1, flat_pg, flatL_app, eq_pg]
                    exact ⟨l.length - (i + 1), by omega, i + 1, m3, X3, t3, w3, rfl, by omega, by push_cast; rfl, hI5, hpo.1, hpb, by omega, by omega, hps.1.trans hroom, hpd3⟩
                  · have h6' : ((c3 : Int) == 6) = false := by simp; omega
                    simp -implicitDefEqProofs -dsimp (maxSteps := 1000000) (disch := first | omega | (simp only [wkLen]; omega) | decide +kernel) only [↓wkPre, ↓wkPre2, ↓wkE, wkPost, wkDef, wkF, simprocAttr, e1, e2, e8, e12, k2, h6, h6', nn_v, nn_fn, List.length_map, pgL_len, allP_map, take_pg, take_pgm, get0, get1, get2, getm0, getm1, getm2, get00, getm00, setm0, setm1, setm2, setm00, setR_pg, setR_pg1, flat_pg, flatL_app, eq_pg]
                    refine evC_pl pl_5_22 (by kernel_rfl) (by decide +kernel) ?_
                    simp only [pl_5_22]
                    simp -implicitDefEqProofs -dsimp (maxSteps := 1000000) (disch := first | omega | (simp only [wkLen]; omega) | decide +kernel) only [↓wkPre, ↓wkPre2, ↓wkE, wkPost, wkDef, wkF, simprocAttr, e1, e2, e8, e12, k2, h6, h6', nn_v, nn_fn, List.length_map, pgL_len, allP_map, take_pg, take_pgm, get0, get1, get2, getm0, getm1, getm2, get00, getm00, setm0, setm1, setm2, setm00, setR_pg, setR_pg1, flat_pg, flatL_app, eq_pg]
                    refine imp_call md_21 (key _ m3 X3 t3 w3 (hI3.app _) hpo.1 hpb (by omega) (by omega) (hps.1.trans hroom) hpd3 _ (fun pk hpk1 => ?_))
                    simp -implicitDefEqProofs -dsimp (maxSteps := 1000000) (disch := first | omega | (simp only [wkLen]; omega) | decide +kernel) only [↓wkPre, ↓wkPre2, ↓wkE, wkPost, wkDef, wkF, simprocAttr, e1, e2, e8, e12, nn_v, nn_fn, List.length_map, pgL_len, allP_map, take_pg, take_pgm, get0, get1, get2, getm0, getm1, getm2, get00, getm00, setm0, setm1, setm2, setm00, setR_pg, setR_pg1, flat_pg, flatL_app, eq_pg]
                    exact ⟨l.length - (i + 1), by omega, i + 1, m3, X3, t3, w3, rfl, by omega, by push_cast; rfl, hI3.app _, hpo.1, hpb, by omega, by omega, hps.1.trans hroom, hpd3⟩
                · by_cases hk2 : ok = 2
                  · subst hk2
                    simp -implicitDefEqProofs -dsimp (maxSteps := 1000000) (disch := first | omega | (simp only [wkLen]; omega) | decide +kernel) only [↓wkPre, ↓wkPre2, ↓wkE, wkPost, wkDef, wkF, simprocAttr, e1, e2, e8, e12, k2, nn_v, nn_fn, List.length_map, pgL_len, allP_map, take_pg, take_pgm, get0, get1, get2, getm0, getm1, getm2, get00, getm00, setm0, setm1, setm2, setm00, setR_pg, setR_pg1, flat_pg, flatL_app, eq_pg]
                    refine imp_call md_10 (w10 hI2 on (by omega) (by omega) (by have := hbd.met; omega) (by have := hbd.miss; omega) (fun f hf => by have := hbd.k f hf; omega) _ ?_)
                    intro H3 X3 t3 w3 hI3 ht3 hw3 hK3
                    generalize pinF m on = P at *
                    obtain ⟨m3, b3, c3⟩ := P
                    dsimp only at *
                    have hpd3 : ∃ f ∈ m3.L, f.n = on ∧ 1 ≤ f.k := by
                      obtain ⟨f, hf, e, hk⟩ := hpd
                      obtain ⟨g, hg, e2, hk2⟩ := hpk f hf hk
                      exact ⟨g, hg, e2.trans e, by omega⟩
                    by_cases h6 : c3 = 6
                    · subst h6
                      obtain ⟨hfl, hfr3⟩ := hful rfl
                      have hm2 : m.L.length = 2 := by have := hI.full; have h2 := hI.L; rw [h2, List.length_map] at hfr3 ⊢; omega
                      have hRl : R.length = 2 := by rw [hR2.length_eq, List.length_map]; exact hm2
                      obtain ⟨ra, rb, rfl⟩ : ∃ ra rb, R = [ra, rb] := by
                        match R, hRl with
                        | [ra, rb], _ => exact ⟨ra, rb, rfl⟩
                      rcases hown with ⟨_, hx⟩ | ⟨bv, gv, rfl, hbv⟩
                      · cases hx
                      obtain ⟨hbv3, hvf3⟩ := hK3.track hbv (hvf bv rfl)
                      have hGG := hI3.app [.var true (.p (pgP b3))]
                      have hbv4 : (H3 ++ [Blk.var true (.p (pgP b3))])[bv]? = some (.arr true gv 0 (isL [ra, rb])) := (hs_app (List.getElem?_eq_some_iff.1 hbv3).1).trans hbv3
                      have hb3 : H3 ++ [Blk.var true (.p (.agg (pgL b3)))] = H3 ++ [Blk.var true (.p (pgP b3))] := rfl
                      simp -implicitDefEqProofs -dsimp (maxSteps := 1000000) (disch := first | omega | (simp only [wkLen]; omega) | decide +kernel) only [↓wkPre, ↓wkPre2, ↓wkE, wkPost, wkDef, wkF, simprocAttr, e1, e2, e8, e12, k2, hm2, nn_v, nn_fn, List.length_map, pgL_len, allP_map, take_pg, take_pgm, get0, get1, get2, getm0, getm1, getm2, get00, getm00, setm0, setm1, setm2, setm00, setR_pg, setR_pg1, flat_pg, flatL_app, eq_pg]
                      refine evC_pl pl_5_22 (by kernel_rfl) (by decide +kernel) ?_
                      simp only [pl_5_22]
                      simp -implicitDefEqProofs -dsimp (maxSteps := 1000000) (disch := first | omega | (simp only [wkLen]; omega) | decide +kernel) only [↓wkPre, ↓wkPre2, ↓wkE, wkPost, wkDef, wkF, simprocAttr, e1, e2, e8, e12, k2, hm2, nn_v, nn_fn, List.length_map, pgL_len, allP_map, take_pg, take_pgm, get0, get1, get2, getm0, getm1, getm2, get00, getm00, setm0, setm1, setm2, setm00, setR_pg, setR_pg1, flat_pg, flatL_app, eq_pg]
                      generalize H3 ++ [Blk.var true (.p (pgP b3))] = G3 at *
                      refine imp_call md_18 (w18 hGG _ ?_)
                      have hm3 : m3.L.length = 2 := by rw [hfl]; exact hm2
                      rw [hm3]
                      have il : (isL [ra, rb]).length = 2 := rfl
                      have i0 : (isL [ra, rb])[0]? = some (I ra) := rfl
                      have i1 : (isL [ra, rb])[1]? = some (I rb) := rfl
                      simp -implicitDefEqProofs -dsimp (maxSteps := 1000000) (disch := first | omega | (simp only [wkLen]; omega) | decide +kernel) only [↓wkPre, ↓wkPre2, ↓wkE, wkPost, wkDef, wkF, simprocAttr, e1, e2, e8, e12, k2, hm2, hbv4, il, i0, i1, nn_v, nn_fn, List.length_map, pgL_len, allP_map, take_pg, take_pgm, get0, get1, get2, getm0, getm1, getm2, get00, getm00, setm0, setm1, setm2, setm00, setR_pg, setR_pg1, flat_pg, flatL_app, eq_pg]
                      refine imp_call md_19 (w19 hGG (by have := hps.1; omega) _ ?_)
                      intro R4 v4 H4 hR41 hR42 hown4 hvb4 hfr4 hle4
                      have hR4 : R4 = [ra, rb] := sort_eq hR41 hR1 (hR42.trans (by rw [hfl]; exact hR2.symm))
                      subst hR4
                      rcases hown4 with ⟨_, hx⟩ | ⟨bv4, gv4, rfl, hbv4'⟩
                      · cases hx
                      have hI4 := hGG.keep (fun i hi => hfr4 i (hGG.lt i hi))
                      have hbvv := (hfr4 bv (List.getElem?_eq_some_iff.1 hbv4).1).trans hbv4
                      simp -implicitDefEqProofs -dsimp (maxSteps := 1000000) (disch := first | omega | (simp only [wkLen]; omega) | decide +kernel) only [↓wkPre, ↓wkPre2, ↓wkE, wkPost, wkDef, wkF, simprocAttr, e1, e2, e8, e12, k2, hm2, hbvv, hbv4', il, i0, i1, nn_v, nn_fn, List.length_map, pgL_len, allP_map, take_pg, take_pgm, get0, get1, get2, getm0, getm1, getm2, get00, getm00, setm0, setm1, setm2, setm00, setR_pg, setR_pg1, flat_pg, flatL_app, eq_pg]
                      refine imp_call md_19 (w19 hI4 (by have := hps.1; omega) _ ?_)
                      intro R5 v5 H5 hR51 hR52 hown5 hvb5 hfr5 hle5
                      have hR5 : R5 = [ra, rb] := sort_eq hR51 hR1 (hR52.trans (by rw [hfl]; exact hR2.symm))
                      subst hR5
                      rcases hown5 with ⟨_, hx⟩ | ⟨bv5, gv5, rfl, hbv5'⟩
                      · cases hx
                      have hI5 := hI4.keep (fun i hi => hfr5 i (hI4.lt i hi))
                      have hbvw := (hfr5 bv (List.getElem?_eq_some_iff.1 hbvv).1).trans hbvv
                      simp -implicitDefEqProofs -dsimp (maxSteps := 1000000) (disch := first | omega | (simp only [wkLen]; omega) | decide +kernel) only [↓wkPre, ↓wkPre2, ↓wkE, wkPost, wkDef, wkF, simprocAttr, e1, e2, e8, e12, k2, hm2, hbvw, hbv5', il, i0, i1, nn_v, nn_fn, List.length_map, pgL_len, allP_map, take_pg, take_pgm, get0, get1, get2, getm0, getm1, getm2, get00, getm00, setm0, setm1, setm2, setm00, setR_pg, setR_pg1, flat_pg, flatL_app, eq_pg]
                      refine imp_call md_21 (key H5 m3 X3 t3 w3 hI5 hpo.1 hpb (by omega) (by omega) (hps.1.trans hroom) hpd3 _ (fun pk hpk1 => ?_))
                      simp -implicitDefEqProofs -dsimp (maxSteps := 1000000) (disch := first | omega | (simp only [wkLen]; omega) | decide +kernel) only [↓wkPre, ↓wkPre2, ↓wkE, wkPost, wkDef, wkF, simprocAttr, e1, e2, e8, e12, nn_v, nn_fn, List.length_map, pgL_len, allP_map, take_pg, take_pgm, get0, get1, get2, getm0, getm1, getm2, get00, getm00, setm0, setm1, setm2, setm00, setR_pg, setR_pg1, flat_pg, flatL_app, eq_pg]
                      exact ⟨l.length - (i + 1), by omega, i + 1, m3, X3, t3, w3, rfl, by omega, by push_cast; rfl, hI5, hpo.1, hpb, by omega, by omega, hps.1.trans hroom, hpd3⟩
                    · have h6' : ((c3 : Int) == 6) = false := by simp; omega
                      simp -implicitDefEqProofs -dsimp (maxSteps := 1000000) (disch := first | omega | (simp only [wkLen]; omega) | decide +kernel) only [↓wkPre, ↓wkPre2, ↓wkE, wkPost, wkDef, wkF, simprocAttr, e1, e2, e8, e12, k2, h6, h6', nn_v, nn_fn, List.length_map, pgL_len, allP_map, take_pg, take_pgm, get0, get1, get2, getm0, getm1, getm2, get00, getm00, setm0, setm1, setm2, setm00, setR_pg, setR_pg1, flat_pg, flatL_app, eq_pg]
                      refine evC_pl pl_5_22 (by kernel_rfl) (by decide +kernel) ?_
                      simp only [pl_5_22]
                      simp -implicitDefEqProofs -dsimp (maxSteps := 1000000) (disch := first | omega | (simp only [wkLen]; omega) | decide +kernel) only [↓wkPre, ↓wkPre2, ↓wkE, wkPost, wkDef, wkF, simprocAttr, e1, e2, e8, e12, k2, h6, h6', nn_v, nn_fn, List.length_map, pgL_len, allP_map, take_pg, take_pgm, get0, get1, get2, getm0, getm1, getm2, get00, getm00, setm0, setm1, setm2, setm00, setR_pg, setR_pg1, flat_pg, flatL_app, eq_pg]
                      refine imp_call md_21 (key _ m3 X3 t3 w3 (hI3.app _) hpo.1 hpb (by omega) (by omega) (hps.1.trans hroom) hpd3 _ (fun pk hpk1 => ?_))
                      simp -implicitDefEqProofs -dsimp (maxSteps := 1000000) (disch := first | omega | (simp only [wkLen]; omega) | decide +kernel) only [↓wkPre, ↓wkPre2, ↓wkE, wkPost, wkDef, wkF, simprocAttr, e1, e2, e8, e12, nn_v, nn_fn, List.length_map, pgL_len, allP_map, take_pg, take_pgm, get0, get1, get2, getm0, getm1, getm2, get00, getm00, setm0, setm1, setm2, setm00, setR_pg, setR_pg1, flat_pg, flatL_app, eq_pg]
                      exact ⟨l.length - (i + 1), by omega, i + 1, m3, X3, t3, w3, rfl, by omega, by push_cast; rfl, hI3.app _, hpo.1, hpb, by omega, by omega, hps.1.trans hroom, hpd3⟩
                  · by_cases hk5 : ok = 5
                    · subst hk5
                      simp -implicitDefEqProofs -dsimp (maxSteps := 1000000) (disch := first | omega | (simp only [wkLen]; omega) | decide +kernel) only [↓wkPre, ↓wkPre2, ↓wkE, wkPost, wkDef, wkF, simprocAttr, e1, e2, e8, e12, k2, nn_v, nn_fn, List.length_map, pgL_len, allP_map, take_pg, take_pgm, get0, get1, get2, getm0, getm1, getm2, get00, getm00, setm0, setm1, setm2, setm00, setR_pg, setR_pg1, flat_pg, flatL_app, eq_pg]
                      have hfo5 := flushF_ok hwf on
                      have hfb5 := flushF_bd hbd on
                      have hfs5 := flushF_sh m on
                      have hfw5 := flushW_le m on
                      have hpd5 : ∃ f ∈ (flushF m on).1.L, f.n = on ∧ 1 ≤ f.k := by
                        obtain ⟨f, hf, e, hk⟩ := hpd
                        obtain ⟨g, hg, e2, hk2⟩ := (flushF_k m on).2 f hf
                        exact ⟨g, hg, e2.trans e, by omega⟩
                      refine imp_call md_20 (w20 hI2 on (by omega) _ ?_)
                      intro H3 X3 w3 hI3 hw3 hK3 _
                      simp -implicitDefEqProofs -dsimp (maxSteps := 1000000) (disch := first | omega | (simp only [wkLen]; omega) | decide +kernel) only [↓wkPre, ↓wkPre2, ↓wkE, wkPost, wkDef, wkF, simprocAttr, e1, e2, e8, e12, nn_v, nn_fn, List.length_map, pgL_len, allP_map, take_pg, take_pgm, get0, get1, get2, getm0, getm1, getm2, get00, getm00, setm0, setm1, setm2, setm00, setR_pg, setR_pg1, flat_pg, flatL_app, eq_pg]
                      refine imp_call md_21 (key _ _ X3 t w3 hI3 hfo5.1 (hfb5.mono (by omega)) (by omega) (by omega) (hfs5.1.trans hroom) hpd5 _ (fun pk hpk1 => ?_))
                      simp -implicitDefEqProofs -dsimp (maxSteps := 1000000) (disch := first | omega | (simp only [wkLen]; omega) | decide +kernel) only [↓wkPre, ↓wkPre2, ↓wkE, wkPost, wkDef, wkF, simprocAttr, e1, e2, e8, e12, nn_v, nn_fn, List.length_map, pgL_len, allP_map, take_pg, take_pgm, get0, get1, get2, getm0, getm1, getm2, get00, getm00, setm0, setm1, setm2, setm00, setR_pg, setR_pg1, flat_pg, flatL_app, eq_pg]
                      exact ⟨l.length - (i + 1), by omega, i + 1, _, X3, t, w3, rfl, by omega, by push_cast; rfl, hI3, hfo5.1, hfb5.mono (by omega), by omega, by omega, hfs5.1.trans hroom, hpd5⟩
                    · simp -implicitDefEqProofs -dsimp (maxSteps := 1000000) (disch := first | omega | (simp only [wkLen]; omega) | decide +kernel) only [↓wkPre, ↓wkPre2, ↓wkE, wkPost, wkDef, wkF, simprocAttr, e1, e2, e8, e12, k2, hk0, hk1, hk2, hk5, hok3, nn_v, nn_fn, List.length_map, pgL_len, allP_map, take_pg, take_pgm, get0, get1, get2, getm0, getm1, getm2, get00, getm00, setm0, setm1, setm2, setm00, setR_pg, setR_pg1, flat_pg, flatL_app, eq_pg]
                      refine imp_call md_21 (key _ m X t w hI2 hwf (hbd.mono (by omega)) (by omega) (by omega) hroom hpd _ (fun pk hpk1 => ?_))
                      simp -implicitDefEqProofs -dsimp (maxSteps := 1000000) (disch := first | omega | (simp only [wkLen]; omega) | decide +kernel) only [↓wkPre, ↓wkPre2, ↓wkE, wkPost, wkDef, wkF, simprocAttr, e1, e2, e8, e12, nn_v, nn_fn, List.length_map, pgL_len, allP_map, take_pg, take_pgm, get0, get1, get2, getm0, getm1, getm2, get00, getm00, setm0, setm1, setm2, setm00, setR_pg, setR_pg1, flat_pg, flatL_app, eq_pg]
                      exact ⟨l.length - (i + 1), by omega, i + 1, m, X, t, w, rfl, by omega, by push_cast; rfl, hI2, hwf, hbd.mono (by omega), by omega, by omega, hroom, hpd⟩
            · simp -implicitDefEqProofs -dsimp (maxSteps := 1000000) (disch := first | omega | (simp only [wkLen]; omega) | decide +kernel) only [↓wkPre, ↓wkPre2, ↓wkE, wkPost, wkDef, wkF, simprocAttr, e1, e2, e8, e12, hl, gi, hG3, hon, kG, nn_v, nn_fn, List.length_map, pgL_len, allP_map, take_pg, take_pgm, get0, get1, get2, getm0, getm1, getm2, get00, getm00, setm0, setm1, setm2, setm00, setR_pg, setR_pg1, flat_pg, flatL_app, eq_pg]
              refine imp_call md_18 (w18 hG _ ?_)
              simp -implicitDefEqProofs -dsimp (maxSteps := 1000000) (disch := first | omega | (simp only [wkLen]; omega) | decide +kernel) only [↓wkPre, ↓wkPre2, ↓wkE, wkPost, wkDef, wkF, simprocAttr, e1, e2, e8, e12, kG, nn_v, nn_fn, List.length_map, pgL_len, allP_map, take_pg, take_pgm, get0, get1, get2, getm0, getm1, getm2, get00, getm00, setm0, setm1, setm2, setm00, setR_pg, setR_pg1, flat_pg, flatL_app, eq_pg]
              refine imp_call md_19 (w19 hG (by omega) _ ?_)
              intro R v H2 hR1 hR2 hown hvb hfr hle
              have hI2 := hG.keep (fun i hi => hfr i (hG.lt i hi))
              have k2 : H2[Hc.length]? = some (.var true (.p (opP ok on ob))) := (hfr _ (List.getElem?_eq_some_iff.1 kG).1).trans kG
              have hvf : ∀ b, v.blk = some b → b ∉ Foot c X := fun b hb hf => by have := hG.lt b hf; have := hvb b hb; omega
              have hpo := pinF_ok hwf on
              have hpb := pinF_bd hbd on
              have hpk := (pinF_k m on).2
              have hps := pinF_sh m on
              have hpw := pinW_le m on
              have hful := pinF_full hwf (n := on)
              by_cases hk0 : ok = 0
              · subst hk0
                simp -implicitDefEqProofs -dsimp (maxSteps := 1000000) (disch := first | omega | (simp only [wkLen]; omega) | decide +kernel) only [↓wkPre, ↓wkPre2, ↓wkE, wkPost, wkDef, wkF, simprocAttr, e1, e2, e8, e12, k2, nn_v, nn_fn, List.length_map, pgL_len, allP_map, take_pg, take_pgm, get0, get1, get2, getm0, getm1, getm2, get00, getm00, setm0, setm1, setm2, setm00, setR_pg, setR_pg1, flat_pg, flatL_app, eq_pg]
                refine imp_call md_10 (w10 hI2 on (by omega) (by omega) (by have := hbd.met; omega) (by have := hbd.miss; omega) (fun f hf => by have := hbd.k f hf; omega) _ ?_)
                intro H3 X3 t3 w3 hI3 ht3 hw3 hK3
                generalize pinF m on = P at *
                obtain ⟨m3, b3, c3⟩ := P
                dsimp only at *
                have hpd3 : ∃ f ∈ m3.L, f.n = n ∧ 1 ≤ f.k := by
                  obtain ⟨f, hf, e, hk⟩ := hpd
                  obtain ⟨g, hg, e2, hk2⟩ := hpk f hf hk
                  exact ⟨g, hg, e2.trans e, by omega⟩
                by_cases h6 : c3 = 6
                · subst h6
                  obtain ⟨hfl, hfr3⟩ := hful rfl
                  have hm2 : m.L.length = 2 := by have := hI.full; have h2 := hI.L; rw [h2, List.length_map] at hfr3 ⊢; omega
                  have hRl : R.length = 2 := by rw [hR2.length_eq, List.length_map]; exact hm2
                  obtain ⟨ra, rb, rfl⟩ : ∃ ra rb, R = [ra, rb] := by
                    match R, hRl with
                    | [ra, rb], _ => exact ⟨ra, rb, rfl⟩
                  rcases hown with ⟨_, hx⟩ | ⟨bv, gv, rfl, hbv⟩
                  · cases hx
                  obtain ⟨hbv3, hvf3⟩ := hK3.track hbv (hvf bv rfl)
                  have hGG := hI3.app [.var true (.p (pgP b3))]
                  have hbv4 : (H3 ++ [Blk.var true (.p (pgP b3))])[bv]? = some (.arr true gv 0 (isL [ra, rb])) := (hs_app (List.getElem?_eq_some_iff.1 hbv3).1).trans hbv3
                  have hb3 : H3 ++ [Blk.var true (.p (.agg (pgL b3)))] = H3 ++ [Blk.var true (.p (pgP b3))] := rfl
                  simp -implicitDefEqProofs -dsimp (maxSteps := 1000000) (disch := first | omega | (simp only [wkLen]; omega) | decide +kernel) only [↓wkPre, ↓wkPre2, ↓wkE, wkPost, wkDef, wkF, simprocAttr, e1, e2, e8, e12, k2, hm2, nn_v, nn_fn, List.length_map, pgL_len, allP_map, take_pg, take_pgm, get0, get1, get2, getm0, getm1, getm2, get00, getm00, setm0, setm1, setm2, setm00, setR_pg, setR_pg1, flat_pg, flatL_app, eq_pg]
                  refine evC_pl pl_5_22 (by kernel_rfl) (by decide +kernel) ?_
                  simp only [pl_5_22]
                  simp -implicitDefEqProofs -dsimp (maxSteps := 1000000) (disch := first | omega | (simp only [wkLen]; omega) | decide +kernel) only [↓wkPre, ↓wkPre2, ↓wkE, wkPost, wkDef, wkF, simprocAttr, e1, e2, e8, e12, k2, hm2, nn_v, nn_fn, List.length_map, pgL_len, allP_map, take_pg, take_pgm, get0, get1, get2, getm0, getm1, getm2, get00, getm00, setm0, setm1, setm2, setm00, setR_pg, setR_pg1, flat_pg, flatL_app, eq_pg]
                  generalize H3 ++ [Blk.var true (.p (pgP b3))] = G3 at *
                  refine imp_call md_18 (w18 hGG _ ?_)
                  have hm3 : m3.L.length = 2 := by rw [hfl]; exact hm2
                  rw [hm3]
                  have il : (isL [ra, rb]).length = 2 := rfl
                  have i0 : (isL [ra, rb])[0]? = some (I ra) := rfl
                  have i1 : (isL [ra, rb])[1]? = some (I rb) := rfl
                  simp -implicitDefEqProofs -dsimp (maxSteps := 1000000) (disch := first | omega | (simp only [wkLen]; omega) | decide +kernel) only [↓wkPre, ↓wkPre2, ↓wkE, wkPost, wkDef, wkF, simprocAttr, e1, e2, e8, e12, k2, hm2, hbv4, il, i0, i1, nn_v, nn_fn, List.length_map, pgL_len, allP_map, take_pg, take_pgm, get0, get1, get2, getm0, getm1, getm2, get00, getm00, setm0, setm1, setm2, setm00, setR_pg, setR_pg1, flat_pg, flatL_app, eq_pg]
                  refine imp_call md_19 (w19 hGG (by have := hps.1; omega) _ ?_)
                  intro R4 v4 H4 hR41 hR42 hown4 hvb4 hfr4 hle4
                  have hR4 : R4 = [ra, rb] := sort_eq hR41 hR1 (hR42.trans (by rw [hfl]; exact hR2.symm))
                  subst hR4
                  rcases hown4 with ⟨_, hx⟩ | ⟨bv4, gv4, rfl, hbv4'⟩
                  · cases hx
                  have hI4 := hGG.keep (fun i hi => hfr4 i (hGG.lt i hi))
                  have hbvv := (hfr4 bv (List.getElem?_eq_some_iff.1 hbv4).1).trans hbv4
                  simp -implicitDefEqProofs -dsimp (maxSteps := 1000000) (disch := first | omega | (simp only [wkLen]; omega) | decide +kernel) only [↓wkPre, ↓wkPre2, ↓wkE, wkPost, wkDef, wkF, simprocAttr, e1, e2, e8, e12, k2, hm2, hbvv, hbv4', il, i0, i1, nn_v, nn_fn, List.length_map, pgL_len, allP_map, take_pg, take_pgm, get0, get1, get2, getm0, getm1, getm2, get00, getm00, setm0, setm1, setm2, setm00, setR_pg, setR_pg1, flat_pg, flatL_app, eq_pg]
                  refine imp_call md_19 (w19 hI4 (by have := hps.1; omega) _ ?_)
                  intro R5 v5 H5 hR51 hR52 hown5 hvb5 hfr5 hle5
                  have hR5 : R5 = [ra, rb] := sort_eq hR51 hR1 (hR52.trans (by rw [hfl]; exact hR2.symm))
                  subst hR5
                  rcases hown5 with ⟨_, hx⟩ | ⟨bv5, gv5, rfl, hbv5'⟩
                  · cases hx
                  have hI5 := hI4.keep (fun i hi => hfr5 i (hI4.lt i hi))
                  have hbvw := (hfr5 bv (List.getElem?_eq_some_iff.1 hbvv).1).trans hbvv
                  simp -implicitDefEqProofs -dsimp (maxSteps := 1000000) (disch := first | omega | (simp only [wkLen]; omega) | decide +kernel) only [↓wkPre, ↓wkPre2, ↓wkE, wkPost, wkDef, wkF, simprocAttr, e1, e2, e8, e12, k2, hm2, hbvw, hbv5', il, i0, i1, nn_v, nn_fn, List.length_map, pgL_len, allP_map, take_pg, take_pgm, get0, get1, get2, getm0, getm1, getm2, get00, getm00, setm0, setm1, setm2, setm00, setR_pg, setR_pg1, flat_pg, flatL_app, eq_pg]
                  refine imp_call md_21 (key H5 m3 X3 t3 w3 hI5 hpo.1 hpb (by omega) (by omega) (hps.1.trans hroom) hpd3 _ (fun pk hpk1 => ?_))
                  simp -implicitDefEqProofs -dsimp (maxSteps := 1000000) (disch := first | omega | (simp only [wkLen]; omega) | decide +kernel) only [↓wkPre, ↓wkPre2, ↓wkE, wkPost, wkDef, wkF, simprocAttr, e1, e2, e8, e12, nn_v, nn_fn, List.length_map, pgL_len, allP_map, take_pg, take_pgm, get0, get1, get2, getm0, getm1, getm2, get00, getm00, setm0, setm1, setm2, setm00, setR_pg, setR_pg1, flat_pg, flatL_app, eq_pg]
                  exact ⟨l.length - (i + 1), by omega, i + 1, m3, X3, t3, w3, rfl, by omega, by push_cast; rfl, hI5, hpo.1, hpb, by omega, by omega, hps.1.trans hroom, hpd3⟩
                · have h6' : ((c3 : Int) == 6) = false := by simp; omega
                  simp -implicitDefEqProofs -dsimp (maxSteps := 1000000) (disch := first | omega | (simp only [wkLen]; omega) | decide +kernel) only [↓wkPre, ↓wkPre2, ↓wkE, wkPost, wkDef, wkF, simprocAttr, e1, e2, e8, e12, k2, h6, h6', nn_v, nn_fn, List.length_map, pgL_len, allP_map, take_pg, take_pgm, get0, get1, get2, getm0, getm1, getm2, get00, getm00, setm0, setm1, setm2, setm00, setR_pg, setR_pg1, flat_pg, flatL_app, eq_pg]
                  refine evC_pl pl_5_22 (by kernel_rfl) (by decide +kernel) ?_
                  simp only [pl_5_22]
                  simp -implicitDefEqProofs -dsimp (maxSteps := 1000000) (disch := first | omega | (simp only [wkLen]; omega) | decide +kernel) only [↓wkPre, ↓wkPre2, ↓wkE, wkPost, wkDef, wkF, simprocAttr, e1, e2, e8, e12, k2, h6, h6', nn_v, nn_fn, List.length_map, pgL_len, allP_map, take_pg, take_pgm, get0, get1, get2, getm0, getm1, getm2, get00, getm00, setm0, setm1, setm2, setm00, setR_pg, setR_pg1, flat_pg, flatL_app, eq_pg]
                  refine imp_call md_21 (key _ m3 X3 t3 w3 (hI3.app _) hpo.1 hpb (by omega) (by omega) (hps.1.trans hroom) hpd3 _ (fun pk hpk1 => ?_))
                  simp -implicitDefEqProofs -dsimp (maxSteps := 1000000) (disch := first | omega | (simp only [wkLen]; omega) | decide +kernel) only [↓wkPre, ↓wkPre2, ↓wkE, wkPost, wkDef, wkF, simprocAttr, e1, e2, e8, e12, nn_v, nn_fn, List.length_map, pgL_len, allP_map, take_pg, take_pgm, get0, get1, get2, getm0, getm1, getm2, get00, getm00, setm0, setm1, setm2, setm00, setR_pg, setR_pg1, flat_pg, flatL_app, eq_pg]
                  exact ⟨l.length - (i + 1), by omega, i + 1, m3, X3, t3, w3, rfl, by omega, by push_cast; rfl, hI3.app _, hpo.1, hpb, by omega, by omega, hps.1.trans hroom, hpd3⟩
              · by_cases hk1 : ok = 1
                · subst hk1
                  simp -implicitDefEqProofs -dsimp (maxSteps := 1000000) (disch := first | omega | (simp only [wkLen]; omega) | decide +kernel) only [↓wkPre, ↓wkPre2, ↓wkE, wkPost, wkDef, wkF, simprocAttr, e1, e2, e8, e12, k2, nn_v, nn_fn, List.length_map, pgL_len, allP_map, take_pg, take_pgm, get0, get1, get2, getm0, getm1, getm2, get00, getm00, setm0, setm1, setm2, setm00, setR_pg, setR_pg1, flat_pg, flatL_app, eq_pg]
                  refine imp_call md_10 (w10 hI2 on (by omega) (by omega) (by have := hbd.met; omega) (by have := hbd.miss; omega) (fun f hf => by have := hbd.k f hf; omega) _ ?_)
                  intro H3 X3 t3 w3 hI3 ht3 hw3 hK3
                  generalize pinF m on = P at *
                  obtain ⟨m3, b3, c3⟩ := P
                  dsimp only at *
                  have hpd3 : ∃ f ∈ m3.L, f.n = n ∧ 1 ≤ f.k := by
                    obtain ⟨f, hf, e, hk⟩ := hpd
                    obtain ⟨g, hg, e2, hk2⟩ := hpk f hf hk
                    exact ⟨g, hg, e2.trans e, by omega⟩
                  by_cases h6 : c3 = 6
                  · subst h6
                    obtain ⟨hfl, hfr3⟩ := hful rfl
                    have hm2 : m.L.length = 2 := by have := hI.full; have h2 := hI.L; rw [h2, List.length_map] at hfr3 ⊢; omega
                    have hRl : R.length = 2 := by rw [hR2.length_eq, List.length_map]; exact hm2
                    obtain ⟨ra, rb, rfl⟩ : ∃ ra rb, R = [ra, rb] := by
                      match R, hRl with
                      | [ra, rb], _ => exact ⟨ra, rb, rfl⟩
                    rcases hown with ⟨_, hx⟩ | ⟨bv, gv, rfl, hbv⟩
                    · cases hx
                    obtain ⟨hbv3, hvf3⟩ := hK3.track hbv (hvf bv rfl)
                    have hGG := hI3.app [.var true (.p (pgP b3))]
                    have hbv4 : (H3 ++ [Blk.var true (.p (pgP b3))])[bv]? = some (.arr true gv 0 (isL [ra, rb])) := (hs_app (List.getElem?_eq_some_iff.1 hbv3).1).trans hbv3
                    have hb3 : H3 ++ [Blk.var true (.p (.agg (pgL b3)))] = H3 ++ [Blk.var true (.p (pgP b3))] := rfl
                    simp -implicitDefEqProofs -dsimp (maxSteps := 1000000) (disch := first | omega | (simp only [wkLen]; omega) | decide +kernel) only [↓wkPre, ↓wkPre2, ↓wkE, wkPost, wkDef, wkF, simprocAttr, e1, e2, e8, e12, k2, hm2, nn_v, nn_fn, List.length_map, pgL_len, allP_map, take_pg, take_pgm, get0, get1, get2, getm0, getm1, getm2, get00, getm00, setm0, setm1, setm2, setm00, setR_pg, setR_pg1, flat_pg, flatL_app, eq_pg]
                    refine evC_pl pl_5_22 (by kernel_rfl) (by decide +kernel) ?_
                    simp only [pl_5_22]
                    simp -implicitDefEqProofs -dsimp (maxSteps := 1000000) (disch := first | omega | (simp only [wkLen]; omega) | decide +kernel) only [↓wkPre, ↓wkPre2, ↓wkE, wkPost, wkDef, wkF, simprocAttr, e1, e2, e8, e12, k2, hm2, nn_v, nn_fn, List.length_map, pgL_len, allP_map, take_pg, take_pgm, get0, get1, get2, getm0, getm1, getm2, get00, getm00, setm0, setm1, setm2, setm00, setR_pg, setR_pg1, flat_pg, flatL_app, eq_pg]
                    generalize H3 ++ [Blk.var true (.p (pgP b3))] = G3 at *
                    refine imp_call md_18 (w18 hGG _ ?_)
                    have hm3 : m3.L.length = 2 := by rw [hfl]; exact hm2
                    rw [hm3]
                    have il : (isL [ra, rb]).length = 2 := rfl
                    have i0 : (isL [ra, rb])[0]? = some (I ra) := rfl
                    have i1 : (isL [ra, rb])[1]? = some (I rb) := rfl
                    simp -implicitDefEqProofs -dsimp (maxSteps := 1000000) (disch := first | omega | (simp only [wkLen]; omega) | decide +kernel) only [↓wkPre, ↓wkPre2, ↓wkE, wkPost, wkDef, wkF, simprocAttr, e1, e2, e8, e12, k2, hm2, hbv4, il, i0, i1, nn_v, nn_fn, List.length_map, pgL_len, allP_map, take_pg, take_pgm, get0, get1, get2, getm0, getm1, getm2, get00, getm00, setm0, setm1, setm2, setm00, setR_pg, setR_pg1, flat_pg, flatL_app, eq_pg]
                    refine imp_call md_19 (w19 hGG (by have := hps.1; omega) _ ?_)
                    intro R4 v4 H4 hR41 hR42 hown4 hvb4 hfr4 hle4
                    have hR4 : R4 = [ra, rb] := sort_eq hR41 hR1 (hR42.trans (by rw [hfl]; exact hR2.symm))
                    subst hR4
                    rcases hown4 with ⟨_, hx⟩ | ⟨bv4, gv4, rfl, hbv4'⟩
                    · cases hx
                    have hI4 := hGG.keep (fun i hi => hfr4 i (hGG.lt i hi))
                    have hbvv := (hfr4 bv (List.getElem?_eq_some_iff.1 hbv4).1).trans hbv4
                    simp -implicitDefEqProofs -dsimp (maxSteps := 1000000) (disch := first | omega | (simp only [wkLen]; omega) | decide +kernel) only [↓wkPre, ↓wkPre2, ↓wkE, wkPost, wkDef, wkF, simprocAttr, e1, e2, e8, e12, k2, hm2, hbvv, hbv4', il, i0, i1, nn_v, nn_fn, List.length_map, pgL_len, allP_map, take_pg, take_pgm, get0, get1, get2, getm0, getm1, getm2, get00, getm00, setm0, setm1, setm2, setm00, setR_pg, setR_pg1, flat_pg, flatL_app, eq_pg]
                    refine imp_call md_19 (w19 hI4 (by have := hps.1; omega) _ ?_)
                    intro R5 v5 H5 hR51 hR52 hown5 hvb5 hfr5 hle5
                    have hR5 : R5 = [ra, rb] := sort_eq hR51 hR1 (hR52.trans (by rw [hfl]; exact hR2.symm))
                    subst hR5
                    rcases hown5 with ⟨_, hx⟩ | ⟨bv5, gv5, rfl, hbv5'⟩
                    · cases hx
                    have hI5 := hI4.keep (fun i hi => hfr5 i (hI4.lt i hi))
                    have hbvw := (hfr5 bv (List.getElem?_eq_some_iff.1 hbvv).1).trans hbvv
                    simp -implicitDefEqProofs -dsimp (maxSteps := 1000000) (disch := first | omega | (simp only [wkLen]; omega) | decide +kernel) only [↓wkPre, ↓wkPre2, ↓wkE, wkPost, wkDef, wkF, simprocAttr, e1, e2, e8, e12, k2, hm2, hbvw, hbv5', il, i0, i1, nn_v, nn_fn, List.length_map, pgL_len, allP_map, take_pg, take_pgm, get0, get1, get2, getm0, getm1, getm2, get00, getm00, setm0, setm1, setm2, setm00, setR_pg, setR_pg1, flat_pg, flatL_app, eq_pg]
                    refine imp_call md_21 (key H5 m3 X3 t3 w3 hI5 hpo.1 hpb (by omega) (by omega) (hps.1.trans hroom) hpd3 _ (fun pk hpk1 => ?_))
                    simp -implicitDefEqProofs -dsimp (maxSteps := 1000000) (disch := first | omega | (simp only [wkLen]; omega) | decide +kernel) only [↓wkPre, ↓wkPre2, ↓wkE, wkPost, wkDef, wkF, simprocAttr, e1, e2, e8, e12, nn_v, nn_fn, List.length_map, pgL_len, allP_map, take_pg, take_pgm, get0, get1, get2, getm0, getm1, getm2, get00, getm00, setm0, setm1, setm2, setm00, setR_pg, setR_pg1, flat_pg, flatL_app, eq_pg]
                    exact ⟨l.length - (i + 1), by omega, i + 1, m3, X3, t3, w3, rfl, by omega, by push_cast; rfl, hI5, hpo.1, hpb, by omega, by omega, hps.1.trans hroom, hpd3⟩
                  · have h6' : ((c3 : Int) == 6) = false := by simp; omega
                    simp -implicitDefEqProofs -dsimp (maxSteps := 1000000) (disch := first | omega | (simp only [wkLen]; omega) | decide +kernel) only [↓wkPre, ↓wkPre2, ↓wkE, wkPost, wkDef, wkF, simprocAttr, e1, e2, e8, e12, k2, h6, h6', nn_v, nn_fn, List.length_map, pgL_len, allP_map, take_pg, take_pgm, get0, get1, get2, getm0, getm1, getm2, get00, getm00, setm0, setm1, setm2, setm00, setR_pg, setR_pg1, flat_pg, flatL_app, eq_pg]
                    refine evC_pl pl_5_22 (by kernel_rfl) (by decide +kernel) ?_
                    simp only [pl_5_22]
                    simp -implicitDefEqProofs -dsimp (maxSteps := 1000000) (disch := first | omega | (simp only [wkLen]; omega) | decide +kernel) only [↓wkPre, ↓wkPre2, ↓wkE, wkPost, wkDef, wkF, simprocAttr, e1, e2, e8, e12, k2, h6, h6', nn_v, nn_fn, List.length_map, pgL_len, allP_map, take_pg, take_pgm, get0, get1, get2, getm0, getm1, getm2, get00, getm00, setm0, setm1, setm2, setm00, setR_pg, setR_pg1, flat_pg, flatL_app, eq_pg]
                    refine imp_call md_21 (key _ m3 X3 t3 w3 (hI3.app _) hpo.1 hpb (by omega) (by omega) (hps.1.trans hroom) hpd3 _ (fun pk hpk1 => ?_))
                    simp -implicitDefEqProofs -dsimp (maxSteps := 1000000) (disch := first | omega | (simp only [wkLen]; omega) | decide +kernel) only [↓wkPre, ↓wkPre2, ↓wkE, wkPost, wkDef, wkF, simprocAttr, e1, e2, e8, e12, nn_v, nn_fn, List.length_map, pgL_len, allP_map, take_pg, take_pgm, get0, get1, get2, getm0, getm1, getm2, get00, getm00, setm0, setm1, setm2, setm00, setR_pg, setR_pg1, flat_pg, flatL_app, eq_pg]
                    exact ⟨l.length - (i + 1), by omega, i + 1, m3, X3, t3, w3, rfl, by omega, by push_cast; rfl, hI3.app _, hpo.1, hpb, by omega, by omega, hps.1.trans hroom, hpd3⟩
                · by_cases hk2 : ok = 2
                  · subst hk2
                    simp -implicitDefEqProofs -dsimp (maxSteps := 1000000) (disch := first | omega | (simp only [wkLen]; omega) | decide +kernel) only [↓wkPre, ↓wkPre2, ↓wkE, wkPost, wkDef, wkF, simprocAttr, e1, e2, e8, e12, k2, nn_v, nn_fn, List.length_map, pgL_len, allP_map, take_pg, take_pgm, get0, get1, get2, getm0, getm1, getm2, get00, getm00, setm0, setm1, setm2, setm00, setR_pg, setR_pg1, flat_pg, flatL_app, eq_pg]
                    refine imp_call md_10 (w10 hI2 on (by omega) (by omega) (by have := hbd.met; omega) (by have := hbd.miss; omega) (fun f hf => by have := hbd.k f hf; omega) _ ?_)
                    intro H3 X3 t3 w3 hI3 ht3 hw3 hK3
                    generalize pinF m on = P at *
                    obtain ⟨m3, b3, c3⟩ := P
                    dsimp only at *
                    have hpd3 : ∃ f ∈ m3.L, f.n = n ∧ 1 ≤ f.k := by
                      obtain ⟨f, hf, e, hk⟩ := hpd
                      obtain ⟨g, hg, e2, hk2⟩ := hpk f hf hk
                      exact ⟨g, hg, e2.trans e, by omega⟩
                    by_cases h6 : c3 = 6
                    · subst h6
                      obtain ⟨hfl, hfr3⟩ := hful rfl
                      have hm2 : m.L.length = 2 := by have := hI.full; have h2 := hI.L; rw [h2, List.length_map] at hfr3 ⊢; omega
                      have hRl : R.length = 2 := by rw [hR2.length_eq, List.length_map]; exact hm2
                      obtain ⟨ra, rb, rfl⟩ : ∃ ra rb, R = [ra, rb] := by
                        match R, hRl with
                        | [ra, rb], _ => exact ⟨ra, rb, rfl⟩
                      rcases hown with ⟨_, hx⟩ | ⟨bv, gv, rfl, hbv⟩
                      · cases hx
                      obtain ⟨hbv3, hvf3⟩ := hK3.track hbv (hvf bv rfl)
                      have hGG := hI3.app [.var true (.p (pgP b3))]
                      have hbv4 : (H3 ++ [Blk.var true (.p (pgP b3))])[bv]? = some (.arr true gv 0 (isL [ra, rb])) := (hs_app (List.getElem?_eq_some_iff.1 hbv3).1).trans hbv3
                      have hb3 : H3 ++ [Blk.var true (.p (.agg (pgL b3)))] = H3 ++ [Blk.var true (.p (pgP b3))] := rfl
                      simp -implicitDefEqProofs -dsimp (maxSteps := 1000000) (disch := first | omega | (simp only [wkLen]; omega) | decide +kernel) only [↓wkPre, ↓wkPre2, ↓wkE, wkPost, wkDef, wkF, simprocAttr, e1, e2, e8, e12, k2, hm2, nn_v, nn_fn, List.length_map, pgL_len, allP_map, take_pg, take_pgm, get0, get1, get2, getm0, getm1, getm2, get00, getm00, setm0, setm1, setm2, setm00, setR_pg, setR_pg1, flat_pg, flatL_app, eq_pg]
                      refine evC_pl pl_5_22 (by kernel_rfl) (by decide +kernel) ?_
                      simp only [pl_5_22]
                      simp -implicitDefEqProofs -dsimp (maxSteps := 1000000) (disch := first | omega | (simp only [wkLen]; omega) | decide +kernel) only [↓wkPre, ↓wkPre2, ↓wkE, wkPost, wkDef, wkF, simprocAttr, e1, e2, e8, e12, k2, hm2, nn_v, nn_fn, List.length_map, pgL_len, allP_map, take_pg, take_pgm, get0, get1, get2, getm0, getm1, getm2, get00, getm00, setm0, setm1, setm2, setm00, setR_pg, setR_pg1, flat_pg, flatL_app, eq_pg]
                      generalize H3 ++ [Blk.var true (.p (pgP b3))] = G3 at *
                      refine imp_call md_18 (w18 hGG _ ?_)
                      have hm3 : m3.L.length = 2 := by rw [hfl]; exact hm2
                      rw [hm3]
                      have il : (isL [ra, rb]).length = 2 := rfl
                      have i0 : (isL [ra, rb])[0]? = some (I ra) := rfl
                      have i1 : (isL [ra, rb])[1]? = some (I rb) := rfl
                      simp -implicitDefEqProofs -dsimp (maxSteps := 1000000) (disch := first | omega | (simp only [wkLen]; omega) | decide +kernel) only [↓wkPre, ↓wkPre2, ↓wkE, wkPost, wkDef, wkF, simprocAttr, e1, e2, e8, e12, k2, hm2, hbv4, il, i0, i1, nn_v, nn_fn, List.length_map, pgL_len, allP_map, take_pg, take_pgm, get0, get1, get2, getm0, getm1, getm2, get00, getm00, setm0, setm1, setm2, setm00, setR_pg, setR_pg1, flat_pg, flatL_app, eq_pg]
                      refine imp_call md_19 (w19 hGG (by have := hps.1; omega) _ ?_)
                      intro R4 v4 H4 hR41 hR42 hown4 hvb4 hfr4 hle4
                      have hR4 : R4 = [ra, rb] := sort_eq hR41 hR1 (hR42.trans (by rw [hfl]; exact hR2.symm))
                      subst hR4
                      rcases hown4 with ⟨_, hx⟩ | ⟨bv4, gv4, rfl, hbv4'⟩
                      · cases hx
                      have hI4 := hGG.keep (fun i hi => hfr4 i (hGG.lt i hi))
                      have hbvv := (hfr4 bv (List.getElem?_eq_some_iff.1 hbv4).1).trans hbv4
                      simp -implicitDefEqProofs -dsimp (maxSteps := 1000000) (disch := first | omega | (simp only [wkLen]; omega) | decide +kernel) only [↓wkPre, ↓wkPre2, ↓wkE, wkPost, wkDef, wkF, simprocAttr, e1, e2, e8, e12, k2, hm2, hbvv, hbv4', il, i0, i1, nn_v, nn_fn, List.length_map, pgL_len, allP_map, take_pg, take_pgm, get0, get1, get2, getm0, getm1, getm2, get00, getm00, setm0, setm1, setm2, setm00, setR_pg, setR_pg1, flat_pg, flatL_app, eq_pg]
                      refine imp_call md_19 (w19 hI4 (by have := hps.1; omega) _ ?_)
                      intro R5 v5 H5 hR51 hR52 hown5 hvb5 hfr5 hle5
                      have hR5 : R5 = [ra, rb] := sort_eq hR51 hR1 (hR52.trans (by rw [hfl]; exact hR2.symm))
                      subst hR5
                      rcases hown5 with ⟨_, hx⟩ | ⟨bv5, gv5, rfl, hbv5'⟩
                      · cases hx
                      have hI5 := hI4.keep (fun i hi => hfr5 i (hI4.lt i hi))
                      have hbvw := (hfr5 bv (List.getElem?_eq_some_iff.1 hbvv).1).trans hbvv
                      simp -implicitDefEqProofs -dsimp (maxSteps := 1000000) (disch := first | omega | (simp only [wkLen]; omega) | decide +kernel) only [↓wkPre, ↓wkPre2, ↓wkE, wkPost, wkDef, wkF, simprocAttr, e1, e2, e8, e12, k2, hm2, hbvw, hbv5', il, i0, i1, nn_v, nn_fn, List.length_map, pgL_len, allP_map, take_pg, take_pgm, get0, get1, get2, getm0, getm1, getm2, get00, getm00, setm0, setm1, setm2, setm00, setR_pg, setR_pg1, flat_pg, flatL_app, eq_pg]
                      refine imp_call md_21 (key H5 m3 X3 t3 w3 hI5 hpo.1 hpb (by omega) (by omega) (hps.1.trans hroom) hpd3 _ (fun pk hpk1 => ?_))
                      simp -implicitDefEqProofs -dsimp (maxSteps := 1000000) (disch := first | omega | (simp only [wkLen]; omega) | decide +kernel) only [↓wkPre, ↓wkPre2, ↓wkE, wkPost, wkDef, wkF, simprocAttr, e1, e2, e8, e12, nn_v, nn_fn, List.length_map, pgL_len, allP_map, take_pg, take_pgm, get0, get1, get2, getm0, getm1, getm2, get00, getm00, setm0, setm1, setm2, setm00, setR_pg, setR_pg1, flat_pg, flatL_app, eq_pg]
                      exact ⟨l.length - (i + 1), by omega, i + 1, m3, X3, t3, w3, rfl, by omega, by push_cast; rfl, hI5, hpo.1, hpb, by omega, by omega, hps.1.trans hroom, hpd3⟩
                    · have h6' : ((c3 : Int) == 6) = false := by simp; omega
                      simp -implicitDefEqProofs -dsimp (maxSteps := 1000000) (disch := first | omega | (simp only [wkLen]; omega) | decide +kernel) only [↓wkPre, ↓wkPre2, ↓wkE, wkPost, wkDef, wkF, simprocAttr, e1, e2, e8, e12, k2, h6, h6', nn_v, nn_fn, List.length_map, pgL_len, allP_map, take_pg, take_pgm, get0, get1, get2, getm0, getm1, getm2, get00, getm00, setm0, setm1, setm2, setm00, setR_pg, setR_pg1, flat_pg, flatL_app, eq_pg]
                      refine evC_pl pl_5_22 (by kernel_rfl) (by decide +kernel) ?_
                      simp only [pl_5_22]
                      simp -implicitDefEqProofs -dsimp (maxSteps := 1000000) (disch := first | omega | (simp only [wkLen]; omega) | decide +kernel) only [↓wkPre, ↓wkPre2, ↓wkE, wkPost, wkDef, wkF, simprocAttr, e1, e2, e8, e12, k2, h6, h6', nn_v, nn_fn, List.length_map, pgL_len, allP_map, take_pg, take_pgm, get0, get1, get2, getm0, getm1, getm2, get00, getm00, setm0, setm1, setm2, setm00, setR_pg, setR_pg1, flat_pg, flatL_app, eq_pg]
                      refine imp_call md_21 (key _ m3 X3 t3 w3 (hI3.app _) hpo.1 hpb (by omega) (by omega) (hps.1.trans hroom) hpd3 _ (fun pk hpk1 => ?_))
                      simp -implicitDefEqProofs -dsimp (maxSteps := 1000000) (disch := first | omega | (simp only [wkLen]; omega) | decide +kernel) only [↓wkPre, ↓wkPre2, ↓wkE, wkPost, wkDef, wkF, simprocAttr, e1, e2, e8, e12, nn_v, nn_fn, List.length_map, pgL_len, allP_map, take_pg, take_pgm, get0, get1, get2, getm0, getm1, getm2, get00, getm00, setm0, setm1, setm2, setm00, setR_pg, setR_pg1, flat_pg, flatL_app, eq_pg]
                      exact ⟨l.length - (i + 1), by omega, i + 1, m3, X3, t3, w3, rfl, by omega, by push_cast; rfl, hI3.app _, hpo.1, hpb, by omega, by omega, hps.1.trans hroom, hpd3⟩
                  · by_cases hk5 : ok = 5
                    · subst hk5
                      simp -implicitDefEqProofs -dsimp (maxSteps := 1000000) (disch := first | omega | (simp only [wkLen]; omega) | decide +kernel) only [↓wkPre, ↓wkPre2, ↓wkE, wkPost, wkDef, wkF, simprocAttr, e1, e2, e8, e12, k2, nn_v, nn_fn, List.length_map, pgL_len, allP_map, take_pg, take_pgm, get0, get1, get2, getm0, getm1, getm2, get00, getm00, setm0, setm1, setm2, setm00, setR_pg, setR_pg1, flat_pg, flatL_app, eq_pg]
                      have hfo5 := flushF_ok hwf on
                      have hfb5 := flushF_bd hbd on
                      have hfs5 := flushF_sh m on
                      have hfw5 := flushW_le m on
                      have hpd5 : ∃ f ∈ (flushF m on).1.L, f.n = n ∧ 1 ≤ f.k := by
                        obtain ⟨f, hf, e, hk⟩ := hpd
                        obtain ⟨g, hg, e2, hk2⟩ := (flushF_k m on).2 f hf
                        exact ⟨g, hg, e2.trans e, by omega⟩
                      refine imp_call md_20 (w20 hI2 on (by omega) _ ?_)
                      intro H3 X3 w3 hI3 hw3 hK3 _
                      simp -implicitDefEqProofs -dsimp (maxSteps := 1000000) (disch := first | omega | (simp only [wkLen]; omega) | decide +kernel) only [↓wkPre, ↓wkPre2, ↓wkE, wkPost, wkDef, wkF, simprocAttr, e1, e2, e8, e12, nn_v, nn_fn, List.length_map, pgL_len, allP_map, take_pg, take_pgm, get0, get1, get2, getm0, getm1, getm2, get00, getm00, setm0, setm1, setm2, setm00, setR_pg, setR_pg1, flat_pg, flatL_app, eq_pg]
                      refine imp_call md_21 (key _ _ X3 t w3 hI3 hfo5.1 (hfb5.mono (by omega)) (by omega) (by omega) (hfs5.1.trans hroom) hpd5 _ (fun pk hpk1 => ?_))
                      simp -implicitDefEqProofs -dsimp (maxSteps := 1000000) (disch := first | omega | (simp only [wkLen]; omega) | decide +kernel) only [↓wkPre, ↓wkPre2, ↓wkE, wkPost, wkDef, wkF, simprocAttr, e1, e2, e8, e12, nn_v, nn_fn, List.length_map, pgL_len, allP_map, take_pg, take_pgm, get0, get1, get2, getm0, getm1, getm2, get00, getm00, setm0, setm1, setm2, setm00, setR_pg, setR_pg1, flat_pg, flatL_app, eq_pg]
                      exact ⟨l.length - (i + 1), by omega, i + 1, _, X3, t, w3, rfl, by omega, by push_cast; rfl, hI3, hfo5.1, hfb5.mono (by omega), by omega, by omega, hfs5.1.trans hroom, hpd5⟩
                    · by_cases hk3 : ok = 3
                      · subst hk3
                        simp -implicitDefEqProofs -dsimp (maxSteps := 1000000) (disch := first | omega | (simp only [wkLen]; omega) | decide +kernel) only [↓wkPre, ↓wkPre2, ↓wkE, wkPost, wkDef, wkF, simprocAttr, e1, e2, e8, e12, k2, nn_v, nn_fn, List.length_map, pgL_len, allP_map, take_pg, take_pgm, get0, get1, get2, getm0, getm1, getm2, get00, getm00, setm0, setm1, setm2, setm00, setR_pg, setR_pg1, flat_pg, flatL_app, eq_pg]
                        refine imp_call md_15 (w15 hI2 on _ ?_)
                        intro H3 X3 hI3 hK3
                        have hpd5 : ∃ f ∈ (unpinF m on).1.L, f.n = n ∧ 1 ≤ f.k := by
                          obtain ⟨f, hf, e, hk⟩ := hpd
                          exact ⟨f, unpinF_ne hf (by rw [e]; exact fun h => hon h.symm), e, hk⟩
                        simp -implicitDefEqProofs -dsimp (maxSteps := 1000000) (disch := first | omega | (simp only [wkLen]; omega) | decide +kernel) only [↓wkPre, ↓wkPre2, ↓wkE, wkPost, wkDef, wkF, simprocAttr, e1, e2, e8, e12, nn_v, nn_fn, List.length_map, pgL_len, allP_map, take_pg, take_pgm, get0, get1, get2, getm0, getm1, getm2, get00, getm00, setm0, setm1, setm2, setm00, setR_pg, setR_pg1, flat_pg, flatL_app, eq_pg]
                        refine imp_call md_21 (key _ _ X3 t w hI3 (unpinF_ok hwf on).1 ((unpinF_bd hbd on).mono (by omega)) (by omega) (by omega) ((unpinF_sh m on).1.trans hroom) hpd5 _ (fun pk hpk1 => ?_))
                        simp -implicitDefEqProofs -dsimp (maxSteps := 1000000) (disch := first | omega | (simp only [wkLen]; omega) | decide +kernel) only [↓wkPre, ↓wkPre2, ↓wkE, wkPost, wkDef, wkF, simprocAttr, e1, e2, e8, e12, nn_v, nn_fn, List.length_map, pgL_len, allP_map, take_pg, take_pgm, get0, get1, get2, getm0, getm1, getm2, get00, getm00, setm0, setm1, setm2, setm00, setR_pg, setR_pg1, flat_pg, flatL_app, eq_pg]
                        exact ⟨l.length - (i + 1), by omega, i + 1, _, X3, t, w, rfl, by omega, by push_cast; rfl, hI3, (unpinF_ok hwf on).1, (unpinF_bd hbd on).mono (by omega), by omega, by omega, (unpinF_sh m on).1.trans hroom, hpd5⟩
                      · simp -implicitDefEqProofs -dsimp (maxSteps := 1000000) (disch := first | omega | (simp only [wkLen]; omega) | decide +kernel) only [↓wkPre, ↓wkPre2, ↓wkE, wkPost, wkDef, wkF, simprocAttr, e1, e2, e8, e12, k2, hk0, hk1, hk2, hk5, hk3, nn_v, nn_fn, List.length_map, pgL_len, allP_map, take_pg, take_pgm, get0, get1, get2, getm0, getm1, getm2, get00, getm00, setm0, setm1, setm2, setm00, setR_pg, setR_pg1, flat_pg, flatL_app, eq_pg]
                        refine imp_call md_21 (key _ m X t w hI2 hwf (hbd.mono (by omega)) (by omega) (by omega) hroom hpd _ (fun pk hpk1 => ?_))
                        simp -implicitDefEqProofs -dsimp (maxSteps := 1000000) (disch := first | omega | (simp only [wkLen]; omega) | decide +kernel) only [↓wkPre, ↓wkPre2, ↓wkE, wkPost, wkDef, wkF, simprocAttr, e1, e2, e8, e12, nn_v, nn_fn, List.length_map, pgL_len, allP_map, take_pg, take_pgm, get0, get1, get2, getm0, getm1, getm2, get00, getm00, setm0, setm1, setm2, setm00, setR_pg, setR_pg1, flat_pg, flatL_app, eq_pg]
                        exact ⟨l.length - (i + 1), by omega, i + 1, m, X, t, w, rfl, by omega, by push_cast; rfl, hI2, hwf, hbd.mono (by omega), by omega, by omega, hroom, hpd⟩
        · simp -implicitDefEqProofs -dsimp (maxSteps := 1000000) (disch := first | omega | (simp only [wkLen]; omega) | decide +kernel) only [↓wkPre, ↓wkPre2, ↓wkE, wkPost, wkDef, wkF, simprocAttr, e1, e2, e8, e12, hl]
          refine PS.app md_6 Try.func6 p6 rfl ?_
          rintro _ rfl
          simp -implicitDefEqProofs -dsimp (maxSteps := 1000000) (disch := first | omega | (simp only [wkLen]; omega) | decide +kernel) only [↓wkPre, ↓wkPre2, ↓wkE, wkPost, wkDef, wkF, simprocAttr]
      · simp -implicitDefEqProofs -dsimp (maxSteps := 1000000) (disch := first | omega | (simp only [wkLen]; omega) | decide +kernel) only [↓wkPre, ↓wkPre2, ↓wkE, wkPost, wkDef, wkF, simprocAttr]
        exact ⟨hI1.app _, hok.1, hbd, by omega, by omega, hsh.1, (hok.2.2 rfl).2⟩
theorem ops_list : ∀ {xs : List PV}, (∀ y ∈ xs, y.shape = 3 ∧ Tyds [.int .i64, .int .i64, .int .u8] y.cells) → ∃ os : List Op3, xs = opsP os
  | [], _ => ⟨[], rfl⟩
  | y :: ys, h => by
    obtain ⟨os, rfl⟩ := ops_list (xs := ys) fun z hz => h z (by simp [hz])
    obtain ⟨h0, h1⟩ := h y (by simp)
    simp only [Tyds, Tyd] at h1
    obtain ⟨a, r, hc, ⟨n, rfl, _⟩, b, r', rfl, ⟨m, rfl, _⟩, b2, r2, rfl, ⟨m2, rfl, h3, h4⟩, rfl⟩ := h1
    have h3 : 0 ≤ m2 := h3
    have h4 : m2 ≤ 255 := h4
    refine ⟨⟨n, m, UInt8.ofNat m2.toNat⟩ :: os, ?_⟩
    have e : ((UInt8.ofNat m2.toNat).toNat : Int) = m2 := by
      rw [UInt8.toNat_ofNat']; omega
    cases y with
    | agg xs =>
      simp [PV.cells] at hc
      subst hc
      show PV.agg [.int .i64 n, .int .i64 m, .int .u8 m2] :: opsP os = PV.agg [.int .i64 n, .int .i64 m, .int .u8 (UInt8.ofNat m2.toNat).toNat] :: opsP os
      rw [e]
    | _ => simp [PV.shape] at h0
theorem lawPoolStays : ∀ xs, Tyas [(0, [Ty.int .u8]), (0, [Ty.sl 3 [Ty.int .i64, Ty.int .i64, Ty.int .u8]]), (0, [Ty.int .i64])] xs → (Ev.W Cf okf).call 5 (xs.map AV.p) [] fun v _ => v = .p (.bool true) := by
  intro xs h
  simp only [Tyas] at h
  obtain ⟨x1, r1, rfl, h1, x2, r2, rfl, h2, x3, r3, rfl, h3, rfl⟩ := h
  have h1 := Tya_one h1
  have h2 := Tya_one h2
  have h3 := Tya_one h3
  simp only [Tyd] at h1 h2 h3
  obtain ⟨n1, rfl, h4, h5⟩ := h1
  obtain ⟨ys, rfl, _, h6⟩ := h2
  obtain ⟨n, rfl, _⟩ := h3
  obtain ⟨os, rfl⟩ := ops_list h6
  have h4 : 0 ≤ n1 := h4
  have h5 : n1 ≤ 255 := h5
  obtain ⟨pg, rfl⟩ : ∃ pg : Nat, n1 = pg := ⟨n1.toNat, by omega⟩
  exact law5 pg (by omega) os n
end Go.Ev.F28
end
