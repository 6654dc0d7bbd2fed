/- A part of the proof: walks of the functions that the law calls. No condition. -/
import Derived.Test.YtkabheeblnooaaaDoB
set_option linter.all false
section
namespace Go.Ev.F28
open Go.Proofs Go.Ev
set_option maxRecDepth 100000
set_option linter.all false
theorem doF_ok {m : Md} (h : m.wf) (o : Op3) : (doF m o).wf := by
  unfold doF
  split
  · exact (pinF_ok h _).1
  · split
    · exact (unpinF_ok h _).1
    · split
      · exact (putF_ok h _ _).1
      · split
        · exact (flushF_ok h _).1
        · split
          · exact (allF_ok _ h).1
          · exact (withF_ok h _ _).1
theorem doF_bd {m : Md} {T : Nat} (h : Bd m T) (o : Op3) : Bd (doF m o) (T + 1) := by
  unfold doF
  split
  · exact pinF_bd h _
  · split
    · exact (unpinF_bd h _).mono (by omega)
    · split
      · exact (putF_bd h _ _).mono (by omega)
      · split
        · exact (flushF_bd h _).mono (by omega)
        · split
          · exact (allF_bd _ h).mono (by omega)
          · exact withF_bd h _ _
theorem doF_sh (m : Md) (o : Op3) : Sh m (doF m o) := by
  unfold doF
  split
  · exact pinF_sh _ _
  · split
    · exact unpinF_sh _ _
    · split
      · exact putF_sh _ _ _
      · split
        · exact flushF_sh _ _
        · split
          · exact allF_sh _ _
          · exact withF_sh _ _ _
set_option maxHeartbeats 2000000 in
theorem law3 (rg pg : Nat) (hr : rg < 256) (hp : pg < 256) (l : List Op3) : (Ev.W Cf okf).call 3 [.p (.int .u8 rg), .p (.int .u8 pg), .p (.sl 3 (opsP l))] [] fun v _ => v = .p (.bool true) := by
  refine top_mk extMono Try.func3 body3 (by decide) rfl ?_
  simp only [c3, Try.f3, Option.getD_some]
  have hl := opsP_len l
  by_cases h100 : 100 < l.length
  · simp -implicitDefEqProofs -dsimp (maxSteps := 1000000) (disch := first | omega | (simp only [wkLen]; omega) | decide +kernel) only [↓wkPre, ↓wkPre2, ↓wkE, wkPost, wkDef, wkF, simprocAttr, hl, h100]
    refine PS.app md_6 Try.func6 p6 rfl ?_
    rintro _ rfl
    simp -implicitDefEqProofs -dsimp (maxSteps := 1000000) (disch := first | omega | (simp only [wkLen]; omega) | decide +kernel) only [↓wkPre, ↓wkPre2, ↓wkE, wkPost, wkDef, wkF, simprocAttr]
  · simp -implicitDefEqProofs -dsimp (maxSteps := 1000000) (disch := first | omega | (simp only [wkLen]; omega) | decide +kernel) only [↓wkPre, ↓wkPre2, ↓wkE, wkPost, wkDef, wkF, simprocAttr, hl, h100]
    rw [show (1 + (rg : Int) % 6) = ((1 + rg % 6 : Nat) : Int) by push_cast; rfl, show (1 + (pg : Int) % 9) = ((1 + pg % 9 : Nat) : Int) by push_cast; rfl]
    have hk1 : 1 ≤ 1 + pg % 9 := by omega
    have hk2 : 1 + pg % 9 ≤ 9 := by omega
    have hr1 : 1 ≤ 1 + rg % 6 := by omega
    have hr2 : 1 + rg % 6 ≤ 6 := by omega
    generalize 1 + pg % 9 = k at *
    generalize 1 + rg % 6 = room at *
    refine imp_call md_7 (w7 room k (by omega) (by omega) (by omega) (by omega) _ (fun H0 c hI0 => ?_))
    have hwf0 : Md.wf ⟨room, [], W0 k, 0, 0⟩ := ⟨List.nodup_nil, (fun f h => by cases h), (fun f h => by cases h)⟩
    have hbd0 : Bd ⟨room, [], W0 k, 0, 0⟩ 0 := ⟨Nat.le_refl _, Nat.le_refl _, fun f h => by cases h⟩
    obtain ⟨g0, b0, b0'⟩ := hI0.ben
    dsimp only at b0 b0'
    rw [W0_len] at b0
    have hW0 : (pgs (W0 k)).length = k := by rw [pgs_len, W0_len]
    have hlt := hI0.lt
    have a0 : ∀ l : Heap, (H0 ++ l)[c.bb]? = some (benB c g0 k 0) := fun l => (hs_app (hlt _ (by simp [Foot]))).trans b0
    have a0' : ∀ l : Heap, (H0 ++ l)[c.ab]? = some (.arr true g0 224 (pgs (W0 k))) := fun l => (hs_app (hlt _ (by simp [Foot]))).trans b0'
    simp -implicitDefEqProofs -dsimp (maxSteps := 1000000) (disch := first | omega | (simp only [wkLen]; omega) | decide +kernel) only [↓wkPre, ↓wkPre2, ↓wkE, wkPost, wkDef, wkF, simprocAttr, a0, a0', nn_v, nn_fn, List.length_map, pgL_len, allP_map, take_pg, take_pgm, get0, get1, get2, getm0, getm1, getm2, get00, getm00, setm0, setm1, setm2, setm00, setR_pg, setR_pg1, flat_pg, flatL_app, eq_pg]
    have hn0 : (H0 ++ [Blk.var true (.agg [.p (I room), .nsl, .nsl, .p (I 0), .p (I 0)])])[H0.length]? = some (.var true (.agg [.p (I room), .nsl, .nsl, .p (I 0), .p (I 0)])) := by simp
    have hln : (H0 ++ [Blk.var true (.agg [.p (I room), .nsl, .nsl, .p (I 0), .p (I 0)])]).length = H0.length + 1 := by simp
    have hIG := hI0.app [.var true (.agg [.p (I room), .nsl, .nsl, .p (I 0), .p (I 0)])]
    have hf0 : H0.length ∉ Foot c [] := fun h => by have := hlt _ h; omega
    have a0n := a0' [.var true (.agg [.p (I room), .nsl, .nsl, .p (I 0), .p (I 0)])]
    have hG3 : H0 ++ [Blk.var true (.agg [.p (.int .i64 room), .nsl, .nsl, .p (.int .i64 0), .p (.int .i64 0)])] = H0 ++ [Blk.var true (.agg [.p (I room), .nsl, .nsl, .p (I 0), .p (I 0)])] := rfl
    rw [hG3]
    generalize H0 ++ [Blk.var true (.agg [.p (I room), .nsl, .nsl, .p (I 0), .p (I 0)])] = G at *
    refine append_any telem_29 (ys := pgs (W0 k)) (xs := []) (by simp [elems, a0n, hW0, List.take_of_length_le]) (OwnS.nil _ _) (by rw [byt_40, hW0]; simp; omega) ?_
    intro v H1 hown hfr hle hb
    rw [List.nil_append] at hown
    rcases hown with ⟨rfl, hx⟩ | ⟨ba, ga, rfl, hba⟩
    · have := congrArg List.length hx
      rw [hW0, List.length_nil] at this; omega
    rw [hW0]
    have hI1 := hIG.keep (fun i hi => hfr i (hIG.lt i hi) (by simp [AV.blk]))
    have hbal : G.length ≤ ba := by
      rcases Nat.lt_or_ge ba G.length with h | h
      · have := hb ba rfl h; simp [AV.blk] at this
      · exact h
    have hbaf : ba ∉ Foot c [] := fun h => by have := hIG.lt _ h; omega
    have hn1 := (hfr H0.length (by omega) (by simp [AV.blk])).trans hn0
    have hlt1 := (List.getElem?_eq_some_iff.1 hn1).1
    simp -implicitDefEqProofs -dsimp (maxSteps := 1000000) (disch := first | omega | (simp only [wkLen]; omega) | decide +kernel) only [↓wkPre, ↓wkPre2, ↓wkE, wkPost, wkDef, wkF, simprocAttr, hn1, nn_v, nn_fn, List.length_map, pgL_len, allP_map, take_pg, take_pgm, get0, get1, get2, getm0, getm1, getm2, get00, getm00, setm0, setm1, setm2, setm00, setR_pg, setR_pg1, flat_pg, flatL_app, eq_pg]
    have hba2 : ∀ y : Blk, (H1.set H0.length y)[ba]? = some (.arr true ga 224 (pgs (W0 k))) := fun y => (hs_ne (by omega)).trans hba
    have hn2 : ∀ y : Blk, (H1.set H0.length y)[H0.length]? = some y := fun y => hs_set hlt1
    refine loop_use extMono (fun m' e Hc => ∃ (i : Nat) (m : Md) (X : List Fx) (t w : Nat) (v : AV), m' = l.length - i ∧ i ≤ l.length ∧ e 2 = .p (.sl 3 (opsP l)) ∧ e 9 = .vptr c.pp 0 ∧ e 10 = .vptr c.bb 0 ∧ e 11 = .vptr H0.length 0 ∧ e 13 = .p (I i) ∧ Inv Hc c m X t w ∧ m.wf ∧ Bd m i ∧ t ≤ 2 * i ∧ w ≤ 50 * i ∧ m.room = room ∧
      MV Hc (Foot c X) v m ∧ Hc[H0.length]? = some (.var true v) ∧ H0.length ∉ Foot c X) ?_ l.length _ _ ⟨0, ⟨room, [], W0 k, 0, 0⟩, [], 0, 0, .agg [.p (I room), .nsl, .ref ba ga 0 k false, .p (I 0), .p (I 0)], rfl, by omega, ?_⟩
    · rintro m' e Hc ⟨i, m, X, t, w, v, rfl, hi, e2, e9, e10, e11, e13, hI, hwf, hbd, ht, hw, hroom, hv, hnv, hnf⟩
      obtain ⟨s5, sU, sS, _⟩ := hv.facts
      rcases Nat.lt_or_ge i l.length with hlt | hge
      · have gi := opsP_get hlt
        have hd := w8 hI hwf (by omega) i (by omega) hbd (by omega) (by omega) v hv l[i]
        have hdw := doF_ok hwf l[i]
        have hdb := doF_bd hbd l[i]
        have hds := (doF_sh m l[i]).1.trans hroom
        generalize l[i] = o at *
        simp -implicitDefEqProofs -dsimp (maxSteps := 1000000) (disch := first | omega | (simp only [wkLen]; omega) | decide +kernel) only [↓wkPre, ↓wkPre2, ↓wkE, wkPost, wkDef, wkF, simprocAttr, e2, e9, e10, e11, e13, hl, gi, hnv, s5, sU, sS, nn_v, nn_fn, List.length_map, pgL_len, allP_map, take_pg, take_pgm, get0, get1, get2, getm0, getm1, getm2, get00, getm00, setm0, setm1, setm2, setm00, setR_pg, setR_pg1, flat_pg, flatL_app, eq_pg]
        refine imp_call md_8 (hd _ ?_)
        intro v' H2 X2 t2 w2 hI2 hv2 ht2 hw2 hK2
        obtain ⟨hnv2, hnf2⟩ := hK2.track hnv hnf
        obtain ⟨s52, sU2, sS2, _⟩ := hv2.facts
        have hl2 := (List.getElem?_eq_some_iff.1 hnv2).1
        have hset : ∀ x : Blk, (H2.set H0.length x)[H0.length]? = some x := fun x => hs_set hl2
        have hI3 : Inv (H2.set H0.length (.var true v')) c _ X2 t2 w2 := hI2.set hnf2
        have hv3 : MV (H2.set H0.length (.var true v')) (Foot c X2) v' (doF m o) := hv2.keep (fun i hi => .inl hi) (fun i l' g' s xs _ hb => ⟨l', (hs_ne (fun e => by rw [← e, hnv2] at hb; cases hb)).trans hb⟩)
        have key := fun Q => w9 hI3 (by omega) v' hv3 Q
        rcases id hv2 with rfl | ⟨h0, ba2, l2, g2, hb2, rfl, hH2⟩
        · simp -implicitDefEqProofs -dsimp (maxSteps := 1000000) (disch := first | omega | (simp only [wkLen]; omega) | decide +kernel) only [↓wkPre, ↓wkPre2, ↓wkE, wkPost, wkDef, wkF, simprocAttr, e2, e9, e10, e11, e13, hnv2, s52, sU2, sS2, hset, nn_v, nn_fn, List.length_map, pgL_len, allP_map, take_pg, take_pgm, get0, get1, get2, getm0, getm1, getm2, get00, getm00, setm0, setm1, setm2, setm00, setR_pg, setR_pg1, flat_pg, flatL_app, eq_pg]
          refine imp_call md_9 (key _ (fun H4 hl4 hk4 => ?_))
          simp -implicitDefEqProofs -dsimp (maxSteps := 1000000) (disch := first | omega | (simp only [wkLen]; omega) | decide +kernel) only [↓wkPre, ↓wkPre2, ↓wkE, wkPost, wkDef, wkF, simprocAttr, e2, e9, e10, e11, e13, nn_v, nn_fn, List.length_map, pgL_len, allP_map, take_pg, take_pgm, get0, get1, get2, getm0, getm1, getm2, get00, getm00, setm0, setm1, setm2, setm00, setR_pg, setR_pg1, flat_pg, flatL_app, eq_pg]
          have hI5 := hI3.keep (fun i hi => hk4 i (hI3.lt i hi))
          have hv5 := hv3.keep (H' := H4) (F' := Foot c X2) (fun i hi => .inl hi) (fun i l' g' s xs _ hb => ⟨l', (hk4 i (List.getElem?_eq_some_iff.1 hb).1).trans hb⟩)
          exact ⟨l.length - (i + 1), by omega, i + 1, doF m o, X2, t2, w2, _, rfl, by omega, by push_cast; rfl, hI5, hdw, hdb, by omega, by omega, hds, hv5, (hk4 _ (by simp; exact hl2)).trans (hset _), hnf2⟩
        · simp -implicitDefEqProofs -dsimp (maxSteps := 1000000) (disch := first | omega | (simp only [wkLen]; omega) | decide +kernel) only [↓wkPre, ↓wkPre2, ↓wkE, wkPost, wkDef, wkF, simprocAttr, e2, e9, e10, e11, e13, hnv2, s52, sU2, sS2, hset, nn_v, nn_fn, List.length_map, pgL_len, allP_map, take_pg, take_pgm, get0, get1, get2, getm0, getm1, getm2, get00, getm00, setm0, setm1, setm2, setm00, setR_pg, setR_pg1, flat_pg, flatL_app, eq_pg]
          refine imp_call md_9 (key _ (fun H4 hl4 hk4 => ?_))
          simp -implicitDefEqProofs -dsimp (maxSteps := 1000000) (disch := first | omega | (simp only [wkLen]; omega) | decide +kernel) only [↓wkPre, ↓wkPre2, ↓wkE, wkPost, wkDef, wkF, simprocAttr, e2, e9, e10, e11, e13, nn_v, nn_fn, List.length_map, pgL_len, allP_map, take_pg, take_pgm, get0, get1, get2, getm0, getm1, getm2, get00, getm00, setm0, setm1, setm2, setm00, setR_pg, setR_pg1, flat_pg, flatL_app, eq_pg]
          have hI5 := hI3.keep (fun i hi => hk4 i (hI3.lt i hi))
          have hv5 := hv3.keep (H' := H4) (F' := Foot c X2) (fun i hi => .inl hi) (fun i l' g' s xs _ hb => ⟨l', (hk4 i (List.getElem?_eq_some_iff.1 hb).1).trans hb⟩)
          exact ⟨l.length - (i + 1), by omega, i + 1, doF m o, X2, t2, w2, _, rfl, by omega, by push_cast; rfl, hI5, hdw, hdb, by omega, by omega, hds, hv5, (hk4 _ (by simp; exact hl2)).trans (hset _), hnf2⟩
      · simp -implicitDefEqProofs -dsimp (maxSteps := 1000000) (disch := first | omega | (simp only [wkLen]; omega) | decide +kernel) only [↓wkPre, ↓wkPre2, ↓wkE, wkPost, wkDef, wkF, simprocAttr, e2, e9, e10, e11, e13, hl, nn_v, nn_fn, List.length_map, pgL_len, allP_map, take_pg, take_pgm, get0, get1, get2, getm0, getm1, getm2, get00, getm00, setm0, setm1, setm2, setm00, setR_pg, setR_pg1, flat_pg, flatL_app, eq_pg]
        refine PS.app md_6 Try.func6 p6 rfl ?_
        rintro _ rfl
        simp -implicitDefEqProofs -dsimp (maxSteps := 1000000) (disch := first | omega | (simp only [wkLen]; omega) | decide +kernel) only [↓wkPre, ↓wkPre2, ↓wkE, wkPost, wkDef, wkF, simprocAttr]
    · simp -implicitDefEqProofs -dsimp (maxSteps := 1000000) (disch := first | omega | (simp only [wkLen]; omega) | decide +kernel) only [↓wkPre, ↓wkPre2, ↓wkE, wkPost, wkDef, wkF, simprocAttr]
      exact ⟨hI1.set hf0, hwf0, hbd0, .inr ⟨rfl, ba, true, ga, hbaf, by rw [W0_len]; rfl, hba2 _⟩, hf0⟩
theorem lawPoolDoes : ∀ xs, Tyas [(0, [Ty.int .u8]), (0, [Ty.int .u8]), (0, [Ty.sl 3 [Ty.int .i64, Ty.int .i64, Ty.int .u8]])] xs → (Ev.W Cf okf).call 3 (xs.map AV.p) [] fun v _ => v = .p (.bool true) := by
  intro xs h
  simp only [Tyas] at h
  obtain ⟨x1, r1, rfl, h1, x2, r2, rfl, h2, x3, r3, rfl, h3, rfl⟩ := h
  have h1 := Tya_one h1
  have h2 := Tya_one h2
  have h3 := Tya_one h3
  simp only [Tyd] at h1 h2 h3
  obtain ⟨n1, rfl, h4, h5⟩ := h1
  obtain ⟨n2, rfl, h7, h8⟩ := h2
  obtain ⟨ys, rfl, _, h6⟩ := h3
  obtain ⟨os, rfl⟩ := ops_list h6
  have h4 : 0 ≤ n1 := h4
  have h5 : n1 ≤ 255 := h5
  have h7 : 0 ≤ n2 := h7
  have h8 : n2 ≤ 255 := h8
  obtain ⟨rg, rfl⟩ : ∃ rg : Nat, n1 = rg := ⟨n1.toNat, by omega⟩
  obtain ⟨pg, rfl⟩ : ∃ pg : Nat, n2 = pg := ⟨n2.toNat, by omega⟩
  exact law3 rg pg (by omega) (by omega) os
end Go.Ev.F28
end
