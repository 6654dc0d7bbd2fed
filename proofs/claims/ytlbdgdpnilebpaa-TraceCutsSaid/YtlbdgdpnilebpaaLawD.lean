/- A part of the proof: walks of the functions that the law calls. No condition. -/
import Derived.Test.YtlbdgdpnilebpaaLawE
set_option linter.all false
section
namespace Go.Ev.F35
open Go.Proofs Go.Ev
set_option maxRecDepth 100000
set_option linter.all false
theorem w14 (H : Heap) (Q : AV → Heap → Prop) (hq : ∀ H' b, H'[b]? = some (.arr true 0 3 (mis [mi0])) → H.length ≤ b → (∀ i, i < H.length → H'[i]? = H[i]?) → H.length ≤ H'.length → Q (.agg [.nsl, .ref b 0 0 1 false]) H') : (W Cf okf).call 14 [.p (I 1)] H Q := by
  refine top_mk extMono Try.func14 body14 (by decide) rfl ?_
  simp only [c14, Try.f14, Option.getD_some]
  simp -implicitDefEqProofs -dsimp (maxSteps := 1000000) (disch := first | omega | (simp only [wkLen]; omega) | decide +kernel) only [↓wkPre, ↓wkPre2, ↓wkE, wkPost, wkDef, wkF, simprocAttr, @fr81, id81]
  refine hq _ (H.length + 1) ?_ (by omega) (fun i hi => ?_) (by simp)
  · rw [List.getElem?_append_right (by omega), show H.length + 1 - H.length = 1 by omega]; rfl
  · exact hs_app hi
/-- A model that is data, or lives in a row of its own. -/
def OV (H : Heap) (v : AV) (m : Mo) : Prop := v = .p (moP m) ∨ ∃ x b g l, v = .agg [x, .ref b g 0 1 false] ∧ H[b]? = some (.arr l g 3 (mis m.S)) ∧ m.S.length = 1 ∧ (x = .p (rcsP m.M) ∨ (x = .nsl ∧ m.M = []))
theorem OV.frz {H : Heap} {v : AV} {m : Mo} (h : OV H v m) : frzN Try.prog H 4 48 v = some (moP m) := by
  rcases h with rfl | ⟨x, b, g, l, rfl, hb, hl, hx⟩
  · exact frzN_p _ _ _ _ _
  · have hml : (mis m.S).length = 1 := by rw [mis_len, hl]
    have ht : List.take 1 (mis m.S) = mis m.S := List.take_of_length_le (by omega)
    rcases hx with rfl | ⟨rfl, hM⟩
    · simp [frzN, hleaf30, frzL, hb, hml, ht]
    · simp [frzN, hleaf30, frzL, telem_36, hb, hml, ht, hM, rcs]
theorem OV.frz2 {H : Heap} {v : AV} {m : Mo} (h : OV H v m) (n : PV) : frzR Try.prog H [48, 3] (match allP [v, AV.p n] with | some ys => AV.p (PV.tup ys) | none => AV.tup [v, AV.p n]) = some (.tup [moP m, n]) := by
  have h1 := h.frz
  rcases h with rfl | ⟨x, b, g, l, rfl, hb, hl, hx⟩
  · rfl
  · show frzR Try.prog H [48, 3] (.tup [.agg [x, .ref b g 0 1 false], AV.p n]) = _
    simp only [frzR, frzL, List.headD_cons, List.tail_cons, h1, frzN_p]
    rfl
theorem OV.shp {H : Heap} {v : AV} {m : Mo} (h : OV H v m) : v.isU = false ∧ v.shape = 2 ∧ v.stor = true := by
  rcases h with rfl | ⟨x, b, g, l, rfl, hb, hl, rfl | ⟨rfl, _⟩⟩ <;> exact ⟨rfl, rfl, rfl⟩
theorem OV.keep {H H' : Heap} {v : AV} {m : Mo} (h : OV H v m) (k : ∀ b, b < H.length → H'[b]? = H[b]?) : OV H' v m := by
  rcases h with rfl | ⟨x, b, g, l, rfl, hb, hl⟩
  · exact .inl rfl
  · exact .inr ⟨x, b, g, l, rfl, (k b (lt_of hb)).trans hb, hl⟩
theorem OV.ids {H : Heap} {v : AV} {m : Mo} (h : OV H v m) : ∀ b ∈ ids 4 v, ∃ l g xs, H[b]? = some (.arr l g 3 xs) := by
  rcases h with rfl | ⟨x, b, g, l, rfl, hb, hl, rfl | ⟨rfl, _⟩⟩
  · intro b hb
    rw [ids_p] at hb
    cases hb
  · intro b' hb'
    have : b' = b := by simpa [Go.Ev.ids] using hb'
    subst this
    exact ⟨l, g, _, hb⟩
  · intro b' hb'
    have : b' = b := by simpa [Go.Ev.ids] using hb'
    subst this
    exact ⟨l, g, _, hb⟩
/-- A call of the model's Do, whichever way the model is held. -/
theorem callDo {K : Heap} {vo : AV} {mi : Mo} {o : Ao} {mn : Mo} {an : An} (h28 : PS Cf okf 34 [48, 38] [moP mi, I (0 : Nat), aoP o] (fun v => v = .tup [moP mn, anP an])) (hov : OV K vo mi) {k : AV → Heap → Prop} {tg : Tag k}
    (hk : ∀ K' : Heap, K'.length = K.length → (∀ (j : Nat) (l : Bool) (x : AV), K[j]? = some (Blk.var l x) → K'[j]? = some (Blk.var l x)) → k (.p (.tup [moP mn, anP an])) K') : evCallT Cf (W Cf okf) 34 [vo, .p (I (0 : Nat)), .p (aoP o)] K k tg := by
  refine PS.app md_34 Try.func34 (pa := [moP mi, I (0 : Nat), aoP o]) h28 ?_ ?_
  · show frzL (frzN Try.prog K 4) [vo, _, _] [48, 3, 34] = _
    simp only [frzL, List.headD_cons, List.tail_cons]
    rw [hov.frz, frzN_p, frzN_p]
    rfl
  · rintro _ rfl
    split
    · exact hk K rfl (fun j l x h => h)
    · refine hk _ (freezeIds_length _ _) (fun j l x h => ?_)
      rw [freezeIds_get]
      split
      · rename_i hj
        have hj : j ∈ ids 4 vo := by
          simp only [List.flatMap_cons, List.flatMap_nil, ids_p, List.append_nil] at hj
          exact hj
        obtain ⟨l', g', xs, h'⟩ := hov.ids j hj
        rw [h] at h'
        cases h'
      · exact h
def PlI (m : Mo) (L : List Vt) (k i : Nat) (e : Env) (H : Heap) : Prop :=
  ∃ (mi : Mo) (vo : AV), e 1 = .p (.sl 16 (vts L)) ∧ e 4 = .vptr 1 0 ∧ e 6 = .vptr 2 0 ∧ e 7 = .p (I i) ∧ H[1]? = some z30 ∧ H[2]? = some (.var true vo) ∧ OV H vo mi ∧ Wfm mi (k + i) ∧ (playF m L).1 = (playF mi (L.drop i)).1 ∧ (playF m L).2 = i + (playF mi (L.drop i)).2
set_option maxHeartbeats 4000000 in
theorem q16 (m : Mo) (L : List Vt) (k : Nat) (wf : Wfm m k) (hk : k + L.length ≤ 400) (hn : ∀ v ∈ L, inI v.o.n) : PS Cf okf 16 [48, 3] [moP m, .sl 16 (vts L)] (fun v => v = .tup [moP (playF m L).1, I (playF m L).2]) := by
  refine PS.mk extMono Try.func16 body16 (by decide) rfl ?_
  simp only [c16, Try.f16, Option.getD_some]
  have hl := vts_len L
  simp -implicitDefEqProofs -dsimp (maxSteps := 1000000) (disch := first | omega | (simp only [wkLen]; omega) | decide +kernel) only [↓wkPre, ↓wkPre2, ↓wkE, wkPost, wkDef, wkF, simprocAttr]
  refine loop_use extMono (fun m' e H => ∃ (i : Nat), m' = L.length - i ∧ i ≤ L.length ∧ PlI m L k i e H) ?_ L.length _ _ ⟨0, rfl, by omega, ?_⟩
  · rintro m' e H ⟨i, rfl, hi, mi, vo, e1, e4, e6, e7, g1, g2, hov, wfi, hp1, hp2⟩
    have hl2 := lt_of g2
    rcases Nat.lt_or_ge i L.length with hlt | hge
    · have gi := vts_get hlt
      have hni := hn _ (List.getElem_mem hlt)
      have hpc := play_cons mi hlt
      have wf1 := evF_wf wfi L[i] hni
      generalize L[i] = v at gi hni hpc wf1
      have hok : okF mi v = if v.a.code = 6 then true else decide (toAg (doF mi (atS mi 0) 0 v.o).2 = v.a) := rfl
      have hev : evF mi v = if v.a.code = 6 then entF mi else (doF mi (atS mi 0) 0 v.o).1 := rfl
      have nxt : okF mi v = true → Wfm (evF mi v) (k + (i + 1)) ∧ (playF m L).1 = (playF (evF mi v) (L.drop (i + 1))).1 ∧ (playF m L).2 = (i + 1) + (playF (evF mi v) (L.drop (i + 1))).2 :=
        fun h1 => ⟨by rw [← Nat.add_assoc]; exact wf1, by rw [hp1, hpc, if_pos h1], by rw [hp2, hpc, if_pos h1]; dsimp only; omega⟩
      by_cases h6 : v.a.code = 6
      · rw [if_pos h6] at hok hev
        obtain ⟨n1, n2, n3⟩ := nxt hok
        rw [hev] at n1 n2 n3
        obtain ⟨M, S⟩ := mi
        have hS1 : S.length = 1 := wfi.n5
        obtain ⟨t, rfl⟩ : ∃ t, S = [t] := List.length_eq_one_iff.1 hS1
        have hent : entF ⟨M, [t]⟩ = ⟨M, [onMi t]⟩ := rfl
        rw [hent] at n1 n2 n3
        simp -implicitDefEqProofs -dsimp (maxSteps := 1000000) (disch := first | omega | (simp only [wkLen]; omega) | decide +kernel) only [↓wkPre, ↓wkPre2, ↓wkE, wkPost, wkDef, wkF, simprocAttr, e1, e4, e6, e7, hl, gi, h6]
        refine imp_call md_14 (w14 H _ ?_)
        intro H1 b hb hbl hfr hln
        simp -implicitDefEqProofs -dsimp (maxSteps := 1000000) (disch := first | omega | (simp only [wkLen]; omega) | decide +kernel) only [↓wkPre, ↓wkPre2, ↓evC_region_st [7], ↓evC_text_st [7], ↓evC_cond, ↓evC_block, ↓evC_stop [7], wkPost, wkDef, wkF, simprocAttr, e1, e4, e6, e7]
        refine stop_st (fun e' G => ∃ c, e' 1 = .p (.sl 16 (vts L)) ∧ e' 4 = .vptr 1 0 ∧ e' 6 = .vptr 2 0 ∧ e' 7 = .p (I i) ∧ e' 8 = .vptr c 0 ∧ G[c]? = some (.var true (.agg [.nsl, .ref b 0 0 1 false])) ∧ G[b]? = some (.arr true 0 3 [miP mi0]) ∧ H.length ≤ c ∧ c ≠ b ∧ (∀ j, j < H.length → G[j]? = H[j]?)) ⟨H1.length, e1, e4, e6, e7, rfl, by simp, (hs_app (lt_of hb)).trans hb, hln, by have := lt_of hb; omega, fun j hj => (hs_app (by omega)).trans (hfr j hj)⟩ ?_
        clear e1 e4 e6 e7 hb hfr hln e H1
        rintro e G ⟨c, e1, e4, e6, e7, e8, gc, gb, hcl, hcb, hfr⟩
        have g1' := (hfr 1 (lt_of g1)).trans g1
        have g2' := (hfr 2 hl2).trans g2
        have hov' : OV G vo ⟨M, [t]⟩ := hov.keep hfr
        have gc2 : ∀ y : Blk, (G.set c y)[c]? = some y := fun y => hs_set (lt_of gc)
        have gb2 : ∀ y : Blk, (G.set c y)[b]? = some (.arr true 0 3 [miP mi0]) := fun y => (hs_ne hcb).trans gb
        have g22 : ∀ y : Blk, (G.set c y)[2]? = some (.var true vo) := fun y => (hs_ne (by omega)).trans g2'
        have gb3 : ∀ y z : Blk, ((G.set c y).set b z)[b]? = some z := fun y z => hs_set (by simpa using lt_of gb)
        have gc3 : ∀ y z : Blk, ((G.set c y).set b z)[c]? = some y := fun y z => (hs_ne (Ne.symm hcb)).trans (gc2 y)
        have gc4 : ∀ y z w : Blk, (((G.set c y).set b z).set b w)[c]? = some y := fun y z w => (hs_ne (Ne.symm hcb)).trans (gc3 y z)
        have g24 : ∀ y z w : Blk, (((G.set c y).set b z).set b w)[2]? = some (.var true vo) := fun y z w => (hs_ne (by omega)).trans ((hs_ne (by omega)).trans (g22 y))
        obtain ⟨ton, tL, tS⟩ := t
        have hmi0 : miP mi0 = .agg [B false, wrsP [], svsP []] := rfl
        rw [hmi0] at gb gb2
        have hms : (mis [⟨ton, tL, tS⟩])[0]? = some (.agg [B ton, wrsP tL, svsP tS]) := rfl
        refine stop_go ?_
        rcases id hov' with rfl | ⟨x', b', g', l', rfl, hb', _, hx'⟩
        · simp -implicitDefEqProofs -dsimp (maxSteps := 1000000) (disch := first | omega | (simp only [wkLen]; omega) | decide +kernel) only [↓wkPre, ↓wkPre2, ↓wkE, wkPost, wkDef, wkF, simprocAttr, e1, e4, e6, e7, e8, gc, gb, g2', gc2, gb2, g22, gb3, gc3, gc4, g24, hms]
          have hG1 : ∀ x y z w : Blk, ((((G.set c x).set b y).set b z).set 2 w)[1]? = some z30 := fun x y z w => (hs_ne (by omega)).trans ((hs_ne (by omega)).trans ((hs_ne (by omega)).trans ((hs_ne (by omega)).trans g1')))
          have hGb : ∀ x y z w : Blk, ((((G.set c x).set b y).set b z).set 2 w)[b]? = some z := fun x y z w => (hs_ne (by omega)).trans (hs_set (by simpa using lt_of gb))
          have hG2 : ∀ x y z w : Blk, ((((G.set c x).set b y).set b z).set 2 w)[2]? = some w := fun x y z w => hs_set (by simpa using lt_of g2')
          exact ⟨L.length - (i + 1), by omega, i + 1, rfl, by omega, ⟨M, [onMi ⟨ton, tL, tS⟩]⟩, _, e1, e4, e6, by push_cast; rfl, hG1 _ _ _ _, hG2 _ _ _ _, .inr ⟨_, b, 0, true, rfl, hGb _ _ _ _, rfl, .inl rfl⟩, n1, n2, n3⟩
        · have hbn : b' ≠ c ∧ b' ≠ b ∧ b' ≠ 2 := by
            refine ⟨fun e => ?_, fun e => ?_, fun e => ?_⟩
            · subst e; rw [gc] at hb'; cases hb'
            · subst e
              rcases id hov with h | ⟨_, b2, _, _, h, hb2, _⟩
              · cases h
              · cases h
                have := lt_of hb2
                omega
            · subst e; rw [g2'] at hb'; cases hb'
          have hb2 : ∀ y : Blk, (G.set c y)[b']? = some (.arr l' g' 3 (mis [⟨ton, tL, tS⟩])) := fun y => (hs_ne (Ne.symm hbn.1)).trans hb'
          have hms1 : (mis [⟨ton, tL, tS⟩]).length = 1 := rfl
          rcases hx' with rfl | ⟨rfl, hM0⟩
          · simp -implicitDefEqProofs -dsimp (maxSteps := 1000000) (disch := first | omega | (simp only [wkLen]; omega) | decide +kernel) only [↓wkPre, ↓wkPre2, ↓wkE, wkPost, wkDef, wkF, simprocAttr, e1, e4, e6, e7, e8, gc, gb, g2', gc2, gb2, g22, gb3, gc3, gc4, g24, hms, hms1, hb', hb2]
            have hG1 : ∀ x y z w : Blk, ((((G.set c x).set b y).set b z).set 2 w)[1]? = some z30 := fun x y z w => (hs_ne (by omega)).trans ((hs_ne (by omega)).trans ((hs_ne (by omega)).trans ((hs_ne (by omega)).trans g1')))
            have hGb : ∀ x y z w : Blk, ((((G.set c x).set b y).set b z).set 2 w)[b]? = some z := fun x y z w => (hs_ne (by omega)).trans (hs_set (by simpa using lt_of gb))
            have hG2 : ∀ x y z w : Blk, ((((G.set c x).set b y).set b z).set 2 w)[2]? = some w := fun x y z w => hs_set (by simpa using lt_of g2')
            exact ⟨L.length - (i + 1), by omega, i + 1, rfl, by omega, ⟨M, [onMi ⟨ton, tL, tS⟩]⟩, _, e1, e4, e6, by push_cast; rfl, hG1 _ _ _ _, hG2 _ _ _ _, .inr ⟨_, b, 0, true, rfl, hGb _ _ _ _, rfl, .inl rfl⟩, n1, n2, n3⟩
          · have hM0 : M = [] := hM0
            subst hM0
            simp -implicitDefEqProofs -dsimp (maxSteps := 1000000) (disch := first | omega | (simp only [wkLen]; omega) | decide +kernel) only [↓wkPre, ↓wkPre2, ↓wkE, wkPost, wkDef, wkF, simprocAttr, e1, e4, e6, e7, e8, gc, gb, g2', gc2, gb2, g22, gb3, gc3, gc4, g24, hms, hms1, hb', hb2]
            have hG1 : ∀ x y z w : Blk, ((((G.set c x).set b y).set b z).set 2 w)[1]? = some z30 := fun x y z w => (hs_ne (by omega)).trans ((hs_ne (by omega)).trans ((hs_ne (by omega)).trans ((hs_ne (by omega)).trans g1')))
            have hGb : ∀ x y z w : Blk, ((((G.set c x).set b y).set b z).set 2 w)[b]? = some z := fun x y z w => (hs_ne (by omega)).trans (hs_set (by simpa using lt_of gb))
            have hG2 : ∀ x y z w : Blk, ((((G.set c x).set b y).set b z).set 2 w)[2]? = some w := fun x y z w => hs_set (by simpa using lt_of g2')
            exact ⟨L.length - (i + 1), by omega, i + 1, rfl, by omega, ⟨[], [onMi ⟨ton, tL, tS⟩]⟩, _, e1, e4, e6, by push_cast; rfl, hG1 _ _ _ _, hG2 _ _ _ _, .inr ⟨_, b, 0, true, rfl, hGb _ _ _ _, rfl, .inr ⟨rfl, rfl⟩⟩, n1, n2, n3⟩
      · rw [if_neg h6] at hok hev
        have hat := wfi.at
        obtain ⟨hwl, hwe⟩ := List.getElem?_eq_some_iff.1 hat
        have hbd := wfi.bd hat
        have hmw := wfi.mem hat
        have h5 := wfi.n5
        have h28 := p28 mi 0 v.o hwl (by omega) (by rw [hwe]; omega) (by rw [hwe]; have := hmw.ls; omega) (by rw [hwe]; exact fun s hs => (hmw.sv s hs).2) (by rw [hwe]; exact hmw.nd)
        rw [hwe] at h28
        have han := doF_an (m := mi) (who := 0) (t := atS mi 0) (o := v.o) (by omega)
        generalize doF mi (atS mi 0) 0 v.o = R at h28 hok hev han
        obtain ⟨mn, an⟩ := R
        dsimp only at h28 hok hev han
        have hf := hov.frz
        obtain ⟨hs1, hs2, hs3⟩ := hov.shp
        simp -implicitDefEqProofs -dsimp (maxSteps := 1000000) (disch := first | omega | (simp only [wkLen]; omega) | decide +kernel) only [↓wkPre, ↓wkPre2, ↓evC_region_st [11], ↓evC_text_st [11], ↓evC_cond, ↓evC_block, ↓evC_stop [11], wkPost, wkDef, wkF, simprocAttr, e1, e4, e6, e7, hl, gi, h6]
        refine stop_cut extMono (fun e' G => ∃ x y, e' 1 = .p (.sl 16 (vts L)) ∧ e' 4 = .vptr 1 0 ∧ e' 6 = .vptr 2 0 ∧ e' 7 = .p (I i) ∧ e' 9 = .vptr x 0 ∧ e' 10 = .vptr y 0 ∧ G[1]? = some z30 ∧ G[2]? = some (.var true vo) ∧ G[x]? = some (.var true (.p (moP mn))) ∧ G[y]? = some (.var true (.p (anP an))) ∧ 2 < x ∧ 2 < y ∧ x ≠ y) ?_ ?_
        · refine evC_pl pl_16_11 (by kernel_rfl) (by decide +kernel) ?_
          simp only [pl_16_11]
          simp -implicitDefEqProofs -dsimp (maxSteps := 1000000) (disch := first | omega | (simp only [wkLen]; omega) | decide +kernel) only [↓wkPre, ↓wkPre2, ↓wkE, wkPost, wkDef, wkF, simprocAttr, e1, e4, e6, e7, hl, gi, g2, hs1, hs2, hs3]
          have g2a : ∀ y : Blk, (H ++ [y])[2]? = some (.var true vo) := fun y => (hs_app hl2).trans g2
          have g2b : ∀ y z : Blk, (H ++ [y, z])[2]? = some (.var true vo) := fun y z => (hs_app hl2).trans g2
          and_intros
          · refine callDo h28 hov ?_
            intro K' hlen hvars
            have v1 := hvars 1 _ _ g1
            have v2 := hvars 2 _ _ g2
            simp -implicitDefEqProofs -dsimp (maxSteps := 1000000) (disch := first | omega | (simp only [wkLen]; omega) | decide +kernel) only [↓wkPre, ↓wkPre2, ↓wkE, wkPost, wkDef, wkF, simprocAttr, e1, e4, e6, e7, hl, gi, hlen, v1, v2, hs1, List.length_append, List.length_singleton, List.length_cons, List.length_nil]
            have h0 : ∀ y z : Blk, (K' ++ [y, z])[H.length]? = some y := fun y z => by rw [List.getElem?_append_right (by omega), hlen, Nat.sub_self]; rfl
            have h1 : ∀ y z : Blk, (K' ++ [y, z])[H.length + 1]? = some z := fun y z => by rw [List.getElem?_append_right (by omega), hlen, show H.length + 1 - H.length = 1 by omega]; rfl
            exact ⟨⟨_, _, rfl, rfl, h0 _ _, h1 _ _, by omega, by omega, by omega⟩, ⟨_, _, rfl, rfl, h1 _ _, h0 _ _, by omega, by omega, by omega⟩⟩
          · refine callDo h28 (hov.keep fun b hb => hs_app hb) ?_
            intro K' hlen hvars
            have v1 := hvars 1 _ _ ((hs_app (lt_of g1)).trans g1)
            have v2 := hvars 2 _ _ ((hs_app (lt_of g2)).trans g2)
            have w1 := hvars H.length _ _ (by rw [List.getElem?_append_right (Nat.le_refl _), Nat.sub_self]; rfl)
            have v2x : ∀ y : Blk, (K' ++ [y])[2]? = _ := fun y => (hs_app (lt_of v2)).trans v2
            have w2x : K'.length = H.length + 1 → ∀ y : Blk, (K' ++ [y])[H.length + 1]? = some y := fun hl y => by rw [← hl]; exact List.getElem?_concat_length ..
            have w1x : ∀ y : Blk, (K' ++ [y])[H.length]? = _ := fun y => (hs_app (lt_of w1)).trans w1
            simp -implicitDefEqProofs -dsimp (maxSteps := 1000000) (disch := first | omega | (simp only [wkLen]; omega) | decide +kernel) only [↓wkPre, ↓wkPre2, ↓wkE, wkPost, wkDef, wkF, simprocAttr, e1, e4, e6, e7, hl, gi, hlen, v1, v2, hs1, List.length_append, List.length_singleton, List.length_cons, List.length_nil, v2x, w1x, w2x (by rw [hlen]; simp), w1]
            have hl1 : K'.length = H.length + 1 := by rw [hlen]; simp
            exact ⟨_, _, rfl, rfl, (hs_app (lt_of v1)).trans v1, (hs_ne (by omega)).trans (hs_set (by simp [hl1]; omega)), hs_set (by simp [hl1]), by omega, by omega, by omega⟩
          · refine callDo h28 (hov.keep fun b hb => hs_app hb) ?_
            intro K' hlen hvars
            have v1 := hvars 1 _ _ ((hs_app (lt_of g1)).trans g1)
            have v2 := hvars 2 _ _ ((hs_app (lt_of g2)).trans g2)
            have w1 := hvars H.length _ _ (by rw [List.getElem?_append_right (Nat.le_refl _), Nat.sub_self]; rfl)
            have w2 := hvars (H.length + 1) _ _ (by rw [List.getElem?_append_right (by omega), show H.length + 1 - H.length = 1 by omega]; rfl)
            have v2x : ∀ y : Blk, (K' ++ [y])[2]? = _ := fun y => (hs_app (lt_of v2)).trans v2
            have w2x : K'.length = H.length + 1 → ∀ y : Blk, (K' ++ [y])[H.length + 1]? = some y := fun hl y => by rw [← hl]; exact List.getElem?_concat_length ..
            have w1x : ∀ y : Blk, (K' ++ [y])[H.length]? = _ := fun y => (hs_app (lt_of w1)).trans w1
            simp -implicitDefEqProofs -dsimp (maxSteps := 1000000) (disch := first | omega | (simp only [wkLen]; omega) | decide +kernel) only [↓wkPre, ↓wkPre2, ↓wkE, wkPost, wkDef, wkF, simprocAttr, e1, e4, e6, e7, hl, gi, hlen, v1, v2, hs1, List.length_append, List.length_singleton, List.length_cons, List.length_nil, v2x, w1x, w1, w2]
            have hl1 : K'.length = H.length + 2 := by rw [hlen]; simp
            exact ⟨_, _, rfl, rfl, (hs_ne (by omega)).trans (hs_set (by omega)), hs_set (by simp [hl1]), by omega, by omega, by omega⟩
          · refine callDo h28 (hov.keep fun b hb => hs_app hb) ?_
            intro K' hlen hvars
            have v1 := hvars 1 _ _ ((hs_app (lt_of g1)).trans g1)
            have v2 := hvars 2 _ _ ((hs_app (lt_of g2)).trans g2)
            have w1 := hvars H.length _ _ (by rw [List.getElem?_append_right (Nat.le_refl _), Nat.sub_self]; rfl)
            have v2x : ∀ y : Blk, (K' ++ [y])[2]? = _ := fun y => (hs_app (lt_of v2)).trans v2
            have w2x : K'.length = H.length + 1 → ∀ y : Blk, (K' ++ [y])[H.length + 1]? = some y := fun hl y => by rw [← hl]; exact List.getElem?_concat_length ..
            have w1x : ∀ y : Blk, (K' ++ [y])[H.length]? = _ := fun y => (hs_app (lt_of w1)).trans w1
            simp -implicitDefEqProofs -dsimp (maxSteps := 1000000) (disch := first | omega | (simp only [wkLen]; omega) | decide +kernel) only [↓wkPre, ↓wkPre2, ↓wkE, wkPost, wkDef, wkF, simprocAttr, e1, e4, e6, e7, hl, gi, hlen, v1, v2, hs1, List.length_append, List.length_singleton, List.length_cons, List.length_nil, v2x, w1x, w2x (by rw [hlen]; simp), w1]
            have hl1 : K'.length = H.length + 1 := by rw [hlen]; simp
            exact ⟨_, _, rfl, rfl, (hs_app (lt_of v1)).trans v1, (hs_ne (by omega)).trans (hs_set (by simp [hl1])), hs_set (by simp [hl1]; omega), by omega, by omega, by omega⟩
          · refine callDo h28 (hov.keep fun b hb => hs_app hb) ?_
            intro K' hlen hvars
            have v1 := hvars 1 _ _ ((hs_app (lt_of g1)).trans g1)
            have v2 := hvars 2 _ _ ((hs_app (lt_of g2)).trans g2)
            have w1 := hvars H.length _ _ (by rw [List.getElem?_append_right (Nat.le_refl _), Nat.sub_self]; rfl)
            have w2 := hvars (H.length + 1) _ _ (by rw [List.getElem?_append_right (by omega), show H.length + 1 - H.length = 1 by omega]; rfl)
            have v2x : ∀ y : Blk, (K' ++ [y])[2]? = _ := fun y => (hs_app (lt_of v2)).trans v2
            have w2x : K'.length = H.length + 1 → ∀ y : Blk, (K' ++ [y])[H.length + 1]? = some y := fun hl y => by rw [← hl]; exact List.getElem?_concat_length ..
            have w1x : ∀ y : Blk, (K' ++ [y])[H.length]? = _ := fun y => (hs_app (lt_of w1)).trans w1
            simp -implicitDefEqProofs -dsimp (maxSteps := 1000000) (disch := first | omega | (simp only [wkLen]; omega) | decide +kernel) only [↓wkPre, ↓wkPre2, ↓wkE, wkPost, wkDef, wkF, simprocAttr, e1, e4, e6, e7, hl, gi, hlen, v1, v2, hs1, List.length_append, List.length_singleton, List.length_cons, List.length_nil, v2x, w1x, w1, w2]
            have hl1 : K'.length = H.length + 2 := by rw [hlen]; simp
            exact ⟨_, _, rfl, rfl, (hs_ne (by omega)).trans (hs_set (by omega)), hs_set (by simp [hl1]), by omega, by omega, by omega⟩
        clear e1 e4 e6 e7 e
        rintro e G ⟨x, y, e1, e4, e6, e7, e9, e10, k1, k2, kx, ky, hx, hy, hxy⟩
        simp -implicitDefEqProofs -dsimp (maxSteps := 1000000) (disch := first | omega | (simp only [wkLen]; omega) | decide +kernel) only [↓wkPre, ↓wkPre2, ↓wkE, wkPost, wkDef, wkF, simprocAttr, e1, e4, e6, e7, e9, e10, hl, gi, ky]
        have h35 := q35 (toAg an) v.a (by simpa [toAg] using han)
        rw [← an_ag] at h35
        refine PS.app md_35 Try.func35 (pa := [anP an, agP v.a]) h35 rfl ?_
        rintro _ rfl
        have gx1 : ∀ w : Blk, (G.set 2 w)[x]? = _ := fun w => (hs_ne (by omega)).trans kx
        have k12 : ∀ w : Blk, (G.set 2 w)[1]? = _ := fun w => (hs_ne (by omega)).trans k1
        have k22 : ∀ w : Blk, (G.set 2 w)[2]? = some w := fun w => hs_set (lt_of k2)
        have k11 : ∀ w : Blk, (G.set 1 w)[1]? = some w := fun w => hs_set (lt_of k1)
        by_cases hsame : toAg an = v.a
        · have hd : decide (toAg an = v.a) = true := decide_eq_true hsame
          rw [hd] at hok ⊢
          obtain ⟨n1, n2, n3⟩ := nxt hok
          rw [hev] at n1 n2 n3
          simp -implicitDefEqProofs -dsimp (maxSteps := 1000000) (disch := first | omega | (simp only [wkLen]; omega) | decide +kernel) only [↓wkPre, ↓wkPre2, ↓wkE, wkPost, wkDef, wkF, simprocAttr, e1, e4, e6, e7, e9, e10, kx, k2, hs1, hs2]
          exact ⟨L.length - (i + 1), by omega, i + 1, rfl, by omega, mn, .p (moP mn), e1, e4, e6, by push_cast; rfl, k12 _, k22 _, .inl rfl, n1, n2, n3⟩
        · have hd : decide (toAg an = v.a) = false := decide_eq_false hsame
          rw [hd] at hok ⊢
          have hpn : playF mi (L.drop i) = (mn, 0) := by rw [hpc, hok, hev]; rfl
          rw [hpn] at hp1 hp2
          dsimp only at hp1 hp2
          simp -implicitDefEqProofs -dsimp (maxSteps := 1000000) (disch := first | omega | (simp only [wkLen]; omega) | decide +kernel) only [↓wkPre, ↓wkPre2, ↓wkE, wkPost, wkDef, wkF, simprocAttr, e1, e4, e6, e7, e9, e10, kx, k1, k11]
          rw [hp1, hp2, Nat.add_zero]
    · obtain rfl : i = L.length := by omega
      have hp0 : playF mi (L.drop L.length) = (mi, 0) := by rw [List.drop_length]; rfl
      rw [hp0] at hp1 hp2
      dsimp only at hp1 hp2
      obtain ⟨hs1, hs2, hs3⟩ := hov.shp
      simp -implicitDefEqProofs -dsimp (maxSteps := 1000000) (disch := first | omega | (simp only [wkLen]; omega) | decide +kernel) only [↓wkPre, ↓wkPre2, ↓wkE, wkPost, wkDef, wkF, simprocAttr, e1, e4, e6, e7, hl, g1, g2, hs1, hs2, hs3]
      have g1' : ∀ y : Blk, (H.set 1 y)[1]? = some y := fun y => hs_set (lt_of g1)
      have hov' : OV (H.set 1 (.var true vo)) vo mi := by
        rcases id hov with h | ⟨x, b, g, l, h, hb, hx⟩
        · exact .inl h
        · refine .inr ⟨x, b, g, l, h, (hs_ne (fun e => ?_)).trans hb, hx⟩
          subst e
          rw [g1] at hb
          cases hb
      have hz : oK (some (PV.tup [moP mi, I (L.length : Nat)])) (fun v => v = PV.tup [moP (playF m L).1, I (playF m L).2]) := by
        show _ = _
        rw [hp1, hp2, Nat.add_zero]
      rw [← hov'.frz2] at hz
      exact hz
  · exact ⟨m, .p (moP m), rfl, rfl, rfl, rfl, rfl, rfl, .inl rfl, wf, rfl, by simp⟩
end Go.Ev.F35
end
section
namespace Go.Ev.F35
open Go.Proofs Go.Ev
set_option maxRecDepth 100000
set_option linter.all false
theorem outO_tot (w : Int) : ∀ O : List Tx, totE (outO O w) + (opn O w).length ≤ totE O
  | [] => Nat.le_refl _
  | t :: O => by
    have ih := outO_tot w O
    have hc : totE (t :: O) = t.evs.length + totE O := by simp [totE]
    have hsub : totE (outO O w) ≤ totE O := by omega
    unfold opn outO at *
    rw [List.find?_cons, List.filter_cons]
    by_cases h : t.who = w
    · rw [if_neg (by simp [h])]
      simp only [h, BEq.rfl]
      omega
    · rw [if_pos (by simp [h])]
      have h2 : (t.who == w) = false := by simp [h]
      simp only [h2]
      have hc2 : totE (t :: O.filter fun t => !(t.who == w)) = t.evs.length + totE (O.filter fun t => !(t.who == w)) := by simp [totE]
      omega
theorem cut_tot (l : List Vt) : ∀ i, i ≤ l.length → totE (cutA (l.take i)).1 + totE (cutA (l.take i)).2 ≤ i
  | 0, _ => Nat.le_refl _
  | i + 1, hi => by
    have ih := cut_tot l i (by omega)
    rw [List.take_succ_eq_append_getElem (by omega), cutA_snoc]
    generalize cutA (l.take i) = s at ih
    generalize l[i] = v
    have h := outO_tot v.who s.1
    unfold stpC
    split
    · omega
    split
    · rw [totE_snoc]
      simp only [List.length_append, List.length_singleton]
      omega
    · have hc : ∀ t : Tx, totE (t :: outO s.1 v.who) = t.evs.length + totE (outO s.1 v.who) := fun t => by simp [totE]
      dsimp only
      rw [hc]
      simp only [List.length_append, List.length_singleton]
      omega
theorem totE_perm {A C : List Tx} (h : A.Perm C) : totE A = totE C := by
  induction h with
  | nil => rfl
  | cons x _ ih => simp only [totE, List.map_cons, List.sum_cons] at ih ⊢; omega
  | swap x y l => simp only [totE, List.map_cons, List.sum_cons]; omega
  | trans _ _ h1 h2 => exact h1.trans h2
theorem cutF_tot (l : List Vt) : totE (cutF l) ≤ l.length := by
  have h := cut_tot l l.length (Nat.le_refl _)
  rw [List.take_length] at h
  have hok := cut_ok l l.length (Nat.le_refl _)
  rw [List.take_length] at hok
  obtain ⟨q1, q2⟩ := sortT_asc hok.nd
  unfold cutF
  have h1 : totE ((cutA l).2 ++ sortT (cutA l).1) = totE (cutA l).2 + totE (sortT (cutA l).1) := by simp [totE]
  have h2 : totE (sortT (cutA l).1) = totE (cutA l).1 := totE_perm q2
  omega
theorem OV.frzS {H : Heap} {v : AV} {m : Mo} (h : OV H v m) (x : PV) (t : TypeId) (r : List TypeId) (ht : t = 48) : frzL (frzN Try.prog H 4) [v, .p x] (t :: r) = some [moP m, x] := by
  subst ht
  simp only [frzL, List.headD_cons, List.tail_cons]
  rw [h.frz, frzN_p]
  rfl
theorem OV.c0 {H : Heap} {v : AV} {m : Mo} (h : OV H v m) : ∃ y, v.cells[0]? = some y ∧ (y = .p (rcsP m.M) ∨ (y = .nsl ∧ m.M = [])) := by
  rcases h with rfl | ⟨x, b, g, l, rfl, hb, hl, hx⟩
  · exact ⟨_, rfl, .inl rfl⟩
  · exact ⟨x, rfl, hx⟩
theorem callPl {K : Heap} {vo : AV} {mi : Mo} {L : List Vt} {R : PV} (h16 : PS Cf okf 16 [48, 3] [moP mi, .sl 16 (vts L)] (fun v => v = R)) (hov : OV K vo mi) {k : AV → Heap → Prop} {tg : Tag k}
    (hk : ∀ K' : Heap, K'.length = K.length → (∀ (j : Nat) (l : Bool) (x : AV), K[j]? = some (Blk.var l x) → K'[j]? = some (Blk.var l x)) → k (.p R) K') : evCallT Cf (W Cf okf) 16 [vo, .p (.sl 16 (vts L))] K k tg := by
  refine PS.app md_16 Try.func16 (pa := [moP mi, .sl 16 (vts L)]) h16 (hov.frzS _ _ _ rfl) ?_
  · rintro _ rfl
    split
    · exact hk K rfl (fun j l x h => h)
    · refine hk _ (freezeIds_length _ _) (fun j l x h => ?_)
      rw [freezeIds_get]
      split
      · rename_i hj
        have hj : j ∈ ids 4 vo := by
          simp only [List.flatMap_cons, List.flatMap_nil, ids_p, List.append_nil] at hj
          exact hj
        obtain ⟨l', g', xs, h'⟩ := hov.ids j hj
        rw [h] at h'
        cases h'
      · exact h
set_option maxHeartbeats 4000000 in
theorem law4 (l : List Vt) (hn : ∀ v ∈ l, inI v.o.n) : (W Cf okf).call 4 [.p (.sl 16 (vts l))] [] fun v _ => v = .p (.bool true) := by
  refine top_mk extMono Try.func4 body4 (by decide) rfl ?_
  simp only [c4, Try.f4, Option.getD_some, List.append_eq, List.cons_append, List.nil_append]
  have hl := vts_len l
  simp -implicitDefEqProofs -dsimp (maxSteps := 1000000) (disch := first | omega | (simp only [wkLen]; omega) | decide +kernel) only [↓wkPre, ↓wkPre2, ↓wkE, wkPost, wkDef, wkF, simprocAttr]
  refine PS.app md_6 Try.func6 (q6 l) rfl ?_
  rintro _ rfl
  cases hlight : lightV l with
  | false =>
    simp -implicitDefEqProofs -dsimp (maxSteps := 1000000) (disch := first | omega | (simp only [wkLen]; omega) | decide +kernel) only [↓wkPre, ↓wkPre2, ↓wkE, wkPost, wkDef, wkF, simprocAttr]
    refine PS.app md_7 Try.func7 q7 rfl ?_
    rintro _ rfl
    simp -implicitDefEqProofs -dsimp (maxSteps := 1000000) (disch := first | omega | (simp only [wkLen]; omega) | decide +kernel) only [↓wkPre, ↓wkPre2, ↓wkE, wkPost, wkDef, wkF, simprocAttr]
  | true =>
    obtain ⟨hln, hrl⟩ := lightV_ok hlight
    simp -implicitDefEqProofs -dsimp (maxSteps := 1000000) (disch := first | omega | (simp only [wkLen]; omega) | decide +kernel) only [↓wkPre, ↓wkPre2, ↓wkE, wkPost, wkDef, wkF, simprocAttr]
    refine PS.app md_8 Try.func8 (q8 l (by omega)) rfl ?_
    rintro _ rfl
    obtain ⟨hTl, hTe⟩ := cutF_ok l
    have hTt := cutF_tot l
    have hTn : ∀ t ∈ cutF l, ∀ v ∈ t.evs, inI v.o.n := fun t ht v hv => hn v ((hTe t ht).2 v hv)
    generalize cutF l = T at hTl hTe hTt hTn ⊢
    have htl := txs_len T
    simp -implicitDefEqProofs -dsimp (maxSteps := 1000000) (disch := first | omega | (simp only [wkLen]; omega) | decide +kernel) only [↓wkPre, ↓wkPre2, ↓wkE, wkPost, wkDef, wkF, simprocAttr]
    refine imp_call md_14 (w14 _ _ ?_)
    intro H1 b hb hbl hfr hln1
    simp -implicitDefEqProofs -dsimp (maxSteps := 1000000) (disch := first | omega | (simp only [wkLen]; omega) | decide +kernel) only [↓wkPre, ↓wkPre2, ↓wkE, wkPost, wkDef, wkF, simprocAttr]
    refine PS.app md_15 Try.func15 (pa := [.sl 4 (txs T)]) (q15 T (by omega) (by omega) hTn) rfl ?_
    rintro _ rfl
    have hxy := rfl (a := repF mo1 0 T)
    generalize hR : repF mo1 0 T = R at hxy ⊢
    clear hxy
    obtain ⟨rx, ry⟩ := R
    simp -implicitDefEqProofs -dsimp (maxSteps := 1000000) (disch := first | omega | (simp only [wkLen]; omega) | decide +kernel) only [↓wkPre, ↓wkPre2, ↓wkE, wkPost, wkDef, wkF, simprocAttr]
    have hov0 : OV (H1 ++ [.var true (.agg [.nsl, .ref b 0 0 1 false])]) (.agg [.nsl, .ref b 0 0 1 false]) mo1 := .inr ⟨_, b, 0, true, rfl, (hs_app (lt_of hb)).trans hb, rfl, .inr ⟨rfl, rfl⟩⟩
    refine loop_use extMono (fun m' e G => ∃ (i c : Nat) (vo : AV) (mi : Mo), m' = T.length - i ∧ i ≤ T.length ∧ e 3 = .p (.sl 4 (txs T)) ∧ e 4 = .vptr c 0 ∧ e 5 = .p (I rx) ∧ e 6 = .p (I ry) ∧ e 7 = .p (I i) ∧ G[c]? = some (.var true vo) ∧ OV G vo mi ∧ Wfm mi (totE (T.take i)) ∧ repF mi i (T.drop i) = (rx, ry) ∧ finF mo1 T = finF mi (T.drop i)) ?_ T.length _ _ ⟨0, H1.length, .agg [.nsl, .ref b 0 0 1 false], mo1, rfl, by omega, ?_⟩
    · clear hb hbl hfr hln1 hov0 H1 b hR
      rintro m' e G ⟨i, c, vo, mi, rfl, hi, e3, e4, e5, e6, e7, gc, hov, wf, hrep, hfin⟩
      obtain ⟨hs1, hs2, hs3⟩ := hov.shp
      rcases Nat.lt_or_ge i T.length with hlt | hge
      · have gi := txs_get hlt
        have hni := hTn _ (List.getElem_mem hlt)
        have htot := totE_take T hlt
        have hrc := rep_cons mi i hlt
        have htn : totE (T.take (i + 1)) = totE (T.take i) + T[i].evs.length := by
          rw [List.take_succ_eq_append_getElem hlt, totE_snoc]
        have hfc : finF mi (T.drop i) = finF (levF (allF mi T[i].evs)) (T.drop (i + 1)) := by
          rw [List.drop_eq_getElem_cons hlt]; rfl
        generalize T[i] = t at gi hni htot htn hrc hfc
        obtain ⟨twho, L, td, tp⟩ := t
        dsimp only at hni htot htn hrc hfc
        have hLl := vts_len L
        have h16 := q16 mi L _ wf (by omega) hni
        have hpl := play_len L mi
        have hpa := play_all L mi
        have hpw := play_wf L wf hni
        generalize playF mi L = P at h16 hpl hpa hpw hrc
        obtain ⟨mn, n⟩ := P
        dsimp only at h16 hpl hpa hpw hrc
        simp -implicitDefEqProofs -dsimp (maxSteps := 1000000) (disch := first | omega | (simp only [wkLen]; omega) | decide +kernel) only [↓wkPre, ↓wkPre2, ↓evC_region_st [9], ↓evC_text_st [9], ↓evC_cond, ↓evC_block, ↓evC_stop [9], wkPost, wkDef, wkF, simprocAttr, e3, e4, e5, e6, e7, htl, gi]
        refine stop_cut extMono (fun e' G' => ∃ x vo', e' 3 = .p (.sl 4 (txs T)) ∧ e' 4 = .vptr c 0 ∧ e' 5 = .p (I rx) ∧ e' 6 = .p (I ry) ∧ e' 7 = .p (I i) ∧ e' 8 = .vptr x 0 ∧ e' 9 = .p (I n) ∧ G'[c]? = some (.var true vo') ∧ vo'.isU = false ∧ vo'.shape = 2 ∧ G'[x]? = some (.var true (.p (moP mn))) ∧ c ≠ x) ?_ ?_
        · refine evC_pl pl_4_9 (by kernel_rfl) (by decide +kernel) ?_
          simp only [pl_4_9]
          have gca : ∀ y : Blk, (G ++ [y])[c]? = some (.var true vo) := fun y => (hs_app (lt_of gc)).trans gc
          have hcl := lt_of gc
          simp -implicitDefEqProofs -dsimp (maxSteps := 1000000) (disch := first | omega | (simp only [wkLen]; omega) | decide +kernel) only [↓wkPre, ↓wkPre2, ↓wkE, wkPost, wkDef, wkF, simprocAttr, e3, e4, e5, e6, e7, htl, gi, gc, gca, hs1, hs2, hs3]
          refine And.intro ?_ ?_
          · refine callPl h16 hov ?_
            intro K' hlen hvars
            have v1 := hvars c _ _ gc
            have v1x : ∀ y : Blk, (K' ++ [y])[c]? = _ := fun y => (hs_app (lt_of v1)).trans v1
            have w1x : ∀ y : Blk, (K' ++ [y])[G.length]? = some y := fun y => by rw [← hlen]; exact List.getElem?_concat_length ..
            simp -implicitDefEqProofs -dsimp (maxSteps := 1000000) (disch := first | omega | (simp only [wkLen]; omega) | decide +kernel) only [↓wkPre, ↓wkPre2, ↓wkE, wkPost, wkDef, wkF, simprocAttr, e3, e4, e5, e6, e7, htl, gi, hlen, v1, v1x, hs1, hs2]
            exact ⟨_, _, rfl, rfl, hs1, hs2, w1x _, by omega⟩
          · refine callPl h16 (hov.keep fun b hb => hs_app hb) ?_
            intro K' hlen hvars
            have v1 := hvars c _ _ (gca _)
            have w1 := hvars G.length _ _ (by rw [List.getElem?_append_right (Nat.le_refl _), Nat.sub_self]; rfl)
            have w1x : ∀ y : Blk, (K'.set G.length y)[G.length]? = some y := fun y => hs_set (lt_of w1)
            have v1x : ∀ y : Blk, (K'.set G.length y)[c]? = _ := fun y => (hs_ne (by omega)).trans v1
            simp -implicitDefEqProofs -dsimp (maxSteps := 1000000) (disch := first | omega | (simp only [wkLen]; omega) | decide +kernel) only [↓wkPre, ↓wkPre2, ↓wkE, wkPost, wkDef, wkF, simprocAttr, e3, e4, e5, e6, e7, htl, gi, hlen, v1, w1, v1x, hs1, hs2]
            exact ⟨_, _, rfl, rfl, hs1, hs2, w1x _, by omega⟩
        clear e3 e4 e5 e6 e7 e
        rintro e G' ⟨x, vo', e3, e4, e5, e6, e7, e8, e9, kc, ks1, ks2, kx, hcx⟩
        have klev : levF mn = ⟨mn.M, mn.S.set 0 mi0⟩ := rfl
        by_cases hlt2 : n < L.length
        · rw [if_pos hlt2] at hrc
          rw [hrc] at hrep
          cases hrep
          simp -implicitDefEqProofs -dsimp (maxSteps := 1000000) (disch := first | omega | (simp only [wkLen]; omega) | decide +kernel) only [↓wkPre, ↓wkPre2, ↓wkE, wkPost, wkDef, wkF, simprocAttr, e3, e4, e5, e6, e7, e8, e9, htl, gi, hLl]
          refine PS.app md_7 Try.func7 q7 rfl ?_
          rintro _ rfl
          simp -implicitDefEqProofs -dsimp (maxSteps := 1000000) (disch := first | omega | (simp only [wkLen]; omega) | decide +kernel) only [↓wkPre, ↓wkPre2, ↓wkE, wkPost, wkDef, wkF, simprocAttr]
        · rw [if_neg hlt2] at hrc
          obtain rfl : n = L.length := by omega
          simp -implicitDefEqProofs -dsimp (maxSteps := 1000000) (disch := first | omega | (simp only [wkLen]; omega) | decide +kernel) only [↓wkPre, ↓wkPre2, ↓wkE, wkPost, wkDef, wkF, simprocAttr, e3, e4, e5, e6, e7, e8, e9, htl, gi, hLl, kx]
          have hS1 := hpw.n5
          refine PS.app md_17 Try.func17 (pa := [moP mn, I (0 : Nat)]) (p25 mn 0 (by omega) (by omega)) rfl ?_
          rintro _ rfl
          rw [← klev]
          have hmal : mn = allF mi L := hpa rfl
          have hw2 : Wfm (levF mn) (totE (T.take (i + 1))) := by rw [htn]; exact levF_wf hpw
          have kc2 : ∀ y : Blk, (G'.set c y)[c]? = some y := fun y => hs_set (lt_of kc)
          simp -implicitDefEqProofs -dsimp (maxSteps := 1000000) (disch := first | omega | (simp only [wkLen]; omega) | decide +kernel) only [↓wkPre, ↓wkPre2, ↓wkE, wkPost, wkDef, wkF, simprocAttr, e3, e4, e5, e6, e7, e8, e9, kc, ks1, ks2]
          exact ⟨T.length - (i + 1), by omega, i + 1, c, .p (moP (levF mn)), levF mn, rfl, by omega, rfl, by push_cast; rfl, kc2 _, .inl rfl, hw2, by rw [← hrep, hrc]; push_cast; rfl, by rw [hfin, hfc, hmal]⟩
      · obtain rfl : i = T.length := by omega
        rw [List.drop_length] at hrep hfin
        rw [List.take_length] at wf
        have hrep : ((-1 : Int), (-1 : Int)) = (rx, ry) := hrep
        cases hrep
        have hfin : finF mo1 T = mi := hfin
        simp -implicitDefEqProofs -dsimp (maxSteps := 1000000) (disch := first | omega | (simp only [wkLen]; omega) | decide +kernel) only [↓wkPre, ↓wkPre2, ↓evC_region_st [13], ↓evC_text_st [13], ↓evC_cond, ↓evC_block, ↓evC_stop [13], wkPost, wkDef, wkF, simprocAttr, e3, e4, e5, e6, e7, htl]
        refine stop_pl pl_4_13 (by kernel_rfl) (by decide +kernel) ?_
        simp only [pl_4_13]
        obtain ⟨y, hy, hyt⟩ := hov.c0
        have hq18 := q18 (mi.M.map toRg) (mi.M.map toRg) (by have := wf.bd wf.at; simp only [List.length_map]; omega)
        rw [← rcs_rgs, decide_eq_true rfl] at hq18
        simp -implicitDefEqProofs -dsimp (maxSteps := 1000000) (disch := first | omega | (simp only [wkLen]; omega) | decide +kernel) only [↓wkPre, ↓wkPre2, ↓wkE, wkPost, wkDef, wkF, simprocAttr, e3, e4, e5, e6, e7, htl, gc, hs1, hs2, hs3, hy]
        refine PS.app md_19 Try.func19 (pa := [.sl 4 (txs T)]) (q19 T (by omega) (by omega) hTn) rfl ?_
        rintro _ rfl
        rw [hfin]
        simp -implicitDefEqProofs -dsimp (maxSteps := 1000000) (disch := first | omega | (simp only [wkLen]; omega) | decide +kernel) only [↓wkPre, ↓wkPre2, ↓wkE, wkPost, wkDef, wkF, simprocAttr, e3, e4, e5, e6, e7, htl, gc, hs1, hs2, hs3, hy]
        refine PS.app md_18 Try.func18 (pa := [rcsP mi.M, rcsP mi.M]) hq18 ?_ ?_
        · rcases hyt with rfl | ⟨rfl, hM⟩
          · rfl
          · rw [hM]
            show frzL (frzN Try.prog G 4) [_, AV.nsl] [36, 36] = _
            simp only [frzL, List.headD_cons, List.tail_cons]
            rw [frzN_p, show frzN Try.prog G 4 36 AV.nsl = some (.sl 6 []) from (show TS G .nsl 6 [] from .inl ⟨rfl, rfl⟩).frz (n := 3) telem_36]
            rfl
        rintro _ rfl
        have hids : [AV.p (rcsP mi.M), y].flatMap (ids 4) = [] := by
          rcases hyt with rfl | ⟨rfl, hM⟩ <;> rfl
        simp -implicitDefEqProofs -dsimp (maxSteps := 1000000) (disch := first | omega | (simp only [wkLen]; omega) | decide +kernel) only [↓wkPre, ↓wkPre2, ↓wkE, wkPost, wkDef, wkF, simprocAttr, hids]
        refine PS.app md_7 Try.func7 q7 rfl ?_
        rintro _ rfl
        simp -implicitDefEqProofs -dsimp (maxSteps := 1000000) (disch := first | omega | (simp only [wkLen]; omega) | decide +kernel) only [↓wkPre, ↓wkPre2, ↓wkE, wkPost, wkDef, wkF, simprocAttr]
    · simp -implicitDefEqProofs -dsimp (maxSteps := 1000000) (disch := first | omega | (simp only [wkLen]; omega) | decide +kernel) only [↓wkPre, ↓wkPre2, ↓wkE, wkPost, wkDef, wkF, simprocAttr]
      exact ⟨hov0, Wfm.new, hR⟩
theorem lawTraceReplays : ∀ xs, Tyas [(0, [Ty.sl 16 vtT])] xs → (W Cf okf).call 4 (xs.map AV.p) [] fun v _ => v = .p (.bool true) := by
  intro xs h
  obtain ⟨l, hl, rfl⟩ := vt_args h
  exact law4 l hl
end Go.Ev.F35
end
