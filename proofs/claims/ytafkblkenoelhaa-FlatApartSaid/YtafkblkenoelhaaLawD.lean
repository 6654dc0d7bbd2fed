/- A part of the proof: walks of the functions that the law calls. No condition. -/
import Derived.Test.YtafkblkenoelhaaLawC
set_option linter.all false
section
namespace Go.Ev.F34
open Go.Proofs Go.Ev
set_option maxRecDepth 100000
set_option linter.all false
theorem doF_apart {m : Mo} {who : Nat} {t : Mi} (ht : m.S[who]? = some t) {o : Ao} (h8 : o.kind ≠ 8) : ∃ t', (doF m t who o).1 = ⟨m.M, m.S.set who t'⟩ := by
  unfold doF
  split
  · exact ⟨t, by rw [set_same ht]⟩
  split
  · exact ⟨t, by rw [set_same ht]⟩
  split
  · refine ⟨(turnF m.M (onMi t) o).2.1, ?_⟩
    have : (turnF m.M (onMi t) o).1 = m.M := by
      unfold turnF
      split
      · rfl
      split
      · cases getS (onMi t).S o.n <;> rfl
      split
      · first | rfl | (rename_i h; exact absurd h h8)
      first | rfl | (split <;> rfl)
    rw [this]
  split
  · exact ⟨_, rfl⟩
  · exact ⟨_, rfl⟩
theorem doF_at {m : Mo} {who : Nat} {t : Mi} (ht : m.S[who]? = some t) (o : Ao) {i : Nat} (hi : i ≠ who) : (doF m t who o).1.S[i]? = m.S[i]? := by
  unfold doF
  split
  · rfl
  split
  · rfl
  split
  · exact List.getElem?_set_ne (Ne.symm hi)
  split
  · exact List.getElem?_set_ne (Ne.symm hi)
  · exact List.getElem?_set_ne (Ne.symm hi)
theorem stpF_0 {m : Mo} {k : Nat} (wf : Wfm m k) (h0 : m.S[0]? = some mi0) {s : St} (hs : s.who % 5 ≠ 0) : (stpF m s).S[0]? = some mi0 := by
  have hn5 := wf.n5
  unfold stpF
  split
  · exact (List.getElem?_set_ne hs).trans h0
  split
  · exact (List.getElem?_set_ne hs).trans h0
  split
  · dsimp only; rw [hn5]; rfl
  · exact (doF_at (wf.at (Nat.mod_lt _ (by omega))) s.o (Ne.symm hs)).trans h0
/-- What the first loop of FlatApart keeps. -/
def A1 (l : List St) (mine : List Ao) (i : Nat) (e : Env) (G : Heap) : Prop :=
  ∃ c m a, e 0 = .p (.sl 12 (sts l)) ∧ e 1 = .p (.sl 10 (aos mine)) ∧ e 5 = .vptr c.pp 0 ∧ e 6 = .vptr a 0 ∧ FI G c m ∧ G[a]? = some (moB m) ∧ a ∉ c.foot ∧ Wfm m i ∧ m.S[0]? = some mi0
/-- .. and the second one. -/
def A2 (l : List St) (mine : List Ao) (j : Nat) (e : Env) (G : Heap) : Prop :=
  ∃ c r a t, e 0 = .p (.sl 12 (sts l)) ∧ e 1 = .p (.sl 10 (aos mine)) ∧ e 5 = .vptr c.pp 0 ∧ e 6 = .vptr a 0 ∧ FI G c ⟨r.M, r.S.set 0 t⟩ ∧ G[a]? = some (moB r) ∧ a ∉ c.foot ∧ Wfm ⟨r.M, r.S.set 0 t⟩ (80 + j) ∧ Wfm r 80 ∧ r.S[0]? = some mi0
set_option maxHeartbeats 4000000 in
theorem law4 (l : List St) (mine : List Ao) (hw : ∀ s ∈ l, s.who < 256 ∧ inI s.o.n) (hn : ∀ o ∈ mine, inI o.n) : (W Cf okf).call 4 [.p (.sl 12 (sts l)), .p (.sl 10 (aos mine))] [] fun v _ => v = .p (.bool true) := by
  refine top_mk extMono Try.func4 body4 (by decide) rfl ?_
  simp only [c4, Try.f4, Option.getD_some, List.append_eq, List.cons_append, List.nil_append]
  have hl := sts_len l
  have hml := aos_len mine
  simp -implicitDefEqProofs -dsimp (maxSteps := 1000000) (disch := first | omega | (simp only [wkLen]; omega) | decide +kernel) only [↓wkPre, ↓wkPre2, ↓wkE, wkPost, wkDef, wkF, simprocAttr]
  refine PS.app md_6 Try.func6 (p6 l) rfl ?_
  rintro _ rfl
  cases hlight : lightF l with
  | false =>
    simp -implicitDefEqProofs -dsimp (maxSteps := 1000000) (disch := first | omega | (simp only [wkLen]; omega) | decide +kernel) only [↓wkPre, ↓wkPre2, ↓wkE, wkPost, wkDef, wkF, simprocAttr]
    refine PS.app md_7 Try.func7 p7 rfl ?_
    rintro _ rfl
    simp -implicitDefEqProofs -dsimp (maxSteps := 1000000) (disch := first | omega | (simp only [wkLen]; omega) | decide +kernel) only [↓wkPre, ↓wkPre2, ↓wkE, wkPost, wkDef, wkF, simprocAttr]
  | true =>
    have hln := light_len hlight
    by_cases h40 : 40 < mine.length
    · have h40' : (40 : Int) < (mine.length : Int) := by omega
      simp -implicitDefEqProofs -dsimp (maxSteps := 1000000) (disch := first | omega | (simp only [wkLen]; omega) | decide +kernel) only [↓wkPre, ↓wkPre2, ↓wkE, wkPost, wkDef, wkF, simprocAttr, hml, h40']
      refine PS.app md_7 Try.func7 p7 rfl ?_
      rintro _ rfl
      simp -implicitDefEqProofs -dsimp (maxSteps := 1000000) (disch := first | omega | (simp only [wkLen]; omega) | decide +kernel) only [↓wkPre, ↓wkPre2, ↓wkE, wkPost, wkDef, wkF, simprocAttr]
    have h40' : ¬ (40 : Int) < (mine.length : Int) := by omega
    simp -implicitDefEqProofs -dsimp (maxSteps := 1000000) (disch := first | omega | (simp only [wkLen]; omega) | decide +kernel) only [↓wkPre, ↓wkPre2, ↓wkE, wkPost, wkDef, wkF, simprocAttr, hml, h40']
    refine imp_call md_8 (w8 _ _ ?_)
    intro H c hFI hft hfr hle
    have hI : FI H c m0 := hFI 5
    clear hFI hft hfr hle
    simp -implicitDefEqProofs -dsimp (maxSteps := 1000000) (disch := first | omega | (simp only [wkLen]; omega) | decide +kernel) only [↓wkPre, ↓wkPre2, ↓wkE, wkPost, wkDef, wkF, simprocAttr, nn_v]
    refine PS.app md_9 Try.func9 (p9 5 (by omega)) rfl ?_
    rintro _ rfl
    have hsp : AV.p (moP ⟨[], List.replicate 5 mi0⟩) = .p (moP m0) := rfl
    rw [hsp]
    simp -implicitDefEqProofs -dsimp (maxSteps := 1000000) (disch := first | omega | (simp only [wkLen]; omega) | decide +kernel) only [↓wkPre, ↓wkPre2, ↓wkE, wkPost, wkDef, wkF, simprocAttr, nn_v]
    refine loop_use extMono (fun m' e Hc => ∃ (i : Nat), m' = l.length - i ∧ i ≤ l.length ∧ e 7 = .p (I i) ∧ A1 l mine i e Hc) ?_ l.length _ _ ⟨0, rfl, by omega, ?_⟩
    · clear hI c H
      rintro m' e G ⟨i, rfl, hi, e7, c, m, a, e0, e1, e5, e6, hI, ga, na, wf, h0⟩
      rcases Nat.lt_or_ge i l.length with hlt | hge
      · have gi := sts_get hlt
        have hwi := hw _ (List.getElem_mem hlt)
        have hwr : IntKind.i64.wrap (l[i].who : Int) = l[i].who := wrap_i64 (by omega) (by omega)
        have hrem : Int.tmod (l[i].who : Int) 5 = ((l[i].who % 5 : Nat) : Int) := by rw [Int.tmod_eq_emod_of_nonneg (by omega)]; rfl
        by_cases hw0 : l[i].who % 5 = 0
        · have hw0' : ((l[i].who % 5 : Nat) : Int) = 0 := by omega
          simp -implicitDefEqProofs -dsimp (maxSteps := 1000000) (disch := first | omega | (simp only [wkLen]; omega) | decide +kernel) only [↓wkPre, ↓wkPre2, ↓wkE, wkPost, wkDef, wkF, simprocAttr, nn_v, e0, e1, e5, e6, e7, hl, gi, hwr, hrem, hw0']
          exact ⟨l.length - (i + 1), by omega, i + 1, rfl, by omega, by push_cast; rfl, c, m, a, e0, e1, e5, e6, hI, ga, na, wf.le (by omega), h0⟩
        · have hw0' : ¬ ((l[i].who % 5 : Nat) : Int) = 0 := by omega
          simp -implicitDefEqProofs -dsimp (maxSteps := 1000000) (disch := first | omega | (simp only [wkLen]; omega) | decide +kernel) only [↓wkPre, ↓wkPre2, ↓wkE, wkPost, wkDef, wkF, simprocAttr, nn_v, e0, e1, e5, e6, e7, hl, gi, hwr, hrem, hw0', ga]
          refine imp_call md_11 (w11 hI (by omega) wf _ hwi.1 _ ?_)
          intro G1 c1 hI1 k1
          have wf1 := stpF_wf wf l[i] hwi.2
          have h01 := stpF_0 wf h0 hw0
          generalize stpF m l[i] = m1 at hI1 wf1 h01 ⊢
          obtain ⟨ga1, na1⟩ := k1.out ga na
          simp -implicitDefEqProofs -dsimp (maxSteps := 1000000) (disch := first | omega | (simp only [wkLen]; omega) | decide +kernel) only [↓wkPre, ↓wkPre2, ↓wkE, wkPost, wkDef, wkF, simprocAttr, nn_v, e0, e1, e5, e6, e7, hl, gi, ga1]
          exact ⟨l.length - (i + 1), by omega, i + 1, rfl, by omega, by push_cast; rfl, c1, m1, a, e0, e1, by rw [k1.pp]; exact e5, e6, hI1.keep fun i hi => hs_ne fun e => na1 (by rw [e]; exact hi), hs_set (lt_of ga1), na1, wf1, h01⟩
      · obtain rfl : i = l.length := by omega
        simp -implicitDefEqProofs -dsimp (maxSteps := 1000000) (disch := first | omega | (simp only [wkLen]; omega) | decide +kernel) only [↓wkPre, ↓wkPre2, ↓wkE, wkPost, wkDef, wkF, simprocAttr, nn_v, e0, e1, e5, e6, e7, hl]
        refine loop_use extMono (fun m' e Hc => ∃ (j : Nat), m' = mine.length - j ∧ j ≤ mine.length ∧ e 8 = .p (I j) ∧ A2 l mine j e Hc) ?_ mine.length _ _ ⟨0, rfl, by omega, ?_⟩
        · clear hI ga na wf h0 e0 e1 e5 e6 e7 c m a G e
          rintro m' e G ⟨j, rfl, hj, e8, c, r, a, t, e0, e1, e5, e6, hI, ga, na, wf, wfr, h0⟩
          rcases Nat.lt_or_ge j mine.length with hlt | hge
          · have gj := aos_get hlt
            have hnj := hn _ (List.getElem_mem hlt)
            by_cases h100 : 100 < mine[j].val.length
            · have h100' : (100 : Int) < (mine[j].val.length : Int) := by omega
              simp -implicitDefEqProofs -dsimp (maxSteps := 1000000) (disch := first | omega | (simp only [wkLen]; omega) | decide +kernel) only [↓wkPre, ↓wkPre2, ↓wkE, wkPost, wkDef, wkF, simprocAttr, nn_v, e0, e1, e5, e6, e8, hml, gj, h100']
              refine PS.app md_7 Try.func7 p7 rfl ?_
              rintro _ rfl
              simp -implicitDefEqProofs -dsimp (maxSteps := 1000000) (disch := first | omega | (simp only [wkLen]; omega) | decide +kernel) only [↓wkPre, ↓wkPre2, ↓wkE, wkPost, wkDef, wkF, simprocAttr]
            have h100' : ¬ (100 : Int) < (mine[j].val.length : Int) := by omega
            by_cases h8 : mine[j].kind = 8
            · simp -implicitDefEqProofs -dsimp (maxSteps := 1000000) (disch := first | omega | (simp only [wkLen]; omega) | decide +kernel) only [↓wkPre, ↓wkPre2, ↓wkE, wkPost, wkDef, wkF, simprocAttr, nn_v, e0, e1, e5, e6, e8, hml, gj, h100', h8]
              exact ⟨mine.length - (j + 1), by omega, j + 1, rfl, by omega, by push_cast; rfl, c, r, a, t, e0, e1, e5, e6, hI, ga, na, wf.le (by omega), wfr, h0⟩
            simp -implicitDefEqProofs -dsimp (maxSteps := 1000000) (disch := first | omega | (simp only [wkLen]; omega) | decide +kernel) only [↓wkPre, ↓wkPre2, ↓wkE, wkPost, wkDef, wkF, simprocAttr, nn_v, e0, e1, e5, e6, e8, hml, gj, h100', h8]
            have hz : (0 : Int) = ((0 : Nat) : Int) := rfl
            refine imp_call md_13 (wDo hI (by omega) wf 0 (by omega) mine[j] hnj _ ?_)
            intro G1 c1 v1 hI1 wf1 k1 _
            obtain ⟨t1, ht1⟩ := doF_apart (wf.at (by omega : (0 : Nat) < 5)) (o := mine[j]) h8
            rw [ht1] at hI1 wf1
            dsimp only at hI1 wf1
            rw [List.set_set] at hI1 wf1
            obtain ⟨ga1, na1⟩ := k1.out ga na
            have e5' : AV.vptr c.pp 0 = .vptr c1.pp 0 := by rw [k1.pp]
            rw [e5'] at e5
            have hM : r.M.length ≤ 500 := by have := wfr.sz; omega
            simp -implicitDefEqProofs -dsimp (maxSteps := 1000000) (disch := first | omega | (simp only [wkLen]; omega) | decide +kernel) only [↓wkPre, ↓wkPre2, ↓evC_region_st [19], ↓evC_text_st [19], ↓evC_cond, ↓evC_block, ↓evC_stop [19], wkPost, wkDef, wkF, simprocAttr, nn_v, e0, e1, e5, e6, e8, hml, gj]
            refine stop_st (fun e' G' => G1 = G' ∧ e' 0 = .p (.sl 12 (sts l)) ∧ e' 1 = .p (.sl 10 (aos mine)) ∧ e' 5 = .vptr c1.pp 0 ∧ e' 6 = .vptr a 0 ∧ e' 8 = .p (I j)) ⟨rfl, e0, e1, e5, e6, e8⟩ ?_
            clear e0 e1 e5 e6 e8 e
            rintro e _ ⟨rfl, e0, e1, e5, e6, e8⟩
            refine stop_pl pl_4_19 (by kernel_rfl) (by decide +kernel) ?_
            simp only [pl_4_19]
            simp -implicitDefEqProofs -dsimp (maxSteps := 1000000) (disch := first | omega | (simp only [wkLen]; omega) | decide +kernel) only [↓wkPre, ↓wkPre2, ↓wkE, wkPost, wkDef, wkF, simprocAttr, nn_v, e0, e1, e5, e6, e8, ga1]
            refine imp_call md_15 (w15 hI1 wfr.asc (by show r.M.length ≤ 1000; omega) _ ?_)
            intro v2 G2 q1 hI2 k2 _
            obtain ⟨ga2, na2⟩ := k2.out ga1 na1
            obtain ⟨vs1, vs2, vs3⟩ := own_shape q1
            simp -implicitDefEqProofs -dsimp (maxSteps := 1000000) (disch := first | omega | (simp only [wkLen]; omega) | decide +kernel) only [↓wkPre, ↓wkPre2, ↓wkE, wkPost, wkDef, wkF, simprocAttr, nn_v, e0, e1, e5, e6, e8, ga2, vs1, vs2, vs3]
            refine PS.app md_14 Try.func14 (pa := [rcsP r.M, rcsP r.M]) (p14 r.M (by omega)) ?_ ?_
            · show frzL (frzN Try.prog G2 4) [_, _] [27, 27] = _
              exact frz2 (frz_own telem_27 q1) (frzN_p _ _ _ _ _)
            rintro _ rfl
            simp -implicitDefEqProofs -dsimp (maxSteps := 1000000) (disch := first | omega | (simp only [wkLen]; omega) | decide +kernel) only [↓wkPre, ↓wkPre2, ↓wkE, wkPost, wkDef, wkF, simprocAttr, nn_v, e0, e1, e5, e6, e8, ga2]
            refine loop_use extMono (fun m' e Hc => ∃ (k : Nat), m' = 5 - k ∧ 1 ≤ k ∧ k ≤ 5 ∧ e 9 = .p (I k) ∧ e 8 = .p (I j) ∧ A2 l mine (j + 1) e Hc) ?_ 4 _ _ ⟨1, rfl, by omega, by omega, ?_⟩
            · clear ga2 na2 ga1 na1 ga na hI hI1 hI2 wf wf1 wfr h0 k1 k2 q1 e0 e1 e5 e6 e8 e vs1 vs2 vs3
              rintro m' e G ⟨k, rfl, hk1, hk5, e9, e8, c, r, a, t, e0, e1, e5, e6, hI, ga, na, wf, wfr, h0⟩
              rcases Nat.lt_or_ge k 5 with hlk | hgk
              · have hwat := wfr.at hlk
                obtain ⟨hwl, hwe⟩ := List.getElem?_eq_some_iff.1 hwat
                have hbd := wfr.bd hwat
                have h17 := p17 r k hwl (by rw [hwe]; omega)
                rw [hwe] at h17
                have hxat : (r.S.set 0 t)[k]? = some (atS r k) := (List.getElem?_set_ne (by omega)).trans hwat
                have hvl := viewF_len r.M (atS r k).L
                generalize atS r k = tk at hwat hwe hbd h17 hxat hvl
                simp -implicitDefEqProofs -dsimp (maxSteps := 1000000) (disch := first | omega | (simp only [wkLen]; omega) | decide +kernel) only [↓wkPre, ↓wkPre2, ↓evC_region_st [24], ↓evC_text_st [24], ↓evC_cond, ↓evC_block, ↓evC_stop [24], wkPost, wkDef, wkF, simprocAttr, nn_v, e0, e1, e5, e6, e8, e9]
                refine stop_pl pl_4_24 (by kernel_rfl) (by decide +kernel) ?_
                simp only [pl_4_24]
                simp -implicitDefEqProofs -dsimp (maxSteps := 1000000) (disch := first | omega | (simp only [wkLen]; omega) | decide +kernel) only [↓wkPre, ↓wkPre2, ↓wkE, wkPost, wkDef, wkF, simprocAttr, nn_v, e0, e1, e5, e6, e8, e9, ga]
                refine imp_call md_16 (w16 hI wfr.asc k hxat (by show r.M.length + _ ≤ _; omega) _ ?_)
                intro v2 H2 r1 r2 r3 r4 r5
                have ga2 := (r3 _ (lt_of ga)).trans ga
                obtain ⟨vs1, vs2, vs3⟩ := own_shape r1
                simp -implicitDefEqProofs -dsimp (maxSteps := 1000000) (disch := first | omega | (simp only [wkLen]; omega) | decide +kernel) only [↓wkPre, ↓wkPre2, ↓wkE, wkPost, wkDef, wkF, simprocAttr, nn_v, e0, e1, e5, e6, e8, e9, ga2, vs1, vs2, vs3]
                refine PS.app md_17 Try.func17 h17 rfl ?_
                rintro _ rfl
                simp -implicitDefEqProofs -dsimp (maxSteps := 1000000) (disch := first | omega | (simp only [wkLen]; omega) | decide +kernel) only [↓wkPre, ↓wkPre2, ↓wkE, wkPost, wkDef, wkF, simprocAttr, nn_v, e0, e1, e5, e6, e8, e9, ga2, vs1, vs2, vs3]
                refine PS.app md_14 Try.func14 (pa := [rcsP (viewF r.M tk.L), rcsP (viewF r.M tk.L)]) (p14 _ (by omega)) ?_ ?_
                · show frzL (frzN Try.prog H2 4) [_, _] [27, 27] = _
                  exact frz2 (frz_own telem_27 r1) (frzN_p _ _ _ _ _)
                rintro _ rfl
                simp -implicitDefEqProofs -dsimp (maxSteps := 1000000) (disch := first | omega | (simp only [wkLen]; omega) | decide +kernel) only [↓wkPre, ↓wkPre2, ↓wkE, wkPost, wkDef, wkF, simprocAttr, nn_v, e0, e1, e5, e6, e8, e9, ga2]
                exact ⟨5 - (k + 1), by omega, k + 1, rfl, by omega, by omega, by push_cast; rfl, c, r, a, t, e0, e1, e5, e6, r2, ga2, na, wf, wfr, h0⟩
              · obtain rfl : k = 5 := by omega
                simp -implicitDefEqProofs -dsimp (maxSteps := 1000000) (disch := first | omega | (simp only [wkLen]; omega) | decide +kernel) only [↓wkPre, ↓wkPre2, ↓wkE, wkPost, wkDef, wkF, simprocAttr, nn_v, e0, e1, e5, e6, e8, e9]
                exact ⟨mine.length - (j + 1), by omega, j + 1, rfl, by omega, by push_cast; rfl, c, r, a, t, e0, e1, e5, e6, hI, ga, na, wf, wfr, h0⟩
            · simp -implicitDefEqProofs -dsimp (maxSteps := 1000000) (disch := first | omega | (simp only [wkLen]; omega) | decide +kernel) only [↓wkPre, ↓wkPre2, ↓wkE, wkPost, wkDef, wkF, simprocAttr]
              exact ⟨e8, c1, r, a, t1, e0, e1, e5, e6, hI2, ga2, na2, wf1, wfr, h0⟩
          · obtain rfl : j = mine.length := by omega
            simp -implicitDefEqProofs -dsimp (maxSteps := 1000000) (disch := first | omega | (simp only [wkLen]; omega) | decide +kernel) only [↓wkPre, ↓wkPre2, ↓wkE, wkPost, wkDef, wkF, simprocAttr, nn_v, e0, e1, e5, e6, e8, hml]
            refine imp_call md_18 (w18 hI 0 _ ?_)
            intro G1 c1 hI1 k1
            dsimp only at hI1
            rw [List.set_set, set_same h0] at hI1
            have hI1 : FI G1 c1 r := hI1
            obtain ⟨ga1, na1⟩ := k1.out ga na
            have e5' : AV.vptr c.pp 0 = .vptr c1.pp 0 := by rw [k1.pp]
            rw [e5'] at e5
            simp -implicitDefEqProofs -dsimp (maxSteps := 1000000) (disch := first | omega | (simp only [wkLen]; omega) | decide +kernel) only [↓wkPre, ↓wkPre2, ↓wkE, wkPost, wkDef, wkF, simprocAttr, nn_v, e0, e1, e5, e6, e8, ga1]
            refine imp_call md_12 (w12 hI1 (by omega) wfr _ ?_)
            intro G2 hI2 k2
            simp -implicitDefEqProofs -dsimp (maxSteps := 1000000) (disch := first | omega | (simp only [wkLen]; omega) | decide +kernel) only [↓wkPre, ↓wkPre2, ↓wkE, wkPost, wkDef, wkF, simprocAttr, nn_v, e0, e1, e5, e6, e8]
            refine PS.app md_7 Try.func7 p7 rfl ?_
            rintro _ rfl
            simp -implicitDefEqProofs -dsimp (maxSteps := 1000000) (disch := first | omega | (simp only [wkLen]; omega) | decide +kernel) only [↓wkPre, ↓wkPre2, ↓wkE, wkPost, wkDef, wkF, simprocAttr]
        · simp -implicitDefEqProofs -dsimp (maxSteps := 1000000) (disch := first | omega | (simp only [wkLen]; omega) | decide +kernel) only [↓wkPre, ↓wkPre2, ↓wkE, wkPost, wkDef, wkF, simprocAttr]
          refine ⟨c, m, a, mi0, e0, e1, e5, e6, ?_, ga, na, ?_, wf.le (by omega), h0⟩
          · rw [set_same h0]; exact hI
          · rw [set_same h0]; exact wf.le (by omega)
    · simp -implicitDefEqProofs -dsimp (maxSteps := 1000000) (disch := first | omega | (simp only [wkLen]; omega) | decide +kernel) only [↓wkPre, ↓wkPre2, ↓wkE, wkPost, wkDef, wkF, simprocAttr]
      exact ⟨c, m0, H.length, rfl, rfl, rfl, rfl, hI.keep fun i hi => hs_app (hI.lt hi), by simp, fun hm => by have := hI.lt hm; omega, Wfm.new, rfl⟩
theorem lawFlatApart : ∀ xs, Tyas [(0, [Ty.sl 12 (.int .i64 :: .int .u8 :: aoT)]), (0, [Ty.sl 10 aoT])] xs → (W Cf okf).call 4 (xs.map AV.p) [] fun v _ => v = .p (.bool true) := by
  intro xs h
  simp only [Tyas] at h
  obtain ⟨x1, r1, rfl, h1, x2, r2, rfl, h2, rfl⟩ := h
  have h1 := Tya_one h1
  have h2 := Tya_one h2
  simp only [Tyd] at h1 h2
  obtain ⟨ys, rfl, _, h6⟩ := h1
  obtain ⟨zs, rfl, _, h7⟩ := h2
  obtain ⟨l, hl, rfl⟩ := sts_list h6
  obtain ⟨mine, hm, rfl⟩ := aos_list h7
  exact law4 l mine hl hm
end Go.Ev.F34
end
