/- A part of the proof: walks of the functions that the law calls. No condition. -/
import Derived.Test.YtafkblkenoelhaaLawC
set_option linter.all false
section
namespace Go.Ev.F34
open Go.Proofs Go.Ev
set_option maxRecDepth 100000
set_option linter.all false
theorem onMi_on {t : Mi} (h : t.on = true) : onMi t = t := by
  obtain ⟨on, L, S⟩ := t
  subst h
  rfl
theorem changeF_pre (t : Mi) (hon : t.on = true) (V : List Rc) (o : Ao) : (changeF t V o).1.on = true ∧ (changeF t V o).1.S = t.S ∧ ∃ ws, (changeF t V o).1.L = t.L ++ ws := by
  have h0 : t.on = true ∧ t.S = t.S ∧ ∃ ws, t.L = t.L ++ ws := ⟨hon, rfl, [], by simp⟩
  have hw : ∀ w, (writeF t w).on = true ∧ (writeF t w).S = t.S ∧ ∃ ws, (writeF t w).L = t.L ++ ws := fun w => ⟨rfl, rfl, [w], rfl⟩
  unfold changeF
  split
  · cases look V o.key with
    | some r => exact h0
    | none =>
      dsimp only
      split
      · exact h0
      · exact hw _
  · cases look V o.key with
    | none => exact h0
    | some r =>
      dsimp only
      split
      · exact h0
      · exact hw _
theorem doF_15 {m : Mo} {who : Nat} {t : Mi} (hon : t.on = true) {o : Ao} (h1 : 1 ≤ o.kind) (h5 : o.kind ≤ 5) : ∃ t', (doF m t who o).1 = ⟨m.M, m.S.set who t'⟩ ∧ t'.on = true ∧ t'.S = t.S ∧ ∃ ws, t'.L = t.L ++ ws := by
  unfold doF
  rw [if_neg (by omega), if_neg (by rw [hon]; simp), if_neg (by omega), onMi_on hon]
  split
  · exact ⟨_, rfl, changeF_pre t hon _ o⟩
  · exact ⟨t, rfl, hon, rfl, [], by simp⟩
theorem atS_set {m : Mo} {k who : Nat} (wf : Wfm m k) (hw : who < 5) (M : List Rc) (t : Mi) : atS ⟨M, m.S.set who t⟩ who = t := by
  have := wf.n5
  unfold atS
  rw [List.getElem?_set_self (by omega)]
  rfl
theorem getS_putS (S : List Sv) (n : Int) (k : Nat) : getS (putS S n k) n = some k := by
  unfold getS putS
  rw [List.find?_append]
  have : (S.filter fun s => !(s.1 == n)).find? (fun s => s.1 == n) = none := by
    rw [List.find?_eq_none]
    intro s hs
    have := (List.mem_filter.1 hs).2
    simpa using this
  rw [this]
  simp
/-- What the first loop of FlatBack keeps. -/
def B1 (l : List St) (mine : List Ao) (n : Int) (i : Nat) (e : Env) (G : Heap) : Prop :=
  ∃ c m a, e 0 = .p (.sl 12 (sts l)) ∧ e 1 = .p (.sl 10 (aos mine)) ∧ e 2 = .p (I n) ∧ e 7 = .vptr c.pp 0 ∧ e 8 = .vptr a 0 ∧ FI G c m ∧ G[a]? = some (moB m) ∧ a ∉ c.foot ∧ Wfm m i
/-- .. and the second one. -/
def B2 (mine : List Ao) (n : Int) (j : Nat) (e : Env) (G : Heap) : Prop :=
  ∃ c x v V k0, e 1 = .p (.sl 10 (aos mine)) ∧ e 2 = .p (I n) ∧ e 7 = .vptr c.pp 0 ∧ e 10 = v ∧ FI G c x ∧ Wfm x (90 + j) ∧ (atS x 0).on = true ∧ viewF x.M ((atS x 0).L.take k0) = V ∧ getS (atS x 0).S n = some k0 ∧ k0 ≤ (atS x 0).L.length ∧ OwnS G v 6 (rcs V) ∧ (∀ b, v.blk = some b → b ∉ c.foot)
theorem own_kp {G G' : Heap} {c c' : Fm} {v : AV} {xs : List PV} (h : OwnS G v 6 xs) (hn : ∀ b, v.blk = some b → b ∉ c.foot) (hk : Kp c c' G G') : OwnS G' v 6 xs ∧ ∀ b, v.blk = some b → b ∉ c'.foot :=
  ⟨h.keep fun b hb => hk.fr b (h.lt b hb) (hn b hb), fun b hb hm => (hk.ft b hm).elim (hn b hb) (fun hl => by have := h.lt b hb; omega)⟩
set_option maxHeartbeats 4000000 in
theorem law5 (l : List St) (mine : List Ao) (n : Int) (hw : ∀ s ∈ l, s.who < 256 ∧ inI s.o.n) (hn : ∀ o ∈ mine, inI o.n) (hin : inI n) : (W Cf okf).call 5 [.p (.sl 12 (sts l)), .p (.sl 10 (aos mine)), .p (I n)] [] fun v _ => v = .p (.bool true) := by
  refine top_mk extMono Try.func5 body5 (by decide) rfl ?_
  simp only [c5, Try.f5, Option.getD_some, List.append_eq, List.cons_append, List.nil_append]
  have hl := sts_len l
  have hml := aos_len mine
  simp -implicitDefEqProofs -dsimp (maxSteps := 1000000) (disch := first | omega | (simp only [wkLen]; omega) | decide +kernel) only [↓wkPre, ↓wkPre2, ↓wkE, wkPost, wkDef, wkF, simprocAttr]
  refine PS.app md_6 Try.func6 (p6 l) rfl ?_
  rintro _ rfl
  cases hlight : lightF l with
  | false =>
    simp -implicitDefEqProofs -dsimp (maxSteps := 1000000) (disch := first | omega | (simp only [wkLen]; omega) | decide +kernel) only [↓wkPre, ↓wkPre2, ↓wkE, wkPost, wkDef, wkF, simprocAttr]
    refine PS.app md_7 Try.func7 p7 rfl ?_
    rintro _ rfl
    simp -implicitDefEqProofs -dsimp (maxSteps := 1000000) (disch := first | omega | (simp only [wkLen]; omega) | decide +kernel) only [↓wkPre, ↓wkPre2, ↓wkE, wkPost, wkDef, wkF, simprocAttr]
  | true =>
    have hln := light_len hlight
    by_cases h40 : 40 < mine.length
    · have h40' : (40 : Int) < (mine.length : Int) := by omega
      simp -implicitDefEqProofs -dsimp (maxSteps := 1000000) (disch := first | omega | (simp only [wkLen]; omega) | decide +kernel) only [↓wkPre, ↓wkPre2, ↓wkE, wkPost, wkDef, wkF, simprocAttr, hml, h40']
      refine PS.app md_7 Try.func7 p7 rfl ?_
      rintro _ rfl
      simp -implicitDefEqProofs -dsimp (maxSteps := 1000000) (disch := first | omega | (simp only [wkLen]; omega) | decide +kernel) only [↓wkPre, ↓wkPre2, ↓wkE, wkPost, wkDef, wkF, simprocAttr]
    have h40' : ¬ (40 : Int) < (mine.length : Int) := by omega
    simp -implicitDefEqProofs -dsimp (maxSteps := 1000000) (disch := first | omega | (simp only [wkLen]; omega) | decide +kernel) only [↓wkPre, ↓wkPre2, ↓wkE, wkPost, wkDef, wkF, simprocAttr, hml, h40']
    refine imp_call md_8 (w8 _ _ ?_)
    intro H c hFI hft hfr hle
    have hI : FI H c m0 := hFI 5
    clear hFI hft hfr hle
    simp -implicitDefEqProofs -dsimp (maxSteps := 1000000) (disch := first | omega | (simp only [wkLen]; omega) | decide +kernel) only [↓wkPre, ↓wkPre2, ↓wkE, wkPost, wkDef, wkF, simprocAttr, nn_v]
    refine PS.app md_9 Try.func9 (p9 5 (by omega)) rfl ?_
    rintro _ rfl
    have hsp : AV.p (moP ⟨[], List.replicate 5 mi0⟩) = .p (moP m0) := rfl
    rw [hsp]
    simp -implicitDefEqProofs -dsimp (maxSteps := 1000000) (disch := first | omega | (simp only [wkLen]; omega) | decide +kernel) only [↓wkPre, ↓wkPre2, ↓wkE, wkPost, wkDef, wkF, simprocAttr, nn_v]
    refine loop_use extMono (fun m' e Hc => ∃ (i : Nat), m' = l.length - i ∧ i ≤ l.length ∧ e 9 = .p (I i) ∧ B1 l mine n i e Hc) ?_ l.length _ _ ⟨0, rfl, by omega, ?_⟩
    · clear hI c H
      rintro m' e G ⟨i, rfl, hi, e9, c, m, a, e0, e1, e2, e7, e8, hI, ga, na, wf⟩
      rcases Nat.lt_or_ge i l.length with hlt | hge
      · have gi := sts_get hlt
        have hwi := hw _ (List.getElem_mem hlt)
        simp -implicitDefEqProofs -dsimp (maxSteps := 1000000) (disch := first | omega | (simp only [wkLen]; omega) | decide +kernel) only [↓wkPre, ↓wkPre2, ↓wkE, wkPost, wkDef, wkF, simprocAttr, nn_v, e0, e1, e2, e7, e8, e9, hl, gi, ga]
        refine imp_call md_11 (w11 hI (by omega) wf _ hwi.1 _ ?_)
        intro G1 c1 hI1 k1
        have wf1 := stpF_wf wf l[i] hwi.2
        generalize stpF m l[i] = m1 at hI1 wf1 ⊢
        obtain ⟨ga1, na1⟩ := k1.out ga na
        simp -implicitDefEqProofs -dsimp (maxSteps := 1000000) (disch := first | omega | (simp only [wkLen]; omega) | decide +kernel) only [↓wkPre, ↓wkPre2, ↓wkE, wkPost, wkDef, wkF, simprocAttr, nn_v, e0, e1, e2, e7, e8, e9, hl, gi, ga1]
        exact ⟨l.length - (i + 1), by omega, i + 1, rfl, by omega, by push_cast; rfl, c1, m1, a, e0, e1, e2, by rw [k1.pp]; exact e7, e8, hI1.keep fun i hi => hs_ne fun e => na1 (by rw [e]; exact hi), hs_set (lt_of ga1), na1, wf1⟩
      · obtain rfl : i = l.length := by omega
        have hwat := wf.at (by omega : (0 : Nat) < 5)
        simp -implicitDefEqProofs -dsimp (maxSteps := 1000000) (disch := first | omega | (simp only [wkLen]; omega) | decide +kernel) only [↓wkPre, ↓wkPre2, ↓wkE, wkPost, wkDef, wkF, simprocAttr, nn_v, e0, e1, e2, e7, e8, e9, hl]
        refine imp_call md_19 (w19 hI 0 hwat _ ?_)
        intro G1 c1 hI1 k1
        have wf1 := wf.enter hwat
        have hat1 := atS_set wf (by omega : (0 : Nat) < 5) m.M (onMi (atS m 0))
        have hon1 : (onMi (atS m 0)).on = true := rfl
        rw [← hat1] at hon1
        generalize (⟨m.M, m.S.set 0 (onMi (atS m 0))⟩ : Mo) = x1 at hI1 wf1 hat1 hon1
        clear hat1
        have hwx := wf1.at (by omega : (0 : Nat) < 5)
        have hbx := wf1.bd hwx
        have e7' : AV.vptr c.pp 0 = .vptr c1.pp 0 := by rw [k1.pp]
        rw [e7'] at e7
        simp -implicitDefEqProofs -dsimp (maxSteps := 1000000) (disch := first | omega | (simp only [wkLen]; omega) | decide +kernel) only [↓wkPre, ↓wkPre2, ↓wkE, wkPost, wkDef, wkF, simprocAttr, nn_v, e0, e1, e2, e7, e8, e9]
        refine imp_call md_16 (w16 hI1 wf1.asc 0 hwx (by omega) _ ?_)
        intro v G2 q1 hI2 q3 q4 q5
        have hvn : ∀ b, v.blk = some b → b ∉ c1.foot := fun b hb hm => by have := hI1.lt hm; have := q4 b hb; omega
        have hvl := viewF_len x1.M (atS x1 0).L
        generalize hV : viewF x1.M (atS x1 0).L = V at q1 hvl
        obtain ⟨vs1, vs2, vs3⟩ := own_shape q1
        simp -implicitDefEqProofs -dsimp (maxSteps := 1000000) (disch := first | omega | (simp only [wkLen]; omega) | decide +kernel) only [↓wkPre, ↓wkPre2, ↓wkE, wkPost, wkDef, wkF, simprocAttr, nn_v, e0, e1, e2, e7, e8, e9, vs1, vs2, vs3]
        refine imp_call md_13 (wDo hI2 (by omega) wf1 0 (by omega) ⟨6, 0, 0, 0, [], ⟨0, 0, 0, 0⟩, n⟩ hin _ ?_)
        intro G3 c3 v3 hI3 wf3 k3 _
        have hD : doF x1 (atS x1 0) 0 ⟨6, 0, 0, 0, [], ⟨0, 0, 0, 0⟩, n⟩ = (⟨x1.M, x1.S.set 0 ⟨true, (atS x1 0).L, putS (atS x1 0).S n (atS x1 0).L.length⟩⟩, an0) := by
          unfold doF turnF
          rw [if_neg (by dsimp only; omega), if_neg (by rw [hon1]; simp), if_pos (by dsimp only; omega), onMi_on hon1]
          dsimp only
          rw [if_pos rfl, hon1]
        rw [hD] at hI3 wf3 ⊢
        dsimp only [an0] at hI3 wf3 ⊢
        have hat3 := atS_set wf1 (by omega : (0 : Nat) < 5) x1.M ⟨true, (atS x1 0).L, putS (atS x1 0).S n (atS x1 0).L.length⟩
        have hb2 : (atS ⟨x1.M, x1.S.set 0 ⟨true, (atS x1 0).L, putS (atS x1 0).S n (atS x1 0).L.length⟩⟩ 0).on = true ∧ viewF x1.M ((atS ⟨x1.M, x1.S.set 0 ⟨true, (atS x1 0).L, putS (atS x1 0).S n (atS x1 0).L.length⟩⟩ 0).L.take (atS x1 0).L.length) = V ∧
            getS (atS ⟨x1.M, x1.S.set 0 ⟨true, (atS x1 0).L, putS (atS x1 0).S n (atS x1 0).L.length⟩⟩ 0).S n = some (atS x1 0).L.length ∧ (atS x1 0).L.length ≤ (atS ⟨x1.M, x1.S.set 0 ⟨true, (atS x1 0).L, putS (atS x1 0).S n (atS x1 0).L.length⟩⟩ 0).L.length := by
          rw [hat3]
          exact ⟨rfl, by dsimp only; rw [List.take_length]; exact hV, getS_putS _ _ _, Nat.le_refl _⟩
        obtain ⟨r1, r2, r3, r4⟩ := hb2
        obtain ⟨o1, o2⟩ := own_kp q1 hvn k3
        have e7'' : AV.vptr c1.pp 0 = .vptr c3.pp 0 := by rw [k3.pp]
        rw [e7''] at e7
        simp -implicitDefEqProofs -dsimp (maxSteps := 1000000) (disch := first | omega | (simp only [wkLen]; omega) | decide +kernel) only [↓wkPre, ↓wkPre2, ↓wkE, wkPost, wkDef, wkF, simprocAttr, nn_v, e0, e1, e2, e7, e8, e9]
        refine loop_use extMono (fun m' e Hc => ∃ (j : Nat), m' = mine.length - j ∧ j ≤ mine.length ∧ e 11 = .p (I j) ∧ B2 mine n j e Hc) ?_ mine.length _ _ ⟨0, rfl, by omega, ?_⟩
        · clear r1 r2 r3 r4 o1 o2 hI3 wf3 hat3 hD hI2 hvn hvl hV q1 q3 q4 q5 vs1 vs2 vs3 k3 k1 hbx hwx hon1 wf1 hI1 hwat hI ga na wf e0 e1 e2 e7 e8 e9 e7' e7''
          rintro m' e G ⟨j, rfl, hj, e11, c, x, v, V, k0, e1, e2, e7, e10, hI, wf, hon, hV, hg, hk0, own, hvn⟩
          have hwx := wf.at (by omega : (0 : Nat) < 5)
          have hbx := wf.bd hwx
          rcases Nat.lt_or_ge j mine.length with hlt | hge
          · have gj := aos_get hlt
            have hnj := hn _ (List.getElem_mem hlt)
            by_cases h100 : 100 < mine[j].val.length
            · have h100' : (100 : Int) < (mine[j].val.length : Int) := by omega
              simp -implicitDefEqProofs -dsimp (maxSteps := 1000000) (disch := first | omega | (simp only [wkLen]; omega) | decide +kernel) only [↓wkPre, ↓wkPre2, ↓wkE, wkPost, wkDef, wkF, simprocAttr, nn_v, e1, e2, e7, e10, e11, hml, gj, h100']
              refine PS.app md_7 Try.func7 p7 rfl ?_
              rintro _ rfl
              simp -implicitDefEqProofs -dsimp (maxSteps := 1000000) (disch := first | omega | (simp only [wkLen]; omega) | decide +kernel) only [↓wkPre, ↓wkPre2, ↓wkE, wkPost, wkDef, wkF, simprocAttr]
            have h100' : ¬ (100 : Int) < (mine[j].val.length : Int) := by omega
            by_cases hk1 : 1 ≤ mine[j].kind
            · by_cases hk5 : mine[j].kind ≤ 5
              · simp -implicitDefEqProofs -dsimp (maxSteps := 1000000) (disch := first | omega | (simp only [wkLen]; omega) | decide +kernel) only [↓wkPre, ↓wkPre2, ↓wkE, wkPost, wkDef, wkF, simprocAttr, nn_v, e1, e2, e7, e10, e11, hml, gj, h100', hk1, hk5]
                refine imp_call md_13 (wDo hI (by omega) wf 0 (by omega) mine[j] hnj _ ?_)
                intro G1 c1 v1 hI1 wf1 k1 _
                obtain ⟨t', ht', hon', hS', ws, hL'⟩ := doF_15 (m := x) (who := 0) hon hk1 hk5
                rw [ht'] at hI1 wf1
                have hat := atS_set wf (by omega : (0 : Nat) < 5) x.M t'
                obtain ⟨o1, o2⟩ := own_kp own hvn k1
                simp -implicitDefEqProofs -dsimp (maxSteps := 1000000) (disch := first | omega | (simp only [wkLen]; omega) | decide +kernel) only [↓wkPre, ↓wkPre2, ↓wkE, wkPost, wkDef, wkF, simprocAttr, nn_v, e1, e2, e7, e10, e11, hml, gj]
                refine ⟨mine.length - (j + 1), by omega, j + 1, rfl, by omega, by push_cast; rfl, c1, ⟨x.M, x.S.set 0 t'⟩, v, V, k0, e1, e2, by rw [k1.pp]; exact e7, e10, hI1, wf1, ?_, ?_, ?_, ?_, o1, o2⟩
                · rw [hat]; exact hon'
                · rw [hat, hL', List.take_append_of_le_length hk0]; exact hV
                · rw [hat, hS']; exact hg
                · rw [hat, hL', List.length_append]; omega
              · simp -implicitDefEqProofs -dsimp (maxSteps := 1000000) (disch := first | omega | (simp only [wkLen]; omega) | decide +kernel) only [↓wkPre, ↓wkPre2, ↓wkE, wkPost, wkDef, wkF, simprocAttr, nn_v, e1, e2, e7, e10, e11, hml, gj, h100', hk1, hk5]
                exact ⟨mine.length - (j + 1), by omega, j + 1, rfl, by omega, by push_cast; rfl, c, x, v, V, k0, e1, e2, e7, e10, hI, wf.le (by omega), hon, hV, hg, hk0, own, hvn⟩
            · simp -implicitDefEqProofs -dsimp (maxSteps := 1000000) (disch := first | omega | (simp only [wkLen]; omega) | decide +kernel) only [↓wkPre, ↓wkPre2, ↓wkE, wkPost, wkDef, wkF, simprocAttr, nn_v, e1, e2, e7, e10, e11, hml, gj, h100', hk1]
              exact ⟨mine.length - (j + 1), by omega, j + 1, rfl, by omega, by push_cast; rfl, c, x, v, V, k0, e1, e2, e7, e10, hI, wf.le (by omega), hon, hV, hg, hk0, own, hvn⟩
          · obtain rfl : j = mine.length := by omega
            simp -implicitDefEqProofs -dsimp (maxSteps := 1000000) (disch := first | omega | (simp only [wkLen]; omega) | decide +kernel) only [↓wkPre, ↓wkPre2, ↓wkE, wkPost, wkDef, wkF, simprocAttr, nn_v, e1, e2, e7, e10, e11, hml]
            refine imp_call md_13 (wDo hI (by omega) wf 0 (by omega) ⟨7, 0, 0, 0, [], ⟨0, 0, 0, 0⟩, n⟩ hin _ ?_)
            intro G3 c3 v3 hI3 wf3 k3 hts
            have hD : doF x (atS x 0) 0 ⟨7, 0, 0, 0, [], ⟨0, 0, 0, 0⟩, n⟩ = (⟨x.M, x.S.set 0 ⟨true, (atS x 0).L.take k0, cutS (atS x 0).S k0⟩⟩, an0) := by
              unfold doF turnF
              rw [if_neg (by dsimp only; omega), if_neg (by rw [hon]; simp), if_pos (by dsimp only; omega), onMi_on hon]
              dsimp only
              rw [if_neg (by decide), if_pos rfl, hg, hon]
            rw [hD] at hI3 wf3 hts ⊢
            dsimp only [an0] at hI3 wf3 hts ⊢
            have hat3 := atS_set wf (by omega : (0 : Nat) < 5) x.M ⟨true, (atS x 0).L.take k0, cutS (atS x 0).S k0⟩
            have hwx3 := wf3.at (by omega : (0 : Nat) < 5)
            rw [hat3] at hwx3
            have hbx3 := wf3.bd hwx3
            obtain ⟨o1, o2⟩ := own_kp own hvn k3
            obtain ⟨vs1, vs2, vs3⟩ := ts_shape hts
            have e7'' : AV.vptr c.pp 0 = .vptr c3.pp 0 := by rw [k3.pp]
            rw [e7''] at e7
            simp -implicitDefEqProofs -dsimp (maxSteps := 1000000) (disch := first | omega | (simp only [wkLen]; omega) | decide +kernel) only [↓wkPre, ↓wkPre2, ↓evC_region_st [23], ↓evC_text_st [23], ↓evC_cond, ↓evC_block, ↓evC_stop [23], wkPost, wkDef, wkF, simprocAttr, nn_v, e1, e2, e7, e10, vs1, vs2, vs3]
            refine stop_st (fun e' G' => ∃ y w, e' 7 = .vptr c3.pp 0 ∧ e' 10 = v ∧ e' 12 = .vptr y 0 ∧ G'[y]? = some (.var true (.agg [.p (I 0), w, .p (I 0)])) ∧ w.isU = false ∧ (∀ i, i < G3.length → G'[i]? = G3[i]?)) ⟨G3.length, v3, e7, e10, rfl, by simp, vs2, fun i hi => hs_app hi⟩ ?_
            clear e1 e2 e7 e10 e11 vs1 vs2 vs3 e
            rintro e G4 ⟨y, w, e7, e10, e12, gy, wu, k4⟩
            have hI4 := hI3.keep fun i hi => k4 i (hI3.lt hi)
            have o4 := o1.keep (H' := G4) fun b hb => k4 b (o1.lt b hb)
            have hVl : V.length ≤ 500 := by rw [← hV]; have := viewF_len x.M ((atS x 0).L.take k0); dsimp only at hbx3; omega
            refine stop_go ?_
            simp -implicitDefEqProofs -dsimp (maxSteps := 1000000) (disch := first | omega | (simp only [wkLen]; omega) | decide +kernel) only [↓wkPre, ↓wkPre2, ↓wkE, wkPost, wkDef, wkF, simprocAttr, nn_v, e7, e10, e12, gy, wu]
            refine imp_call md_16 (w16 hI4 wf3.asc 0 hwx3 (by dsimp only at hbx3 ⊢; omega) _ ?_)
            intro v2 G5 r1 r2 r3 r4 r5
            dsimp only at r1
            rw [hV] at r1
            have o5 := o4.keep (H' := G5) fun b hb => r3 b (o4.lt b hb)
            have gy5 := (r3 _ (lt_of gy)).trans gy
            obtain ⟨vs1, vs2, vs3⟩ := own_shape r1
            obtain ⟨us1, us2, us3⟩ := own_shape o5
            simp -implicitDefEqProofs -dsimp (maxSteps := 1000000) (disch := first | omega | (simp only [wkLen]; omega) | decide +kernel) only [↓wkPre, ↓wkPre2, ↓wkE, wkPost, wkDef, wkF, simprocAttr, nn_v, e7, e10, e12, gy5, wu, vs1, vs2, vs3, us1, us2, us3]
            refine PS.app md_14 Try.func14 (pa := [rcsP V, rcsP V]) (p14 V (by omega)) ?_ ?_
            · show frzL (frzN Try.prog G5 4) [_, _] [27, 27] = _
              exact frz2 (frz_own telem_27 r1) (frz_own telem_27 o5)
            rintro _ rfl
            simp -implicitDefEqProofs -dsimp (maxSteps := 1000000) (disch := first | omega | (simp only [wkLen]; omega) | decide +kernel) only [↓wkPre, ↓wkPre2, ↓wkE, wkPost, wkDef, wkF, simprocAttr, nn_v, e7, e10, e12]
            refine PS.app md_7 Try.func7 p7 rfl ?_
            rintro _ rfl
            simp -implicitDefEqProofs -dsimp (maxSteps := 1000000) (disch := first | omega | (simp only [wkLen]; omega) | decide +kernel) only [↓wkPre, ↓wkPre2, ↓wkE, wkPost, wkDef, wkF, simprocAttr]
        · simp -implicitDefEqProofs -dsimp (maxSteps := 1000000) (disch := first | omega | (simp only [wkLen]; omega) | decide +kernel) only [↓wkPre, ↓wkPre2, ↓wkE, wkPost, wkDef, wkF, simprocAttr]
          exact ⟨c3, _, v, V, (atS x1 0).L.length, e1, e2, e7, rfl, hI3, wf3.le (by omega), r1, r2, r3, r4, o1, o2⟩
    · simp -implicitDefEqProofs -dsimp (maxSteps := 1000000) (disch := first | omega | (simp only [wkLen]; omega) | decide +kernel) only [↓wkPre, ↓wkPre2, ↓wkE, wkPost, wkDef, wkF, simprocAttr]
      exact ⟨c, m0, H.length, rfl, rfl, rfl, rfl, rfl, hI.keep fun i hi => hs_app (hI.lt hi), by simp, fun hm => by have := hI.lt hm; omega, Wfm.new⟩
theorem lawFlatBack : ∀ xs, Tyas [(0, [Ty.sl 12 (.int .i64 :: .int .u8 :: aoT)]), (0, [Ty.sl 10 aoT]), (0, [Ty.int .i64])] xs → (W Cf okf).call 5 (xs.map AV.p) [] fun v _ => v = .p (.bool true) := by
  intro xs h
  simp only [Tyas] at h
  obtain ⟨x1, r1, rfl, h1, x2, r2, rfl, h2, x3, r3, rfl, h3, rfl⟩ := h
  have h1 := Tya_one h1
  have h2 := Tya_one h2
  have h3 := Tya_one h3
  simp only [Tyd] at h1 h2 h3
  obtain ⟨ys, rfl, _, h6⟩ := h1
  obtain ⟨zs, rfl, _, h7⟩ := h2
  obtain ⟨n, rfl, h8⟩ := h3
  obtain ⟨l, hl, rfl⟩ := sts_list h6
  obtain ⟨mine, hm, rfl⟩ := aos_list h7
  exact law5 l mine n hl hm h8
end Go.Ev.F34
end
