/- A part of the proof: walks of the functions that the law calls. No condition. -/
import Derived.Test.YtkabheeblnooaaaLawE
set_option linter.all false
section
namespace Go.Ev.F28
open Go.Proofs Go.Ev
set_option maxRecDepth 100000
set_option linter.all false
theorem held_ok {m : Md} (hw : m.wf) {n : Int} (h : ∃ f ∈ m.L, f.n = n ∧ 1 ≤ f.k) : ∃ i, ∃ hi : i < m.L.length, findF m.L n = some i ∧ m.L[i].k ≠ 0 := by
  obtain ⟨f, hf, rfl, hk⟩ := h
  obtain ⟨i, hi, rfl⟩ := List.mem_iff_getElem.1 hf
  exact ⟨i, hi, find_mem hw.nd hi, by omega⟩
theorem putF_held {m : Md} (hw : m.wf) {n : Int} (b : UInt8) (h : ∃ f ∈ m.L, f.n = n ∧ 1 ≤ f.k) : (putF m n b).2 = 0 ∧ ∃ f ∈ (putF m n b).1.L, f.n = n ∧ 1 ≤ f.k := by
  obtain ⟨i, hi, hf, hk⟩ := held_ok hw h
  rw [putF_some hf hi, if_neg hk]
  refine ⟨rfl, { m.L[i] with b := b, d := m.L[i].d || !(decide (m.L[i].b = b)) }, ?_, (findF_some hf).2, ?_⟩
  · dsimp only
    rw [lastL]; exact List.mem_append_right _ (List.mem_singleton.2 rfl)
  · show 1 ≤ m.L[i].k
    omega
theorem unpinF_held {m : Md} (hw : m.wf) {n : Int} (h : ∃ f ∈ m.L, f.n = n ∧ 1 ≤ f.k) : (unpinF m n).2 = 0 := by
  obtain ⟨i, hi, hf, hk⟩ := held_ok hw h
  rw [unpinF_some hf hi, if_neg hk]
theorem withF_code {m : Md} (hw : m.wf) (n : Int) (g : UInt8 → UInt8) : (withF m n g).2 = (pinF m n).2.2 := by
  obtain ⟨a1, a2, a3⟩ := pinF_ok hw n
  unfold withF
  by_cases hc : (pinF m n).2.2 = 0
  · rw [if_neg (by simpa using hc), hc]
    obtain ⟨b1, b2⟩ := putF_held a1 (g (pinF m n).2.1) (a3 hc).2
    exact unpinF_held (putF_ok a1 _ _).1 b2
  · rw [if_pos hc]
theorem withF_ok {m : Md} (hw : m.wf) (n : Int) (g : UInt8 → UInt8) : (withF m n g).1.wf ∧ ((withF m n g).2 = 0 → ∃ b, see m n = some b ∧ ∀ j, 0 ≤ j → see (withF m n g).1 j = if j = n then some (g b) else see m j) ∧ ((withF m n g).2 ≠ 0 → ∀ j, 0 ≤ j → see (withF m n g).1 j = see m j) := by
  have hcode := withF_code hw n g
  obtain ⟨a1, a2, a3⟩ := pinF_ok hw n
  rw [hcode]
  unfold withF
  by_cases hc : (pinF m n).2.2 = 0
  · rw [if_neg (by simpa using hc)]
    obtain ⟨b1, b2⟩ := putF_held a1 (g (pinF m n).2.1) (a3 hc).2
    obtain ⟨c1, c2, _⟩ := putF_ok a1 n (g (pinF m n).2.1)
    obtain ⟨d1, d2⟩ := unpinF_ok c1 n
    refine ⟨d1, fun _ => ⟨_, (a3 hc).1, fun j hj => ?_⟩, fun h => absurd hc h⟩
    rw [d2 j hj, c2 b1 j hj]
    split
    · rfl
    · exact a2 j hj
  · rw [if_pos hc]
    exact ⟨a1, fun h => absurd h hc, fun _ => a2⟩
theorem dirty_no {m : Md} (h : ∀ f ∈ m.L, f.d = false) (n : Int) : dirtyF m n = false := by
  unfold dirtyF
  split
  · rfl
  · rename_i i hf
    obtain ⟨hi, _⟩ := findF_some hf
    rw [List.getD_eq_getElem?_getD, List.getElem?_eq_getElem hi]
    exact h _ (List.getElem_mem hi)
theorem see_new (room k : Nat) (j : Int) : see ⟨room, [], W0 k, 0, 0⟩ j = (W0 k)[j.toNat]? := rfl
set_option maxHeartbeats 2000000 in
theorem law4 (rg pg : Nat) (hr : rg < 256) (hp : pg < 256) (l : List Op3) : (Ev.W Cf okf).call 4 [.p (.int .u8 rg), .p (.int .u8 pg), .p (.sl 3 (opsP l))] [] fun v _ => v = .p (.bool true) := by
  refine top_mk extMono Try.func4 body4 (by decide) rfl ?_
  simp only [c4, Try.f4, Option.getD_some]
  have hl := opsP_len l
  by_cases h100 : 100 < l.length
  · simp -implicitDefEqProofs -dsimp (maxSteps := 1000000) (disch := first | omega | (simp only [wkLen]; omega) | decide +kernel) only [↓wkPre, ↓wkPre2, ↓wkE, wkPost, wkDef, wkF, simprocAttr, hl, h100]
    refine PS.app md_6 Try.func6 p6 rfl ?_
    rintro _ rfl
    simp -implicitDefEqProofs -dsimp (maxSteps := 1000000) (disch := first | omega | (simp only [wkLen]; omega) | decide +kernel) only [↓wkPre, ↓wkPre2, ↓wkE, wkPost, wkDef, wkF, simprocAttr]
  · simp -implicitDefEqProofs -dsimp (maxSteps := 1000000) (disch := first | omega | (simp only [wkLen]; omega) | decide +kernel) only [↓wkPre, ↓wkPre2, ↓wkE, wkPost, wkDef, wkF, simprocAttr, hl, h100]
    rw [show (1 + (rg : Int) % 6) = ((1 + rg % 6 : Nat) : Int) by push_cast; rfl, show (1 + (pg : Int) % 9) = ((1 + pg % 9 : Nat) : Int) by push_cast; rfl]
    have hk1 : 1 ≤ 1 + pg % 9 := by omega
    have hk2 : 1 + pg % 9 ≤ 9 := by omega
    have hr1 : 1 ≤ 1 + rg % 6 := by omega
    have hr2 : 1 + rg % 6 ≤ 6 := by omega
    generalize 1 + pg % 9 = k at *
    generalize 1 + rg % 6 = room at *
    refine imp_call md_7 (w7 room k (by omega) (by omega) (by omega) (by omega) _ (fun H0 c hI0 => ?_))
    have hwf0 : Md.wf ⟨room, [], W0 k, 0, 0⟩ := ⟨List.nodup_nil, (fun f h => by cases h), (fun f h => by cases h)⟩
    have hbd0 : Bd ⟨room, [], W0 k, 0, 0⟩ 0 := ⟨Nat.le_refl _, Nat.le_refl _, fun f h => by cases h⟩
    obtain ⟨g0, b0, b0'⟩ := hI0.ben
    dsimp only at b0 b0'
    rw [W0_len] at b0
    simp -implicitDefEqProofs -dsimp (maxSteps := 1000000) (disch := first | omega | (simp only [wkLen]; omega) | decide +kernel) only [↓wkPre, ↓wkPre2, ↓wkE, wkPost, wkDef, wkF, simprocAttr, b0, nn_v, nn_fn, List.length_map, pgL_len, allP_map, take_pg, take_pgm, get0, get1, get2, getm0, getm1, getm2, get00, getm00, setm0, setm1, setm2, setm00, setR_pg, setR_pg1, flat_pg, flatL_app, eq_pg]
    have hW0 : (pgs (W0 k)).length = k := by rw [pgs_len, W0_len]
    refine append_any telem_29 (ys := pgs (W0 k)) (xs := []) (by simp [elems, b0', hW0, List.take_of_length_le]) (OwnS.nil _ _) (by rw [byt_40, hW0]; simp; omega) ?_
    intro v H1 hown hfr hle hb
    rw [List.nil_append] at hown
    rcases hown with ⟨rfl, hx⟩ | ⟨bw, gw, rfl, hbw⟩
    · have := congrArg List.length hx
      rw [hW0, List.length_nil] at this; omega
    rw [hW0]
    have hI1 := hI0.keep (fun i hi => hfr i (hI0.lt i hi) (by simp [AV.blk]))
    have hbwf : bw ∉ Foot c [] := fun h => by
      by_cases h2 : bw < H0.length
      · have := hb bw rfl h2; simp [AV.blk] at this
      · have := hI0.lt _ h; omega
    simp -implicitDefEqProofs -dsimp (maxSteps := 1000000) (disch := first | omega | (simp only [wkLen]; omega) | decide +kernel) only [↓wkPre, ↓wkPre2, ↓wkE, wkPost, wkDef, wkF, simprocAttr, nn_v, nn_fn, List.length_map, pgL_len, allP_map, take_pg, take_pgm, get0, get1, get2, getm0, getm1, getm2, get00, getm00, setm0, setm1, setm2, setm00, setR_pg, setR_pg1, flat_pg, flatL_app, eq_pg]
    refine loop_use extMono (fun m' e Hc => ∃ (i : Nat) (m : Md) (X : List Fx) (t w : Nat) (wt : List UInt8), m' = l.length - i ∧ i ≤ l.length ∧ e 2 = .p (.sl 3 (opsP l)) ∧ e 8 = .p (I k) ∧ e 9 = .vptr c.pp 0 ∧ e 10 = .vptr c.bb 0 ∧ e 11 = .ref bw gw 0 k false ∧ e 12 = .p (I i) ∧ Inv Hc c m X t w ∧ m.wf ∧ Bd m i ∧ t ≤ 2 * i ∧ w ≤ i ∧ m.room = room ∧ m.W.length = k ∧
      Hc[bw]? = some (.arr true gw 224 (pgs wt)) ∧ bw ∉ Foot c X ∧ wt.length = k ∧ ∀ j, j < k → see m j = wt[j]?) ?_ l.length _ _ ⟨0, ⟨room, [], W0 k, 0, 0⟩, [], 0, 0, W0 k, rfl, by omega, ?_⟩
    · rintro m' e Hc ⟨i, m, X, t, w, wt, rfl, hi, e2, e8, e9, e10, e11, e12, hI, hwf, hbd, ht, hw, hroom, hWk, hbt, hbf, hwl, hsee⟩
      have hpl := pgs_len wt
      rcases Nat.lt_or_ge i l.length with hlt | hge
      · have gi := opsP_get hlt
        generalize l[i] = o at gi
        obtain ⟨ok, on, ob⟩ := o
        have hG := hI.app [.var true (.p (opP ok on ob))]
        have kG : (Hc ++ [Blk.var true (.p (opP ok on ob))])[Hc.length]? = some (.var true (.p (opP ok on ob))) := by simp
        have hbl := (List.getElem?_eq_some_iff.1 hbt).1
        have hbG : (Hc ++ [Blk.var true (.p (opP ok on ob))])[bw]? = some (.arr true gw 224 (pgs wt)) := (hs_app hbl).trans hbt
        have hfo : Hc.length ∉ Foot c X := fun h => by have := hI.lt _ h; omega
        by_cases hin : on < 0 ∨ (k : Int) ≤ on
        · by_cases h0 : on < 0
          · simp -implicitDefEqProofs -dsimp (maxSteps := 1000000) (disch := first | omega | (simp only [wkLen]; omega) | decide +kernel) only [↓wkPre, ↓wkPre2, ↓wkE, wkPost, wkDef, wkF, simprocAttr, e2, e8, e9, e10, e11, e12, hl, gi, h0, nn_v, nn_fn, List.length_map, pgL_len, allP_map, take_pg, take_pgm, get0, get1, get2, getm0, getm1, getm2, get00, getm00, setm0, setm1, setm2, setm00, setR_pg, setR_pg1, flat_pg, flatL_app, eq_pg]
            exact ⟨l.length - (i + 1), by omega, i + 1, m, X, t, w, wt, rfl, by omega, by push_cast; rfl, hG, hwf, hbd.mono (by omega), by omega, by omega, hroom, hWk, hbt, hbf, hwl, hsee⟩
          · simp -implicitDefEqProofs -dsimp (maxSteps := 1000000) (disch := first | omega | (simp only [wkLen]; omega) | decide +kernel) only [↓wkPre, ↓wkPre2, ↓wkE, wkPost, wkDef, wkF, simprocAttr, e2, e8, e9, e10, e11, e12, hl, gi, h0, nn_v, nn_fn, List.length_map, pgL_len, allP_map, take_pg, take_pgm, get0, get1, get2, getm0, getm1, getm2, get00, getm00, setm0, setm1, setm2, setm00, setR_pg, setR_pg1, flat_pg, flatL_app, eq_pg]
            exact ⟨l.length - (i + 1), by omega, i + 1, m, X, t, w, wt, rfl, by omega, by push_cast; rfl, hG, hwf, hbd.mono (by omega), by omega, by omega, hroom, hWk, hbt, hbf, hwl, hsee⟩
        · obtain ⟨on, rfl⟩ : ∃ q : Nat, on = q := ⟨on.toNat, by omega⟩
          have hok : on < k := by omega
          have gw2 := pgs_get (W := wt) (i := on) (by omega)
          have hsn := hsee on hok
          rw [List.getElem?_eq_getElem (by omega)] at hsn
          generalize hG2 : Hc ++ [Blk.var true (.p (opP ok on ob))] = G at hG kG hbG
          have hG3 : Hc ++ [Blk.var true (.p (.agg [I ok, I on, .int .u8 ob.toNat]))] = G := hG2
          have hbwne : bw ≠ Hc.length := by omega
          by_cases hk0 : ok = 0
          · subst hk0
            simp -implicitDefEqProofs -dsimp (maxSteps := 1000000) (disch := first | omega | (simp only [wkLen]; omega) | decide +kernel) only [↓wkPre, ↓wkPre2, ↓wkE, wkPost, wkDef, wkF, simprocAttr, e2, e8, e9, e10, e11, e12, hl, gi, hG3, kG, nn_v, nn_fn, List.length_map, pgL_len, allP_map, take_pg, take_pgm, get0, get1, get2, getm0, getm1, getm2, get00, getm00, setm0, setm1, setm2, setm00, setR_pg, setR_pg1, flat_pg, flatL_app, eq_pg]
            refine imp_call md_10 (w10 hG on (by omega) (by omega) (by have := hbd.met; omega) (by have := hbd.miss; omega) (fun f hf => by have := hbd.k f hf; omega) _ ?_)
            intro H3 X3 t3 w3 hI3 ht3 hw3 hK3
            have hpo := pinF_ok hwf on
            have hpb := pinF_bd hbd on
            have hps := pinF_sh m on
            have hpw := pinW_le m on
            generalize pinF m on = P at *
            obtain ⟨m3, b3, c3⟩ := P
            dsimp only at *
            obtain ⟨hbt3, hbf3⟩ := hK3.track hbG hbf
            obtain ⟨kG3, _⟩ := hK3.track kG hfo
            have hbt4 : ∀ l : Heap, (H3 ++ l)[bw]? = some (.arr true gw 224 (pgs wt)) := fun l => (hs_app (List.getElem?_eq_some_iff.1 hbt3).1).trans hbt3
            have kG4 : ∀ l : Heap, (H3 ++ l)[Hc.length]? = some (.var true (.p (opP 0 on ob))) := fun l => (hs_app (List.getElem?_eq_some_iff.1 kG3).1).trans kG3
            have hfin : ∀ b, l.length - (i + 1) < l.length - i ∧ Inv (H3 ++ [Blk.var true (.p (pgP b))]) c m3 X3 t3 w3 ∧ ∀ j, j < k → see m3 j = wt[j]? := fun b => ⟨by omega, hI3.app _, fun j hj => (hpo.2.1 j (by omega)).trans (hsee j hj)⟩
            by_cases h6 : c3 = 0
            · subst h6
              have hbe : wt[on] = b3 := by
                have := (hpo.2.2 rfl).1
                rw [hsn] at this; exact Option.some.inj this
              rw [hbe] at gw2
              simp -implicitDefEqProofs -dsimp (maxSteps := 1000000) (disch := first | omega | (simp only [wkLen]; omega) | decide +kernel) only [↓wkPre, ↓wkPre2, ↓wkE, wkPost, wkDef, wkF, simprocAttr, e2, e8, e9, e10, e11, e12, kG4, hbt4, gw2, hpl, hwl, nn_v, nn_fn, List.length_map, pgL_len, allP_map, take_pg, take_pgm, get0, get1, get2, getm0, getm1, getm2, get00, getm00, setm0, setm1, setm2, setm00, setR_pg, setR_pg1, flat_pg, flatL_app, eq_pg]
              exact ⟨l.length - (i + 1), (hfin b3).1, i + 1, m3, X3, t3, w3, wt, rfl, by omega, by push_cast; rfl, (hfin b3).2.1, hpo.1, hpb, by omega, by omega, hps.1.trans hroom, hps.2.trans hWk, rfl, hbf3, hwl, (hfin b3).2.2⟩
            · have h6' : ((c3 : Int) == 0) = false := by simp; omega
              simp -implicitDefEqProofs -dsimp (maxSteps := 1000000) (disch := first | omega | (simp only [wkLen]; omega) | decide +kernel) only [↓wkPre, ↓wkPre2, ↓wkE, wkPost, wkDef, wkF, simprocAttr, e2, e8, e9, e10, e11, e12, kG4, hbt4, h6, h6', nn_v, nn_fn, List.length_map, pgL_len, allP_map, take_pg, take_pgm, get0, get1, get2, getm0, getm1, getm2, get00, getm00, setm0, setm1, setm2, setm00, setR_pg, setR_pg1, flat_pg, flatL_app, eq_pg]
              exact ⟨l.length - (i + 1), (hfin b3).1, i + 1, m3, X3, t3, w3, wt, rfl, by omega, by push_cast; rfl, (hfin b3).2.1, hpo.1, hpb, by omega, by omega, hps.1.trans hroom, hps.2.trans hWk, rfl, hbf3, hwl, (hfin b3).2.2⟩
          · by_cases hk1 : ok = 1
            · subst hk1
              simp -implicitDefEqProofs -dsimp (maxSteps := 1000000) (disch := first | omega | (simp only [wkLen]; omega) | decide +kernel) only [↓wkPre, ↓wkPre2, ↓wkE, wkPost, wkDef, wkF, simprocAttr, e2, e8, e9, e10, e11, e12, hl, gi, hG3, kG, nn_v, nn_fn, List.length_map, pgL_len, allP_map, take_pg, take_pgm, get0, get1, get2, getm0, getm1, getm2, get00, getm00, setm0, setm1, setm2, setm00, setR_pg, setR_pg1, flat_pg, flatL_app, eq_pg]
              refine imp_call md_10 (w10 hG on (by omega) (by omega) (by have := hbd.met; omega) (by have := hbd.miss; omega) (fun f hf => by have := hbd.k f hf; omega) _ ?_)
              intro H3 X3 t3 w3 hI3 ht3 hw3 hK3
              have hpo := pinF_ok hwf on
              have hpb := pinF_bd hbd on
              have hps := pinF_sh m on
              have hpw := pinW_le m on
              generalize pinF m on = P at *
              obtain ⟨m3, b3, c3⟩ := P
              dsimp only at *
              obtain ⟨hbt3, hbf3⟩ := hK3.track hbG hbf
              obtain ⟨kG3, _⟩ := hK3.track kG hfo
              have hbt4 : ∀ l : Heap, (H3 ++ l)[bw]? = some (.arr true gw 224 (pgs wt)) := fun l => (hs_app (List.getElem?_eq_some_iff.1 hbt3).1).trans hbt3
              have kG4 : ∀ l : Heap, (H3 ++ l)[Hc.length]? = some (.var true (.p (opP 1 on ob))) := fun l => (hs_app (List.getElem?_eq_some_iff.1 kG3).1).trans kG3
              have hfin : ∀ b, l.length - (i + 1) < l.length - i ∧ Inv (H3 ++ [Blk.var true (.p (pgP b))]) c m3 X3 t3 w3 ∧ ∀ j, j < k → see m3 j = wt[j]? := fun b => ⟨by omega, hI3.app _, fun j hj => (hpo.2.1 j (by omega)).trans (hsee j hj)⟩
              by_cases h6 : c3 = 0
              · subst h6
                have hbe : wt[on] = b3 := by
                  have := (hpo.2.2 rfl).1
                  rw [hsn] at this; exact Option.some.inj this
                rw [hbe] at gw2
                simp -implicitDefEqProofs -dsimp (maxSteps := 1000000) (disch := first | omega | (simp only [wkLen]; omega) | decide +kernel) only [↓wkPre, ↓wkPre2, ↓wkE, wkPost, wkDef, wkF, simprocAttr, e2, e8, e9, e10, e11, e12, kG4, hbt4, gw2, hpl, hwl, nn_v, nn_fn, List.length_map, pgL_len, allP_map, take_pg, take_pgm, get0, get1, get2, getm0, getm1, getm2, get00, getm00, setm0, setm1, setm2, setm00, setR_pg, setR_pg1, flat_pg, flatL_app, eq_pg]
                exact ⟨l.length - (i + 1), (hfin b3).1, i + 1, m3, X3, t3, w3, wt, rfl, by omega, by push_cast; rfl, (hfin b3).2.1, hpo.1, hpb, by omega, by omega, hps.1.trans hroom, hps.2.trans hWk, rfl, hbf3, hwl, (hfin b3).2.2⟩
              · have h6' : ((c3 : Int) == 0) = false := by simp; omega
                simp -implicitDefEqProofs -dsimp (maxSteps := 1000000) (disch := first | omega | (simp only [wkLen]; omega) | decide +kernel) only [↓wkPre, ↓wkPre2, ↓wkE, wkPost, wkDef, wkF, simprocAttr, e2, e8, e9, e10, e11, e12, kG4, hbt4, h6, h6', nn_v, nn_fn, List.length_map, pgL_len, allP_map, take_pg, take_pgm, get0, get1, get2, getm0, getm1, getm2, get00, getm00, setm0, setm1, setm2, setm00, setR_pg, setR_pg1, flat_pg, flatL_app, eq_pg]
                exact ⟨l.length - (i + 1), (hfin b3).1, i + 1, m3, X3, t3, w3, wt, rfl, by omega, by push_cast; rfl, (hfin b3).2.1, hpo.1, hpb, by omega, by omega, hps.1.trans hroom, hps.2.trans hWk, rfl, hbf3, hwl, (hfin b3).2.2⟩
            · by_cases hk2 : ok = 2
              · subst hk2
                simp -implicitDefEqProofs -dsimp (maxSteps := 1000000) (disch := first | omega | (simp only [wkLen]; omega) | decide +kernel) only [↓wkPre, ↓wkPre2, ↓wkE, wkPost, wkDef, wkF, simprocAttr, e2, e8, e9, e10, e11, e12, hl, gi, hG3, kG, nn_v, nn_fn, List.length_map, pgL_len, allP_map, take_pg, take_pgm, get0, get1, get2, getm0, getm1, getm2, get00, getm00, setm0, setm1, setm2, setm00, setR_pg, setR_pg1, flat_pg, flatL_app, eq_pg]
                refine imp_call md_10 (w10 hG on (by omega) (by omega) (by have := hbd.met; omega) (by have := hbd.miss; omega) (fun f hf => by have := hbd.k f hf; omega) _ ?_)
                intro H3 X3 t3 w3 hI3 ht3 hw3 hK3
                have hpo := pinF_ok hwf on
                have hpb := pinF_bd hbd on
                have hps := pinF_sh m on
                have hpw := pinW_le m on
                generalize pinF m on = P at *
                obtain ⟨m3, b3, c3⟩ := P
                dsimp only at *
                obtain ⟨hbt3, hbf3⟩ := hK3.track hbG hbf
                obtain ⟨kG3, _⟩ := hK3.track kG hfo
                have hbt4 : ∀ l : Heap, (H3 ++ l)[bw]? = some (.arr true gw 224 (pgs wt)) := fun l => (hs_app (List.getElem?_eq_some_iff.1 hbt3).1).trans hbt3
                have kG4 : ∀ l : Heap, (H3 ++ l)[Hc.length]? = some (.var true (.p (opP 2 on ob))) := fun l => (hs_app (List.getElem?_eq_some_iff.1 kG3).1).trans kG3
                have hfin : ∀ b, l.length - (i + 1) < l.length - i ∧ Inv (H3 ++ [Blk.var true (.p (pgP b))]) c m3 X3 t3 w3 ∧ ∀ j, j < k → see m3 j = wt[j]? := fun b => ⟨by omega, hI3.app _, fun j hj => (hpo.2.1 j (by omega)).trans (hsee j hj)⟩
                by_cases h6 : c3 = 0
                · subst h6
                  have hbe : wt[on] = b3 := by
                    have := (hpo.2.2 rfl).1
                    rw [hsn] at this; exact Option.some.inj this
                  rw [hbe] at gw2
                  simp -implicitDefEqProofs -dsimp (maxSteps := 1000000) (disch := first | omega | (simp only [wkLen]; omega) | decide +kernel) only [↓wkPre, ↓wkPre2, ↓wkE, wkPost, wkDef, wkF, simprocAttr, e2, e8, e9, e10, e11, e12, kG4, hbt4, gw2, hpl, hwl, nn_v, nn_fn, List.length_map, pgL_len, allP_map, take_pg, take_pgm, get0, get1, get2, getm0, getm1, getm2, get00, getm00, setm0, setm1, setm2, setm00, setR_pg, setR_pg1, flat_pg, flatL_app, eq_pg]
                  exact ⟨l.length - (i + 1), (hfin b3).1, i + 1, m3, X3, t3, w3, wt, rfl, by omega, by push_cast; rfl, (hfin b3).2.1, hpo.1, hpb, by omega, by omega, hps.1.trans hroom, hps.2.trans hWk, rfl, hbf3, hwl, (hfin b3).2.2⟩
                · have h6' : ((c3 : Int) == 0) = false := by simp; omega
                  simp -implicitDefEqProofs -dsimp (maxSteps := 1000000) (disch := first | omega | (simp only [wkLen]; omega) | decide +kernel) only [↓wkPre, ↓wkPre2, ↓wkE, wkPost, wkDef, wkF, simprocAttr, e2, e8, e9, e10, e11, e12, kG4, hbt4, h6, h6', nn_v, nn_fn, List.length_map, pgL_len, allP_map, take_pg, take_pgm, get0, get1, get2, getm0, getm1, getm2, get00, getm00, setm0, setm1, setm2, setm00, setR_pg, setR_pg1, flat_pg, flatL_app, eq_pg]
                  exact ⟨l.length - (i + 1), (hfin b3).1, i + 1, m3, X3, t3, w3, wt, rfl, by omega, by push_cast; rfl, (hfin b3).2.1, hpo.1, hpb, by omega, by omega, hps.1.trans hroom, hps.2.trans hWk, rfl, hbf3, hwl, (hfin b3).2.2⟩
              · by_cases hk4 : ok = 4
                · subst hk4
                  simp -implicitDefEqProofs -dsimp (maxSteps := 1000000) (disch := first | omega | (simp only [wkLen]; omega) | decide +kernel) only [↓wkPre, ↓wkPre2, ↓wkE, wkPost, wkDef, wkF, simprocAttr, e2, e8, e9, e10, e11, e12, hl, gi, hG3, kG, hk0, hk1, hk2, nn_v, nn_fn, List.length_map, pgL_len, allP_map, take_pg, take_pgm, get0, get1, get2, getm0, getm1, getm2, get00, getm00, setm0, setm1, setm2, setm00, setR_pg, setR_pg1, flat_pg, flatL_app, eq_pg]
                  refine evC_pl pl_4_23 (by kernel_rfl) (by decide +kernel) ?_
                  simp only [pl_4_23]
                  simp -implicitDefEqProofs -dsimp (maxSteps := 1000000) (disch := first | omega | (simp only [wkLen]; omega) | decide +kernel) only [↓wkPre, ↓wkPre2, ↓wkE, wkPost, wkDef, wkF, simprocAttr, e2, e8, e9, e10, e11, e12, kG, nn_v, nn_fn, List.length_map, pgL_len, allP_map, take_pg, take_pgm, get0, get1, get2, getm0, getm1, getm2, get00, getm00, setm0, setm1, setm2, setm00, setR_pg, setR_pg1, flat_pg, flatL_app, eq_pg]
                  refine PS.app md_12 Try.func12 (p12 ob) rfl ?_
                  rintro _ rfl
                  simp -implicitDefEqProofs -dsimp (maxSteps := 1000000) (disch := first | omega | (simp only [wkLen]; omega) | decide +kernel) only [↓wkPre, ↓wkPre2, ↓wkE, wkPost, wkDef, wkF, simprocAttr, e2, e8, e9, e10, e11, e12, kG, nn_v, nn_fn, List.length_map, pgL_len, allP_map, take_pg, take_pgm, get0, get1, get2, getm0, getm1, getm2, get00, getm00, setm0, setm1, setm2, setm00, setR_pg, setR_pg1, flat_pg, flatL_app, eq_pg]
                  refine imp_call md_11 (w11 hG on ob (by omega) _ ?_)
                  intro H3 X3 t3 hI3 ht3 hK3
                  have hpo := putF_ok hwf on ob
                  have hpb := putF_bd hbd on ob
                  have hps := putF_sh m on ob
                  generalize putF m on ob = P at *
                  obtain ⟨m3, c3⟩ := P
                  dsimp only at *
                  obtain ⟨hbt3, hbf3⟩ := hK3.track hbG hbf
                  obtain ⟨kG3, _⟩ := hK3.track kG hfo
                  have hbl3 := (List.getElem?_eq_some_iff.1 hbt3).1
                  by_cases h6 : c3 = 0
                  · subst h6
                    simp -implicitDefEqProofs -dsimp (maxSteps := 1000000) (disch := first | omega | (simp only [wkLen]; omega) | decide +kernel) only [↓wkPre, ↓wkPre2, ↓wkE, wkPost, wkDef, wkF, simprocAttr, e2, e8, e9, e10, e11, e12, kG3, hbt3, nn_v, nn_fn, List.length_map, pgL_len, allP_map, take_pg, take_pgm, get0, get1, get2, getm0, getm1, getm2, get00, getm00, setm0, setm1, setm2, setm00, setR_pg, setR_pg1, flat_pg, flatL_app, eq_pg]
                    refine evC_pl pl_4_24 (by kernel_rfl) (by decide +kernel) ?_
                    simp only [pl_4_24]
                    simp -implicitDefEqProofs -dsimp (maxSteps := 1000000) (disch := first | omega | (simp only [wkLen]; omega) | decide +kernel) only [↓wkPre, ↓wkPre2, ↓wkE, wkPost, wkDef, wkF, simprocAttr, e2, e8, e9, e10, e11, e12, kG3, hbt3, nn_v, nn_fn, List.length_map, pgL_len, allP_map, take_pg, take_pgm, get0, get1, get2, getm0, getm1, getm2, get00, getm00, setm0, setm1, setm2, setm00, setR_pg, setR_pg1, flat_pg, flatL_app, eq_pg]
                    refine PS.app md_12 Try.func12 (p12 ob) rfl ?_
                    rintro _ rfl
                    simp -implicitDefEqProofs -dsimp (maxSteps := 1000000) (disch := first | omega | (simp only [wkLen]; omega) | decide +kernel) only [↓wkPre, ↓wkPre2, ↓wkE, wkPost, wkDef, wkF, simprocAttr, e2, e8, e9, e10, e11, e12, kG3, hbt3, gw2, hpl, hwl, nn_v, nn_fn, List.length_map, pgL_len, allP_map, take_pg, take_pgm, get0, get1, get2, getm0, getm1, getm2, get00, getm00, setm0, setm1, setm2, setm00, setR_pg, setR_pg1, flat_pg, flatL_app, eq_pg]
                    refine ⟨l.length - (i + 1), by omega, i + 1, m3, X3, t3, w, wt.set on ob, rfl, by omega, by push_cast; rfl, hI3.set hbf3, hpo.1, hpb.mono (by omega), by omega, by omega, hps.1.trans hroom, hps.2.trans hWk, ?_, hbf3, by simp [hwl], fun j hj => ?_⟩
                    · simp [pgs, List.map_set]
                    · rw [hpo.2.1 rfl j (by omega), List.getElem?_set]
                      by_cases hjo : j = on
                      · subst hjo; simp; omega
                      · rw [if_neg (by omega), if_neg (by omega)]; exact hsee j hj
                  · have h6' : ((c3 : Int) == 0) = false := by simp; omega
                    have hm3 := hpo.2.2 h6
                    subst hm3
                    simp -implicitDefEqProofs -dsimp (maxSteps := 1000000) (disch := first | omega | (simp only [wkLen]; omega) | decide +kernel) only [↓wkPre, ↓wkPre2, ↓wkE, wkPost, wkDef, wkF, simprocAttr, e2, e8, e9, e10, e11, e12, kG3, hbt3, h6, h6', nn_v, nn_fn, List.length_map, pgL_len, allP_map, take_pg, take_pgm, get0, get1, get2, getm0, getm1, getm2, get00, getm00, setm0, setm1, setm2, setm00, setR_pg, setR_pg1, flat_pg, flatL_app, eq_pg]
                    exact ⟨l.length - (i + 1), by omega, i + 1, m3, X3, t3, w, wt, rfl, by omega, by push_cast; rfl, hI3, hwf, hbd.mono (by omega), by omega, by omega, hroom, hWk, rfl, hbf3, hwl, hsee⟩
                · by_cases hk7 : ok = 7
                  · subst hk7
                    simp -implicitDefEqProofs -dsimp (maxSteps := 1000000) (disch := first | omega | (simp only [wkLen]; omega) | decide +kernel) only [↓wkPre, ↓wkPre2, ↓wkE, wkPost, wkDef, wkF, simprocAttr, e2, e8, e9, e10, e11, e12, hl, gi, hG3, kG, hk0, hk1, hk2, hk4, nn_v, nn_fn, List.length_map, pgL_len, allP_map, take_pg, take_pgm, get0, get1, get2, getm0, getm1, getm2, get00, getm00, setm0, setm1, setm2, setm00, setR_pg, setR_pg1, flat_pg, flatL_app, eq_pg]
                    refine imp_call md_13 (w13 hG on 14 [.vptr Hc.length 0] (fun b => b + ob) md_14 (fun b H2 k hle hsm hk => w14 H2 b Hc.length 7 on ob ((hsm _ (List.getElem?_eq_some_iff.1 kG).1 hfo).trans kG) k hk) (by omega) (by omega) (by have := hbd.met; omega) (by have := hbd.miss; omega) (fun f hf => by have := hbd.k f hf; omega) _ ?_)
                    intro H3 X3 t3 w3 hI3 ht3 hw3 hK3
                    have hpo := withF_ok hwf on (fun b => b + ob)
                    have hpb := withF_bd hbd on (fun b => b + ob)
                    have hps := withF_sh m on (fun b => b + ob)
                    have hpw := pinW_le m on
                    generalize withF m on (fun b => b + ob) = P at *
                    obtain ⟨m3, c3⟩ := P
                    dsimp only at *
                    obtain ⟨hbt3, hbf3⟩ := hK3.track hbG hbf
                    obtain ⟨kG3, _⟩ := hK3.track kG hfo
                    have hbl3 := (List.getElem?_eq_some_iff.1 hbt3).1
                    by_cases h6 : c3 = 0
                    · subst h6
                      obtain ⟨b3, hb3, hs3⟩ := hpo.2.1 rfl
                      have hbe : wt[on] = b3 := by
                        rw [hsn] at hb3; exact Option.some.inj hb3
                      rw [hbe] at gw2
                      simp -implicitDefEqProofs -dsimp (maxSteps := 1000000) (disch := first | omega | (simp only [wkLen]; omega) | decide +kernel) only [↓wkPre, ↓wkPre2, ↓wkE, wkPost, wkDef, wkF, simprocAttr, e2, e8, e9, e10, e11, e12, kG3, hbt3, nn_v, nn_fn, List.length_map, pgL_len, allP_map, take_pg, take_pgm, get0, get1, get2, getm0, getm1, getm2, get00, getm00, setm0, setm1, setm2, setm00, setR_pg, setR_pg1, flat_pg, flatL_app, eq_pg]
                      refine evC_pl pl_4_27 (by kernel_rfl) (by decide +kernel) ?_
                      simp only [pl_4_27]
                      simp -implicitDefEqProofs -dsimp (maxSteps := 1000000) (disch := first | omega | (simp only [wkLen]; omega) | decide +kernel) only [↓wkPre, ↓wkPre2, ↓wkE, wkPost, wkDef, wkF, simprocAttr, e2, e8, e9, e10, e11, e12, kG3, hbt3, gw2, hpl, hwl, nn_v, nn_fn, List.length_map, pgL_len, allP_map, take_pg, take_pgm, get0, get1, get2, getm0, getm1, getm2, get00, getm00, setm0, setm1, setm2, setm00, setR_pg, setR_pg1, flat_pg, flatL_app, eq_pg]
                      rw [wrb]
                      refine PS.app md_12 Try.func12 (p12 (b3 + ob)) rfl ?_
                      rintro _ rfl
                      simp -implicitDefEqProofs -dsimp (maxSteps := 1000000) (disch := first | omega | (simp only [wkLen]; omega) | decide +kernel) only [↓wkPre, ↓wkPre2, ↓wkE, wkPost, wkDef, wkF, simprocAttr, e2, e8, e9, e10, e11, e12, kG3, hbt3, gw2, hpl, hwl, nn_v, nn_fn, List.length_map, pgL_len, allP_map, take_pg, take_pgm, get0, get1, get2, getm0, getm1, getm2, get00, getm00, setm0, setm1, setm2, setm00, setR_pg, setR_pg1, flat_pg, flatL_app, eq_pg]
                      refine ⟨l.length - (i + 1), by omega, i + 1, m3, X3, t3, w3, wt.set on (b3 + ob), rfl, by omega, by push_cast; rfl, hI3.set hbf3, hpo.1, hpb, by omega, by omega, hps.1.trans hroom, hps.2.trans hWk, ?_, hbf3, by simp [hwl], fun j hj => ?_⟩
                      · simp [pgs, List.map_set]
                      · rw [hs3 j (by omega), List.getElem?_set]
                        by_cases hjo : j = on
                        · subst hjo; simp; omega
                        · rw [if_neg (by omega), if_neg (by omega)]; exact hsee j hj
                    · have h6' : ((c3 : Int) == 0) = false := by simp; omega
                      simp -implicitDefEqProofs -dsimp (maxSteps := 1000000) (disch := first | omega | (simp only [wkLen]; omega) | decide +kernel) only [↓wkPre, ↓wkPre2, ↓wkE, wkPost, wkDef, wkF, simprocAttr, e2, e8, e9, e10, e11, e12, kG3, hbt3, h6, h6', nn_v, nn_fn, List.length_map, pgL_len, allP_map, take_pg, take_pgm, get0, get1, get2, getm0, getm1, getm2, get00, getm00, setm0, setm1, setm2, setm00, setR_pg, setR_pg1, flat_pg, flatL_app, eq_pg]
                      exact ⟨l.length - (i + 1), by omega, i + 1, m3, X3, t3, w3, wt, rfl, by omega, by push_cast; rfl, hI3, hpo.1, hpb, by omega, by omega, hps.1.trans hroom, hps.2.trans hWk, rfl, hbf3, hwl, fun j hj => (hpo.2.2 h6 j (by omega)).trans (hsee j hj)⟩
                  · skip
                    simp -implicitDefEqProofs -dsimp (maxSteps := 1000000) (disch := first | omega | (simp only [wkLen]; omega) | decide +kernel) only [↓wkPre, ↓wkPre2, ↓wkE, wkPost, wkDef, wkF, simprocAttr, e2, e8, e9, e10, e11, e12, hl, gi, hG3, kG, hk0, hk1, hk2, hk4, hk7, nn_v, nn_fn, List.length_map, pgL_len, allP_map, take_pg, take_pgm, get0, get1, get2, getm0, getm1, getm2, get00, getm00, setm0, setm1, setm2, setm00, setR_pg, setR_pg1, flat_pg, flatL_app, eq_pg]
                    refine imp_call md_15 (w15 hG on _ ?_)
                    intro H3 X3 hI3 hK3
                    obtain ⟨hbt3, hbf3⟩ := hK3.track hbG hbf
                    have hpo := unpinF_ok hwf on
                    simp -implicitDefEqProofs -dsimp (maxSteps := 1000000) (disch := first | omega | (simp only [wkLen]; omega) | decide +kernel) only [↓wkPre, ↓wkPre2, ↓wkE, wkPost, wkDef, wkF, simprocAttr, e2, e8, e9, e10, e11, e12, nn_v, nn_fn, List.length_map, pgL_len, allP_map, take_pg, take_pgm, get0, get1, get2, getm0, getm1, getm2, get00, getm00, setm0, setm1, setm2, setm00, setR_pg, setR_pg1, flat_pg, flatL_app, eq_pg]
                    exact ⟨l.length - (i + 1), by omega, i + 1, _, X3, t, w, wt, rfl, by omega, by push_cast; rfl, hI3, hpo.1, (unpinF_bd hbd on).mono (by omega), by omega, by omega, (unpinF_sh m on).1.trans hroom, (unpinF_sh m on).2.trans hWk, hbt3, hbf3, hwl, fun j hj => (hpo.2 j (by omega)).trans (hsee j hj)⟩
      · simp -implicitDefEqProofs -dsimp (maxSteps := 1000000) (disch := first | omega | (simp only [wkLen]; omega) | decide +kernel) only [↓wkPre, ↓wkPre2, ↓wkE, wkPost, wkDef, wkF, simprocAttr, e2, e8, e9, e10, e11, e12, hl, nn_v, nn_fn, List.length_map, pgL_len, allP_map, take_pg, take_pgm, get0, get1, get2, getm0, getm1, getm2, get00, getm00, setm0, setm1, setm2, setm00, setR_pg, setR_pg1, flat_pg, flatL_app, eq_pg]
        have hroom50 : m.room < 50 := by omega
        refine imp_call md_16 (w16 hI hroom50 (by omega) _ ?_)
        intro H5 R X5 w5 hR1 hR2 hI5 hw5 hK5
        obtain ⟨hd5, hW5⟩ := allF_W (ns := R) hwf (fun f hf => hR2.mem_iff.2 (List.mem_map.2 ⟨f, hf, rfl⟩))
        have hsh := allF_sh R m
        obtain ⟨hbt5, _⟩ := hK5.track hbt hbf
        obtain ⟨g5, q1, q2⟩ := hI5.ben
        have hW5l : (allF m R).W.length = k := hsh.2.trans hWk
        rw [hW5l] at q1
        simp -implicitDefEqProofs -dsimp (maxSteps := 1000000) (disch := first | omega | (simp only [wkLen]; omega) | decide +kernel) only [↓wkPre, ↓wkPre2, ↓wkE, wkPost, wkDef, wkF, simprocAttr, e2, e8, e9, e10, e11, e12, nn_v, nn_fn, List.length_map, pgL_len, allP_map, take_pg, take_pgm, get0, get1, get2, getm0, getm1, getm2, get00, getm00, setm0, setm1, setm2, setm00, setR_pg, setR_pg1, flat_pg, flatL_app, eq_pg]
        refine loop_use extMono (fun m' e Hc => ∃ (i : Nat), m' = k - i ∧ i ≤ k ∧ e 8 = .p (I k) ∧ e 9 = .vptr c.pp 0 ∧ e 10 = .vptr c.bb 0 ∧ e 11 = .ref bw gw 0 k false ∧ e 16 = .p (I i) ∧ Hc = H5) ?_ k _ _ ⟨0, rfl, by omega, ?_⟩
        · rintro m' e Hc ⟨i, rfl, hi, e8, e9, e10, e11, e16, rfl⟩
          rcases Nat.lt_or_ge i k with hlt | hge
          · have ga := pgs_get (W := wt) (i := i) (by omega)
            have gb := pgs_get (W := (allF m R).W) (i := i) (by omega)
            have heq : (allF m R).W[i] = wt[i] := by
              have h1 := hW5 i (by omega)
              rw [hsee i hlt, Int.toNat_natCast, List.getElem?_eq_getElem (by omega), List.getElem?_eq_getElem (by omega)] at h1
              exact Option.some.inj h1
            rw [heq] at gb
            have hpl2 := pgs_len (allF m R).W
            simp -implicitDefEqProofs -dsimp (maxSteps := 1000000) (disch := first | omega | (simp only [wkLen]; omega) | decide +kernel) only [↓wkPre, ↓wkPre2, ↓wkE, wkPost, wkDef, wkF, simprocAttr, e8, e9, e10, e11, e16, q1, q2, hbt5, ga, gb, hpl, hpl2, hwl, hW5l, nn_v, nn_fn, List.length_map, pgL_len, allP_map, take_pg, take_pgm, get0, get1, get2, getm0, getm1, getm2, get00, getm00, setm0, setm1, setm2, setm00, setR_pg, setR_pg1, flat_pg, flatL_app, eq_pg]
            refine imp_call md_17 (w17 hI5 i _ ?_)
            rw [dirty_no hd5]
            simp -implicitDefEqProofs -dsimp (maxSteps := 1000000) (disch := first | omega | (simp only [wkLen]; omega) | decide +kernel) only [↓wkPre, ↓wkPre2, ↓wkE, wkPost, wkDef, wkF, simprocAttr, e8, e9, e10, e11, e16, nn_v, nn_fn, List.length_map, pgL_len, allP_map, take_pg, take_pgm, get0, get1, get2, getm0, getm1, getm2, get00, getm00, setm0, setm1, setm2, setm00, setR_pg, setR_pg1, flat_pg, flatL_app, eq_pg]
            exact ⟨k - (i + 1), by omega, i + 1, rfl, by omega, by push_cast; rfl⟩
          · simp -implicitDefEqProofs -dsimp (maxSteps := 1000000) (disch := first | omega | (simp only [wkLen]; omega) | decide +kernel) only [↓wkPre, ↓wkPre2, ↓wkE, wkPost, wkDef, wkF, simprocAttr, e8, e9, e10, e11, e16]
            refine PS.app md_6 Try.func6 p6 rfl ?_
            rintro _ rfl
            simp -implicitDefEqProofs -dsimp (maxSteps := 1000000) (disch := first | omega | (simp only [wkLen]; omega) | decide +kernel) only [↓wkPre, ↓wkPre2, ↓wkE, wkPost, wkDef, wkF, simprocAttr]
        · simp -implicitDefEqProofs -dsimp (maxSteps := 1000000) (disch := first | omega | (simp only [wkLen]; omega) | decide +kernel) only [↓wkPre, ↓wkPre2, ↓wkE, wkPost, wkDef, wkF, simprocAttr, e8, e9, e10, e11]
    · simp -implicitDefEqProofs -dsimp (maxSteps := 1000000) (disch := first | omega | (simp only [wkLen]; omega) | decide +kernel) only [↓wkPre, ↓wkPre2, ↓wkE, wkPost, wkDef, wkF, simprocAttr]
      exact ⟨hI1, hwf0, hbd0, W0_len k, hbw, hbwf, W0_len k, fun j hj => by rw [see_new]; simp⟩
theorem lawPoolSees : ∀ xs, Tyas [(0, [Ty.int .u8]), (0, [Ty.int .u8]), (0, [Ty.sl 3 [Ty.int .i64, Ty.int .i64, Ty.int .u8]])] xs → (Ev.W Cf okf).call 4 (xs.map AV.p) [] fun v _ => v = .p (.bool true) := by
  intro xs h
  simp only [Tyas] at h
  obtain ⟨x1, r1, rfl, h1, x2, r2, rfl, h2, x3, r3, rfl, h3, rfl⟩ := h
  have h1 := Tya_one h1
  have h2 := Tya_one h2
  have h3 := Tya_one h3
  simp only [Tyd] at h1 h2 h3
  obtain ⟨n1, rfl, h4, h5⟩ := h1
  obtain ⟨n2, rfl, h7, h8⟩ := h2
  obtain ⟨ys, rfl, _, h6⟩ := h3
  obtain ⟨os, rfl⟩ := ops_list h6
  have h4 : 0 ≤ n1 := h4
  have h5 : n1 ≤ 255 := h5
  have h7 : 0 ≤ n2 := h7
  have h8 : n2 ≤ 255 := h8
  obtain ⟨rg, rfl⟩ : ∃ rg : Nat, n1 = rg := ⟨n1.toNat, by omega⟩
  obtain ⟨pg, rfl⟩ : ∃ pg : Nat, n2 = pg := ⟨n2.toNat, by omega⟩
  exact law4 rg pg (by omega) (by omega) os
end Go.Ev.F28
end
