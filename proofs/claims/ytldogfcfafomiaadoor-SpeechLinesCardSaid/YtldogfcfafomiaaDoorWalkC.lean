/- A part of the proof: walks of the functions that the law calls. No condition. -/
import Derived.Test.YtldogfcfafomiaaDoorWalkB
import Derived.Test.YtldogfcfafomiaaDoorRun
set_option linter.all false
section
namespace Go.Ev.F32
open Go.Proofs Go.Ev
set_option maxRecDepth 100000
set_option linter.all false
def zeroO : O := ⟨0, 0, 0, 0, [], 0, 0, 0, 0, 0⟩
/-- Which of the first i verbs a word is. -/
def kindU (w : List UInt8) : Nat → Nat
  | 0 => 0
  | i + 1 => if 0 < i ∧ verbsL.getD i [] = w then i else kindU w i
theorem kindU_lt (w : List UInt8) : ∀ i, 0 < i → kindU w i < i
  | 0, h => by omega
  | i + 1, _ => by
    unfold kindU
    split
    · omega
    · by_cases h : 0 < i
      · have := kindU_lt w i h; omega
      · obtain rfl : i = 0 := by omega
        simp [kindU]
/-- Fields read from words. -/
def runF : O → List UInt8 → List (List UInt8) → Option (O × List (List UInt8))
  | o, [], l => some (o, l)
  | o, c :: f, l => (setF o c l).bind fun r => runF r.1 f (l.drop r.2)
/-- The op that a line is, and the code. -/
def getF (s : List UInt8) : O × Nat :=
  if 400 < s.length then (zeroO, 9)
  else if kindU ((cut 32 s).headD []) 10 = 0 then (zeroO, 1)
  else match runF { zeroO with kind := (kindU ((cut 32 s).headD []) 10 : Nat) } (formsL.getD (kindU ((cut 32 s).headD []) 10) []) ((cut 32 s).drop 1) with
    | some (o, []) => (o, 0)
    | _ => (zeroO, 3)
theorem setF_pos {o : O} {c : UInt8} {l : List (List UInt8)} {o' : O} {r : Nat} (h : setF o c l = some (o', r)) : 0 < r ∧ r ≤ l.length := by
  cases l with
  | nil => cases h
  | cons w t =>
    simp only [setF] at h
    split at h
    · simp only [Option.map_eq_some_iff, Prod.mk.injEq] at h; obtain ⟨_, _, _, rfl⟩ := h; simp
    split at h
    · simp only [Option.map_eq_some_iff, Prod.mk.injEq] at h; obtain ⟨_, _, _, rfl⟩ := h; simp
    split at h
    · simp only [Option.map_eq_some_iff, Prod.mk.injEq] at h; obtain ⟨_, _, _, rfl⟩ := h; simp
    split at h
    · simp only [Option.map_eq_some_iff, Prod.mk.injEq] at h; obtain ⟨_, _, _, rfl⟩ := h; simp
    split at h
    · simp only [Option.map_eq_some_iff, Prod.mk.injEq] at h; obtain ⟨_, _, _, rfl⟩ := h; simp
    split at h
    · match t, h with
      | u1 :: u2 :: u3 :: t, h =>
        simp only [Option.map_eq_some_iff, Option.bind_eq_some_iff, Prod.mk.injEq] at h
        obtain ⟨_, _, _, _, _, _, _, _, _, rfl⟩ := h
        simp
    · simp only [Option.some.injEq, Prod.mk.injEq] at h; obtain ⟨_, rfl⟩ := h; simp
theorem cut_mem_len (c : UInt8) : ∀ (s : List UInt8), ∀ w ∈ cut c s, w.length ≤ s.length
  | [], w, hw => by simp [cut] at hw; subst hw; simp
  | b :: l, w, hw => by
    have ih := cut_mem_len c l
    unfold cut at hw
    split at hw
    · rcases List.mem_cons.1 hw with rfl | hw
      · simp
      · have := ih w hw; simp; omega
    · split at hw
      · rename_i hc
        exact absurd hc (cut_ne c l)
      · rename_i x r hc
        rcases List.mem_cons.1 hw with rfl | hw
        · have := ih x (by rw [hc]; simp); simp; exact this
        · have := ih w (by rw [hc]; simp [hw]); simp; omega
theorem cut_len (c : UInt8) : ∀ (s : List UInt8), (cut c s).length ≤ s.length + 1
  | [] => by simp [cut]
  | b :: l => by
    have ih := cut_len c l
    unfold cut
    split
    · simp; exact ih
    · split
      · simp
      · rename_i x r hc
        rw [hc] at ih; simp at ih ⊢; omega
theorem sL_drop (l : List (List UInt8)) (n : Nat) : (sL l).drop n = sL (l.drop n) := by simp [sL, List.map_drop]
set_option maxHeartbeats 4000000 in
theorem p10 (s : List UInt8) (h : s.length ≤ 1000000) : PS Cf okf 10 [27, 29] [S s] (fun r => r = .tup [(getF s).1.pv, I (getF s).2]) := by
  refine PS.mk extMono Tryd.func10 body10 (by decide) rfl ?_
  simp only [c10, Tryd.f10, Option.getD_some]
  by_cases h4 : 400 < s.length
  · have hg : getF s = (zeroO, 9) := by unfold getF; rw [if_pos h4]
    rw [hg]
    simp -implicitDefEqProofs -dsimp (maxSteps := 1000000) (disch := first | omega | (simp only [wkLen]; omega) | decide +kernel) only [↓wkPre, ↓wkPre2, ↓wkE, wkPost, wkDef, wkF, simprocAttr]
    rfl
  have hg : getF s = if kindU ((cut 32 s).headD []) 10 = 0 then (zeroO, 1)
    else match runF { zeroO with kind := (kindU ((cut 32 s).headD []) 10 : Nat) } (formsL.getD (kindU ((cut 32 s).headD []) 10) []) ((cut 32 s).drop 1) with
    | some (o, []) => (o, 0)
    | _ => (zeroO, 3) := by unfold getF; rw [if_neg h4]
  have hcm := cut_mem_len 32 s
  have hcl := cut_len 32 s
  obtain ⟨w, r, hcut⟩ : ∃ w r, cut 32 s = w :: r := by
    cases hc : cut 32 s with
    | nil => exact absurd hc (cut_ne 32 s)
    | cons w r => exact ⟨w, r, rfl⟩
  rw [hcut] at hg hcm hcl
  simp only [List.headD_cons, List.drop_succ_cons, List.drop_zero] at hg
  obtain ⟨VL, hVL⟩ : ∃ VL, VL = verbsL.map S := ⟨_, rfl⟩
  obtain ⟨FL, hFL⟩ : ∃ FL, FL = formsL.map S := ⟨_, rfl⟩
  have hp13 := p13
  have hp14 := p14
  rw [← hVL] at hp13
  rw [← hFL] at hp14
  have fV : flatL VL = true := by rw [hVL]; rfl
  have fF : flatL FL = true := by rw [hFL]; rfl
  have iv : ∀ k : Nat, k < 10 → evIndex Tryd.prog 42 (.p (.agg VL)) (.p (.int .i64 k)) = some (.p (S (verbsL.getD k []))) := fun k hk => by rw [hVL]; exact ix_verbs hk
  have ifo : ∀ k : Nat, k < 10 → evIndex Tryd.prog 42 (.p (.agg FL)) (.p (.int .i64 k)) = some (.p (S (formsL.getD k []))) := fun k hk => by rw [hFL]; exact ix_forms hk
  clear hVL hFL
  simp -implicitDefEqProofs -dsimp (maxSteps := 1000000) (disch := first | omega | (simp only [wkLen]; omega) | decide +kernel) only [↓wkPre, ↓wkPre2, ↓wkE, wkPost, wkDef, wkF, simprocAttr]
  refine ext_call md_20 ⟨s, 32, by omega, rfl, ?_⟩
  rw [hcut, show (w :: r).map PV.str = sL (w :: r) from rfl]
  have g0 : (sL (w :: r))[0]? = some (S w) := rfl
  have gl : (sL (w :: r)).length = r.length + 1 := by simp [sL]
  have gd : (sL (w :: r)).drop 1 = sL r := rfl
  have gt : (sL (w :: r)).take (r.length + 1) = sL (w :: r) := by rw [← gl, List.take_length]
  generalize sL (w :: r) = sl at *
  simp -implicitDefEqProofs -dsimp (maxSteps := 1000000) (disch := first | omega | (simp only [wkLen]; omega) | decide +kernel) only [↓wkPre, ↓wkPre2, ↓wkE, wkPost, wkDef, wkF, simprocAttr]
  refine PS.app md_13 Tryd.func13 hp13 rfl ?_
  rintro _ rfl
  simp -implicitDefEqProofs -dsimp (maxSteps := 1000000) (disch := first | omega | (simp only [wkLen]; omega) | decide +kernel) only [↓wkPre, ↓wkPre2, ↓wkE, wkPost, wkDef, wkF, simprocAttr, fV]
  refine loop_use extMono (fun m e H => ∃ (i : Nat), m = 10 - i ∧ i ≤ 10 ∧ e 2 = .vptr 0 0 ∧ e 4 = .p (.sl 0 sl) ∧ e 5 = .vptr 1 0 ∧ e 17 = .p (.agg VL) ∧ e 18 = .p (I i) ∧
      H = [.var true (.p zeroO.pv), .var true (.p ({ zeroO with kind := (kindU w i : Nat) } : O).pv)]) ?_ 10 _ _ ⟨0, rfl, by omega, ?_⟩
  · rintro m e H ⟨i, rfl, hi, e2, e4, e5, e17, e18, rfl⟩
    rcases Nat.lt_or_ge i 10 with hlt | hge
    · have ivi := iv i hlt
      have hku : kindU w (i + 1) = if 0 < i ∧ verbsL.getD i [] = w then i else kindU w i := rfl
      generalize verbsL.getD i [] = vi at *
      generalize kindU w i = ku at *
      by_cases hi0 : 0 < i
      · by_cases hv : vi = w
        · subst hv
          simp -implicitDefEqProofs -dsimp (maxSteps := 1000000) (disch := first | omega | (simp only [wkLen]; omega) | decide +kernel) only [↓wkPre, ↓wkPre2, ↓wkE, wkPost, wkDef, wkF, simprocAttr, e2, e4, e5, e17, e18, ivi, g0]
          exact ⟨10 - (i + 1), by omega, i + 1, rfl, by omega, by push_cast; rfl, by rw [hku, if_pos ⟨hi0, rfl⟩]⟩
        · have hv' : (vi == w) = false := by simpa using hv
          simp -implicitDefEqProofs -dsimp (maxSteps := 1000000) (disch := first | omega | (simp only [wkLen]; omega) | decide +kernel) only [↓wkPre, ↓wkPre2, ↓wkE, wkPost, wkDef, wkF, simprocAttr, e2, e4, e5, e17, e18, ivi, g0, hv']
          exact ⟨10 - (i + 1), by omega, i + 1, rfl, by omega, by push_cast; rfl, by rw [hku, if_neg (fun h => hv h.2)]⟩
      · simp -implicitDefEqProofs -dsimp (maxSteps := 1000000) (disch := first | omega | (simp only [wkLen]; omega) | decide +kernel) only [↓wkPre, ↓wkPre2, ↓wkE, wkPost, wkDef, wkF, simprocAttr, e2, e4, e5, e17, e18, ivi, g0]
        exact ⟨10 - (i + 1), by omega, i + 1, rfl, by omega, by push_cast; rfl, by rw [hku, if_neg (fun h => hi0 h.1)]⟩
    · obtain rfl : i = 10 := by omega
      have hku := kindU_lt w 10 (by omega)
      generalize kindU w 10 = ku at *
      by_cases hk0 : ku = 0
      · subst hk0
        rw [if_pos rfl] at hg
        rw [hg]
        simp -implicitDefEqProofs -dsimp (maxSteps := 1000000) (disch := first | omega | (simp only [wkLen]; omega) | decide +kernel) only [↓wkPre, ↓wkPre2, ↓wkE, wkPost, wkDef, wkF, simprocAttr, e2, e4, e5, e17, e18]
        rfl
      rw [if_neg hk0] at hg
      have ifk := ifo ku hku
      have hf4 := forms_len ku
      generalize formsL.getD ku [] = f at *
      have hof := ob_len f
      have hfw : ∀ w ∈ r, w.length ≤ 1000000 := fun w hw => by have := hcm w (by simp [hw]); omega
      have hrl : r.length ≤ 401 := by simp at hcl; omega
      simp -implicitDefEqProofs -dsimp (maxSteps := 1000000) (disch := first | omega | (simp only [wkLen]; omega) | decide +kernel) only [↓wkPre, ↓wkPre2, ↓wkE, wkPost, wkDef, wkF, simprocAttr, e2, e4, e5, e17, e18, gl, gt, gd]
      refine evC_pl pl_10_14 (by kernel_rfl) (by decide +kernel) ?_
      simp only [pl_10_14]
      simp -implicitDefEqProofs -dsimp (maxSteps := 1000000) (disch := first | omega | (simp only [wkLen]; omega) | decide +kernel) only [↓wkPre, ↓wkPre2, ↓wkE, wkPost, wkDef, wkF, simprocAttr, e2, e4, e5, e17, e18]
      refine PS.app md_14 Tryd.func14 hp14 rfl ?_
      rintro _ rfl
      simp -implicitDefEqProofs -dsimp (maxSteps := 1000000) (disch := first | omega | (simp only [wkLen]; omega) | decide +kernel) only [↓wkPre, ↓wkPre2, ↓wkE, wkPost, wkDef, wkF, simprocAttr, ifk, fF, e2, e4, e5, hof]
      refine loop_use extMono (fun m e H => ∃ (j : Nat) (o : O) (l : List (List UInt8)), m = f.length - j ∧ j ≤ f.length ∧ e 2 = .vptr 0 0 ∧ e 4 = .p (.sl 0 (sL l)) ∧ e 5 = .vptr 1 0 ∧ e 44 = .p (.sl 0 (ofBytes f)) ∧ e 45 = .p (I f.length) ∧ e 46 = .p (I j) ∧
        H = [.var true (.p zeroO.pv), .var true (.p o.pv)] ∧ runF { zeroO with kind := (ku : Nat) } f r = runF o (f.drop j) l ∧ (∀ w ∈ l, w.length ≤ 1000000) ∧ l.length ≤ 401) ?_ f.length _ _ ⟨0, { zeroO with kind := (ku : Nat) }, r, rfl, by omega, ?_⟩
      · rintro m e H ⟨j, o, l, rfl, hj, e2, e4, e5, e44, e45, e46, rfl, hrun, hlw, hll⟩
        rcases Nat.lt_or_ge j f.length with hlt | hge
        · have gj : (ofBytes f)[j]? = some (.int .u8 f[j].toNat) := by simp [ofBytes, hlt]
          rw [List.drop_eq_getElem_cons hlt] at hrun
          generalize f[j] = c at *
          simp -implicitDefEqProofs -dsimp (maxSteps := 1000000) (disch := first | omega | (simp only [wkLen]; omega) | decide +kernel) only [↓wkPre, ↓wkPre2, ↓wkE, wkPost, wkDef, wkF, simprocAttr, e2, e4, e5, e44, e45, e46, gj]
          refine imp_call md_21 (w21 o c l 1 _ rfl hlw (by omega) _ ?_)
          rintro o' q (hs | ⟨hs, rfl⟩)
          · have hq := setF_pos hs
            rw [runF, hs] at hrun
            simp only [Option.bind_some] at hrun
            have ht : (sL l).take l.length = sL l := by rw [← sL_len, List.take_length]
            have hd := sL_drop l q
            have hln := sL_len l
            have hdl : (l.drop q).length ≤ 401 := by rw [List.length_drop]; omega
            have hdw : ∀ w ∈ l.drop q, w.length ≤ 1000000 := fun w hw => hlw w (List.mem_of_mem_drop hw)
            simp -implicitDefEqProofs -dsimp (maxSteps := 1000000) (disch := first | omega | (simp only [wkLen]; omega) | decide +kernel) only [↓wkPre, ↓wkPre2, ↓wkE, wkPost, wkDef, wkF, simprocAttr, e2, e4, e5, e44, e45, e46, hln, ht, hd]
            exact ⟨f.length - (j + 1), by omega, j + 1, o', l.drop q, rfl, by omega, rfl, by push_cast; rfl, rfl, hrun, hdw, hdl⟩
          · rw [runF, hs] at hrun
            simp only [Option.bind_none] at hrun
            rw [hrun] at hg
            rw [hg]
            simp -implicitDefEqProofs -dsimp (maxSteps := 1000000) (disch := first | omega | (simp only [wkLen]; omega) | decide +kernel) only [↓wkPre, ↓wkPre2, ↓wkE, wkPost, wkDef, wkF, simprocAttr, e2, e4, e5, e44, e45, e46]
            rfl
        · rw [List.drop_of_length_le hge] at hrun
          rw [hrun, runF] at hg
          have hln := sL_len l
          cases l with
          | nil =>
            rw [hg]
            simp -implicitDefEqProofs -dsimp (maxSteps := 1000000) (disch := first | omega | (simp only [wkLen]; omega) | decide +kernel) only [↓wkPre, ↓wkPre2, ↓wkE, wkPost, wkDef, wkF, simprocAttr, e2, e4, e5, e44, e45, e46, hln]
          | cons u l =>
            rw [hg]
            simp only [List.length_cons] at hln
            simp -implicitDefEqProofs -dsimp (maxSteps := 1000000) (disch := first | omega | (simp only [wkLen]; omega) | decide +kernel) only [↓wkPre, ↓wkPre2, ↓wkE, wkPost, wkDef, wkF, simprocAttr, e2, e4, e5, e44, e45, e46, hln]
            rfl
      · simp -implicitDefEqProofs -dsimp (maxSteps := 1000000) (disch := first | omega | (simp only [wkLen]; omega) | decide +kernel) only [↓wkPre, ↓wkPre2, ↓wkE, wkPost, wkDef, wkF, simprocAttr, e2, e5]
        exact ⟨hfw, hrl⟩
  · simp -implicitDefEqProofs -dsimp (maxSteps := 1000000) (disch := first | omega | (simp only [wkLen]; omega) | decide +kernel) only [↓wkPre, ↓wkPre2, ↓wkE, wkPost, wkDef, wkF, simprocAttr]
    rfl
end Go.Ev.F32
end
section
namespace Go.Ev.F32
open Go.Proofs Go.Ev
set_option maxRecDepth 100000
set_option linter.all false
/-- Ops, one a line. -/
def linesF : Nat → List (List UInt8) → List O → List O × Nat × Nat
  | _, [], acc => (acc, 0, 0)
  | i, s :: r, acc => if s = [] then linesF (i + 1) r acc else if (getF s).2 = 0 then linesF (i + 1) r (acc ++ [(getF s).1]) else ([], i + 1, (getF s).2)
def oL (l : List O) : List PV := l.map O.pv
theorem oL_len (l : List O) : (oL l).length = l.length := by simp [oL]
theorem oL_snoc (l : List O) (o : O) : oL (l ++ [o]) = oL l ++ [o.pv] := by simp [oL]
theorem getF_le (s : List UInt8) : (getF s).2 ≤ 9 := by
  unfold getF
  split
  · simp
  split
  · simp
  split <;> simp
set_option maxHeartbeats 4000000 in
theorem p12 (s : List UInt8) (h : s.length ≤ 900000) : PS Cf okf 12 [38, 3, 29] [S s] (fun r => r = .tup [.sl 10 (oL (linesF 0 (cut 10 s) []).1), I (linesF 0 (cut 10 s) []).2.1, I (linesF 0 (cut 10 s) []).2.2]) := by
  refine PS.mk extMono Tryd.func12 body12 (by decide) rfl ?_
  simp only [c12, Tryd.f12, Option.getD_some]
  have hcm := cut_mem_len 10 s
  have hcl := cut_len 10 s
  simp -implicitDefEqProofs -dsimp (maxSteps := 1000000) (disch := first | omega | (simp only [wkLen]; omega) | decide +kernel) only [↓wkPre, ↓wkPre2, ↓wkE, wkPost, wkDef, wkF, simprocAttr]
  refine ext_call md_20 ⟨s, 10, by omega, rfl, ?_⟩
  generalize cut 10 s = L at *
  rw [show L.map PV.str = sL L from rfl]
  have hll := sL_len L
  simp -implicitDefEqProofs -dsimp (maxSteps := 1000000) (disch := first | omega | (simp only [wkLen]; omega) | decide +kernel) only [↓wkPre, ↓wkPre2, ↓wkE, wkPost, wkDef, wkF, simprocAttr, hll]
  refine loop_use extMono (fun m e H => ∃ (j : Nat) (v : AV) (acc : List O), m = L.length - j ∧ j ≤ L.length ∧ e 11 = .p (.sl 0 (sL L)) ∧ e 12 = .p (I L.length) ∧ e 13 = .p (I j) ∧ e 5 = v ∧ OwnS H v 10 (oL acc) ∧ acc.length ≤ j ∧
    linesF 0 L [] = linesF j (L.drop j) acc) ?_ L.length _ _ ⟨0, .nsl, [], rfl, by omega, ?_⟩
  · rintro m e H ⟨j, v, acc, rfl, hj, e11, e12, e13, e5, hown, hal, hq⟩
    rcases Nat.lt_or_ge j L.length with hlt | hge
    · have gj : (sL L)[j]? = some (S L[j]) := by simp [sL, hlt]
      have hw := hcm L[j] (List.getElem_mem hlt)
      rw [List.drop_eq_getElem_cons hlt, linesF] at hq
      generalize L[j] = w at *
      by_cases hw0 : w = []
      · subst hw0
        rw [if_pos rfl] at hq
        simp -implicitDefEqProofs -dsimp (maxSteps := 1000000) (disch := first | omega | (simp only [wkLen]; omega) | decide +kernel) only [↓wkPre, ↓wkPre2, ↓wkE, wkPost, wkDef, wkF, simprocAttr, e5, e11, e12, e13, gj]
        exact ⟨L.length - (j + 1), by omega, j + 1, v, acc, rfl, by omega, by push_cast; rfl, rfl, hown, by omega, hq⟩
      · have hwb : (w == []) = false := by cases w with | nil => exact absurd rfl hw0 | cons => rfl
        rw [if_neg hw0] at hq
        simp -implicitDefEqProofs -dsimp (maxSteps := 1000000) (disch := first | omega | (simp only [wkLen]; omega) | decide +kernel) only [↓wkPre, ↓wkPre2, ↓wkE, wkPost, wkDef, wkF, simprocAttr, e5, e11, e12, e13, gj, hwb]
        refine PS.app md_10 Tryd.func10 (p10 w (by omega)) rfl ?_
        rintro _ rfl
        have hg9 := getF_le w
        generalize getF w = gw at *
        obtain ⟨o, code⟩ := gw
        dsimp only at hq hg9 ⊢
        by_cases hc : code = 0
        · subst hc
          rw [if_pos rfl] at hq
          simp -implicitDefEqProofs -dsimp (maxSteps := 1000000) (disch := first | omega | (simp only [wkLen]; omega) | decide +kernel) only [↓wkPre, ↓wkPre2, ↓wkE, wkPost, wkDef, wkF, simprocAttr, e5, e11, e12, e13]
          refine append_step telem_38 (elems_new2 rfl rfl) (by simp) (hown.app _) ?_ ?_
          · rw [byt_27, oL_len]; simp; omega
          intro w' H' hown' hfr hle hb'
          simp -implicitDefEqProofs -dsimp (maxSteps := 1000000) (disch := first | omega | (simp only [wkLen]; omega) | decide +kernel) only [↓wkPre, ↓wkPre2, ↓wkE, wkPost, wkDef, wkF, simprocAttr, e5, e11, e12, e13]
          refine ⟨L.length - (j + 1), by omega, j + 1, w', acc ++ [o], rfl, by omega, by push_cast; rfl, rfl, by rw [oL_snoc]; exact hown', by simp; omega, hq⟩
        · rw [if_neg hc] at hq
          rw [hq]
          simp -implicitDefEqProofs -dsimp (maxSteps := 1000000) (disch := first | omega | (simp only [wkLen]; omega) | decide +kernel) only [↓wkPre, ↓wkPre2, ↓wkE, wkPost, wkDef, wkF, simprocAttr, e5, e11, e12, e13]
          rw [show ((j : Int) + 1) = ((j + 1 : Nat) : Int) by omega]
          rfl
    · rw [List.drop_of_length_le hge, linesF] at hq
      rw [hq]
      have hfz := frz_own (P := Tryd.prog) (n := 4) telem_38 hown
      rcases hown with ⟨rfl, hx0⟩ | ⟨b, g, rfl, hb⟩
      · simp -implicitDefEqProofs -dsimp (maxSteps := 1000000) (disch := first | omega | (simp only [wkLen]; omega) | decide +kernel) only [↓wkPre, ↓wkPre2, ↓wkE, wkPost, wkDef, wkF, simprocAttr, e5, e11, e12, e13]
        rw [hx0]
      · rw [oL_len] at hfz e5
        simp -implicitDefEqProofs -dsimp (maxSteps := 1000000) (disch := first | omega | (simp only [wkLen]; omega) | decide +kernel) only [↓wkPre, ↓wkPre2, ↓wkE, wkPost, wkDef, wkF, simprocAttr, e5, e11, e12, e13, hfz]
  · simp -implicitDefEqProofs -dsimp (maxSteps := 1000000) (disch := first | omega | (simp only [wkLen]; omega) | decide +kernel) only [↓wkPre, ↓wkPre2, ↓wkE, wkPost, wkDef, wkF, simprocAttr]
    exact OwnS.nil _ _
end Go.Ev.F32
end
