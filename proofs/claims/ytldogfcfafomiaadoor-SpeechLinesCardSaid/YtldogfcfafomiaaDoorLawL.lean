/- A part of the proof: walks of the functions that the law calls. No condition. -/
import Derived.Test.YtldogfcfafomiaaDoorLaws
import Derived.Test.YtldogfcfafomiaaDoorRun
set_option linter.all false
section
namespace Go.Ev.F32
open Go.Proofs Go.Ev
set_option maxRecDepth 100000
set_option linter.all false
/-- What the law gathers: the wanted ops, the first bad line and its code. -/
def gat : Nat → List (List UInt8) → List O × Nat × Nat → List O × Nat × Nat
  | _, [], a => a
  | i, s :: r, a => gat (i + 1) r (if s = [] ∨ 0 < a.2.1 then a else (a.1 ++ [(getF s).1], if (getF s).2 = 0 then a.2 else (i + 1, (getF s).2)))
theorem gat_bad : ∀ (r : List (List UInt8)) (i : Nat) (a : List O × Nat × Nat), 0 < a.2.1 → gat i r a = a
  | [], _, _, _ => rfl
  | s :: r, i, a, h => by
    rw [gat, if_pos (.inr h)]
    exact gat_bad r (i + 1) a h
theorem gat_lines : ∀ (r : List (List UInt8)) (i : Nat) (acc : List O), (0 < (gat i r (acc, 0, 0)).2.1 → linesF i r acc = ([], (gat i r (acc, 0, 0)).2)) ∧ ((gat i r (acc, 0, 0)).2.1 = 0 → linesF i r acc = ((gat i r (acc, 0, 0)).1, 0, 0))
  | [], _, _ => by simp [gat, linesF]
  | s :: r, i, acc => by
    rw [gat, linesF]
    by_cases hs : s = []
    · rw [if_pos (.inl hs), if_pos hs]
      exact gat_lines r (i + 1) acc
    · rw [if_neg (by simp [hs]), if_neg hs]
      by_cases hc : (getF s).2 = 0
      · rw [if_pos hc, if_pos hc]
        exact gat_lines r (i + 1) _
      · rw [if_neg hc, if_neg hc]
        dsimp only
        rw [gat_bad _ _ _ (by simp)]
        simp
theorem gat_code : ∀ (r : List (List UInt8)) (i : Nat) (a : List O × Nat × Nat), a.2.2 ≤ 9 → (gat i r a).2.2 ≤ 9
  | [], _, _, h => h
  | s :: r, i, a, h => by
    rw [gat]
    apply gat_code
    split
    · exact h
    · split
      · exact h
      · exact getF_le s
theorem gat_snoc : ∀ (r : List (List UInt8)) (s : List UInt8) (i : Nat) (a : List O × Nat × Nat), gat i (r ++ [s]) a = gat (i + r.length) [s] (gat i r a)
  | [], s, i, a => rfl
  | t :: r, s, i, a => by
    rw [List.cons_append, gat, gat_snoc r s (i + 1)]
    simp only [List.length_cons]
    rw [show i + 1 + r.length = i + (r.length + 1) by omega]
    rfl
theorem gat_step {l : List (List UInt8)} {i : Nat} (h : i < l.length) : gat 0 (l.take (i + 1)) ([], 0, 0) =
    (if l[i] = [] ∨ 0 < (gat 0 (l.take i) ([], 0, 0)).2.1 then gat 0 (l.take i) ([], 0, 0) else ((gat 0 (l.take i) ([], 0, 0)).1 ++ [(getF l[i]).1], if (getF l[i]).2 = 0 then (gat 0 (l.take i) ([], 0, 0)).2 else (i + 1, (getF l[i]).2))) := by
  rw [List.take_succ_eq_append_getElem h, gat_snoc]
  have hl : (l.take i).length = i := by simp; omega
  rw [hl]
  simp only [gat, Nat.zero_add]
theorem gat_len : ∀ (r : List (List UInt8)) (i : Nat) (a : List O × Nat × Nat), (gat i r a).1.length ≤ a.1.length + r.length
  | [], _, _ => by simp [gat]
  | s :: r, i, a => by
    rw [gat]
    refine Nat.le_trans (gat_len r _ _) ?_
    split
    · simp
    · simp; omega
theorem join_take (c : UInt8) {l : List (List UInt8)} {i : Nat} (h : i < l.length) : Lib.join (l.take (i + 1)) [c] = if i = 0 then l[i] else Lib.join (l.take i) [c] ++ c :: l[i] := by
  have key : ∀ (a : List (List UInt8)) (x : List UInt8), a ≠ [] → Lib.join (a ++ [x]) [c] = Lib.join a [c] ++ c :: x := by
    intro a x ha
    induction a with
    | nil => exact absurd rfl ha
    | cons w a ih =>
      cases a with
      | nil => simp [Lib.join, List.intercalate]
      | cons w' a =>
        rw [List.cons_append, join_cons _ _ (by simp), ih (by simp), join_cons w c (by simp)]
        simp
  rw [List.take_succ_eq_append_getElem h]
  split
  · rename_i h0
    subst h0
    simp [Lib.join]
  · rw [key _ _ (by
      intro e
      have := congrArg List.length e
      rw [List.length_take, List.length_nil] at this
      omega)]
theorem not_ten {w : List UInt8} (h : ∀ k, k < w.length → w[k]? ≠ some 10) : ∀ b ∈ w, b ≠ 10 := by
  intro b hb e
  subst e
  obtain ⟨k, hk, he⟩ := List.mem_iff_getElem.1 hb
  exact h k hk (by rw [List.getElem?_eq_getElem hk, he])
set_option maxHeartbeats 4000000 in
theorem law6 (l : List (List UInt8)) : (Ev.W Cf okf).call 6 [.p (.sl 0 (sL l))] [] fun v _ => v = .p (.bool true) := by
  refine top_mk extMono Tryd.func6 body6 (by decide) rfl ?_
  simp only [c6, Tryd.f6, Option.getD_some]
  have hll := sL_len l
  by_cases h40 : 40 < l.length
  · simp -implicitDefEqProofs -dsimp (maxSteps := 1000000) (disch := first | omega | (simp only [wkLen]; omega) | decide +kernel) only [↓wkPre, ↓wkPre2, ↓wkE, wkPost, wkDef, wkF, simprocAttr, hll]
    refine PS.app md_7 Tryd.func7 p7 rfl ?_
    rintro _ rfl
    simp -implicitDefEqProofs -dsimp (maxSteps := 1000000) (disch := first | omega | (simp only [wkLen]; omega) | decide +kernel) only [↓wkPre, ↓wkPre2, ↓wkE, wkPost, wkDef, wkF, simprocAttr]
  simp -implicitDefEqProofs -dsimp (maxSteps := 1000000) (disch := first | omega | (simp only [wkLen]; omega) | decide +kernel) only [↓wkPre, ↓wkPre2, ↓wkE, wkPost, wkDef, wkF, simprocAttr, hll]
  refine loop_use extMono (fun m e H => ∃ (i : Nat) (v : AV), m = l.length - i ∧ i ≤ l.length ∧ e 0 = .p (.sl 0 (sL l)) ∧ e 2 = .p (B false) ∧ e 3 = .p (S (Lib.join (l.take i) [10])) ∧ e 4 = v ∧
      e 5 = .p (I (gat 0 (l.take i) ([], 0, 0)).2.1) ∧ e 6 = .p (I (gat 0 (l.take i) ([], 0, 0)).2.2) ∧ e 7 = .p (I i) ∧ OwnS H v 10 (oL (gat 0 (l.take i) ([], 0, 0)).1) ∧
      (∀ w ∈ l.take i, w.length ≤ 500 ∧ ∀ b ∈ w, b ≠ 10)) ?_ l.length _ _ ⟨0, .nsl, rfl, by omega, ?_⟩
  · rintro m e H ⟨i, v, rfl, hi, e0, e2, e3, e4, e5, e6, e7, hown, hgood⟩
    have hga := gat_code (l.take i) 0 ([], 0, 0) (by simp)
    have hgl := gat_len (l.take i) 0 ([], 0, 0)
    have htl : (l.take i).length = i := by simp; omega
    simp only [List.length_nil, Nat.zero_add, htl] at hgl
    have hjl := join_le (l.take i) 10 500 (fun w hw => (hgood w hw).1)
    rw [htl] at hjl
    have hjl2 : (Lib.join (l.take i) [10]).length ≤ 40 * 501 := Nat.le_trans hjl (by have : i * (500 + 1) ≤ 40 * 501 := Nat.mul_le_mul (by omega) (by omega); exact this)
    rcases Nat.lt_or_ge i l.length with hlt | hge
    · have gi : (sL l)[i]? = some (S l[i]) := by simp [sL, hlt]
      by_cases h5 : 500 < l[i].length
      · simp -implicitDefEqProofs -dsimp (maxSteps := 1000000) (disch := first | omega | (simp only [wkLen]; omega) | decide +kernel) only [↓wkPre, ↓wkPre2, ↓wkE, wkPost, wkDef, wkF, simprocAttr, e0, e2, e3, e4, e5, e6, e7, hll, gi]
        refine PS.app md_7 Tryd.func7 p7 rfl ?_
        rintro _ rfl
        simp -implicitDefEqProofs -dsimp (maxSteps := 1000000) (disch := first | omega | (simp only [wkLen]; omega) | decide +kernel) only [↓wkPre, ↓wkPre2, ↓wkE, wkPost, wkDef, wkF, simprocAttr]
      simp -implicitDefEqProofs -dsimp (maxSteps := 1000000) (disch := first | omega | (simp only [wkLen]; omega) | decide +kernel) only [↓wkPre, ↓wkPre2, ↓wkE, wkPost, wkDef, wkF, simprocAttr, e0, e2, e3, e4, e5, e6, e7, hll, gi]
      refine loop_use extMono (fun m e' H' => ∃ k : Nat, m = l[i].length - k ∧ k ≤ l[i].length ∧ H' = H ∧ e' 0 = .p (.sl 0 (sL l)) ∧ e' 2 = .p (B false) ∧ e' 3 = .p (S (Lib.join (l.take i) [10])) ∧ e' 4 = v ∧
        e' 5 = .p (I (gat 0 (l.take i) ([], 0, 0)).2.1) ∧ e' 6 = .p (I (gat 0 (l.take i) ([], 0, 0)).2.2) ∧ e' 7 = .p (I i) ∧ e' 8 = .p (I k) ∧ ∀ q, q < k → l[i][q]? ≠ some 10) ?_ l[i].length _ _ ⟨0, rfl, by omega, rfl, ?_⟩
      · rintro m e' H' ⟨k, rfl, hk, rfl, e0', e2', e3', e4', e5', e6', e7', e8', hno⟩
        rcases Nat.lt_or_ge k l[i].length with hklt | hkge
        · have gk : l[i][k]? = some l[i][k] := List.getElem?_eq_getElem hklt
          by_cases ht : l[i][k].toNat = 10
          · simp -implicitDefEqProofs -dsimp (maxSteps := 1000000) (disch := first | omega | (simp only [wkLen]; omega) | decide +kernel) only [↓wkPre, ↓wkPre2, ↓wkE, wkPost, wkDef, wkF, simprocAttr, e0', e2', e3', e4', e5', e6', e7', e8', hll, gi, ix_str, gk, ht]
            refine PS.app md_7 Tryd.func7 p7 rfl ?_
            rintro _ rfl
            simp -implicitDefEqProofs -dsimp (maxSteps := 1000000) (disch := first | omega | (simp only [wkLen]; omega) | decide +kernel) only [↓wkPre, ↓wkPre2, ↓wkE, wkPost, wkDef, wkF, simprocAttr]
          · have hno' : ∀ q, q < k + 1 → l[i][q]? ≠ some 10 := by
              intro q hq
              by_cases hqk : q = k
              · subst hqk
                rw [gk]
                intro e
                exact ht (by rw [Option.some.inj e]; rfl)
              · exact hno q (by omega)
            simp -implicitDefEqProofs -dsimp (maxSteps := 1000000) (disch := first | omega | (simp only [wkLen]; omega) | decide +kernel) only [↓wkPre, ↓wkPre2, ↓wkE, wkPost, wkDef, wkF, simprocAttr, e0', e2', e3', e4', e5', e6', e7', e8', hll, gi, ix_str, gk, ht]
            exact ⟨l[i].length - (k + 1), by omega, k + 1, rfl, by omega, by push_cast; rfl, hno'⟩
        · have hkk : k = l[i].length := by omega
          have hten := not_ten (w := l[i]) (fun q hq => hno q (by omega))
          have hjt := join_take 10 hlt
          have hgs := gat_step hlt
          have hgood' : ∀ w ∈ l.take (i + 1), w.length ≤ 500 ∧ ∀ b ∈ w, b ≠ 10 := by
            rw [List.take_succ_eq_append_getElem hlt]
            intro w hw
            rcases List.mem_append.1 hw with hw | hw
            · exact hgood w hw
            · simp at hw; subst hw; exact ⟨by omega, hten⟩
          have h10 := p10 l[i] (by omega)
          have hg9 := getF_le l[i]
          clear hten hno
          generalize l[i] = w at *
          generalize Lib.join (l.take i) [10] = J at *
          generalize gat 0 (l.take i) ([], 0, 0) = ga at *
          generalize getF w = gw at *
          obtain ⟨acc, bad, code⟩ := ga
          obtain ⟨ob, oc⟩ := gw
          dsimp only at *
          obtain ⟨PJ, hPJ⟩ : ∃ PJ, PJ = if i = 0 then J else J ++ [10] := ⟨_, rfl⟩
          have hJ0 : i = 0 → J = [] := fun h => by
            subst h
            rw [Nat.zero_mul] at hjl
            exact List.length_eq_zero_iff.1 (by omega)
          have hjt' : Lib.join (l.take (i + 1)) [10] = PJ ++ w := by
            rw [hjt, hPJ]
            split
            · rename_i h; rw [hJ0 h]; rfl
            · simp
          have hpl : PJ.length ≤ 20041 := by
            rw [hPJ]
            split
            · omega
            · simp; omega
          clear hjt
          simp -implicitDefEqProofs -dsimp (maxSteps := 1000000) (disch := first | omega | (simp only [wkLen]; omega) | decide +kernel) only [↓wkPre, ↓wkPre2, ↓evC_region_st [16], ↓evC_text_st [16], ↓evC_cond, ↓evC_block, ↓evC_stop [16], wkPost, wkDef, wkF, simprocAttr, e0', e2', e3', e4', e5', e6', e7', e8', hll, gi, hkk]
          refine stop_cut extMono (fun e'' H'' => H'' = H' ∧ e'' 0 = .p (.sl 0 (sL l)) ∧ e'' 2 = .p (B false) ∧ e'' 4 = v ∧ e'' 5 = .p (I bad) ∧ e'' 6 = .p (I code) ∧ e'' 7 = .p (I i) ∧ e'' 3 = .p (S J) ∧ e'' 50 = .p (B (decide (0 < i)))) ?_ ?_
          · simp -implicitDefEqProofs -dsimp (maxSteps := 1000000) (disch := first | omega | (simp only [wkLen]; omega) | decide +kernel) only [↓wkPre, ↓wkPre2, ↓wkE, wkPost, wkDef, wkF, simprocAttr, e0', e2', e3', e4', e5', e6', e7', e8']
            simp
          clear e0' e2' e3' e4' e5' e6' e7' e8' e0 e2 e3 e4 e5 e6 e7
          rintro e1 H1 ⟨rfl, e0, e2, e4, e5, e6, e7, e3, e50⟩
          simp -implicitDefEqProofs -dsimp (maxSteps := 1000000) (disch := first | omega | (simp only [wkLen]; omega) | decide +kernel) only [↓wkPre, ↓wkPre2, ↓evC_region, ↓evC_text, ↓evC_cond_stop, ↓evC_block, wkPost, wkDef, wkF, simprocAttr, e0, e2, e3, e4, e5, e6, e7, e50]
          refine stop_cut extMono (fun e'' H'' => H'' = H1 ∧ e'' 0 = .p (.sl 0 (sL l)) ∧ e'' 2 = .p (B false) ∧ e'' 4 = v ∧ e'' 5 = .p (I bad) ∧ e'' 6 = .p (I code) ∧ e'' 7 = .p (I i) ∧ e'' 3 = .p (S PJ)) ?_ ?_
          · by_cases hi0 : i = 0
            · rw [if_pos hi0] at hPJ
              simp -implicitDefEqProofs -dsimp (maxSteps := 1000000) (disch := first | omega | (simp only [wkLen]; omega) | decide +kernel) only [↓wkPre, ↓wkPre2, ↓wkE, wkPost, wkDef, wkF, simprocAttr, e0, e2, e3, e4, e5, e6, e7, e50]
              rw [hPJ]
            · rw [if_neg hi0] at hPJ
              simp -implicitDefEqProofs -dsimp (maxSteps := 1000000) (disch := first | omega | (simp only [wkLen]; omega) | decide +kernel) only [↓wkPre, ↓wkPre2, ↓wkE, wkPost, wkDef, wkF, simprocAttr, e0, e2, e3, e4, e5, e6, e7, e50, str_add]
              rw [hPJ]
          clear e0 e2 e3 e4 e5 e6 e7 e50
          rintro e1 H1 ⟨rfl, e0, e2, e4, e5, e6, e7, e3⟩
          have hla : (oL acc).length ≤ 40 := by rw [oL_len]; omega
          simp -implicitDefEqProofs -dsimp (maxSteps := 1000000) (disch := first | omega | (simp only [wkLen]; omega) | decide +kernel) only [↓wkPre, ↓wkPre2, ↓wkE, wkPost, wkDef, wkF, simprocAttr, e0, e2, e3, e4, e5, e6, e7, hll, gi, str_add]
          refine PS.app md_10 Tryd.func10 h10 rfl ?_
          rintro _ rfl
          by_cases hw0 : w = []
          · have hwb : (w == []) = true := by rw [hw0]; rfl
            rw [if_pos (.inl hw0)] at hgs
            simp -implicitDefEqProofs -dsimp (maxSteps := 1000000) (disch := first | omega | (simp only [wkLen]; omega) | decide +kernel) only [↓wkPre, ↓wkPre2, ↓wkE, wkPost, wkDef, wkF, simprocAttr, e0, e2, e3, e4, e5, e6, e7, hll, gi, str_add, hwb]
            exact ⟨l.length - (i + 1), by omega, i + 1, v, rfl, by omega, by rw [hjt'], rfl, by rw [hgs], by rw [hgs], by push_cast; rfl, by rw [hgs]; exact hown.app _, hgood'⟩
          have hwb : (w == []) = false := by cases w with | nil => exact absurd rfl hw0 | cons => rfl
          by_cases hb0 : 0 < bad
          · rw [if_pos (.inr hb0)] at hgs
            simp -implicitDefEqProofs -dsimp (maxSteps := 1000000) (disch := first | omega | (simp only [wkLen]; omega) | decide +kernel) only [↓wkPre, ↓wkPre2, ↓wkE, wkPost, wkDef, wkF, simprocAttr, e0, e2, e3, e4, e5, e6, e7, hll, gi, str_add, hwb]
            exact ⟨l.length - (i + 1), by omega, i + 1, v, rfl, by omega, by rw [hjt'], rfl, by rw [hgs], by rw [hgs], by push_cast; rfl, by rw [hgs]; exact hown.app _, hgood'⟩
          rw [if_neg (by simp [hw0]; omega)] at hgs
          by_cases hc0 : oc = 0
          · rw [if_pos hc0] at hgs
            simp -implicitDefEqProofs -dsimp (maxSteps := 1000000) (disch := first | omega | (simp only [wkLen]; omega) | decide +kernel) only [↓wkPre, ↓wkPre2, ↓wkE, wkPost, wkDef, wkF, simprocAttr, e0, e2, e3, e4, e5, e6, e7, hll, gi, str_add, hwb]
            refine append_step telem_38 (elems_new2 rfl rfl) (by simp) (hown.app _) ?_ ?_
            · rw [byt_27]; simp; omega
            intro w' H2 hown' hfr hle hb'
            simp -implicitDefEqProofs -dsimp (maxSteps := 1000000) (disch := first | omega | (simp only [wkLen]; omega) | decide +kernel) only [↓wkPre, ↓wkPre2, ↓wkE, wkPost, wkDef, wkF, simprocAttr, e0, e2, e3, e4, e5, e6, e7, hll, gi]
            exact ⟨l.length - (i + 1), by omega, i + 1, w', rfl, by omega, by rw [hjt'], rfl, (by rw [hgs]; try rfl), by rw [hgs], by push_cast; rfl, by rw [hgs]; dsimp only; rw [oL_snoc]; exact hown', hgood'⟩
          · rw [if_neg hc0] at hgs
            simp -implicitDefEqProofs -dsimp (maxSteps := 1000000) (disch := first | omega | (simp only [wkLen]; omega) | decide +kernel) only [↓wkPre, ↓wkPre2, ↓wkE, wkPost, wkDef, wkF, simprocAttr, e0, e2, e3, e4, e5, e6, e7, hll, gi, str_add, hwb]
            refine append_step telem_38 (elems_new2 rfl rfl) (by simp) (hown.app _) ?_ ?_
            · rw [byt_27]; simp; omega
            intro w' H2 hown' hfr hle hb'
            simp -implicitDefEqProofs -dsimp (maxSteps := 1000000) (disch := first | omega | (simp only [wkLen]; omega) | decide +kernel) only [↓wkPre, ↓wkPre2, ↓wkE, wkPost, wkDef, wkF, simprocAttr, e0, e2, e3, e4, e5, e6, e7, hll, gi]
            exact ⟨l.length - (i + 1), by omega, i + 1, w', rfl, by omega, by rw [hjt'], rfl, (by rw [hgs]; try rfl), by rw [hgs], by push_cast; rfl, by rw [hgs]; dsimp only; rw [oL_snoc]; exact hown', hgood'⟩
      · simp -implicitDefEqProofs -dsimp (maxSteps := 1000000) (disch := first | omega | (simp only [wkLen]; omega) | decide +kernel) only [↓wkPre, ↓wkPre2, ↓wkE, wkPost, wkDef, wkF, simprocAttr, e0, e2, e3, e4, e5, e6, e7, hll, gi]
        intro q hq; omega
    · have hii : i = l.length := by omega
      subst hii
      rw [List.take_length] at e3 e5 e6 hown hgood hga hgl hjl2
      have hcut : linesF 0 (cut 10 (Lib.join l [10])) [] = linesF 0 l [] := by
        by_cases hl0 : l = []
        · subst hl0; rfl
        · rw [cut_join 10 l hl0 fun w hw => (hgood w hw).2]
      have h12 := p12 (Lib.join l [10]) (by omega)
      rw [hcut] at h12
      have hgl2 := gat_lines l 0 []
      generalize gat 0 l ([], 0, 0) = ga at *
      obtain ⟨acc, bad, code⟩ := ga
      dsimp only at *
      have hol := oL_len acc
      by_cases hb0 : 0 < bad
      · rw [hgl2.1 hb0] at h12
        dsimp only at h12
        simp -implicitDefEqProofs -dsimp (maxSteps := 1000000) (disch := first | omega | (simp only [wkLen]; omega) | decide +kernel) only [↓wkPre, ↓wkPre2, ↓wkE, wkPost, wkDef, wkF, simprocAttr, e0, e2, e3, e4, e5, e6, e7, hll]
        refine PS.app md_12 Tryd.func12 h12 rfl ?_
        rintro _ rfl
        simp -implicitDefEqProofs -dsimp (maxSteps := 1000000) (disch := first | omega | (simp only [wkLen]; omega) | decide +kernel) only [↓wkPre, ↓wkPre2, ↓wkE, wkPost, wkDef, wkF, simprocAttr, e0, e2, e3, e4, e5, e6, e7, hll]
        refine PS.app md_7 Tryd.func7 p7 rfl ?_
        rintro _ rfl
        simp -implicitDefEqProofs -dsimp (maxSteps := 1000000) (disch := first | omega | (simp only [wkLen]; omega) | decide +kernel) only [↓wkPre, ↓wkPre2, ↓wkE, wkPost, wkDef, wkF, simprocAttr]
      · have hb : bad = 0 := by omega
        rw [hgl2.2 hb] at h12
        dsimp only at h12
        subst hb
        have hel := elems_own hown
        rcases hown with ⟨rfl, hx0⟩ | ⟨b, g, rfl, hbk⟩
        · obtain rfl : acc = [] := by simpa [oL] using hx0
          simp -implicitDefEqProofs -dsimp (maxSteps := 1000000) (disch := first | omega | (simp only [wkLen]; omega) | decide +kernel) only [↓wkPre, ↓wkPre2, ↓wkE, wkPost, wkDef, wkF, simprocAttr, e0, e2, e3, e4, e5, e6, e7, hll]
          refine PS.app md_12 Tryd.func12 h12 rfl ?_
          rintro _ rfl
          simp -implicitDefEqProofs -dsimp (maxSteps := 1000000) (disch := first | omega | (simp only [wkLen]; omega) | decide +kernel) only [↓wkPre, ↓wkPre2, ↓wkE, wkPost, wkDef, wkF, simprocAttr, e0, e2, e3, e4, e5, e6, e7, hll, hol]
          refine loop_use extMono (fun m e H => m = 0 ∧ e 11 = .p (.sl 10 (oL [])) ∧ e 14 = .p (I 0)) ?_ 0 _ _ ⟨rfl, ?_⟩
          · rintro m e H ⟨rfl, e11, e14⟩
            simp -implicitDefEqProofs -dsimp (maxSteps := 1000000) (disch := first | omega | (simp only [wkLen]; omega) | decide +kernel) only [↓wkPre, ↓wkPre2, ↓wkE, wkPost, wkDef, wkF, simprocAttr, e11, e14, oL]
            refine PS.app md_7 Tryd.func7 p7 rfl ?_
            rintro _ rfl
            simp -implicitDefEqProofs -dsimp (maxSteps := 1000000) (disch := first | omega | (simp only [wkLen]; omega) | decide +kernel) only [↓wkPre, ↓wkPre2, ↓wkE, wkPost, wkDef, wkF, simprocAttr]
          · simp -implicitDefEqProofs -dsimp (maxSteps := 1000000) (disch := first | omega | (simp only [wkLen]; omega) | decide +kernel) only [↓wkPre, ↓wkPre2, ↓wkE, wkPost, wkDef, wkF, simprocAttr]
        · rw [hol] at e4
          simp -implicitDefEqProofs -dsimp (maxSteps := 1000000) (disch := first | omega | (simp only [wkLen]; omega) | decide +kernel) only [↓wkPre, ↓wkPre2, ↓wkE, wkPost, wkDef, wkF, simprocAttr, e0, e2, e3, e4, e5, e6, e7, hll]
          refine PS.app md_12 Tryd.func12 h12 rfl ?_
          rintro _ rfl
          simp -implicitDefEqProofs -dsimp (maxSteps := 1000000) (disch := first | omega | (simp only [wkLen]; omega) | decide +kernel) only [↓wkPre, ↓wkPre2, ↓wkE, wkPost, wkDef, wkF, simprocAttr, e0, e2, e3, e4, e5, e6, e7, hll, hol]
          refine loop_use extMono (fun m e H' => ∃ j : Nat, m = acc.length - j ∧ j ≤ acc.length ∧ e 4 = .ref b g 0 acc.length false ∧ e 11 = .p (.sl 10 (oL acc)) ∧ e 14 = .p (I j) ∧ H' = H) ?_ acc.length _ _ ⟨0, rfl, by omega, ?_⟩
          · rintro m e H' ⟨j, rfl, hj, e4, e11, e14, rfl⟩
            rcases Nat.lt_or_ge j acc.length with hlt | hge
            · have gj : (oL acc)[j]? = some acc[j].pv := by simp [oL, hlt]
              generalize acc[j] = o at *
              obtain ⟨kind, key, x, y, val, w0, w1, w2, w3, n⟩ := o
              simp -implicitDefEqProofs -dsimp (maxSteps := 1000000) (disch := first | omega | (simp only [wkLen]; omega) | decide +kernel) only [↓wkPre, ↓wkPre2, ↓wkE, wkPost, wkDef, wkF, simprocAttr, e4, e11, e14, hol, gj, hbk]
              exact ⟨acc.length - (j + 1), by omega, j + 1, rfl, by omega, by push_cast; rfl⟩
            · simp -implicitDefEqProofs -dsimp (maxSteps := 1000000) (disch := first | omega | (simp only [wkLen]; omega) | decide +kernel) only [↓wkPre, ↓wkPre2, ↓wkE, wkPost, wkDef, wkF, simprocAttr, e4, e11, e14, hol]
              refine PS.app md_7 Tryd.func7 p7 rfl ?_
              rintro _ rfl
              simp -implicitDefEqProofs -dsimp (maxSteps := 1000000) (disch := first | omega | (simp only [wkLen]; omega) | decide +kernel) only [↓wkPre, ↓wkPre2, ↓wkE, wkPost, wkDef, wkF, simprocAttr]
          · simp -implicitDefEqProofs -dsimp (maxSteps := 1000000) (disch := first | omega | (simp only [wkLen]; omega) | decide +kernel) only [↓wkPre, ↓wkPre2, ↓wkE, wkPost, wkDef, wkF, simprocAttr, e4]
  · simp -implicitDefEqProofs -dsimp (maxSteps := 1000000) (disch := first | omega | (simp only [wkLen]; omega) | decide +kernel) only [↓wkPre, ↓wkPre2, ↓wkE, wkPost, wkDef, wkF, simprocAttr]
    exact ⟨rfl, rfl, rfl, OwnS.nil _ _, fun w hw => by cases hw⟩
theorem strs_args {xs : List PV} (h : Tyas [(0, [Ty.sl 0 [Ty.str]])] xs) : ∃ l : List (List UInt8), xs = [.sl 0 (sL l)] := by
  simp only [Tyas] at h
  obtain ⟨x, r, rfl, h, rfl⟩ := h
  have h3 := Tya_one h
  obtain ⟨ys, rfl, _, h4⟩ := Tyd_sl0 h3
  have key : ∀ ys : List PV, (∀ y ∈ ys, Tyd Ty.str y) → ∃ l : List (List UInt8), ys = sL l := by
    intro ys
    induction ys with
    | nil => intro _; exact ⟨[], rfl⟩
    | cons y ys ih =>
      intro h
      obtain ⟨l, rfl⟩ := ih fun y hy => h y (by simp [hy])
      have h1 := h y (by simp)
      simp only [Tyd] at h1
      obtain ⟨s, rfl, _⟩ := h1
      exact ⟨s :: l, rfl⟩
  obtain ⟨l, rfl⟩ := key ys h4
  exact ⟨l, rfl⟩
theorem lawSpeechLines : ∀ xs, Tyas [(0, [Ty.sl 0 [Ty.str]])] xs → (Ev.W Cf okf).call 6 (xs.map AV.p) [] fun v _ => v = .p (.bool true) := by
  intro xs h
  obtain ⟨l, rfl⟩ := strs_args h
  exact law6 l
end Go.Ev.F32
end
