/- A part of the proof: walks of the functions that the law calls. No condition. -/
import Derived.Test.YtlbdgdpnilebpaaLawE
import Derived.Test.YtlbdgdpnilebpaaLawD
set_option linter.all false
section
namespace Go.Ev.F35
open Go.Proofs Go.Ev
set_option maxRecDepth 100000
set_option linter.all false
def othF (w : Int) (v : Vt) : Bool := !(decide (v.who = w)) || bsdF v
/-- Behind the first events: how many of one's since the last end. -/
def dnF (l : List Vt) (w : Int) : Nat → Nat
  | 0 => 0
  | i + 1 => match l[i]? with
    | none => dnF l w i
    | some v => if othF w v = true then dnF l w i else if endsF v = true then 0 else dnF l w i + 1
theorem dn_succ (l : List Vt) (w : Int) {i : Nat} (h : i < l.length) : dnF l w (i + 1) = if othF w l[i] = true then dnF l w i else if endsF l[i] = true then 0 else dnF l w i + 1 := by
  rw [dnF, List.getElem?_eq_getElem h]
theorem dn_le (l : List Vt) (w : Int) : ∀ i, dnF l w i ≤ i
  | 0 => Nat.le_refl _
  | i + 1 => by
    have := dn_le l w i
    rw [dnF]
    split
    · omega
    · split
      · omega
      · split <;> omega
def lastF (l : List Vt) (p : Nat) (v : Vt) : Bool := !bsdF v && (endsF v || (l.drop (p + 1)).all fun x => othF v.who x)
theorem q9 (l : List Vt) (hL : l.length ≤ 1000) {p : Nat} (hp : p < l.length) : PS Cf okf 9 [4] [.sl 16 (vts l), I p] (fun v => v = B (lastF l p l[p])) := by
  refine PS.mk extMono Try.func9 body9 (by decide) rfl ?_
  simp only [c9, Try.f9, Option.getD_some]
  have hl := vts_len l
  have gp := vts_get hp
  unfold lastF
  generalize l[p] = v at gp ⊢
  simp -implicitDefEqProofs -dsimp (maxSteps := 1000000) (disch := first | omega | (simp only [wkLen]; omega) | decide +kernel) only [↓wkPre, ↓wkPre2, ↓wkE, wkPost, wkDef, wkF, simprocAttr, hl, gp]
  refine PS.app md_12 Try.func12 (q12 v) rfl ?_
  rintro _ rfl
  cases hb : bsdF v with
  | true => simp -implicitDefEqProofs -dsimp (maxSteps := 1000000) (disch := first | omega | (simp only [wkLen]; omega) | decide +kernel) only [↓wkPre, ↓wkPre2, ↓wkE, wkPost, wkDef, wkF, simprocAttr, hl, gp]
  | false =>
    simp -implicitDefEqProofs -dsimp (maxSteps := 1000000) (disch := first | omega | (simp only [wkLen]; omega) | decide +kernel) only [↓wkPre, ↓wkPre2, ↓wkE, wkPost, wkDef, wkF, simprocAttr, hl, gp]
    refine PS.app md_10 Try.func10 (q10 v) rfl ?_
    rintro _ rfl
    cases he : endsF v with
    | true => simp -implicitDefEqProofs -dsimp (maxSteps := 1000000) (disch := first | omega | (simp only [wkLen]; omega) | decide +kernel) only [↓wkPre, ↓wkPre2, ↓wkE, wkPost, wkDef, wkF, simprocAttr, hl, gp]; rfl
    | false =>
      simp -implicitDefEqProofs -dsimp (maxSteps := 1000000) (disch := first | omega | (simp only [wkLen]; omega) | decide +kernel) only [↓wkPre, ↓wkPre2, ↓wkE, wkPost, wkDef, wkF, simprocAttr, hl, gp]
      refine loop_use extMono (fun m' e H => ∃ (i : Nat), m' = l.length - i ∧ p + 1 ≤ i ∧ i ≤ l.length ∧ e 0 = .p (.sl 16 (vts l)) ∧ e 1 = .p (I p) ∧ e 5 = .p (I i) ∧ ((l.drop (p + 1)).all fun x => othF v.who x) = ((l.drop i).all fun x => othF v.who x)) ?_ (l.length - (p + 1)) _ _ ⟨p + 1, ?_⟩
      · rintro m' e H ⟨i, rfl, hpi, hi, e0, e1, e5, hall⟩
        rcases Nat.lt_or_ge i l.length with hlt | hge
        · have gi := vts_get hlt
          rw [List.drop_eq_getElem_cons hlt, List.all_cons] at hall
          generalize l[i] = u at gi hall
          have hoth : othF v.who u = (!(decide (u.who = v.who)) || bsdF u) := rfl
          by_cases hw : u.who = v.who
          · rw [decide_eq_true hw] at hoth
            simp -implicitDefEqProofs -dsimp (maxSteps := 1000000) (disch := first | omega | (simp only [wkLen]; omega) | decide +kernel) only [↓wkPre, ↓wkPre2, ↓wkE, wkPost, wkDef, wkF, simprocAttr, e0, e1, e5, hl, gi, gp, hw]
            refine PS.app md_12 Try.func12 (q12 u) rfl ?_
            rintro _ rfl
            cases hbu : bsdF u with
            | true =>
              rw [hoth, hbu] at hall
              simp -implicitDefEqProofs -dsimp (maxSteps := 1000000) (disch := first | omega | (simp only [wkLen]; omega) | decide +kernel) only [↓wkPre, ↓wkPre2, ↓wkE, wkPost, wkDef, wkF, simprocAttr, e0, e1, e5, hl, gi, gp, hw]
              exact ⟨l.length - (i + 1), by omega, i + 1, rfl, by omega, by omega, by push_cast; rfl, by simpa using hall⟩
            | false =>
              rw [hoth, hbu] at hall
              simp -implicitDefEqProofs -dsimp (maxSteps := 1000000) (disch := first | omega | (simp only [wkLen]; omega) | decide +kernel) only [↓wkPre, ↓wkPre2, ↓wkE, wkPost, wkDef, wkF, simprocAttr, e0, e1, e5, hl, gi, gp, hw]
              rw [hall]
              rfl
          · rw [decide_eq_false hw] at hoth
            have hw' : (u.who == v.who) = false := by simpa using hw
            rw [hoth] at hall
            simp -implicitDefEqProofs -dsimp (maxSteps := 1000000) (disch := first | omega | (simp only [wkLen]; omega) | decide +kernel) only [↓wkPre, ↓wkPre2, ↓wkE, wkPost, wkDef, wkF, simprocAttr, e0, e1, e5, hl, gi, gp, hw, hw']
            exact ⟨l.length - (i + 1), by omega, i + 1, rfl, by omega, by omega, by push_cast; rfl, by simpa using hall⟩
        · obtain rfl : i = l.length := by omega
          rw [List.drop_length] at hall
          simp -implicitDefEqProofs -dsimp (maxSteps := 1000000) (disch := first | omega | (simp only [wkLen]; omega) | decide +kernel) only [↓wkPre, ↓wkPre2, ↓wkE, wkPost, wkDef, wkF, simprocAttr, e0, e1, e5, hl]
          rw [hall]
          rfl
      · simp -implicitDefEqProofs -dsimp (maxSteps := 1000000) (disch := first | omega | (simp only [wkLen]; omega) | decide +kernel) only [↓wkPre, ↓wkPre2, ↓wkE, wkPost, wkDef, wkF, simprocAttr]
        exact ⟨by omega, by omega, by push_cast; rfl⟩
set_option maxHeartbeats 1000000 in
theorem q11 (l : List Vt) (hL : l.length ≤ 1000) {p : Nat} (hp : p < l.length) (hb : bsdF l[p] = false) : PS Cf okf 11 [41] [.sl 16 (vts l), I p] (fun v => ∃ xs : List PV, v = .sl 0 xs ∧ xs.length = dnF l l[p].who p + 1) := by
  refine PS.mk extMono Try.func11 body11 (by decide) rfl ?_
  simp only [c11, Try.f11, Option.getD_some]
  have hl := vts_len l
  have gp := vts_get hp
  have hdp := dn_le l l[p].who p
  have hnp : ∀ i (h : i < l.length), i = p → othF l[p].who l[i] = false := fun i h e => by subst e; simp [othF, hb]
  have gpw : (vtP l[p]).cells[0]? = some (I l[p].who) := rfl
  generalize hw0 : l[p].who = w0 at hdp hnp gpw ⊢
  generalize l[p] = vp at gp gpw hw0
  simp -implicitDefEqProofs -dsimp (maxSteps := 1000000) (disch := first | omega | (simp only [wkLen]; omega) | decide +kernel) only [↓wkPre, ↓wkPre2, ↓wkE, wkPost, wkDef, wkF, simprocAttr]
  refine loop_use extMono (fun m' e H => ∃ (n : Nat) (X : List Int), m' = n ∧ n ≤ p + 1 ∧ e 0 = .p (.sl 16 (vts l)) ∧ e 1 = .p (I p) ∧ e 6 = .p (I ((n : Int) - 1)) ∧ OwnS H (e 5) 0 (X.map iE) ∧ X.length + n ≤ p + 1 ∧ dnF l w0 p + 1 = X.length + (if n = p + 1 then dnF l w0 p + 1 else dnF l w0 n)) ?_ (p + 1) _ _ ⟨p + 1, [], rfl, ?_⟩
  · rintro n e H ⟨_, X, rfl, hn, e0, e1, e6, hown, hXn, htot⟩
    rcases Nat.eq_zero_or_pos n with rfl | hpos
    · rw [if_neg (by omega)] at htot
      have hX : X.length = dnF l w0 p + 1 := by rw [htot]; rfl
      clear htot hdp hnp
      rcases hown with ⟨_, h0⟩ | ⟨b, g, e5, hbX⟩
      · rw [List.map_eq_nil_iff] at h0
        rw [h0] at hX
        simp at hX
      rw [List.length_map] at e5
      simp -implicitDefEqProofs -dsimp (maxSteps := 1000000) (disch := first | omega | (simp only [wkLen]; omega) | decide +kernel) only [↓wkPre, ↓wkPre2, ↓wkE, wkPost, wkDef, wkF, simprocAttr, e0, e1, e6, e5]
      refine loop_use extMono (fun m' e H => ∃ (k : Nat) (Y : List Int), m' = k ∧ k ≤ X.length ∧ e 5 = .ref b g 0 X.length false ∧ e 9 = .p (I ((k : Int) - 1)) ∧ H[b]? = some (.arr true g 0 (X.map iE)) ∧ OwnS H (e 8) 0 (Y.map iE) ∧ (e 8).blk ≠ some b ∧ Y.length + k = X.length) ?_ X.length _ _ ⟨X.length, [], rfl, ?_⟩
      · clear e0 e1 e5 e6 hbX e H
        rintro k e H ⟨_, Y, rfl, hk, e5, e9, hbX, hown, hne, hY⟩
        rcases Nat.eq_zero_or_pos k with rfl | hpos
        · simp -implicitDefEqProofs -dsimp (maxSteps := 1000000) (disch := first | omega | (simp only [wkLen]; omega) | decide +kernel) only [↓wkPre, ↓wkPre2, ↓wkE, wkPost, wkDef, wkF, simprocAttr, e5, e9]
          rw [frzR_o telem_41 hown]
          exact ⟨_, rfl, by rw [List.length_map]; omega⟩
        · obtain ⟨j, rfl⟩ : ∃ j, k = j + 1 := ⟨k - 1, by omega⟩
          rw [show ((j + 1 : Nat) : Int) - 1 = j by push_cast; omega] at e9
          have hj : j < X.length := by omega
          have gj : (X.map iE)[j]? = some (I X[j]) := by simp [hj]
          simp -implicitDefEqProofs -dsimp (maxSteps := 1000000) (disch := first | omega | (simp only [wkLen]; omega) | decide +kernel) only [↓wkPre, ↓wkPre2, ↓wkE, wkPost, wkDef, wkF, simprocAttr, e5, e9, hbX, gj]
          refine append_step telem_41 (ys := [I X[j]]) (elems_new rfl rfl) (by simp) (hown.app _) ?_ ?_
          · rw [byt_3, List.length_map]; simp; omega
          intro w' H' hown' hfr' hle hb'
          have hbl := lt_of hbX
          have hb1 : H'[b]? = some (.arr true g 0 (X.map iE)) := (hfr' b (by simp; omega) hne).trans ((hs_app hbl).trans hbX)
          simp -implicitDefEqProofs -dsimp (maxSteps := 1000000) (disch := first | omega | (simp only [wkLen]; omega) | decide +kernel) only [↓wkPre, ↓wkPre2, ↓wkE, wkPost, wkDef, wkF, simprocAttr, e5, e9]
          exact ⟨j, by omega, j, Y ++ [X[j]], rfl, by omega, rfl, hb1, by rw [List.map_append]; exact hown', fun h => hne (hb' b h (by simp; omega)), by simp; omega⟩
      · simp -implicitDefEqProofs -dsimp (maxSteps := 1000000) (disch := first | omega | (simp only [wkLen]; omega) | decide +kernel) only [↓wkPre, ↓wkPre2, ↓wkE, wkPost, wkDef, wkF, simprocAttr]
        exact ⟨Nat.le_refl _, e5, hbX, OwnS.nil _ _, fun h => by cases h⟩
    · obtain ⟨i, rfl⟩ : ∃ i, n = i + 1 := ⟨n - 1, by omega⟩
      have hli : i < l.length := by omega
      have gi := vts_get hli
      have hds := dn_succ l w0 hli
      have hni := hnp i hli
      rw [show ((i + 1 : Nat) : Int) - 1 = i by push_cast; omega] at e6
      generalize l[i] = v at gi hds hni
      have hoth : othF w0 v = (!(decide (v.who = w0)) || bsdF v) := rfl
      have nxtS : othF w0 v = true → ∃ m', m' < i + 1 ∧ ∃ (n : Nat) (X' : List Int), m' = n ∧ n ≤ p + 1 ∧ AV.p (PV.int IntKind.i64 (↑i - 1)) = AV.p (I ((n : Int) - 1)) ∧ OwnS (H ++ [.var true (.p (vtP v))]) (e 5) 0 (X'.map iE) ∧ X'.length + n ≤ p + 1 ∧ dnF l w0 p + 1 = X'.length + (if n = p + 1 then dnF l w0 p + 1 else dnF l w0 n) := fun h => by
        have hip : i ≠ p := fun e => by rw [hni e] at h; cases h
        rw [if_neg (by omega), hds, if_pos h] at htot
        exact ⟨i, by omega, i, X, rfl, by omega, rfl, hown.app _, by omega, by rw [if_neg (by omega)]; exact htot⟩
      by_cases hw : v.who = w0
      · rw [decide_eq_true hw] at hoth
        simp -implicitDefEqProofs -dsimp (maxSteps := 1000000) (disch := first | omega | (simp only [wkLen]; omega) | decide +kernel) only [↓wkPre, ↓wkPre2, ↓wkE, wkPost, wkDef, wkF, simprocAttr, e0, e1, e6, hl, gi, gp, hw0, hw]
        refine PS.app md_12 Try.func12 (q12 v) rfl ?_
        rintro _ rfl
        cases hbu : bsdF v with
        | true =>
          rw [hbu] at hoth
          simp -implicitDefEqProofs -dsimp (maxSteps := 1000000) (disch := first | omega | (simp only [wkLen]; omega) | decide +kernel) only [↓wkPre, ↓wkPre2, ↓wkE, wkPost, wkDef, wkF, simprocAttr, e0, e1, e6, hl, gi, gp, hw0, hw]
          exact nxtS hoth
        | false =>
          rw [hbu] at hoth
          have hoth : othF w0 v = false := hoth
          clear nxtS
          rw [if_neg (by rw [hoth]; decide)] at hds
          by_cases hip : i = p
          · have hip' : ¬ (i : Int) < p := by omega
            simp -implicitDefEqProofs -dsimp (maxSteps := 1000000) (disch := first | omega | (simp only [wkLen]; omega) | decide +kernel) only [↓wkPre, ↓wkPre2, ↓wkE, wkPost, wkDef, wkF, simprocAttr, e0, e1, e6, hl, gi, gp, hw0, hw, hip']
            refine append_step telem_41 (ys := [I (i : Int)]) (elems_new2 rfl) (by simp) (hown.app _) ?_ ?_
            · rw [byt_3, List.length_map]; simp; omega
            intro w' H' hown' hfr' hle hb'
            simp -implicitDefEqProofs -dsimp (maxSteps := 1000000) (disch := first | omega | (simp only [wkLen]; omega) | decide +kernel) only [↓wkPre, ↓wkPre2, ↓wkE, wkPost, wkDef, wkF, simprocAttr, e0, e1, e6]
            exact ⟨i, by omega, i, X ++ [(i : Int)], rfl, by omega, rfl, by rw [List.map_append]; exact hown', by simp; omega, by rw [List.length_append, List.length_singleton]; rw [if_pos (by omega)] at htot; rw [if_neg (by omega), hip]; omega⟩
          · have hip' : (i : Int) < p := by omega
            simp -implicitDefEqProofs -dsimp (maxSteps := 1000000) (disch := first | omega | (simp only [wkLen]; omega) | decide +kernel) only [↓wkPre, ↓wkPre2, ↓wkE, wkPost, wkDef, wkF, simprocAttr, e0, e1, e6, hl, gi, gp, hw0, hw, hip']
            refine PS.app md_10 Try.func10 (q10 v) rfl ?_
            rintro _ rfl
            cases he : endsF v with
            | true =>
              rw [if_neg (by omega), hds, if_pos he] at htot
              have hX : X.length = dnF l w0 p + 1 := by rw [htot]; rfl
              rcases hown with ⟨_, h0⟩ | ⟨b, g, e5, hbX⟩
              · rw [List.map_eq_nil_iff] at h0
                rw [h0] at hX
                simp at hX
              rw [List.length_map] at e5
              simp -implicitDefEqProofs -dsimp (maxSteps := 1000000) (disch := first | omega | (simp only [wkLen]; omega) | decide +kernel) only [↓wkPre, ↓wkPre2, ↓wkE, wkPost, wkDef, wkF, simprocAttr, e0, e1, e6, e5, hl, gi, gp, hw0, hw, hip']
              refine loop_use extMono (fun m' e H => ∃ (k : Nat) (Y : List Int), m' = k ∧ k ≤ X.length ∧ e 5 = .ref b g 0 X.length false ∧ e 9 = .p (I ((k : Int) - 1)) ∧ H[b]? = some (.arr true g 0 (X.map iE)) ∧ OwnS H (e 8) 0 (Y.map iE) ∧ (e 8).blk ≠ some b ∧ Y.length + k = X.length) ?_ X.length _ _ ⟨X.length, [], rfl, ?_⟩
              · clear e0 e1 e5 e6 hbX e H
                rintro k e H ⟨_, Y, rfl, hk, e5, e9, hbX, hown, hne, hY⟩
                rcases Nat.eq_zero_or_pos k with rfl | hpos
                · simp -implicitDefEqProofs -dsimp (maxSteps := 1000000) (disch := first | omega | (simp only [wkLen]; omega) | decide +kernel) only [↓wkPre, ↓wkPre2, ↓wkE, wkPost, wkDef, wkF, simprocAttr, e5, e9]
                  rw [frzR_o telem_41 hown]
                  exact ⟨_, rfl, by rw [List.length_map]; omega⟩
                · obtain ⟨j, rfl⟩ : ∃ j, k = j + 1 := ⟨k - 1, by omega⟩
                  rw [show ((j + 1 : Nat) : Int) - 1 = j by push_cast; omega] at e9
                  have hj : j < X.length := by omega
                  have gj : (X.map iE)[j]? = some (I X[j]) := by simp [hj]
                  simp -implicitDefEqProofs -dsimp (maxSteps := 1000000) (disch := first | omega | (simp only [wkLen]; omega) | decide +kernel) only [↓wkPre, ↓wkPre2, ↓wkE, wkPost, wkDef, wkF, simprocAttr, e5, e9, hbX, gj]
                  refine append_step telem_41 (ys := [I X[j]]) (elems_new rfl rfl) (by simp) (hown.app _) ?_ ?_
                  · rw [byt_3, List.length_map]; simp; omega
                  intro w' H' hown' hfr' hle hb'
                  have hbl := lt_of hbX
                  have hb1 : H'[b]? = some (.arr true g 0 (X.map iE)) := (hfr' b (by simp; omega) hne).trans ((hs_app hbl).trans hbX)
                  simp -implicitDefEqProofs -dsimp (maxSteps := 1000000) (disch := first | omega | (simp only [wkLen]; omega) | decide +kernel) only [↓wkPre, ↓wkPre2, ↓wkE, wkPost, wkDef, wkF, simprocAttr, e5, e9]
                  exact ⟨j, by omega, j, Y ++ [X[j]], rfl, by omega, rfl, hb1, by rw [List.map_append]; exact hown', fun h => hne (hb' b h (by simp; omega)), by simp; omega⟩
              · simp -implicitDefEqProofs -dsimp (maxSteps := 1000000) (disch := first | omega | (simp only [wkLen]; omega) | decide +kernel) only [↓wkPre, ↓wkPre2, ↓wkE, wkPost, wkDef, wkF, simprocAttr]
                exact ⟨Nat.le_refl _, e5, (hs_app (lt_of hbX)).trans hbX, OwnS.nil _ _, fun h => by cases h⟩
            | false =>
              rw [if_neg (by omega), hds, if_neg (by rw [he]; decide)] at htot
              simp -implicitDefEqProofs -dsimp (maxSteps := 1000000) (disch := first | omega | (simp only [wkLen]; omega) | decide +kernel) only [↓wkPre, ↓wkPre2, ↓wkE, wkPost, wkDef, wkF, simprocAttr, e0, e1, e6, hl, gi, gp, hw0, hw, hip']
              refine append_step telem_41 (ys := [I (i : Int)]) (elems_new2 rfl) (by simp) (hown.app _) ?_ ?_
              · rw [byt_3, List.length_map]; simp; omega
              intro w' H' hown' hfr' hle hb'
              simp -implicitDefEqProofs -dsimp (maxSteps := 1000000) (disch := first | omega | (simp only [wkLen]; omega) | decide +kernel) only [↓wkPre, ↓wkPre2, ↓wkE, wkPost, wkDef, wkF, simprocAttr, e0, e1, e6]
              exact ⟨i, by omega, i, X ++ [(i : Int)], rfl, by omega, rfl, by rw [List.map_append]; exact hown', by simp; omega, by rw [List.length_append, List.length_singleton]; rw [if_neg (by omega)]; omega⟩
      · rw [decide_eq_false hw] at hoth
        have hw' : (v.who == w0) = false := by simpa using hw
        simp -implicitDefEqProofs -dsimp (maxSteps := 1000000) (disch := first | omega | (simp only [wkLen]; omega) | decide +kernel) only [↓wkPre, ↓wkPre2, ↓wkE, wkPost, wkDef, wkF, simprocAttr, e0, e1, e6, hl, gi, gp, hw0, hw, hw']
        exact nxtS hoth
  · simp -implicitDefEqProofs -dsimp (maxSteps := 1000000) (disch := first | omega | (simp only [wkLen]; omega) | decide +kernel) only [↓wkPre, ↓wkPre2, ↓wkE, wkPost, wkDef, wkF, simprocAttr]
    exact ⟨Nat.le_refl _, by congr 2; omega, OwnS.nil _ _, Nat.le_refl _⟩
end Go.Ev.F35
end
section
namespace Go.Ev.F35
open Go.Proofs Go.Ev
set_option maxRecDepth 100000
set_option linter.all false
theorem opn_outS (O : List Tx) (w : Int) : opn (outO O w) w = [] := by
  unfold opn
  have h : (outO O w).find? (·.who == w) = none := by
    rw [List.find?_eq_none]
    intro t ht
    have := (List.mem_filter.1 ht).2
    simpa using this
  rw [h]
theorem opn_outN {w x : Int} (hx : x ≠ w) : ∀ O : List Tx, opn (outO O w) x = opn O x
  | [] => rfl
  | t :: O => by
    have ih := opn_outN hx O
    unfold opn outO at *
    rw [List.filter_cons]
    by_cases h : t.who = w
    · rw [if_neg (by simp [h]), ih, List.find?_cons]
      have h2 : (t.who == x) = false := by simpa [h] using fun e : w = x => hx e.symm
      rw [h2]
    · rw [if_pos (by simp [h]), List.find?_cons, List.find?_cons]
      cases h2 : t.who == x with
      | true => rfl
      | false => exact ih
theorem opn_consN {t : Tx} {x : Int} (h : t.who ≠ x) (O : List Tx) : opn (t :: O) x = opn O x := by
  unfold opn
  rw [List.find?_cons, show (t.who == x) = false by simpa using h]
theorem opn_consS (t : Tx) (O : List Tx) : opn (t :: O) t.who = t.evs := by
  unfold opn
  rw [List.find?_cons, show (t.who == t.who) = true by simp]
theorem stpC_b {v : Vt} (hb : bsdF v = true) (s : List Tx × List Tx) (i : Nat) : stpC s i v = s := by
  unfold stpC
  rw [if_pos hb]
theorem stpC_e {v : Vt} (hb : bsdF v = false) (he : endsF v = true) (s : List Tx × List Tx) (i : Nat) : stpC s i v = (outO s.1 v.who, s.2 ++ [⟨v.who, opn s.1 v.who ++ [v], decide (v.o.kind = 8) && decide (v.a.code = 0), i⟩]) := by
  unfold stpC
  rw [if_neg (by rw [hb]; decide), if_pos he]
theorem stpC_o {v : Vt} (hb : bsdF v = false) (he : endsF v = false) (s : List Tx × List Tx) (i : Nat) : stpC s i v = (⟨v.who, opn s.1 v.who ++ [v], false, i⟩ :: outO s.1 v.who, s.2) := by
  unfold stpC
  rw [if_neg (by rw [hb]; decide), if_neg (by rw [he]; decide)]
theorem opn_dn (l : List Vt) (w : Int) : ∀ i, i ≤ l.length → (opn (cutA (l.take i)).1 w).length = dnF l w i
  | 0, _ => rfl
  | i + 1, hi => by
    have ih := opn_dn l w i (by omega)
    rw [dn_succ l w (by omega), List.take_succ_eq_append_getElem (by omega), cutA_snoc]
    generalize cutA (l.take i) = s at ih
    generalize l[i] = v
    cases hb : bsdF v with
    | true => rw [stpC_b hb, if_pos (by simp [othF, hb])]; exact ih
    | false =>
      cases he : endsF v with
      | true =>
        rw [stpC_e hb he]
        dsimp only
        by_cases hw : v.who = w
        · rw [if_neg (by simp [othF, hb, hw]), if_pos rfl, hw, opn_outS]; rfl
        · rw [if_pos (by simp [othF, hw]), opn_outN (Ne.symm hw)]; exact ih
      | false =>
        rw [stpC_o hb he]
        dsimp only
        by_cases hw : v.who = w
        · rw [if_neg (by simp [othF, hb, hw]), if_neg (by decide)]
          have := opn_consS ⟨v.who, opn s.1 v.who ++ [v], false, ((l.take i).length : Int)⟩ (outO s.1 v.who)
          dsimp only at this
          rw [hw] at this ⊢
          rw [this, List.length_append, ih]
          rfl
        · rw [if_pos (by simp [othF, hw]), opn_consN (show (⟨v.who, opn s.1 v.who ++ [v], false, ((l.take i).length : Int)⟩ : Tx).who ≠ w from hw), opn_outN (Ne.symm hw)]; exact ih
/-- What an open one tells of its last event. -/
structure Opd (l : List Vt) (i : Nat) (t : Tx) : Prop where
  dn : t.done = false
  ex : ∃ (p : Nat) (h : p < l.length), t.pos = p ∧ p < i ∧ l[p].who = t.who ∧ bsdF l[p] = false ∧ endsF l[p] = false ∧ t.evs.length = dnF l t.who p + 1 ∧ ∀ j (hj : j < l.length), p < j → j < i → othF t.who l[j] = true
theorem opd_all (l : List Vt) : ∀ i, i ≤ l.length → ∀ t ∈ (cutA (l.take i)).1, Opd l i t
  | 0, _ => fun t ht => by cases ht
  | i + 1, hi => by
    have ih := opd_all l i (by omega)
    have hdn := opn_dn l l[i].who i (by omega)
    rw [List.take_succ_eq_append_getElem (by omega), cutA_snoc, List.length_take, Nat.min_eq_left (by omega)]
    generalize cutA (l.take i) = s at ih hdn
    have keep : ∀ t ∈ s.1, othF t.who l[i] = true → Opd l (i + 1) t := fun t ht ho => by
      obtain ⟨hd, p, hp, h1, h2, h3, h4, h5, h6, h7⟩ := ih t ht
      refine ⟨hd, p, hp, h1, by omega, h3, h4, h5, h6, fun j hj hpj hji => ?_⟩
      rcases Nat.lt_or_ge j i with h | h
      · exact h7 j hj hpj h
      · obtain rfl : j = i := by omega
        exact ho
    have oth : ∀ t ∈ outO s.1 l[i].who, t ∈ s.1 ∧ othF t.who l[i] = true := fun t ht => by
      have h := List.mem_filter.1 ht
      have h2 : ¬ t.who = l[i].who := by simpa using h.2
      exact ⟨h.1, by unfold othF; simp [Ne.symm h2]⟩
    intro t
    unfold stpC
    cases hb : bsdF l[i] with
    | true =>
      rw [if_pos rfl]
      intro ht
      exact keep t ht (by unfold othF; rw [hb]; simp)
    | false =>
      rw [if_neg (by decide)]
      cases he : endsF l[i] with
      | true =>
        rw [if_pos rfl]
        intro ht
        exact keep t (oth t ht).1 (oth t ht).2
      | false =>
        rw [if_neg (by decide)]
        intro ht
        rcases List.mem_cons.1 ht with rfl | ht
        · exact ⟨rfl, i, by omega, rfl, by omega, rfl, hb, he, by simp [hdn], fun j hj h1 h2 => by omega⟩
        · exact keep t (oth t ht).1 (oth t ht).2
theorem outO_totE (w : Int) : ∀ O : List Tx, (O.map (·.who)).Nodup → totE (outO O w) + (opn O w).length = totE O
  | [], _ => rfl
  | t :: O, h => by
    have ih := outO_totE w O (List.nodup_cons.1 h).2
    have hc : ∀ O : List Tx, totE (t :: O) = t.evs.length + totE O := fun O => by simp [totE]
    by_cases hw : t.who = w
    · subst hw
      have hno : outO O t.who = O := by
        unfold outO
        rw [List.filter_eq_self]
        intro x hx
        have : ¬ x.who = t.who := fun e => (List.nodup_cons.1 h).1 (List.mem_map.2 ⟨x, hx, e⟩)
        simpa using this
      have : outO (t :: O) t.who = outO O t.who := by unfold outO; rw [List.filter_cons, if_neg (by simp)]
      rw [this, hno, opn_consS, hc]
      omega
    · have : outO (t :: O) w = t :: outO O w := by unfold outO; rw [List.filter_cons, if_pos (by simp [hw])]
      rw [this, opn_consN hw, hc, hc]
      omega
def bsN (l : List Vt) : Nat := (l.filter bsdF).length
theorem bsN_succ (l : List Vt) {i : Nat} (h : i < l.length) : bsN (l.take (i + 1)) = bsN (l.take i) + (if bsdF l[i] = true then 1 else 0) := by
  unfold bsN
  rw [List.take_succ_eq_append_getElem h, List.filter_append, List.length_append]
  congr 1
  simp only [List.filter_cons, List.filter_nil]
  split <;> rfl
theorem cut_totE (l : List Vt) : ∀ i, i ≤ l.length → totE (cutA (l.take i)).1 + totE (cutA (l.take i)).2 + bsN (l.take i) = i
  | 0, _ => rfl
  | i + 1, hi => by
    have ih := cut_totE l i (by omega)
    have hok := (cut_ok l i (by omega)).nd
    rw [bsN_succ l (by omega), List.take_succ_eq_append_getElem (by omega), cutA_snoc]
    obtain ⟨s, hs⟩ : ∃ s, cutA (l.take i) = s := ⟨_, rfl⟩
    rw [hs] at ih hok ⊢
    generalize l[i] = v
    have h := outO_totE v.who s.1 hok
    cases hb : bsdF v with
    | true => rw [stpC_b hb, if_pos rfl]; omega
    | false =>
      rw [if_neg (by decide)]
      cases he : endsF v with
      | true =>
        rw [stpC_e hb he, totE_snoc]
        simp only [List.length_append, List.length_singleton]
        omega
      | false =>
        rw [stpC_o hb he]
        have hc : ∀ t : Tx, totE (t :: outO s.1 v.who) = t.evs.length + totE (outO s.1 v.who) := fun t => by simp [totE]
        dsimp only
        rw [hc]
        simp only [List.length_append, List.length_singleton]
        omega
/-- The closed ones of the first events come first. -/
theorem cut_pre (l : List Vt) : ∀ d i, i + d = l.length → ∃ R, (cutA l).2 = (cutA (l.take i)).2 ++ R
  | 0, i, h => ⟨[], by rw [List.take_of_length_le (by omega), List.append_nil]⟩
  | d + 1, i, h => by
    obtain ⟨R, hR⟩ := cut_pre l d (i + 1) (by omega)
    rw [List.take_succ_eq_append_getElem (by omega), cutA_snoc] at hR
    unfold stpC at hR
    split at hR
    · exact ⟨R, hR⟩
    split at hR
    · exact ⟨_ :: R, by rw [hR, List.append_assoc]; rfl⟩
    · exact ⟨R, hR⟩
theorem cut_at (l : List Vt) {i : Nat} (h : i < l.length) (hb : bsdF l[i] = false) (he : endsF l[i] = true) : ∃ L : List Vt, L.length = dnF l l[i].who i + 1 ∧ (cutF l)[(cutA (l.take i)).2.length]? = some ⟨l[i].who, L, decide (l[i].o.kind = 8) && decide (l[i].a.code = 0), i⟩ ∧ (cutA (l.take (i + 1))).2 = (cutA (l.take i)).2 ++ [⟨l[i].who, L, decide (l[i].o.kind = 8) && decide (l[i].a.code = 0), i⟩] := by
  have hs : (cutA (l.take (i + 1))).2 = (cutA (l.take i)).2 ++ [⟨l[i].who, opn (cutA (l.take i)).1 l[i].who ++ [l[i]], decide (l[i].o.kind = 8) && decide (l[i].a.code = 0), i⟩] := by
    rw [List.take_succ_eq_append_getElem h, cutA_snoc]
    unfold stpC
    rw [hb, he, if_neg (by decide), if_pos rfl, List.length_take, Nat.min_eq_left (by omega)]
  obtain ⟨R, hR⟩ := cut_pre l (l.length - (i + 1)) (i + 1) (by omega)
  refine ⟨opn (cutA (l.take i)).1 l[i].who ++ [l[i]], by rw [List.length_append, opn_dn l _ i (by omega)]; rfl, ?_, hs⟩
  rw [hs] at hR
  unfold cutF
  rw [hR]
  simp
theorem cut_same (l : List Vt) {i : Nat} (h : i < l.length) (hb : bsdF l[i] = true ∨ endsF l[i] = false) : (cutA (l.take (i + 1))).2 = (cutA (l.take i)).2 := by
  rw [List.take_succ_eq_append_getElem h, cutA_snoc]
  unfold stpC
  split
  · rfl
  split
  · rcases hb with hb | hb <;> simp_all
  · rfl
/-- The open ones at the end. -/
theorem cut_open (l : List Vt) {m : Nat} (h1 : (cutA l).2.length ≤ m) (h2 : m < (cutF l).length) : ∃ (p : Nat) (hp : p < l.length), (cutF l)[m].pos = p ∧ (cutF l)[m].done = false ∧ bsdF l[p] = false ∧ endsF l[p] = false ∧ lastF l p l[p] = true ∧ (cutF l)[m].evs.length = dnF l l[p].who p + 1 := by
  have hok := cut_ok l l.length (Nat.le_refl _)
  have hop := opd_all l l.length (Nat.le_refl _)
  rw [List.take_length] at hok hop
  obtain ⟨q1, q2⟩ := sortT_asc hok.nd
  have hm : (cutF l)[m] ∈ (cutA l).1 := by
    have : (cutF l)[m] = (sortT (cutA l).1)[m - (cutA l).2.length]'(by unfold cutF at h2; rw [List.length_append] at h2; omega) := by
      unfold cutF; exact List.getElem_append_right h1
    rw [this]
    exact q2.mem_iff.1 (List.getElem_mem _)
  generalize (cutF l)[m] = t at hm
  obtain ⟨hd, p, hp, e1, e2, e3, e4, e5, e6, e7⟩ := hop t hm
  refine ⟨p, hp, e1, hd, e4, e5, ?_, by rw [e3]; exact e6⟩
  unfold lastF
  rw [e4, e5, Bool.not_false, Bool.true_and, Bool.false_or, List.all_eq_true]
  intro x hx
  obtain ⟨j, hj, rfl⟩ := List.mem_iff_getElem.1 hx
  rw [List.getElem_drop, e3]
  rw [List.length_drop] at hj
  exact e7 _ (by omega) (by omega) (by omega)
theorem cut_asc (l : List Vt) {m : Nat} (h1 : (cutA l).2.length < m) (h2 : m < (cutF l).length) : (cutF l)[m - 1].who < (cutF l)[m].who := by
  have hok := cut_ok l l.length (Nat.le_refl _)
  rw [List.take_length] at hok
  obtain ⟨q1, q2⟩ := sortT_asc hok.nd
  have hl : m - (cutA l).2.length < (sortT (cutA l).1).length := by unfold cutF at h2; rw [List.length_append] at h2; omega
  have a1 : (cutF l)[m] = (sortT (cutA l).1)[m - (cutA l).2.length] := by unfold cutF; exact List.getElem_append_right (by omega)
  have a2 : (cutF l)[m - 1] = (sortT (cutA l).1)[m - 1 - (cutA l).2.length] := by unfold cutF; exact List.getElem_append_right (by omega)
  rw [a1, a2]
  exact List.pairwise_iff_getElem.1 q1 _ _ (by omega) hl (by omega)
end Go.Ev.F35
end
section
namespace Go.Ev.F35
open Go.Proofs Go.Ev
set_option maxRecDepth 100000
set_option linter.all false
theorem txs_at {T : List Tx} {i : Nat} {t : Tx} (h : T[i]? = some t) : (txs T)[i]? = some (txP t) := by
  unfold txs
  rw [List.getElem?_map, h]
  rfl
set_option maxHeartbeats 4000000 in
theorem law3 (l : List Vt) : (W Cf okf).call 3 [.p (.sl 16 (vts l))] [] fun v _ => v = .p (.bool true) := by
  refine top_mk extMono Try.func3 body3 (by decide) rfl ?_
  simp only [c3, Try.f3, Option.getD_some, List.append_eq, List.cons_append, List.nil_append]
  have hl := vts_len l
  simp -implicitDefEqProofs -dsimp (maxSteps := 1000000) (disch := first | omega | (simp only [wkLen]; omega) | decide +kernel) only [↓wkPre, ↓wkPre2, ↓wkE, wkPost, wkDef, wkF, simprocAttr]
  refine PS.app md_6 Try.func6 (q6 l) rfl ?_
  rintro _ rfl
  cases hlight : lightV l with
  | false =>
    simp -implicitDefEqProofs -dsimp (maxSteps := 1000000) (disch := first | omega | (simp only [wkLen]; omega) | decide +kernel) only [↓wkPre, ↓wkPre2, ↓wkE, wkPost, wkDef, wkF, simprocAttr]
    refine PS.app md_7 Try.func7 q7 rfl ?_
    rintro _ rfl
    simp -implicitDefEqProofs -dsimp (maxSteps := 1000000) (disch := first | omega | (simp only [wkLen]; omega) | decide +kernel) only [↓wkPre, ↓wkPre2, ↓wkE, wkPost, wkDef, wkF, simprocAttr]
  | true =>
    obtain ⟨hln, hrl⟩ := lightV_ok hlight
    simp -implicitDefEqProofs -dsimp (maxSteps := 1000000) (disch := first | omega | (simp only [wkLen]; omega) | decide +kernel) only [↓wkPre, ↓wkPre2, ↓wkE, wkPost, wkDef, wkF, simprocAttr]
    refine PS.app md_8 Try.func8 (q8 l (by omega)) rfl ?_
    rintro _ rfl
    obtain ⟨hTl, hTe⟩ := cutF_ok l
    have hTt := cutF_tot l
    have hat := fun (i : Nat) (h : i < l.length) => cut_at l h
    have hop : ∀ (m : Nat) (t : Tx), (cutA l).2.length ≤ m → (cutF l)[m]? = some t → ∃ (p : Nat) (hp : p < l.length), t.pos = p ∧ t.done = false ∧ bsdF l[p] = false ∧ endsF l[p] = false ∧ lastF l p l[p] = true ∧ t.evs.length = dnF l l[p].who p + 1 := fun m t h h2 => by
      obtain ⟨h3, rfl⟩ := List.getElem?_eq_some_iff.1 h2
      exact cut_open l h h3
    have has : ∀ (m : Nat) (t t' : Tx), (cutA l).2.length < m → (cutF l)[m]? = some t → (cutF l)[m - 1]? = some t' → t'.who < t.who := fun m t t' h h2 h3 => by
      obtain ⟨h4, rfl⟩ := List.getElem?_eq_some_iff.1 h2
      obtain ⟨h5, rfl⟩ := List.getElem?_eq_some_iff.1 h3
      exact cut_asc l h h4
    have hTC : totE (cutF l) = totE ((cutF l).take (cutA l).2.length) + totE (sortT (cutA l).1) ∧ (cutF l).take (cutA l).2.length = (cutA l).2 ∧ (cutA l).2.length ≤ (cutF l).length := by
      unfold cutF
      rw [List.take_left]
      exact ⟨by simp [totE], rfl, by simp⟩
    have htE := cut_totE l l.length (Nat.le_refl _)
    rw [List.take_length] at htE
    have hok := cut_ok l l.length (Nat.le_refl _)
    rw [List.take_length] at hok
    have hsp := totE_perm (sortT_asc hok.nd).2
    rw [hsp] at hTC
    generalize cutF l = T at hTl hTe hTt hTC hat hop has ⊢
    have htl := txs_len T
    simp -implicitDefEqProofs -dsimp (maxSteps := 1000000) (disch := first | omega | (simp only [wkLen]; omega) | decide +kernel) only [↓wkPre, ↓wkPre2, ↓wkE, wkPost, wkDef, wkF, simprocAttr]
    refine loop_use extMono (fun m' e G => ∃ (i : Nat), m' = l.length - i ∧ i ≤ l.length ∧ e 0 = .p (.sl 16 (vts l)) ∧ e 3 = .p (.sl 4 (txs T)) ∧ e 4 = .p (I ((cutA (l.take i)).2.length : Nat)) ∧ e 5 = .p (I (totE (cutA (l.take i)).2 : Nat)) ∧ e 6 = .p (I i)) ?_ l.length _ _ ⟨0, rfl, by omega, ?_⟩
    · rintro m' e G ⟨i, rfl, hi, e0, e3, e4, e5, e6⟩
      rcases Nat.lt_or_ge i l.length with hlt | hge
      · have gi := vts_get hlt
        have hlen1 := (cut_ok l i (by omega)).ln
        have hdl := dn_le l l[i].who i
        have h9 := q9 l (by omega) hlt
        have h11 := q11 l (by omega) hlt
        have hat1 := hat i hlt
        have hsm := cut_same l hlt
        clear hat hop has
        have hlf : lastF l i l[i] = (!bsdF l[i] && (endsF l[i] || (l.drop (i + 1)).all fun x => othF l[i].who x)) := rfl
        generalize l[i] = v at gi hdl h9 h11 hat1 hsm hlf
        simp -implicitDefEqProofs -dsimp (maxSteps := 1000000) (disch := first | omega | (simp only [wkLen]; omega) | decide +kernel) only [↓wkPre, ↓wkPre2, ↓wkE, wkPost, wkDef, wkF, simprocAttr, e0, e3, e4, e5, e6, hl]
        refine PS.app md_9 Try.func9 h9 rfl ?_
        rintro _ rfl
        have skip : (bsdF v = true ∨ endsF v = false) → ∃ m', m' < l.length - i ∧ ∃ (i' : Nat), m' = l.length - i' ∧ i' ≤ l.length ∧ AV.p (I ((cutA (l.take i)).2.length : Nat)) = AV.p (I ((cutA (l.take i')).2.length : Nat)) ∧ AV.p (I (totE (cutA (l.take i)).2 : Nat)) = AV.p (I (totE (cutA (l.take i')).2 : Nat)) ∧ AV.p (PV.int IntKind.i64 (↑i + 1)) = AV.p (I i') :=
          fun h => ⟨l.length - (i + 1), by omega, i + 1, rfl, by omega, by rw [hsm h], by rw [hsm h], by push_cast; rfl⟩
        cases hla : lastF l i v with
        | false =>
          simp -implicitDefEqProofs -dsimp (maxSteps := 1000000) (disch := first | omega | (simp only [wkLen]; omega) | decide +kernel) only [↓wkPre, ↓wkPre2, ↓wkE, wkPost, wkDef, wkF, simprocAttr, e0, e3, e4, e5, e6, hl]
          refine skip ?_
          rw [hla] at hlf
          cases hb : bsdF v with
          | true => exact .inl rfl
          | false => cases he : endsF v with
            | false => exact .inr rfl
            | true => rw [hb, he] at hlf; cases hlf
        | true =>
          simp -implicitDefEqProofs -dsimp (maxSteps := 1000000) (disch := first | omega | (simp only [wkLen]; omega) | decide +kernel) only [↓wkPre, ↓wkPre2, ↓wkE, wkPost, wkDef, wkF, simprocAttr, e0, e3, e4, e5, e6, hl, gi]
          refine PS.app md_10 Try.func10 (q10 v) rfl ?_
          rintro _ rfl
          cases he : endsF v with
          | false =>
            simp -implicitDefEqProofs -dsimp (maxSteps := 1000000) (disch := first | omega | (simp only [wkLen]; omega) | decide +kernel) only [↓wkPre, ↓wkPre2, ↓wkE, wkPost, wkDef, wkF, simprocAttr, e0, e3, e4, e5, e6, hl]
            exact skip (.inr he)
          | true =>
            have hb : bsdF v = false := by
              rw [hla] at hlf
              cases hb : bsdF v with
              | false => rfl
              | true => rw [hb] at hlf; cases hlf
            clear skip hsm hlf h9
            obtain ⟨L, hL, hg, hs⟩ := hat1 hb he
            have gT := txs_at hg
            have hnT := (List.getElem?_eq_some_iff.1 hg).1
            have hLl := vts_len L
            simp -implicitDefEqProofs -dsimp (maxSteps := 1000000) (disch := first | omega | (simp only [wkLen]; omega) | decide +kernel) only [↓wkPre, ↓wkPre2, ↓wkE, wkPost, wkDef, wkF, simprocAttr, e0, e3, e4, e5, e6, hl, gi]
            refine PS.app md_11 Try.func11 (h11 hb) rfl ?_
            rintro _ ⟨xs, rfl, hxs⟩
            have hs1 : (cutA (l.take (i + 1))).2.length = (cutA (l.take i)).2.length + 1 := by rw [hs]; simp
            have hs2 : totE (cutA (l.take (i + 1))).2 = totE (cutA (l.take i)).2 + (dnF l v.who i + 1) := by rw [hs, totE_snoc, hL]
            have hcl := (cutF_ok l).1
            have hct := cut_totE l i (by omega)
            generalize (cutA (l.take i)).2.length = n at hlen1 gT hnT e4 hs1
            generalize totE (cutA (l.take i)).2 = tn at e5 hs2 hct
            have done : ∃ m', m' < l.length - i ∧ ∃ (i' : Nat), m' = l.length - i' ∧ i' ≤ l.length ∧ AV.p (PV.int IntKind.i64 (↑n + 1)) = AV.p (I ((cutA (l.take i')).2.length : Nat)) ∧ AV.p (PV.int IntKind.i64 (↑tn + ↑(dnF l v.who i + 1))) = AV.p (I (totE (cutA (l.take i')).2 : Nat)) ∧ AV.p (PV.int IntKind.i64 (↑i + 1)) = AV.p (I i') :=
              ⟨l.length - (i + 1), by omega, i + 1, rfl, by omega, by rw [hs1]; push_cast; rfl, by rw [hs2]; push_cast; rfl, by push_cast; rfl⟩
            by_cases k8 : v.o.kind = 8
            · by_cases c0 : v.a.code = 0
              · rw [decide_eq_true k8, decide_eq_true c0] at gT
                simp -implicitDefEqProofs -dsimp (maxSteps := 1000000) (disch := first | omega | (simp only [wkLen]; omega) | decide +kernel) only [↓wkPre, ↓wkPre2, ↓wkE, wkPost, wkDef, wkF, simprocAttr, e0, e3, e4, e5, e6, hl, gi, gT, htl, hLl, hL, hxs, k8, c0]
                exact done
              · rw [decide_eq_true k8, decide_eq_false c0] at gT
                have c0' : (v.a.code == 0) = false := by simpa using c0
                simp -implicitDefEqProofs -dsimp (maxSteps := 1000000) (disch := first | omega | (simp only [wkLen]; omega) | decide +kernel) only [↓wkPre, ↓wkPre2, ↓wkE, wkPost, wkDef, wkF, simprocAttr, e0, e3, e4, e5, e6, hl, gi, gT, htl, hLl, hL, hxs, k8, c0, c0']
                exact done
            · rw [decide_eq_false k8] at gT
              have k8' : (v.o.kind == 8) = false := by simpa using k8
              simp -implicitDefEqProofs -dsimp (maxSteps := 1000000) (disch := first | omega | (simp only [wkLen]; omega) | decide +kernel) only [↓wkPre, ↓wkPre2, ↓wkE, wkPost, wkDef, wkF, simprocAttr, e0, e3, e4, e5, e6, hl, gi, gT, htl, hLl, hL, hxs, k8, k8']
              exact done
      · obtain rfl : i = l.length := by omega
        rw [List.take_length] at e4 e5
        clear hat
        obtain ⟨ht1, ht2, ht3⟩ := hTC
        have hCT := hok.ln
        generalize hC : (cutA l).2.length = C at ht1 ht2 ht3 hop has e4
        replace e5 : e 5 = .p (I (totE (T.take C) : Nat)) := by rw [ht2]; exact e5
        have htE : totE T + bsN l = l.length := by rw [ht1, ht2]; omega
        clear ht1 ht2 hok hsp hCT
        simp -implicitDefEqProofs -dsimp (maxSteps := 1000000) (disch := first | omega | (simp only [wkLen]; omega) | decide +kernel) only [↓wkPre, ↓wkPre2, ↓wkE, wkPost, wkDef, wkF, simprocAttr, e0, e3, e4, e5, e6, hl]
        refine loop_use extMono (fun m' e G => ∃ (m : Nat), m' = T.length - m ∧ C ≤ m ∧ m ≤ T.length ∧ e 0 = .p (.sl 16 (vts l)) ∧ e 3 = .p (.sl 4 (txs T)) ∧ e 4 = .p (I C) ∧ e 5 = .p (I (totE (T.take m) : Nat)) ∧ e 8 = .p (I m)) ?_ (T.length - C) _ _ ⟨C, ?_⟩
        · clear e0 e3 e4 e5 e6 e G
          rintro m' e G ⟨m, rfl, hCm, hm, e0, e3, e4, e5, e8⟩
          rcases Nat.lt_or_ge m T.length with hmt | hmt
          · have hTm : T[m]? = some T[m] := List.getElem?_eq_getElem hmt
            have hts : totE (T.take (m + 1)) = totE (T.take m) + T[m].evs.length := by rw [List.take_succ_eq_append_getElem hmt, totE_snoc]
            have htk := totE_take T hmt
            have hop1 := hop m T[m] hCm hTm
            have has1 := fun t' h => has m T[m] t' h hTm
            clear hop has
            generalize T[m] = t at hTm hts htk hop1 has1
            obtain ⟨tw, L, td, tp⟩ := t
            dsimp only at hts htk hop1 has1
            obtain ⟨p, hp, rfl, rfl, hb, he, hla, hLd⟩ := hop1
            have gT := txs_at hTm
            have gp := vts_get hp
            have hLl := vts_len L
            have h9 := q9 l (by omega) hp
            have h10 := q10 l[p]
            have h11 := q11 l (by omega) hp hb
            rw [hla] at h9
            rw [he] at h10
            have hdl := dn_le l l[p].who p
            generalize l[p] = v at gp h9 h10 h11 hLd hdl
            clear hla he hb
            have fin : ∃ m', m' < T.length - m ∧ ∃ (k : Nat), m' = T.length - k ∧ C ≤ k ∧ k ≤ T.length ∧ AV.p (PV.int IntKind.i64 (↑(totE (T.take m)) + ↑(dnF l v.who p + 1))) = AV.p (I (totE (T.take k) : Nat)) ∧ AV.p (PV.int IntKind.i64 (↑m + 1)) = AV.p (I k) :=
              ⟨T.length - (m + 1), by omega, m + 1, rfl, by omega, by omega, by rw [hts, hLd]; push_cast; rfl, by push_cast; rfl⟩
            have dq1 : decide ((p : Int) < 0) = false := decide_eq_false (by omega)
            have dq2 : decide ((l.length : Int) ≤ (p : Int)) = false := decide_eq_false (by omega)
            rcases Nat.lt_or_ge C m with hCm2 | hCm2
            · obtain ⟨m1, rfl⟩ : ∃ m1, m = m1 + 1 := ⟨m - 1, by omega⟩
              have hlt1 : m1 < T.length := by omega
              have hT1 : T[m1]? = some T[m1] := List.getElem?_eq_getElem hlt1
              have hlw := has1 T[m1] hCm2 hT1
              generalize T[m1] = t1 at hT1 hlw
              obtain ⟨tw1, L1, td1, tp1⟩ := t1
              dsimp only at hlw
              have gT1 := txs_at hT1
              have hm1 : ((m1 + 1 : Nat) : Int) - 1 = m1 := by omega
              simp -implicitDefEqProofs -dsimp (maxSteps := 1000000) (disch := first | omega | (simp only [wkLen]; omega) | decide +kernel) only [↓wkPre, ↓wkPre2, ↓evC_region_st [18], ↓evC_text_st [18], ↓evC_cond, ↓evC_block, ↓evC_stop [18], wkPost, wkDef, wkF, simprocAttr, e0, e3, e4, e5, e8, hl, htl, gT]
              refine stop_pl pl_3_18 (by kernel_rfl) (by decide +kernel) ?_
              simp only [pl_3_18]
              have dq3 : decide ((C : Int) < ((m1 + 1 : Nat) : Int)) = true := decide_eq_true (by omega)
              have dq4 : decide (tw ≤ tw1) = false := decide_eq_false (by omega)
              simp -implicitDefEqProofs -dsimp (maxSteps := 1000000) (disch := first | omega | (simp only [wkLen]; omega) | decide +kernel) only [↓wkPre, ↓wkPre2, ↓wkE, wkPost, wkDef, wkF, simprocAttr, dq1, dq2, dq3, dq4, e0, e3, e4, e5, e8, hl, htl, gT, gT1, hm1]
              refine PS.app md_9 Try.func9 h9 rfl ?_
              rintro _ rfl
              simp -implicitDefEqProofs -dsimp (maxSteps := 1000000) (disch := first | omega | (simp only [wkLen]; omega) | decide +kernel) only [↓wkPre, ↓wkPre2, ↓wkE, wkPost, wkDef, wkF, simprocAttr, dq1, dq2, dq3, dq4, e0, e3, e4, e5, e8, hl, htl, gp]
              refine PS.app md_10 Try.func10 h10 rfl ?_
              rintro _ rfl
              simp -implicitDefEqProofs -dsimp (maxSteps := 1000000) (disch := first | omega | (simp only [wkLen]; omega) | decide +kernel) only [↓wkPre, ↓wkPre2, ↓wkE, wkPost, wkDef, wkF, simprocAttr, dq1, dq2, dq3, dq4, e0, e3, e4, e5, e8, hl, htl, gp, gT, hLl]
              refine PS.app md_11 Try.func11 h11 rfl ?_
              rintro _ ⟨xs, rfl, hxs⟩
              simp -implicitDefEqProofs -dsimp (maxSteps := 1000000) (disch := first | omega | (simp only [wkLen]; omega) | decide +kernel) only [↓wkPre, ↓wkPre2, ↓wkE, wkPost, wkDef, wkF, simprocAttr, dq1, dq2, dq3, dq4, e0, e3, e4, e5, e8, hl, htl, gT, hLl, hLd, hxs]
              exact fin
            · obtain rfl : C = m := by omega
              simp -implicitDefEqProofs -dsimp (maxSteps := 1000000) (disch := first | omega | (simp only [wkLen]; omega) | decide +kernel) only [↓wkPre, ↓wkPre2, ↓evC_region_st [18], ↓evC_text_st [18], ↓evC_cond, ↓evC_block, ↓evC_stop [18], wkPost, wkDef, wkF, simprocAttr, e0, e3, e4, e5, e8, hl, htl, gT]
              refine stop_pl pl_3_18 (by kernel_rfl) (by decide +kernel) ?_
              simp only [pl_3_18]
              have dq3 : decide ((C : Int) < (C : Int)) = false := decide_eq_false (by omega)
              simp -implicitDefEqProofs -dsimp (maxSteps := 1000000) (disch := first | omega | (simp only [wkLen]; omega) | decide +kernel) only [↓wkPre, ↓wkPre2, ↓wkE, wkPost, wkDef, wkF, simprocAttr, dq1, dq2, dq3, e0, e3, e4, e5, e8, hl, htl, gT]
              refine PS.app md_9 Try.func9 h9 rfl ?_
              rintro _ rfl
              simp -implicitDefEqProofs -dsimp (maxSteps := 1000000) (disch := first | omega | (simp only [wkLen]; omega) | decide +kernel) only [↓wkPre, ↓wkPre2, ↓wkE, wkPost, wkDef, wkF, simprocAttr, dq1, dq2, dq3, e0, e3, e4, e5, e8, hl, htl, gp]
              refine PS.app md_10 Try.func10 h10 rfl ?_
              rintro _ rfl
              simp -implicitDefEqProofs -dsimp (maxSteps := 1000000) (disch := first | omega | (simp only [wkLen]; omega) | decide +kernel) only [↓wkPre, ↓wkPre2, ↓wkE, wkPost, wkDef, wkF, simprocAttr, dq1, dq2, dq3, e0, e3, e4, e5, e8, hl, htl, gp, gT, hLl]
              refine PS.app md_11 Try.func11 h11 rfl ?_
              rintro _ ⟨xs, rfl, hxs⟩
              simp -implicitDefEqProofs -dsimp (maxSteps := 1000000) (disch := first | omega | (simp only [wkLen]; omega) | decide +kernel) only [↓wkPre, ↓wkPre2, ↓wkE, wkPost, wkDef, wkF, simprocAttr, dq1, dq2, dq3, e0, e3, e4, e5, e8, hl, htl, gT, hLl, hLd, hxs]
              exact fin
          · obtain rfl : m = T.length := by omega
            rw [List.take_length] at e5
            clear hop has
            simp -implicitDefEqProofs -dsimp (maxSteps := 1000000) (disch := first | omega | (simp only [wkLen]; omega) | decide +kernel) only [↓wkPre, ↓wkPre2, ↓wkE, wkPost, wkDef, wkF, simprocAttr, e0, e3, e4, e5, e8, htl]
            refine loop_use extMono (fun m' e G => ∃ (j : Nat), m' = l.length - j ∧ j ≤ l.length ∧ e 0 = .p (.sl 16 (vts l)) ∧ e 3 = .p (.sl 4 (txs T)) ∧ e 5 = .p (I (totE T + bsN (l.take j) : Nat)) ∧ e 10 = .p (I j)) ?_ l.length _ _ ⟨0, rfl, by omega, ?_⟩
            · clear e0 e3 e4 e5 e8 e G
              rintro m' e G ⟨j, rfl, hj, e0, e3, e5, e10⟩
              rcases Nat.lt_or_ge j l.length with hlj | hgj
              · have gj := vts_get hlj
                have hbs := bsN_succ l hlj
                have hbl : bsN (l.take j) ≤ l.length := by
                  have := List.length_filter_le bsdF (l.take j)
                  rw [List.length_take] at this
                  unfold bsN
                  omega
                generalize l[j] = v at gj hbs
                simp -implicitDefEqProofs -dsimp (maxSteps := 1000000) (disch := first | omega | (simp only [wkLen]; omega) | decide +kernel) only [↓wkPre, ↓wkPre2, ↓wkE, wkPost, wkDef, wkF, simprocAttr, e0, e3, e5, e10, hl, gj]
                refine PS.app md_12 Try.func12 (q12 v) rfl ?_
                rintro _ rfl
                cases hb : bsdF v with
                | true =>
                  rw [hb, if_pos rfl] at hbs
                  simp -implicitDefEqProofs -dsimp (maxSteps := 1000000) (disch := first | omega | (simp only [wkLen]; omega) | decide +kernel) only [↓wkPre, ↓wkPre2, ↓wkE, wkPost, wkDef, wkF, simprocAttr, e0, e3, e5, e10, hl]
                  exact ⟨l.length - (j + 1), by omega, j + 1, rfl, by omega, by rw [hbs]; push_cast; congr 2, by push_cast; rfl⟩
                | false =>
                  rw [hb, if_neg (by decide)] at hbs
                  simp -implicitDefEqProofs -dsimp (maxSteps := 1000000) (disch := first | omega | (simp only [wkLen]; omega) | decide +kernel) only [↓wkPre, ↓wkPre2, ↓wkE, wkPost, wkDef, wkF, simprocAttr, e0, e3, e5, e10, hl]
                  exact ⟨l.length - (j + 1), by omega, j + 1, rfl, by omega, by rw [hbs]; rfl, by push_cast; rfl⟩
              · obtain rfl : j = l.length := by omega
                rw [List.take_length, htE] at e5
                have hcf : (commF T).length ≤ T.length := List.length_filter_le _ _
                have hcl := txs_len (commF T)
                simp -implicitDefEqProofs -dsimp (maxSteps := 1000000) (disch := first | omega | (simp only [wkLen]; omega) | decide +kernel) only [↓wkPre, ↓wkPre2, ↓wkE, wkPost, wkDef, wkF, simprocAttr, e0, e3, e5, e10, hl]
                refine PS.app md_13 Try.func13 (q13 T (by omega)) rfl ?_
                rintro _ rfl
                simp -implicitDefEqProofs -dsimp (maxSteps := 1000000) (disch := first | omega | (simp only [wkLen]; omega) | decide +kernel) only [↓wkPre, ↓wkPre2, ↓wkE, wkPost, wkDef, wkF, simprocAttr, e0, e3, e5, e10, hl, hcl, htl]
                refine PS.app md_7 Try.func7 q7 rfl ?_
                rintro _ rfl
                simp -implicitDefEqProofs -dsimp (maxSteps := 1000000) (disch := first | omega | (simp only [wkLen]; omega) | decide +kernel) only [↓wkPre, ↓wkPre2, ↓wkE, wkPost, wkDef, wkF, simprocAttr]
            · simp -implicitDefEqProofs -dsimp (maxSteps := 1000000) (disch := first | omega | (simp only [wkLen]; omega) | decide +kernel) only [↓wkPre, ↓wkPre2, ↓wkE, wkPost, wkDef, wkF, simprocAttr]
              exact ⟨e0, e3, e5⟩
        · simp -implicitDefEqProofs -dsimp (maxSteps := 1000000) (disch := first | omega | (simp only [wkLen]; omega) | decide +kernel) only [↓wkPre, ↓wkPre2, ↓wkE, wkPost, wkDef, wkF, simprocAttr]
          exact ⟨Nat.le_refl _, ht3, e0, e3, e4, e5⟩
    · simp -implicitDefEqProofs -dsimp (maxSteps := 1000000) (disch := first | omega | (simp only [wkLen]; omega) | decide +kernel) only [↓wkPre, ↓wkPre2, ↓wkE, wkPost, wkDef, wkF, simprocAttr]
      exact ⟨rfl, rfl⟩
theorem lawTraceCuts : ∀ xs, Tyas [(0, [Ty.sl 16 vtT])] xs → (W Cf okf).call 3 (xs.map AV.p) [] fun v _ => v = .p (.bool true) := by
  intro xs h
  obtain ⟨l, _, rfl⟩ := vt_args h
  exact law3 l
end Go.Ev.F35
end
