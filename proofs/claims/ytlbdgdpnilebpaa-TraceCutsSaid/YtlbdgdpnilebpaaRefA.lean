/- A part of the proof: walks of the functions that the law calls. No condition. -/
import Derived.Test.YtlbdgdpnilebpaaBase
set_option linter.all false
section
namespace Go.Ev.F35
open Go.Proofs Go.Ev
set_option maxRecDepth 100000
set_option linter.all false
abbrev I (n : Int) : PV := .int .i64 n
abbrev U (n : Int) : PV := .int .u64 n
abbrev B (b : Bool) : PV := .bool b
abbrev rcsP (L : List Rc) : PV := .sl 6 (rcs L)
theorem woutF_len (L : List Rc) (k : Int) : (woutF L k).length ≤ L.length := List.length_filter_le _ _
theorem wout_cons (x : Rc) (L : List Rc) (k : Int) : woutF (x :: L) k = (if x.key = k then [] else [x]) ++ woutF L k := by
  unfold woutF
  by_cases h : x.key = k
  · simp [h]
  · simp [h]
theorem frz27 {H : Heap} {v : AV} {K : List Rc} (h : OwnS H v 6 (rcs K)) : oK (frzR Try.prog H [36] v) (fun r => r = rcsP K) := by
  have := frz_own (P := Try.prog) (n := 4) telem_36 h
  rcases h with ⟨rfl, h0⟩ | ⟨b, g, rfl, hb⟩
  · show oK (frzN Try.prog H 4 36 .nsl) _
    rw [this]; rfl
  · show oK (frzN Try.prog H 4 36 (.ref b g 0 (rcs K).length false)) _
    rw [this]; rfl
theorem p51 (L : List Rc) (k : Int) (hL : L.length ≤ 1000) : PS Cf okf 73 [36] [rcsP L, U k] (fun v => v = rcsP (woutF L k)) := by
  refine PS.mk extMono Try.func73 body73 (by decide) rfl ?_
  simp only [c73, Try.f73, Option.getD_some]
  have hl := rcs_len L
  simp -implicitDefEqProofs -dsimp (maxSteps := 1000000) (disch := first | omega | (simp only [wkLen]; omega) | decide +kernel) only [↓wkPre, ↓wkPre2, ↓wkE, wkPost, wkDef, wkF, simprocAttr]
  refine loop_use extMono (fun m' e H => ∃ (i : Nat) (v : AV) (K : List Rc), m' = L.length - i ∧ i ≤ L.length ∧ e 0 = .p (rcsP L) ∧ e 1 = .p (U k) ∧ e 5 = v ∧ e 6 = .p (I i) ∧ OwnS H v 6 (rcs K) ∧ K.length ≤ i ∧ woutF L k = K ++ woutF (L.drop i) k) ?_ L.length _ _ ⟨0, .nsl, [], rfl, by omega, ?_⟩
  · rintro m' e H ⟨i, v, K, rfl, hi, e0, e1, e5, e6, hown, hK, hw⟩
    have hkl := rcs_len K
    rcases Nat.lt_or_ge i L.length with hlt | hge
    · have gi := rcs_get hlt
      rw [List.drop_eq_getElem_cons hlt, wout_cons] at hw
      by_cases hn : L[i].key = k
      · rw [if_pos hn] at hw
        simp -implicitDefEqProofs -dsimp (maxSteps := 1000000) (disch := first | omega | (simp only [wkLen]; omega) | decide +kernel) only [↓wkPre, ↓wkPre2, ↓wkE, wkPost, wkDef, wkF, simprocAttr, e0, e1, e5, e6, hl, gi, hn]
        exact ⟨L.length - (i + 1), by omega, i + 1, v, K, rfl, by omega, rfl, by push_cast; rfl, hown, by omega, by simpa using hw⟩
      · rw [if_neg hn] at hw
        simp -implicitDefEqProofs -dsimp (maxSteps := 1000000) (disch := first | omega | (simp only [wkLen]; omega) | decide +kernel) only [↓wkPre, ↓wkPre2, ↓wkE, wkPost, wkDef, wkF, simprocAttr, e0, e1, e5, e6, hl, gi, hn]
        refine append_step telem_36 (elems_new rfl rfl) (by simp) (hown.app _) ?_ ?_
        · rw [byt_64, hkl]; simp; omega
        intro w' H2 hown' hfr' hle' hb'
        simp -implicitDefEqProofs -dsimp (maxSteps := 1000000) (disch := first | omega | (simp only [wkLen]; omega) | decide +kernel) only [↓wkPre, ↓wkPre2, ↓wkE, wkPost, wkDef, wkF, simprocAttr, e0, e1, e5, e6]
        exact ⟨L.length - (i + 1), by omega, i + 1, w', K ++ [L[i]], rfl, by omega, rfl, by push_cast; rfl, by rw [rcs_snoc]; exact hown', by simp; omega, by simpa using hw⟩
    · rw [List.drop_of_length_le hge] at hw
      simp -implicitDefEqProofs -dsimp (maxSteps := 1000000) (disch := first | omega | (simp only [wkLen]; omega) | decide +kernel) only [↓wkPre, ↓wkPre2, ↓wkE, wkPost, wkDef, wkF, simprocAttr, e0, e1, e5, e6, hl]
      have hwk : woutF L k = K := by simpa [woutF] using hw
      rw [hwk]
      exact frz27 hown
  · simp -implicitDefEqProofs -dsimp (maxSteps := 1000000) (disch := first | omega | (simp only [wkLen]; omega) | decide +kernel) only [↓wkPre, ↓wkPre2, ↓wkE, wkPost, wkDef, wkF, simprocAttr]
    exact OwnS.nil _ _
theorem withG_len (r : Rc) : ∀ (put : Bool) (L : List Rc), (withG r put L).length ≤ L.length + 1
  | put, [] => by unfold withG; split <;> simp
  | true, x :: L => by rw [withG_true]; have := woutF_len (x :: L) r.key; omega
  | false, x :: L => by
    have := (withG_perm r (x :: L)).length_eq
    have h2 := woutF_len (x :: L) r.key
    simp at this h2 ⊢; omega
set_option maxHeartbeats 1000000 in
theorem p50 (L : List Rc) (r : Rc) (hL : L.length ≤ 1000) : PS Cf okf 72 [36] [rcsP L, rcP r] (fun v => v = rcsP (withF L r)) := by
  refine PS.mk extMono Try.func72 body72 (by decide) rfl ?_
  simp only [c72, Try.f72, Option.getD_some]
  have hl := rcs_len L
  simp -implicitDefEqProofs -dsimp (maxSteps := 1000000) (disch := first | omega | (simp only [wkLen]; omega) | decide +kernel) only [↓wkPre, ↓wkPre2, ↓wkE, wkPost, wkDef, wkF, simprocAttr]
  refine loop_use extMono (fun m' e H => ∃ (i : Nat) (v : AV) (K : List Rc) (put : Bool), m' = L.length - i ∧ i ≤ L.length ∧ e 0 = .p (rcsP L) ∧ e 3 = .vptr 0 0 ∧ e 5 = v ∧ e 6 = .p (B put) ∧ e 7 = .p (I i) ∧ H[0]? = some (.var true (.p (rcP r))) ∧ (∀ c, v.blk = some c → 1 ≤ c) ∧ OwnS H v 6 (rcs K) ∧ K.length ≤ 2 * i ∧ withF L r = K ++ withG r put (L.drop i)) ?_ L.length _ _ ⟨0, .nsl, [], false, rfl, by omega, ?_⟩
  · rintro m' e H ⟨i, v, K, put, rfl, hi, e0, e3, e5, e6, e7, k0, hvb, hown, hK, hw⟩
    have hkl := rcs_len K
    have hH0 := (List.getElem?_eq_some_iff.1 k0).1
    have k0a : ∀ l : Heap, (H ++ l)[0]? = some (.var true (.p (rcP r))) := fun l => (hs_app hH0).trans k0
    rcases Nat.lt_or_ge i L.length with hlt | hge
    · have gi := rcs_get hlt
      rw [List.drop_eq_getElem_cons hlt, withG] at hw
      cases put
      · by_cases h1 : r.key ≤ L[i].key
        · rw [if_pos ⟨rfl, h1⟩, Bool.false_or, decide_eq_true h1] at hw
          by_cases h2 : L[i].key = r.key
          · rw [if_pos h2] at hw
            simp -implicitDefEqProofs -dsimp (maxSteps := 1000000) (disch := first | omega | (simp only [wkLen]; omega) | decide +kernel) only [↓wkPre, ↓wkPre2, ↓wkE, wkPost, wkDef, wkF, simprocAttr, e0, e3, e5, e6, e7, hl, gi, k0, h1, h2]
            refine append_step telem_36 (elems_new rfl rfl) (by simp) (hown.app _) ?_ ?_
            · rw [byt_64, rcs_len]; simp; omega
            intro w2 H2 hown2 hfr2 hle2 hb2
            rw [← rcs_snoc (r := r)] at hown2
            simp only [List.length_append, List.length_cons, List.length_nil] at hfr2 hle2 hb2
            have k2 := (hfr2 0 (by omega) (fun h => by have := hvb 0 h; omega)).trans ((hs_app (by omega)).trans k0)
            have hvb2 : ∀ c, w2.blk = some c → 1 ≤ c := fun c hc => by
              by_cases h : c < H.length + (0 + 1)
              · exact hvb c (hb2 c hc h)
              · omega
            simp -implicitDefEqProofs -dsimp (maxSteps := 1000000) (disch := first | omega | (simp only [wkLen]; omega) | decide +kernel) only [↓wkPre, ↓wkPre2, ↓wkE, wkPost, wkDef, wkF, simprocAttr, e0, e3, e5, e6, e7, hl, gi, k2, h1, h2]
            refine ⟨L.length - (i + 1), by omega, i + 1, w2, K ++ [r], true, rfl, by omega, rfl, rfl, by push_cast; rfl, hvb2, hown2, by simp <;> omega, by simpa using hw⟩
          · rw [if_neg h2] at hw
            simp -implicitDefEqProofs -dsimp (maxSteps := 1000000) (disch := first | omega | (simp only [wkLen]; omega) | decide +kernel) only [↓wkPre, ↓wkPre2, ↓wkE, wkPost, wkDef, wkF, simprocAttr, e0, e3, e5, e6, e7, hl, gi, k0, h1, h2]
            refine append_step telem_36 (elems_new rfl rfl) (by simp) (hown.app _) ?_ ?_
            · rw [byt_64, rcs_len]; simp; omega
            intro w2 H2 hown2 hfr2 hle2 hb2
            rw [← rcs_snoc (r := r)] at hown2
            simp only [List.length_append, List.length_cons, List.length_nil] at hfr2 hle2 hb2
            have k2 := (hfr2 0 (by omega) (fun h => by have := hvb 0 h; omega)).trans ((hs_app (by omega)).trans k0)
            have hvb2 : ∀ c, w2.blk = some c → 1 ≤ c := fun c hc => by
              by_cases h : c < H.length + (0 + 1)
              · exact hvb c (hb2 c hc h)
              · omega
            simp -implicitDefEqProofs -dsimp (maxSteps := 1000000) (disch := first | omega | (simp only [wkLen]; omega) | decide +kernel) only [↓wkPre, ↓wkPre2, ↓wkE, wkPost, wkDef, wkF, simprocAttr, e0, e3, e5, e6, e7, hl, gi, k2, h1, h2]
            refine append_step telem_36 (elems_new rfl rfl) (by simp) (hown2.app _) ?_ ?_
            · rw [byt_64, rcs_len]; simp; omega
            intro w3 H3 hown3 hfr3 hle3 hb3
            rw [← rcs_snoc (r := L[i])] at hown3
            simp only [List.length_append, List.length_cons, List.length_nil] at hfr3 hle3 hb3
            have k3 := (hfr3 0 (by omega) (fun h => by have := hvb2 0 h; omega)).trans ((hs_app (by omega)).trans k2)
            have hvb3 : ∀ c, w3.blk = some c → 1 ≤ c := fun c hc => by
              by_cases h : c < H2.length + (0 + 1)
              · exact hvb2 c (hb3 c hc h)
              · omega
            simp -implicitDefEqProofs -dsimp (maxSteps := 1000000) (disch := first | omega | (simp only [wkLen]; omega) | decide +kernel) only [↓wkPre, ↓wkPre2, ↓wkE, wkPost, wkDef, wkF, simprocAttr, e0, e3, e5, e6, e7, hl, gi, k3, h1, h2]
            refine ⟨L.length - (i + 1), by omega, i + 1, w3, K ++ [r] ++ [L[i]], true, rfl, by omega, rfl, rfl, by push_cast; rfl, hvb3, hown3, by simp <;> omega, by simpa using hw⟩
        · have h2 : ¬ L[i].key = r.key := by omega
          rw [if_neg (fun h => h1 h.2), Bool.false_or, decide_eq_false h1, if_neg h2] at hw
          simp -implicitDefEqProofs -dsimp (maxSteps := 1000000) (disch := first | omega | (simp only [wkLen]; omega) | decide +kernel) only [↓wkPre, ↓wkPre2, ↓wkE, wkPost, wkDef, wkF, simprocAttr, e0, e3, e5, e6, e7, hl, gi, k0, h1, h2]
          refine append_step telem_36 (elems_new rfl rfl) (by simp) (hown.app _) ?_ ?_
          · rw [byt_64, rcs_len]; simp; omega
          intro w2 H2 hown2 hfr2 hle2 hb2
          rw [← rcs_snoc (r := L[i])] at hown2
          simp only [List.length_append, List.length_cons, List.length_nil] at hfr2 hle2 hb2
          have k2 := (hfr2 0 (by omega) (fun h => by have := hvb 0 h; omega)).trans ((hs_app (by omega)).trans k0)
          have hvb2 : ∀ c, w2.blk = some c → 1 ≤ c := fun c hc => by
            by_cases h : c < H.length + (0 + 1)
            · exact hvb c (hb2 c hc h)
            · omega
          simp -implicitDefEqProofs -dsimp (maxSteps := 1000000) (disch := first | omega | (simp only [wkLen]; omega) | decide +kernel) only [↓wkPre, ↓wkPre2, ↓wkE, wkPost, wkDef, wkF, simprocAttr, e0, e3, e5, e6, e7, hl, gi, k2, h1, h2]
          refine ⟨L.length - (i + 1), by omega, i + 1, w2, K ++ [L[i]], false, rfl, by omega, rfl, rfl, by push_cast; rfl, hvb2, hown2, by simp <;> omega, by simpa using hw⟩
      · rw [if_neg (fun h => by cases h.1), Bool.true_or] at hw
        by_cases h2 : L[i].key = r.key
        · rw [if_pos h2] at hw
          simp -implicitDefEqProofs -dsimp (maxSteps := 1000000) (disch := first | omega | (simp only [wkLen]; omega) | decide +kernel) only [↓wkPre, ↓wkPre2, ↓wkE, wkPost, wkDef, wkF, simprocAttr, e0, e3, e5, e6, e7, hl, gi, k0, h2]
          refine ⟨L.length - (i + 1), by omega, i + 1, v, K, true, rfl, by omega, rfl, rfl, by push_cast; rfl, hvb, hown, by omega, by simpa using hw⟩
        · rw [if_neg h2] at hw
          simp -implicitDefEqProofs -dsimp (maxSteps := 1000000) (disch := first | omega | (simp only [wkLen]; omega) | decide +kernel) only [↓wkPre, ↓wkPre2, ↓wkE, wkPost, wkDef, wkF, simprocAttr, e0, e3, e5, e6, e7, hl, gi, k0, h2]
          refine append_step telem_36 (elems_new rfl rfl) (by simp) (hown.app _) ?_ ?_
          · rw [byt_64, rcs_len]; simp; omega
          intro w2 H2 hown2 hfr2 hle2 hb2
          rw [← rcs_snoc (r := L[i])] at hown2
          simp only [List.length_append, List.length_cons, List.length_nil] at hfr2 hle2 hb2
          have k2 := (hfr2 0 (by omega) (fun h => by have := hvb 0 h; omega)).trans ((hs_app (by omega)).trans k0)
          have hvb2 : ∀ c, w2.blk = some c → 1 ≤ c := fun c hc => by
            by_cases h : c < H.length + (0 + 1)
            · exact hvb c (hb2 c hc h)
            · omega
          simp -implicitDefEqProofs -dsimp (maxSteps := 1000000) (disch := first | omega | (simp only [wkLen]; omega) | decide +kernel) only [↓wkPre, ↓wkPre2, ↓wkE, wkPost, wkDef, wkF, simprocAttr, e0, e3, e5, e6, e7, hl, gi, k2, h2]
          refine ⟨L.length - (i + 1), by omega, i + 1, w2, K ++ [L[i]], true, rfl, by omega, rfl, rfl, by push_cast; rfl, hvb2, hown2, by simp <;> omega, by simpa using hw⟩
    · rw [List.drop_of_length_le hge] at hw
      cases put
      · simp -implicitDefEqProofs -dsimp (maxSteps := 1000000) (disch := first | omega | (simp only [wkLen]; omega) | decide +kernel) only [↓wkPre, ↓wkPre2, ↓wkE, wkPost, wkDef, wkF, simprocAttr, e0, e3, e5, e6, e7, hl, k0]
        refine append_step telem_36 (elems_new rfl rfl) (by simp) (hown.app _) ?_ ?_
        · rw [byt_64, hkl]; simp; omega
        intro w' H2 hown' hfr' hle' hb'
        rw [← rcs_snoc] at hown'
        simp -implicitDefEqProofs -dsimp (maxSteps := 1000000) (disch := first | omega | (simp only [wkLen]; omega) | decide +kernel) only [↓wkPre, ↓wkPre2, ↓wkE, wkPost, wkDef, wkF, simprocAttr, e0, e3, e5, e6, e7]
        rw [show withF L r = K ++ [r] by simpa [withG] using hw]
        exact frz27 hown'
      · simp -implicitDefEqProofs -dsimp (maxSteps := 1000000) (disch := first | omega | (simp only [wkLen]; omega) | decide +kernel) only [↓wkPre, ↓wkPre2, ↓wkE, wkPost, wkDef, wkF, simprocAttr, e0, e3, e5, e6, e7, hl, k0]
        rw [show withF L r = K by simpa [withG] using hw]
        exact frz27 hown
  · simp -implicitDefEqProofs -dsimp (maxSteps := 1000000) (disch := first | omega | (simp only [wkLen]; omega) | decide +kernel) only [↓wkPre, ↓wkPre2, ↓wkE, wkPost, wkDef, wkF, simprocAttr]
    exact ⟨(fun c h => by cases h), OwnS.nil _ _, rfl⟩
end Go.Ev.F35
end
section
namespace Go.Ev.F35
open Go.Proofs Go.Ev
set_option maxRecDepth 100000
set_option linter.all false
structure Re where
  x0 : Int
  y0 : Int
  x1 : Int
  y1 : Int
abbrev u32 (n : Int) : PV := .int .u32 n
abbrev reP (w : Re) : PV := .agg [u32 w.x0, u32 w.y0, u32 w.x1, u32 w.y1]
def hasF (w : Re) (r : Rc) : Bool := decide (w.x0 ≤ r.x) && decide (r.x ≤ w.x1) && decide (w.y0 ≤ r.y) && decide (r.y ≤ w.y1)
def inF (L : List Rc) (w : Re) : List Rc := L.filter (hasF w)
abbrev Sv := Int × Nat
abbrev svP (s : Sv) : PV := .agg [I s.1, I s.2]
def svs (S : List Sv) : List PV := S.map svP
theorem svs_len (L : List Sv) : (svs L).length = L.length := by simp [svs]
theorem svs_get {L : List Sv} {i : Nat} (h : i < L.length) : (svs L)[i]? = some (svP L[i]) := by simp [svs, h]
theorem svs_snoc (L : List Sv) (r : Sv) : svs (L ++ [r]) = svs L ++ [svP r] := by simp [svs]
structure Mi where
  on : Bool
  L : List Wr
  S : List Sv
abbrev wrsP (L : List Wr) : PV := .sl 7 (wrs L)
abbrev svsP (S : List Sv) : PV := .sl 2 (svs S)
abbrev miP (t : Mi) : PV := .agg [B t.on, wrsP t.L, svsP t.S]
def findF (L : List Rc) (k : Int) : Int := match L.findIdx? (fun r => r.key == k) with | some i => i | none => -1
theorem p53 (L : List Rc) (k : Int) (hL : L.length ≤ 1000) : PS Cf okf 75 [3] [rcsP L, U k] (fun v => v = I (findF L k)) := by
  refine PS.mk extMono Try.func75 body75 (by decide) rfl ?_
  simp only [c75, Try.f75, Option.getD_some]
  have hl := rcs_len L
  simp -implicitDefEqProofs -dsimp (maxSteps := 1000000) (disch := first | omega | (simp only [wkLen]; omega) | decide +kernel) only [↓wkPre, ↓wkPre2, ↓wkE, wkPost, wkDef, wkF, simprocAttr]
  refine loop_use extMono (fun m' e H => ∃ (i : Nat), m' = L.length - i ∧ i ≤ L.length ∧ e 0 = .p (rcsP L) ∧ e 1 = .p (U k) ∧ e 5 = .p (I i) ∧ ∀ j (h : j < L.length), j < i → L[j].key ≠ k) ?_ L.length _ _ ⟨0, rfl, by omega, ?_⟩
  · rintro m' e H ⟨i, rfl, hi, e0, e1, e5, hno⟩
    rcases Nat.lt_or_ge i L.length with hlt | hge
    · have gi := rcs_get hlt
      by_cases hn : L[i].key = k
      · simp -implicitDefEqProofs -dsimp (maxSteps := 1000000) (disch := first | omega | (simp only [wkLen]; omega) | decide +kernel) only [↓wkPre, ↓wkPre2, ↓wkE, wkPost, wkDef, wkF, simprocAttr, e0, e1, e5, hl, gi, hn]
        unfold findF
        rw [List.findIdx?_eq_some_iff_getElem.2 ⟨hlt, by simpa using hn, fun j hj => by simpa using hno j (by omega) hj⟩]
      · simp -implicitDefEqProofs -dsimp (maxSteps := 1000000) (disch := first | omega | (simp only [wkLen]; omega) | decide +kernel) only [↓wkPre, ↓wkPre2, ↓wkE, wkPost, wkDef, wkF, simprocAttr, e0, e1, e5, hl, gi, hn]
        refine ⟨L.length - (i + 1), by omega, i + 1, rfl, by omega, by push_cast; rfl, fun j h hj => ?_⟩
        by_cases hji : j = i
        · subst hji; exact hn
        · exact hno j h (by omega)
    · simp -implicitDefEqProofs -dsimp (maxSteps := 1000000) (disch := first | omega | (simp only [wkLen]; omega) | decide +kernel) only [↓wkPre, ↓wkPre2, ↓wkE, wkPost, wkDef, wkF, simprocAttr, e0, e1, e5, hl]
      unfold findF
      rw [List.findIdx?_eq_none_iff.2 fun f hf => by
        obtain ⟨j, hj, e⟩ := List.mem_iff_getElem.1 hf
        have := hno j hj (by omega)
        rw [e] at this
        simpa using this]
  · simp -implicitDefEqProofs -dsimp (maxSteps := 1000000) (disch := first | omega | (simp only [wkLen]; omega) | decide +kernel) only [↓wkPre, ↓wkPre2, ↓wkE, wkPost, wkDef, wkF, simprocAttr]
    intro j h hj; omega
def delsF (L : List Wr) : Nat := (L.filter fun w => !w.put).length
theorem dels_snoc (L : List Wr) (w : Wr) : delsF (L ++ [w]) = delsF L + (if w.put = true then 0 else 1) := by
  unfold delsF
  rw [List.filter_append, List.length_append]
  cases h : w.put <;> simp [h]
theorem delsF_le (L : List Wr) : delsF L ≤ L.length := List.length_filter_le _ _
theorem p55 (L : List Wr) (hL : L.length ≤ 1000) : PS Cf okf 77 [3] [wrsP L] (fun v => v = I (delsF L)) := by
  refine PS.mk extMono Try.func77 body77 (by decide) rfl ?_
  simp only [c77, Try.f77, Option.getD_some]
  have hl := wrs_len L
  simp -implicitDefEqProofs -dsimp (maxSteps := 1000000) (disch := first | omega | (simp only [wkLen]; omega) | decide +kernel) only [↓wkPre, ↓wkPre2, ↓wkE, wkPost, wkDef, wkF, simprocAttr]
  refine loop_use extMono (fun m' e H => ∃ (i : Nat), m' = L.length - i ∧ i ≤ L.length ∧ e 0 = .p (wrsP L) ∧ e 3 = .p (I (delsF (L.take i))) ∧ e 4 = .p (I i)) ?_ L.length _ _ ⟨0, rfl, by omega, ?_⟩
  · rintro m' e H ⟨i, rfl, hi, e0, e3, e4⟩
    have hd := delsF_le (L.take i)
    rw [List.length_take] at hd
    rcases Nat.lt_or_ge i L.length with hlt | hge
    · have gi := wrs_get hlt
      have hs := dels_snoc (L.take i) L[i]
      rw [← List.take_succ_eq_append_getElem hlt] at hs
      generalize L[i] = w at gi hs
      obtain ⟨wp, wr⟩ := w
      cases wp
      · simp -implicitDefEqProofs -dsimp (maxSteps := 1000000) (disch := first | omega | (simp only [wkLen]; omega) | decide +kernel) only [↓wkPre, ↓wkPre2, ↓wkE, wkPost, wkDef, wkF, simprocAttr, e0, e3, e4, hl, gi]
        exact ⟨L.length - (i + 1), by omega, i + 1, rfl, by omega, by rw [hs]; simp, by push_cast; rfl⟩
      · simp -implicitDefEqProofs -dsimp (maxSteps := 1000000) (disch := first | omega | (simp only [wkLen]; omega) | decide +kernel) only [↓wkPre, ↓wkPre2, ↓wkE, wkPost, wkDef, wkF, simprocAttr, e0, e3, e4, hl, gi]
        exact ⟨L.length - (i + 1), by omega, i + 1, rfl, by omega, by rw [hs]; simp, by push_cast; rfl⟩
    · simp -implicitDefEqProofs -dsimp (maxSteps := 1000000) (disch := first | omega | (simp only [wkLen]; omega) | decide +kernel) only [↓wkPre, ↓wkPre2, ↓wkE, wkPost, wkDef, wkF, simprocAttr, e0, e3, e4, hl]
      rw [List.take_of_length_le (by omega)]
  · simp -implicitDefEqProofs -dsimp (maxSteps := 1000000) (disch := first | omega | (simp only [wkLen]; omega) | decide +kernel) only [↓wkPre, ↓wkPre2, ↓wkE, wkPost, wkDef, wkF, simprocAttr]
    rfl
theorem viewF_len (M : List Rc) (ws : List Wr) : (viewF M ws).length ≤ M.length + ws.length := by
  unfold viewF
  induction ws generalizing M with
  | nil => simp
  | cons w ws ih =>
    have h1 : (stepF M w).length ≤ M.length + 1 := by
      unfold stepF
      split
      · exact withG_len _ _ _
      · have := woutF_len M w.r.key; omega
    have := ih (stepF M w)
    rw [List.foldl_cons, List.length_cons]; omega
theorem p35 (M : List Rc) (ws : List Wr) (hM : M.length + ws.length ≤ 1000) : PS Cf okf 46 [36] [rcsP M, wrsP ws] (fun v => v = rcsP (viewF M ws)) := by
  refine PS.mk extMono Try.func46 body46 (by decide) rfl ?_
  simp only [c46, Try.f46, Option.getD_some]
  have hl := wrs_len ws
  simp -implicitDefEqProofs -dsimp (maxSteps := 1000000) (disch := first | omega | (simp only [wkLen]; omega) | decide +kernel) only [↓wkPre, ↓wkPre2, ↓wkE, wkPost, wkDef, wkF, simprocAttr]
  refine loop_use extMono (fun m' e H => ∃ (i : Nat), m' = ws.length - i ∧ i ≤ ws.length ∧ e 1 = .p (wrsP ws) ∧ e 5 = .p (rcsP (viewF M (ws.take i))) ∧ e 6 = .p (I i)) ?_ ws.length _ _ ⟨0, rfl, by omega, ?_⟩
  · rintro m' e H ⟨i, rfl, hi, e1, e5, e6⟩
    have hv := viewF_len M (ws.take i)
    rw [List.length_take] at hv
    rcases Nat.lt_or_ge i ws.length with hlt | hge
    · have gi := wrs_get hlt
      have hs := viewF_snoc M (ws.take i) ws[i]
      rw [← List.take_succ_eq_append_getElem hlt] at hs
      generalize ws[i] = w at gi hs
      obtain ⟨wp, wr⟩ := w
      cases wp
      · simp -implicitDefEqProofs -dsimp (maxSteps := 1000000) (disch := first | omega | (simp only [wkLen]; omega) | decide +kernel) only [↓wkPre, ↓wkPre2, ↓wkE, wkPost, wkDef, wkF, simprocAttr, e1, e5, e6, hl, gi]
        refine PS.app md_73 Try.func73 (p51 _ wr.key (by omega)) rfl ?_
        rintro _ rfl
        simp -implicitDefEqProofs -dsimp (maxSteps := 1000000) (disch := first | omega | (simp only [wkLen]; omega) | decide +kernel) only [↓wkPre, ↓wkPre2, ↓wkE, wkPost, wkDef, wkF, simprocAttr, e1, e5, e6, hl, gi]
        exact ⟨ws.length - (i + 1), by omega, i + 1, rfl, by omega, by rw [hs]; rfl, by push_cast; rfl⟩
      · simp -implicitDefEqProofs -dsimp (maxSteps := 1000000) (disch := first | omega | (simp only [wkLen]; omega) | decide +kernel) only [↓wkPre, ↓wkPre2, ↓wkE, wkPost, wkDef, wkF, simprocAttr, e1, e5, e6, hl, gi]
        refine PS.app md_72 Try.func72 (p50 _ wr (by omega)) rfl ?_
        rintro _ rfl
        simp -implicitDefEqProofs -dsimp (maxSteps := 1000000) (disch := first | omega | (simp only [wkLen]; omega) | decide +kernel) only [↓wkPre, ↓wkPre2, ↓wkE, wkPost, wkDef, wkF, simprocAttr, e1, e5, e6, hl, gi]
        exact ⟨ws.length - (i + 1), by omega, i + 1, rfl, by omega, by rw [hs]; rfl, by push_cast; rfl⟩
    · simp -implicitDefEqProofs -dsimp (maxSteps := 1000000) (disch := first | omega | (simp only [wkLen]; omega) | decide +kernel) only [↓wkPre, ↓wkPre2, ↓wkE, wkPost, wkDef, wkF, simprocAttr, e1, e5, e6, hl]
      rw [List.take_of_length_le (by omega)]
  · simp -implicitDefEqProofs -dsimp (maxSteps := 1000000) (disch := first | omega | (simp only [wkLen]; omega) | decide +kernel) only [↓wkPre, ↓wkPre2, ↓wkE, wkPost, wkDef, wkF, simprocAttr]
    rfl
theorem p52 (S : List Sv) (n : Int) (hS : S.length ≤ 1000) : PS Cf okf 74 [3] [svsP S, I n] (fun v => ∃ k : Int, v = I k ∧ ((k = -1 ∧ ∀ s ∈ S, s.1 ≠ n) ∨ ∃ j, ∃ h : j < S.length, k = (j : Nat) ∧ S[j].1 = n)) := by
  refine PS.mk extMono Try.func74 body74 (by decide) rfl ?_
  simp only [c74, Try.f74, Option.getD_some]
  have hl := svs_len S
  simp -implicitDefEqProofs -dsimp (maxSteps := 1000000) (disch := first | omega | (simp only [wkLen]; omega) | decide +kernel) only [↓wkPre, ↓wkPre2, ↓wkE, wkPost, wkDef, wkF, simprocAttr, hl]
  refine loop_use extMono (fun m' e H => ∃ (i : Nat), i = m' ∧ i ≤ S.length ∧ e 0 = .p (svsP S) ∧ e 1 = .p (I n) ∧ e 5 = .p (I ((i : Int) - 1)) ∧ ∀ j (h : j < S.length), i ≤ j → S[j].1 ≠ n) ?_ S.length _ _ ⟨S.length, rfl, by omega, ?_⟩
  · rintro m' e H ⟨i, him, hi, e0, e1, e5, hno⟩
    subst him
    cases i with
    | zero =>
      simp -implicitDefEqProofs -dsimp (maxSteps := 1000000) (disch := first | omega | (simp only [wkLen]; omega) | decide +kernel) only [↓wkPre, ↓wkPre2, ↓wkE, wkPost, wkDef, wkF, simprocAttr, e0, e1, e5, hl]
      refine ⟨_, rfl, .inl ⟨rfl, fun s hs => ?_⟩⟩
      obtain ⟨j, hj, rfl⟩ := List.mem_iff_getElem.1 hs
      exact hno j hj (Nat.zero_le _)
    | succ i =>
      have hlt : i < S.length := by omega
      have gi := svs_get hlt
      have ec : (((i + 1 : Nat) : Int) - 1) = (i : Int) := by omega
      rw [ec] at e5
      by_cases hn : S[i].1 = n
      · simp -implicitDefEqProofs -dsimp (maxSteps := 1000000) (disch := first | omega | (simp only [wkLen]; omega) | decide +kernel) only [↓wkPre, ↓wkPre2, ↓wkE, wkPost, wkDef, wkF, simprocAttr, e0, e1, e5, hl, gi, hn]
        exact ⟨_, rfl, .inr ⟨i, hlt, rfl, hn⟩⟩
      · simp -implicitDefEqProofs -dsimp (maxSteps := 1000000) (disch := first | omega | (simp only [wkLen]; omega) | decide +kernel) only [↓wkPre, ↓wkPre2, ↓wkE, wkPost, wkDef, wkF, simprocAttr, e0, e1, e5, hl, gi, hn]
        refine ⟨i, by omega, i, rfl, by omega, rfl, fun j h hj => ?_⟩
        by_cases hji : j = i
        · subst hji; exact hn
        · exact hno j h (by omega)
  · simp -implicitDefEqProofs -dsimp (maxSteps := 1000000) (disch := first | omega | (simp only [wkLen]; omega) | decide +kernel) only [↓wkPre, ↓wkPre2, ↓wkE, wkPost, wkDef, wkF, simprocAttr]
    intro j h hj; omega
end Go.Ev.F35
end
section
namespace Go.Ev.F35
open Go.Proofs Go.Ev
set_option maxRecDepth 100000
set_option linter.all false
theorem inF_snoc (L : List Rc) (w : Re) (r : Rc) : inF (L ++ [r]) w = inF L w ++ (if hasF w r = true then [r] else []) := by
  unfold inF
  rw [List.filter_append]
  cases h : hasF w r <;> simp [h]
theorem inF_len (L : List Rc) (w : Re) : (inF L w).length ≤ L.length := List.length_filter_le _ _
set_option maxHeartbeats 1000000 in
theorem p56 (L : List Rc) (w : Re) (hL : L.length ≤ 1000) : PS Cf okf 78 [36] [rcsP L, reP w] (fun v => v = rcsP (inF L w)) := by
  refine PS.mk extMono Try.func78 body78 (by decide) rfl ?_
  simp only [c78, Try.f78, Option.getD_some]
  have hl := rcs_len L
  simp -implicitDefEqProofs -dsimp (maxSteps := 1000000) (disch := first | omega | (simp only [wkLen]; omega) | decide +kernel) only [↓wkPre, ↓wkPre2, ↓wkE, wkPost, wkDef, wkF, simprocAttr]
  refine loop_use extMono (fun m' e H => ∃ (i : Nat) (v : AV), m' = L.length - i ∧ i ≤ L.length ∧ e 0 = .p (rcsP L) ∧ e 3 = .vptr 0 0 ∧ e 5 = v ∧ e 6 = .p (I i) ∧ H[0]? = some (.var true (.p (reP w))) ∧ (∀ c, v.blk = some c → 1 ≤ c) ∧ OwnS H v 6 (rcs (inF (L.take i) w))) ?_ L.length _ _ ⟨0, .nsl, rfl, by omega, ?_⟩
  · rintro m' e H ⟨i, v, rfl, hi, e0, e3, e5, e6, k0, hvb, hown⟩
    have hkl := rcs_len (inF (L.take i) w)
    have hkl2 := inF_len (L.take i) w
    rw [List.length_take] at hkl2
    have hH0 := (List.getElem?_eq_some_iff.1 k0).1
    rcases Nat.lt_or_ge i L.length with hlt | hge
    · have gi := rcs_get hlt
      have hs := inF_snoc (L.take i) w L[i]
      rw [← List.take_succ_eq_append_getElem hlt] at hs
      generalize L[i] = r at gi hs
      obtain ⟨rk, rx, ry, rv⟩ := r
      obtain ⟨x0, y0, x1, y1⟩ := w
      have fin : ∀ (e' : Env), hasF ⟨x0, y0, x1, y1⟩ ⟨rk, rx, ry, rv⟩ = false → inF (L.take (i + 1)) ⟨x0, y0, x1, y1⟩ = inF (L.take i) ⟨x0, y0, x1, y1⟩ := fun _ h => by rw [hs, h]; simp
      by_cases h1 : x0 ≤ rx
      · by_cases h2 : rx ≤ x1
        · by_cases h3 : y0 ≤ ry
          · by_cases h4 : ry ≤ y1
            · have hh : hasF ⟨x0, y0, x1, y1⟩ ⟨rk, rx, ry, rv⟩ = true := by simp [hasF, h1, h2, h3, h4]
              rw [hh, if_pos rfl] at hs
              simp -implicitDefEqProofs -dsimp (maxSteps := 1000000) (disch := first | omega | (simp only [wkLen]; omega) | decide +kernel) only [↓wkPre, ↓wkPre2, ↓wkE, wkPost, wkDef, wkF, simprocAttr, e0, e3, e5, e6, hl, gi, k0, h1, h2, h3, h4]
              refine append_step telem_36 (elems_new rfl rfl) (by simp) (hown.app _) ?_ ?_
              · rw [byt_64, hkl]; simp; omega
              intro w2 H2 hown2 hfr2 hle2 hb2
              simp only [List.length_append, List.length_cons, List.length_nil] at hfr2 hle2 hb2
              have k2 := (hfr2 0 (by omega) (fun h => by have := hvb 0 h; omega)).trans ((hs_app (by omega)).trans k0)
              simp -implicitDefEqProofs -dsimp (maxSteps := 1000000) (disch := first | omega | (simp only [wkLen]; omega) | decide +kernel) only [↓wkPre, ↓wkPre2, ↓wkE, wkPost, wkDef, wkF, simprocAttr, e0, e3, e5, e6]
              refine ⟨L.length - (i + 1), by omega, i + 1, w2, rfl, by omega, rfl, by push_cast; rfl, k2, fun c hc => ?_, by rw [hs, rcs_snoc]; exact hown2⟩
              by_cases h : c < H.length + (0 + 1)
              · exact hvb c (hb2 c hc h)
              · omega
            · have hh : hasF ⟨x0, y0, x1, y1⟩ ⟨rk, rx, ry, rv⟩ = false := by simp [hasF, h4]
              simp -implicitDefEqProofs -dsimp (maxSteps := 1000000) (disch := first | omega | (simp only [wkLen]; omega) | decide +kernel) only [↓wkPre, ↓wkPre2, ↓wkE, wkPost, wkDef, wkF, simprocAttr, e0, e3, e5, e6, hl, gi, k0, h1, h2, h3, h4]
              exact ⟨L.length - (i + 1), by omega, i + 1, v, rfl, by omega, rfl, by push_cast; rfl, hvb, by rw [fin e hh]; exact hown⟩
          · have hh : hasF ⟨x0, y0, x1, y1⟩ ⟨rk, rx, ry, rv⟩ = false := by simp [hasF, h3]
            simp -implicitDefEqProofs -dsimp (maxSteps := 1000000) (disch := first | omega | (simp only [wkLen]; omega) | decide +kernel) only [↓wkPre, ↓wkPre2, ↓wkE, wkPost, wkDef, wkF, simprocAttr, e0, e3, e5, e6, hl, gi, k0, h1, h2, h3]
            exact ⟨L.length - (i + 1), by omega, i + 1, v, rfl, by omega, rfl, by push_cast; rfl, hvb, by rw [fin e hh]; exact hown⟩
        · have hh : hasF ⟨x0, y0, x1, y1⟩ ⟨rk, rx, ry, rv⟩ = false := by simp [hasF, h2]
          simp -implicitDefEqProofs -dsimp (maxSteps := 1000000) (disch := first | omega | (simp only [wkLen]; omega) | decide +kernel) only [↓wkPre, ↓wkPre2, ↓wkE, wkPost, wkDef, wkF, simprocAttr, e0, e3, e5, e6, hl, gi, k0, h1, h2]
          exact ⟨L.length - (i + 1), by omega, i + 1, v, rfl, by omega, rfl, by push_cast; rfl, hvb, by rw [fin e hh]; exact hown⟩
      · have hh : hasF ⟨x0, y0, x1, y1⟩ ⟨rk, rx, ry, rv⟩ = false := by simp [hasF, h1]
        simp -implicitDefEqProofs -dsimp (maxSteps := 1000000) (disch := first | omega | (simp only [wkLen]; omega) | decide +kernel) only [↓wkPre, ↓wkPre2, ↓wkE, wkPost, wkDef, wkF, simprocAttr, e0, e3, e5, e6, hl, gi, k0, h1]
        exact ⟨L.length - (i + 1), by omega, i + 1, v, rfl, by omega, rfl, by push_cast; rfl, hvb, by rw [fin e hh]; exact hown⟩
    · simp -implicitDefEqProofs -dsimp (maxSteps := 1000000) (disch := first | omega | (simp only [wkLen]; omega) | decide +kernel) only [↓wkPre, ↓wkPre2, ↓wkE, wkPost, wkDef, wkF, simprocAttr, e0, e3, e5, e6, hl]
      rw [List.take_of_length_le (by omega)] at hown
      exact frz27 hown
  · simp -implicitDefEqProofs -dsimp (maxSteps := 1000000) (disch := first | omega | (simp only [wkLen]; omega) | decide +kernel) only [↓wkPre, ↓wkPre2, ↓wkE, wkPost, wkDef, wkF, simprocAttr]
    exact ⟨(fun c h => by cases h), OwnS.nil _ _⟩
def writeF (t : Mi) (w : Wr) : Mi := ⟨true, t.L ++ [w], t.S⟩
theorem hleaf81 : leafTs Try.prog 20 79 = [4, 76, 77] := by kernel_rfl
theorem frzN_mi {H : Heap} {v : AV} {K : List PV} (h : OwnS H v 7 K) (a s : PV) : frzN Try.prog H 4 79 (.agg [.p a, v, .p s]) = some (.agg [a, .sl 7 K, s]) := by
  simp [frzN, hleaf81, frzL, frz_own (n := 3) telem_76 h]
theorem frzR_mi {H : Heap} {v : AV} {K : List PV} (h : OwnS H v 7 K) (a s : PV) : frzR Try.prog H [79] (.agg [.p a, v, .p s]) = some (.agg [a, .sl 7 K, s]) := frzN_mi h a s
theorem p54 (t : Mi) (w : Wr) (hL : t.L.length ≤ 1000) : PS Cf okf 76 [79] [miP t, wrP w] (fun v => v = miP (writeF t w)) := by
  refine PS.mk extMono Try.func76 body76 (by decide) rfl ?_
  simp only [c76, Try.f76, Option.getD_some]
  obtain ⟨on, L, S⟩ := t
  obtain ⟨wp, wr⟩ := w
  dsimp only at hL
  have hl := wrs_len L
  simp -implicitDefEqProofs -dsimp (maxSteps := 1000000) (disch := first | omega | (simp only [wkLen]; omega) | decide +kernel) only [↓wkPre, ↓wkPre2, ↓wkE, wkPost, wkDef, wkF, simprocAttr]
  refine append_any telem_76 (ys := wrs L) (xs := []) rfl (OwnS.nil _ _) (by rw [byt_134, hl]; simp; omega) ?_
  intro v H hown hfr hle hb
  rw [List.nil_append] at hown
  have hvb : ∀ c, v.blk = some c → 4 ≤ c := fun c hc => by
    rcases Nat.lt_or_ge c 4 with h | h
    · have := hb c hc (by simp; omega); simp [AV.blk] at this
    · exact h
  simp only [List.length_cons, List.length_nil] at hfr hle
  have q1 := hfr 1 (by omega) (by simp [AV.blk])
  have q2 := hfr 2 (by omega) (by simp [AV.blk])
  have q3 := hfr 3 (by omega) (by simp [AV.blk])
  simp only [List.getElem?_cons_succ, List.getElem?_cons_zero] at q1 q2 q3
  have s3 : ∀ x : Blk, (H.set 3 x)[3]? = some x := fun x => hs_set (by omega)
  have s1 : ∀ x : Blk, (H.set 3 x)[1]? = H[1]? := fun x => hs_ne (by omega)
  have hown1 : ∀ x : Blk, OwnS (H.set 3 x) v 7 (wrs L) := fun x => hown.set (fun h => by have := hvb _ h; omega)
  have hfin : ∀ (u : AV) (H2 : Heap), OwnS H2 u 7 (wrs (L ++ [⟨wp, wr⟩])) → (∀ c, u.blk = some c → 4 ≤ c) → ∀ x y : Blk, OwnS ((H2.set 3 x).set 2 y) u 7 (wrs (L ++ [⟨wp, wr⟩])) := fun u H2 h1 h2 x y => (h1.set (fun h => by have := h2 _ h; omega)).set (fun h => by have := h2 _ h; omega)
  rcases id hown with ⟨rfl, hx⟩ | ⟨bb, g, rfl, hbk⟩
  · simp -implicitDefEqProofs -dsimp (maxSteps := 1000000) (disch := first | omega | (simp only [wkLen]; omega) | decide +kernel) only [↓wkPre, ↓wkPre2, ↓wkE, wkPost, wkDef, wkF, simprocAttr, q1, q2, q3, s3, s1]
    have hsl : ∀ x : Blk, (H.set 3 x).length = H.length := fun x => by simp
    refine append_step telem_76 (elems_new (by simp) rfl) (by simp) ((hown1 _).app _) ?_ ?_
    · rw [byt_134]; simp [hl]; omega
    intro u H2 hown2 hfr2 hle2 hb2
    rw [← wrs_snoc (r := ⟨wp, wr⟩)] at hown2
    simp only [List.length_append, hsl, List.length_cons, List.length_nil] at hfr2 hle2 hb2
    have hub : ∀ c, u.blk = some c → 4 ≤ c := fun c hc => by
      by_cases h : c < H.length + (0 + 1)
      · exact hvb c (hb2 c hc h)
      · omega
    have r3 := (hfr2 3 (by omega) (fun h => by have := hvb 3 h; omega)).trans ((hs_app (by rw [hsl]; omega)).trans (s3 _))
    have r2 := (hfr2 2 (by omega) (fun h => by have := hvb 2 h; omega)).trans ((hs_app (by rw [hsl]; omega)).trans ((hs_ne (by omega)).trans q2))
    have v3 : ∀ x : Blk, (H2.set 3 x)[3]? = some x := fun x => hs_set (by omega)
    have v2 : ∀ x : Blk, (H2.set 3 x)[2]? = H2[2]? := fun x => hs_ne (by omega)
    have w2 : ∀ x y : Blk, ((H2.set 3 x).set 2 y)[2]? = some y := fun x y => hs_set (by simp; omega)
    have hfin2 := hfin u H2 hown2 hub
    rcases id hown2 with ⟨rfl, hx2⟩ | ⟨bb2, g2, rfl, hbk2⟩
    · have := congrArg List.length hx2
      rw [wrs_len] at this; simp at this
    · simp -implicitDefEqProofs -dsimp (maxSteps := 1000000) (disch := first | omega | (simp only [wkLen]; omega) | decide +kernel) only [↓wkPre, ↓wkPre2, ↓wkE, wkPost, wkDef, wkF, simprocAttr, r2, r3, v2, v3, w2]
      rw [frzR_mi (hfin2 _ _)]
      rfl
  · simp -implicitDefEqProofs -dsimp (maxSteps := 1000000) (disch := first | omega | (simp only [wkLen]; omega) | decide +kernel) only [↓wkPre, ↓wkPre2, ↓wkE, wkPost, wkDef, wkF, simprocAttr, q1, q2, q3, s3, s1]
    have hsl : ∀ x : Blk, (H.set 3 x).length = H.length := fun x => by simp
    refine append_step telem_76 (elems_new (by simp) rfl) (by simp) ((hown1 _).app _) ?_ ?_
    · rw [byt_134]; simp [hl]; omega
    intro u H2 hown2 hfr2 hle2 hb2
    rw [← wrs_snoc (r := ⟨wp, wr⟩)] at hown2
    simp only [List.length_append, hsl, List.length_cons, List.length_nil] at hfr2 hle2 hb2
    have hub : ∀ c, u.blk = some c → 4 ≤ c := fun c hc => by
      by_cases h : c < H.length + (0 + 1)
      · exact hvb c (hb2 c hc h)
      · omega
    have r3 := (hfr2 3 (by omega) (fun h => by have := hvb 3 h; omega)).trans ((hs_app (by rw [hsl]; omega)).trans (s3 _))
    have r2 := (hfr2 2 (by omega) (fun h => by have := hvb 2 h; omega)).trans ((hs_app (by rw [hsl]; omega)).trans ((hs_ne (by omega)).trans q2))
    have v3 : ∀ x : Blk, (H2.set 3 x)[3]? = some x := fun x => hs_set (by omega)
    have v2 : ∀ x : Blk, (H2.set 3 x)[2]? = H2[2]? := fun x => hs_ne (by omega)
    have w2 : ∀ x y : Blk, ((H2.set 3 x).set 2 y)[2]? = some y := fun x y => hs_set (by simp; omega)
    have hfin2 := hfin u H2 hown2 hub
    rcases id hown2 with ⟨rfl, hx2⟩ | ⟨bb2, g2, rfl, hbk2⟩
    · have := congrArg List.length hx2
      rw [wrs_len] at this; simp at this
    · simp -implicitDefEqProofs -dsimp (maxSteps := 1000000) (disch := first | omega | (simp only [wkLen]; omega) | decide +kernel) only [↓wkPre, ↓wkPre2, ↓wkE, wkPost, wkDef, wkF, simprocAttr, r2, r3, v2, v3, w2]
      rw [frzR_mi (hfin2 _ _)]
      rfl
end Go.Ev.F35
end
section
namespace Go.Ev.F35
open Go.Proofs Go.Ev
set_option maxRecDepth 100000
set_option linter.all false
structure Ao where
  kind : Int
  key : Int
  x : Int
  y : Int
  val : List UInt8
  w : Re
  n : Int
abbrev aoP (o : Ao) : PV := .agg [I o.kind, U o.key, u32 o.x, u32 o.y, .str o.val, u32 o.w.x0, u32 o.w.y0, u32 o.w.x1, u32 o.w.y1, I o.n]
structure An where
  code : Nat
  recs : List Rc
  n : Nat
abbrev anP (a : An) : PV := .agg [I a.code, rcsP a.recs, I a.n]
theorem look_n {L : List Rc} {k : Int} (h : L.findIdx? (fun r => r.key == k) = none) : look L k = none ∧ findF L k = -1 := by
  refine ⟨?_, by unfold findF; rw [h]⟩
  unfold look
  rw [List.find?_eq_none]
  rw [List.findIdx?_eq_none_iff] at h
  intro x hx
  simpa using h x hx
theorem look_s {L : List Rc} {k : Int} {i : Nat} (h : L.findIdx? (fun r => r.key == k) = some i) : ∃ hi : i < L.length, look L k = some L[i] ∧ findF L k = i := by
  have h0 := h
  obtain ⟨hi, h1, h2⟩ := List.findIdx?_eq_some_iff_getElem.1 h
  refine ⟨hi, ?_, by unfold findF; rw [h0]⟩
  unfold look
  rw [List.find?_eq_some_iff_getElem]
  exact ⟨h1, i, hi, rfl, fun j hj => by simpa using h2 j hj⟩
theorem hleaf47 : leafTs Try.prog 20 38 = [35, 36, 3] := by kernel_rfl
theorem frzN_an {H : Heap} {v : AV} {K : List PV} (h : OwnS H v 6 K) (a s : PV) : frzN Try.prog H 4 38 (.agg [.p a, v, .p s]) = some (.agg [a, .sl 6 K, s]) := by
  simp [frzN, hleaf47, frzL, frz_own (n := 3) telem_36 h]
theorem frzR_an {H : Heap} {v : AV} {K : List PV} (h : OwnS H v 6 K) (a s : PV) : frzR Try.prog H [38] (.agg [.p a, v, .p s]) = some (.agg [a, .sl 6 K, s]) := frzN_an h a s
theorem own_at {H : Heap} {b g : Nat} {x : PV} (h : H[b]? = some (.arr true g 6 [x])) : OwnS H (.ref b g 0 1 false) 6 [x] := .inr ⟨b, g, rfl, h⟩
def asksF (l : List Rc) (o : Ao) : An :=
  if o.kind = 2 then (match look l o.key with | none => ⟨7, [], 0⟩ | some r => ⟨0, [r], 1⟩)
  else if o.kind = 4 then ⟨0, inF l o.w, (inF l o.w).length⟩ else ⟨0, [], (inF l o.w).length⟩
theorem p39 (l : List Rc) (o : Ao) (hl : l.length ≤ 1000) : PS Cf okf 49 [38] [rcsP l, aoP o] (fun v => v = anP (asksF l o)) := by
  refine PS.mk extMono Try.func49 body49 (by decide) rfl ?_
  simp only [c49, Try.f49, Option.getD_some]
  obtain ⟨ok, key, x, y, val, w, n⟩ := o
  have hll := rcs_len l
  unfold asksF
  dsimp only
  by_cases h2 : ok = 2
  · subst h2
    rw [if_pos rfl]
    have h53 := p53 l key hl
    cases hf : l.findIdx? (fun r => r.key == key) with
    | none =>
      obtain ⟨e1, e2⟩ := look_n hf
      rw [e2] at h53
      rw [e1]
      simp -implicitDefEqProofs -dsimp (maxSteps := 1000000) (disch := first | omega | (simp only [wkLen]; omega) | decide +kernel) only [↓wkPre, ↓wkPre2, ↓wkE, wkPost, wkDef, wkF, simprocAttr]
      refine PS.app md_75 Try.func75 h53 rfl ?_
      rintro _ rfl
      simp -implicitDefEqProofs -dsimp (maxSteps := 1000000) (disch := first | omega | (simp only [wkLen]; omega) | decide +kernel) only [↓wkPre, ↓wkPre2, ↓wkE, wkPost, wkDef, wkF, simprocAttr]
      rw [frzR_an (OwnS.nil _ _)]
      rfl
    | some i =>
      obtain ⟨hi, e1, e2⟩ := look_s hf
      rw [e2] at h53
      rw [e1]
      have gi := rcs_get hi
      simp -implicitDefEqProofs -dsimp (maxSteps := 1000000) (disch := first | omega | (simp only [wkLen]; omega) | decide +kernel) only [↓wkPre, ↓wkPre2, ↓wkE, wkPost, wkDef, wkF, simprocAttr]
      refine PS.app md_75 Try.func75 h53 rfl ?_
      rintro _ rfl
      simp -implicitDefEqProofs -dsimp (maxSteps := 1000000) (disch := first | omega | (simp only [wkLen]; omega) | decide +kernel) only [↓wkPre, ↓wkPre2, ↓wkE, wkPost, wkDef, wkF, simprocAttr, hll, gi]
      rw [frzR_an (own_at rfl)]
      rfl
  · rw [if_neg h2]
    have h56 := p56 l w hl
    have hi := inF_len l w
    have hil := rcs_len (inF l w)
    generalize inF l w = X at *
    by_cases h4 : ok = 4
    · subst h4
      simp -implicitDefEqProofs -dsimp (maxSteps := 1000000) (disch := first | omega | (simp only [wkLen]; omega) | decide +kernel) only [↓wkPre, ↓wkPre2, ↓wkE, wkPost, wkDef, wkF, simprocAttr]
      refine PS.app md_78 Try.func78 h56 rfl ?_
      rintro _ rfl
      simp -implicitDefEqProofs -dsimp (maxSteps := 1000000) (disch := first | omega | (simp only [wkLen]; omega) | decide +kernel) only [↓wkPre, ↓wkPre2, ↓wkE, wkPost, wkDef, wkF, simprocAttr, hil]
      rfl
    · rw [if_neg h4]
      simp -implicitDefEqProofs -dsimp (maxSteps := 1000000) (disch := first | omega | (simp only [wkLen]; omega) | decide +kernel) only [↓wkPre, ↓wkPre2, ↓wkE, wkPost, wkDef, wkF, simprocAttr, h2]
      refine PS.app md_78 Try.func78 h56 rfl ?_
      rintro _ rfl
      simp -implicitDefEqProofs -dsimp (maxSteps := 1000000) (disch := first | omega | (simp only [wkLen]; omega) | decide +kernel) only [↓wkPre, ↓wkPre2, ↓wkE, wkPost, wkDef, wkF, simprocAttr, hil, h4]
      rw [frzR_an (OwnS.nil _ _)]
      rfl
def changeF (t : Mi) (l : List Rc) (o : Ao) : Mi × An :=
  if o.kind = 1 then (match look l o.key with
    | some _ => (t, ⟨8, [], 0⟩)
    | none => if 15 < o.val.length then (t, ⟨9, [], 0⟩) else (writeF t ⟨true, ⟨o.key, o.x, o.y, o.val⟩⟩, ⟨0, [], 0⟩))
  else (match look l o.key with
    | none => (t, ⟨7, [], 0⟩)
    | some r => if 16 ≤ delsF t.L then (t, ⟨13, [], 0⟩) else (writeF t ⟨false, r⟩, ⟨0, [r], 1⟩))
theorem frzR_ma {H : Heap} {v : AV} {K : List PV} (h : OwnS H v 6 K) (t : PV) (a s : PV) : frzR Try.prog H [79, 38] (.tup [.p t, .agg [.p a, v, .p s]]) = some (.tup [t, .agg [a, .sl 6 K, s]]) := by
  show (frzL (frzN Try.prog H 4) [.p t, .agg [.p a, v, .p s]] [79, 38]).map PV.tup = _
  simp only [frzL, List.headD_cons, List.tail_cons]
  rw [frzN_an h]
  rfl
theorem p38 (t : Mi) (l : List Rc) (o : Ao) (hl : l.length ≤ 1000) (ht : t.L.length ≤ 1000) : PS Cf okf 48 [79, 38] [miP t, rcsP l, aoP o] (fun v => v = .tup [miP (changeF t l o).1, anP (changeF t l o).2]) := by
  refine PS.mk extMono Try.func48 body48 (by decide) rfl ?_
  simp only [c48, Try.f48, Option.getD_some]
  have h54 := fun w => p54 t w ht
  have h55 := p55 t.L ht
  have hd := delsF_le t.L
  obtain ⟨ok, key, x, y, val, w, n⟩ := o
  have hll := rcs_len l
  have h53 := p53 l key hl
  unfold changeF
  dsimp only
  by_cases h1 : ok = 1
  · subst h1
    rw [if_pos rfl]
    cases hf : l.findIdx? (fun r => r.key == key) with
    | none =>
      obtain ⟨e1, e2⟩ := look_n hf
      rw [e2] at h53
      rw [e1]
      by_cases hv : 15 < val.length
      · dsimp only
        rw [if_pos hv]
        simp -implicitDefEqProofs -dsimp (maxSteps := 1000000) (disch := first | omega | (simp only [wkLen]; omega) | decide +kernel) only [↓wkPre, ↓wkPre2, ↓wkE, wkPost, wkDef, wkF, simprocAttr]
        refine PS.app md_75 Try.func75 h53 rfl ?_
        rintro _ rfl
        simp -implicitDefEqProofs -dsimp (maxSteps := 1000000) (disch := first | omega | (simp only [wkLen]; omega) | decide +kernel) only [↓wkPre, ↓wkPre2, ↓wkE, wkPost, wkDef, wkF, simprocAttr, hv]
        rw [frzN_an (OwnS.nil _ _)]
        rfl
      · dsimp only
        rw [if_neg hv]
        simp -implicitDefEqProofs -dsimp (maxSteps := 1000000) (disch := first | omega | (simp only [wkLen]; omega) | decide +kernel) only [↓wkPre, ↓wkPre2, ↓wkE, wkPost, wkDef, wkF, simprocAttr]
        refine PS.app md_75 Try.func75 h53 rfl ?_
        rintro _ rfl
        simp -implicitDefEqProofs -dsimp (maxSteps := 1000000) (disch := first | omega | (simp only [wkLen]; omega) | decide +kernel) only [↓wkPre, ↓wkPre2, ↓wkE, wkPost, wkDef, wkF, simprocAttr, hv]
        refine PS.app md_76 Try.func76 (h54 ⟨true, ⟨key, x, y, val⟩⟩) rfl ?_
        rintro _ rfl
        simp -implicitDefEqProofs -dsimp (maxSteps := 1000000) (disch := first | omega | (simp only [wkLen]; omega) | decide +kernel) only [↓wkPre, ↓wkPre2, ↓wkE, wkPost, wkDef, wkF, simprocAttr]
        rw [frzN_an (OwnS.nil _ _)]
        rfl
    | some i =>
      obtain ⟨hi, e1, e2⟩ := look_s hf
      rw [e2] at h53
      rw [e1]
      simp -implicitDefEqProofs -dsimp (maxSteps := 1000000) (disch := first | omega | (simp only [wkLen]; omega) | decide +kernel) only [↓wkPre, ↓wkPre2, ↓wkE, wkPost, wkDef, wkF, simprocAttr]
      refine PS.app md_75 Try.func75 h53 rfl ?_
      rintro _ rfl
      simp -implicitDefEqProofs -dsimp (maxSteps := 1000000) (disch := first | omega | (simp only [wkLen]; omega) | decide +kernel) only [↓wkPre, ↓wkPre2, ↓wkE, wkPost, wkDef, wkF, simprocAttr]
      rw [frzN_an (OwnS.nil _ _)]
      rfl
  · rw [if_neg h1]
    cases hf : l.findIdx? (fun r => r.key == key) with
    | none =>
      obtain ⟨e1, e2⟩ := look_n hf
      rw [e2] at h53
      rw [e1]
      simp -implicitDefEqProofs -dsimp (maxSteps := 1000000) (disch := first | omega | (simp only [wkLen]; omega) | decide +kernel) only [↓wkPre, ↓wkPre2, ↓wkE, wkPost, wkDef, wkF, simprocAttr]
      refine PS.app md_75 Try.func75 h53 rfl ?_
      rintro _ rfl
      simp -implicitDefEqProofs -dsimp (maxSteps := 1000000) (disch := first | omega | (simp only [wkLen]; omega) | decide +kernel) only [↓wkPre, ↓wkPre2, ↓wkE, wkPost, wkDef, wkF, simprocAttr, h1]
      rw [frzN_an (OwnS.nil _ _)]
      rfl
    | some i =>
      obtain ⟨hi, e1, e2⟩ := look_s hf
      rw [e2] at h53
      rw [e1]
      have gi := rcs_get hi
      by_cases h16 : 16 ≤ delsF t.L
      · dsimp only
        rw [if_pos h16]
        simp -implicitDefEqProofs -dsimp (maxSteps := 1000000) (disch := first | omega | (simp only [wkLen]; omega) | decide +kernel) only [↓wkPre, ↓wkPre2, ↓wkE, wkPost, wkDef, wkF, simprocAttr]
        refine PS.app md_75 Try.func75 h53 rfl ?_
        rintro _ rfl
        simp -implicitDefEqProofs -dsimp (maxSteps := 1000000) (disch := first | omega | (simp only [wkLen]; omega) | decide +kernel) only [↓wkPre, ↓wkPre2, ↓wkE, wkPost, wkDef, wkF, simprocAttr, h1]
        refine PS.app md_77 Try.func77 h55 rfl ?_
        rintro _ rfl
        simp -implicitDefEqProofs -dsimp (maxSteps := 1000000) (disch := first | omega | (simp only [wkLen]; omega) | decide +kernel) only [↓wkPre, ↓wkPre2, ↓wkE, wkPost, wkDef, wkF, simprocAttr]
        rw [frzN_an (OwnS.nil _ _)]
        rfl
      · dsimp only
        rw [if_neg h16]
        simp -implicitDefEqProofs -dsimp (maxSteps := 1000000) (disch := first | omega | (simp only [wkLen]; omega) | decide +kernel) only [↓wkPre, ↓wkPre2, ↓wkE, wkPost, wkDef, wkF, simprocAttr]
        refine PS.app md_75 Try.func75 h53 rfl ?_
        rintro _ rfl
        simp -implicitDefEqProofs -dsimp (maxSteps := 1000000) (disch := first | omega | (simp only [wkLen]; omega) | decide +kernel) only [↓wkPre, ↓wkPre2, ↓wkE, wkPost, wkDef, wkF, simprocAttr, h1]
        refine PS.app md_77 Try.func77 h55 rfl ?_
        rintro _ rfl
        simp -implicitDefEqProofs -dsimp (maxSteps := 1000000) (disch := first | omega | (simp only [wkLen]; omega) | decide +kernel) only [↓wkPre, ↓wkPre2, ↓wkE, wkPost, wkDef, wkF, simprocAttr, hll, gi]
        refine evC_pl pl_48_12 (by kernel_rfl) (by decide +kernel) ?_
        simp only [pl_48_12]
        simp -implicitDefEqProofs -dsimp (maxSteps := 1000000) (disch := first | omega | (simp only [wkLen]; omega) | decide +kernel) only [↓wkPre, ↓wkPre2, ↓wkE, wkPost, wkDef, wkF, simprocAttr, hll, gi]
        refine ⟨?_, ?_⟩
        · refine PS.app md_76 Try.func76 (h54 ⟨false, l[i]⟩) rfl ?_
          rintro _ rfl
          simp -implicitDefEqProofs -dsimp (maxSteps := 1000000) (disch := first | omega | (simp only [wkLen]; omega) | decide +kernel) only [↓wkPre, ↓wkPre2, ↓wkE, wkPost, wkDef, wkF, simprocAttr, hll, gi]
          rw [frzN_an (own_at rfl)]
          rfl
        · refine PS.app md_76 Try.func76 (h54 ⟨false, l[i]⟩) rfl ?_
          rintro _ rfl
          simp -implicitDefEqProofs -dsimp (maxSteps := 1000000) (disch := first | omega | (simp only [wkLen]; omega) | decide +kernel) only [↓wkPre, ↓wkPre2, ↓wkE, wkPost, wkDef, wkF, simprocAttr, hll, gi]
          rw [frzN_an (own_at rfl)]
          rfl
end Go.Ev.F35
end
