/- The law CycleBreaks answers true for every input, and its arguments read as before. No condition: the whole of the given statement. -/
import Derived.Test.YtffjakkofdgpbaaRows
import Derived.Test.YtffjakkofdgpbaaWalkC
set_option linter.all false
section
namespace Go.Ev.F12
open Go.Proofs Go.Ev Go.Sort
set_option maxRecDepth 100000
set_option linter.all false
def stF (salt n : Int) : Int := IntKind.u64.wrap ↑(BitVec.ofInt IntKind.u64.bits (IntKind.u64.wrap (n * n)) ^^^ BitVec.ofInt IntKind.u64.bits salt).toNat
theorem p18 (n salt : Int) : PS Cf okf 18 [23] [U n, .fp (U salt) 0 0] (fun r => r = U (stF salt n)) := by
  refine PS.mk extMono Try.func18 body18 (by decide) rfl ?_
  simp only [c18, Try.f18, Option.getD_some]
  simp -implicitDefEqProofs -dsimp (disch := first | omega | (simp only [wkLen]; omega) | decide +kernel) only [↓wkPre, ↓wkPre2, ↓wkE, wkPost, wkDef, wkF, simprocAttr]
  rfl
theorem p19 (c : List Int) (F : Int → Int) (salt : Int) (hF : ∀ n, PS Cf okf 18 [23] [U n, .fp (U salt) 0 0] (fun r => r = U (F n))) (hc : c.length ≤ 1000) :
  PS Cf okf 19 [3] [us c, .fn 18 [.fp (U salt) 0 0]] (fun r => (c = [] ∧ r = I (-1)) ∨ ∃ (k : Nat) (hk : k < c.length), r = I k ∧ (∀ (i : Nat) (h : i < c.length), F c[i] ≤ F c[k]) ∧ ∀ (i : Nat) (h : i < c.length), k < i → F c[i] < F c[k]) := by
  refine PS.mk extMono Try.func19 body19 (by decide) rfl ?_
  simp only [c19, Try.f19, Option.getD_some]
  have hcl := usL_len c
  simp -implicitDefEqProofs -dsimp (disch := first | omega | (simp only [wkLen]; omega) | decide +kernel) only [↓wkPre, ↓wkPre2, ↓wkE, wkPost, wkDef, wkF, simprocAttr]
  refine loop_use extMono (fun m e H => ∃ i : Nat, m = c.length - i ∧ i ≤ c.length ∧ e 0 = .p (us c) ∧ e 1 = .p (.fn 18 [.fp (U salt) 0 0]) ∧ e 8 = .p (us c) ∧ e 9 = .p (I c.length) ∧ e 10 = .p (I i) ∧
    ((i = 0 ∧ e 5 = .p (I (-1))) ∨ ∃ (k : Nat) (hk : k < c.length), k < i ∧ e 5 = .p (I k) ∧ (∀ (j : Nat) (h : j < c.length), j < i → F c[j] ≤ F c[k]) ∧ ∀ (j : Nat) (h : j < c.length), j < i → k < j → F c[j] < F c[k])) ?_ c.length _ _ ⟨0, rfl, by omega, ?_⟩
  · rintro m e H ⟨i, rfl, hi, e0, e1, e8, e9, e10, hbest⟩
    rcases Nat.lt_or_ge i c.length with h | h
    · have gi := usL_get h
      rcases hbest with ⟨rfl, e5⟩ | ⟨k, hk, hki, e5, hb1, hb2⟩
      · simp -implicitDefEqProofs -dsimp (disch := first | omega | (simp only [wkLen]; omega) | decide +kernel) only [↓wkPre, ↓wkPre2, ↓evC_region_st [5], ↓evC_text_st [5], ↓evC_cond, ↓evC_block, ↓evC_stop [5], wkPost, wkDef, wkF, simprocAttr, e0, e1, e8, e9, e10, e5, gi, hcl]
        refine stop_pl pl_19_5 (by kernel_rfl) (by decide +kernel) ?_
        simp only [pl_19_5]
        simp -implicitDefEqProofs -dsimp (disch := first | omega | (simp only [wkLen]; omega) | decide +kernel) only [↓wkPre, ↓wkPre2, ↓wkE, wkPost, wkDef, wkF, simprocAttr, e0, e1, e8, e9, e10, e5, gi, hcl]
        refine ⟨c.length - 1, by omega, 1, rfl, by omega, rfl, .inr ⟨0, h, by omega, rfl, fun j h1 h2 => ?_, fun j h1 h2 h3 => by omega⟩⟩
        obtain rfl : j = 0 := by omega
        exact Int.le_refl _
      · have gk := usL_get hk
        simp -implicitDefEqProofs -dsimp (disch := first | omega | (simp only [wkLen]; omega) | decide +kernel) only [↓wkPre, ↓wkPre2, ↓evC_region_st [5], ↓evC_text_st [5], ↓evC_cond, ↓evC_block, ↓evC_stop [5], wkPost, wkDef, wkF, simprocAttr, e0, e1, e8, e9, e10, e5, gi, gk, hcl]
        refine stop_pl pl_19_5 (by kernel_rfl) (by decide +kernel) ?_
        simp only [pl_19_5]
        simp -implicitDefEqProofs -dsimp (disch := first | omega | (simp only [wkLen]; omega) | decide +kernel) only [↓wkPre, ↓wkPre2, ↓wkE, wkPost, wkDef, wkF, simprocAttr, e0, e1, e8, e9, e10, e5, gi, gk, hcl]
        refine PS.app md_18 Try.func18 (hF _) rfl ?_
        rintro _ rfl
        simp -implicitDefEqProofs -dsimp (disch := first | omega | (simp only [wkLen]; omega) | decide +kernel) only [↓wkPre, ↓wkPre2, ↓wkE, wkPost, wkDef, wkF, simprocAttr, e0, e1, e8, e9, e10, e5, gi, gk, hcl]
        refine PS.app md_18 Try.func18 (hF _) rfl ?_
        rintro _ rfl
        by_cases hle : F c[k] ≤ F c[i]
        · simp -implicitDefEqProofs -dsimp (disch := first | omega | (simp only [wkLen]; omega) | decide +kernel) only [↓wkPre, ↓wkPre2, ↓wkE, wkPost, wkDef, wkF, simprocAttr, e0, e1, e8, e9, e10, e5, gi, gk, hcl, decide_eq_true hle]
          refine ⟨c.length - (i + 1), by omega, i + 1, rfl, by omega, by push_cast; rfl, .inr ⟨i, h, by omega, rfl, fun j h1 h2 => ?_, fun j h1 h2 h3 => by omega⟩⟩
          by_cases hj : j = i
          · subst hj; exact Int.le_refl _
          · exact Int.le_trans (hb1 j h1 (by omega)) hle
        · simp -implicitDefEqProofs -dsimp (disch := first | omega | (simp only [wkLen]; omega) | decide +kernel) only [↓wkPre, ↓wkPre2, ↓wkE, wkPost, wkDef, wkF, simprocAttr, e0, e1, e8, e9, e10, e5, gi, gk, hcl, decide_eq_false hle]
          refine ⟨c.length - (i + 1), by omega, i + 1, rfl, by omega, by push_cast; rfl, .inr ⟨k, hk, by omega, rfl, fun j h1 h2 => ?_, fun j h1 h2 h3 => ?_⟩⟩
          · by_cases hj : j = i
            · subst hj; omega
            · exact hb1 j h1 (by omega)
          · by_cases hj : j = i
            · subst hj; omega
            · exact hb2 j h1 (by omega) h3
    · obtain rfl : i = c.length := by omega
      rcases hbest with ⟨h0, e5⟩ | ⟨k, hk, hki, e5, hb1, hb2⟩
      · simp -implicitDefEqProofs -dsimp (disch := first | omega | (simp only [wkLen]; omega) | decide +kernel) only [↓wkPre, ↓wkPre2, ↓wkE, wkPost, wkDef, wkF, simprocAttr, e0, e1, e8, e9, e10, e5, hcl]
        exact .inl (List.eq_nil_of_length_eq_zero h0)
      · simp -implicitDefEqProofs -dsimp (disch := first | omega | (simp only [wkLen]; omega) | decide +kernel) only [↓wkPre, ↓wkPre2, ↓wkE, wkPost, wkDef, wkF, simprocAttr, e0, e1, e8, e9, e10, e5, hcl]
        exact .inr ⟨k, hk, rfl, fun j h => hb1 j h h, fun j h => hb2 j h h⟩
  · simp -implicitDefEqProofs -dsimp (disch := first | omega | (simp only [wkLen]; omega) | decide +kernel) only [↓wkPre, ↓wkPre2, ↓wkE, wkPost, wkDef, wkF, simprocAttr]
    exact ⟨by rw [hcl], .inl trivial⟩
def offL (x : Int) (L : Arcs) : Arcs := L.filter fun a => decide (a.1 ≠ x) && decide (a.2 ≠ x)
theorem offL_take {x : Int} {L : Arcs} {i : Nat} (h : i < L.length) : offL x (L.take (i + 1)) = offL x (L.take i) ++ if L[i].1 ≠ x ∧ L[i].2 ≠ x then [L[i]] else [] := by
  unfold offL
  rw [List.take_succ_eq_append_getElem h, List.filter_append]
  congr 1
  by_cases h1 : L[i].1 = x <;> by_cases h2 : L[i].2 = x <;> simp [h1, h2]
theorem offL_len (x : Int) (L : Arcs) : (offL x L).length ≤ L.length := List.length_filter_le _ _
theorem offL_no {x : Int} {L : Arcs} {fr : Int} {c : List Int} (h : FindS (offL x L) fr c) : (∀ y ∈ c, y ≠ x) ∧ (fr = x → c = []) := by
  have hL : ∀ a ∈ offL x L, a.1 ≠ x ∧ a.2 ≠ x := fun a ha => by
    have := (List.mem_filter.1 ha).2
    simpa using this
  rcases h with ⟨rfl, _⟩ | ⟨⟨h1, h2⟩, _, _⟩
  · exact ⟨fun y hy => (by cases hy), fun _ => rfl⟩
  · constructor
    · intro y hy
      rcases h1.src y hy with h3 | h3
      · rw [h3]; exact (hL _ h2).1
      · obtain ⟨a, ha, rfl⟩ := List.mem_map.1 h3
        exact (hL _ ha).1
    · rintro rfl
      exact absurd rfl (hL _ h2).2
set_option maxHeartbeats 2000000 in
theorem breaks (L : Arcs) (fr salt : Int) : (W Cf okf).call 5 [.p (arcs L), .p (U fr), .p (U salt)] [] fun v _ => v = .p (.bool true) := by
  refine top_mk extMono Try.func5 body5 (by decide) rfl ?_
  simp only [c5, Try.f5, Option.getD_some]
  have hul := arcL_len L
  rcases Nat.lt_or_ge 40 L.length with h | h
  · simp -implicitDefEqProofs -dsimp (disch := first | omega | (simp only [wkLen]; omega) | decide +kernel) only [↓wkPre, ↓wkPre2, ↓wkE, wkPost, wkDef, wkF, simprocAttr, hul]
    refine PS.app md_8 Try.func8 p8 rfl ?_
    rintro _ rfl
    simp -implicitDefEqProofs -dsimp (disch := first | omega | (simp only [wkLen]; omega) | decide +kernel) only [↓wkPre, ↓wkPre2, ↓wkE, wkPost, wkDef, wkF, simprocAttr]
  · simp -implicitDefEqProofs -dsimp (disch := first | omega | (simp only [wkLen]; omega) | decide +kernel) only [↓wkPre, ↓wkPre2, ↓wkE, wkPost, wkDef, wkF, simprocAttr, hul]
    refine PS.app md_10 Try.func10 (p10 L (by omega)) rfl ?_
    rintro _ rfl
    simp -implicitDefEqProofs -dsimp (disch := first | omega | (simp only [wkLen]; omega) | decide +kernel) only [↓wkPre, ↓wkPre2, ↓wkE, wkPost, wkDef, wkF, simprocAttr]
    refine PS.app md_9 Try.func9 (p9 L h fr) rfl ?_
    rintro _ ⟨c, rfl, hc⟩
    have hcl := hc.cl
    have huc := usL_len c
    simp -implicitDefEqProofs -dsimp (disch := first | omega | (simp only [wkLen]; omega) | decide +kernel) only [↓wkPre, ↓wkPre2, ↓wkE, wkPost, wkDef, wkF, simprocAttr]
    refine PS.app md_19 Try.func19 (p19 c (stF salt) salt (fun n => p18 n salt) (by omega)) rfl ?_
    rintro _ (⟨rfl, rfl⟩ | ⟨k, hk, rfl, hb1, hb2⟩)
    · simp -implicitDefEqProofs -dsimp (disch := first | omega | (simp only [wkLen]; omega) | decide +kernel) only [↓wkPre, ↓wkPre2, ↓wkE, wkPost, wkDef, wkF, simprocAttr, usL]
      refine PS.app md_8 Try.func8 p8 rfl ?_
      rintro _ rfl
      simp -implicitDefEqProofs -dsimp (disch := first | omega | (simp only [wkLen]; omega) | decide +kernel) only [↓wkPre, ↓wkPre2, ↓wkE, wkPost, wkDef, wkF, simprocAttr]
    · have gk := usL_get hk
      have hz : ((c.length : Int) == 0) = false := beq_eq_false_iff_ne.2 (by omega)
      simp -implicitDefEqProofs -dsimp (disch := first | omega | (simp only [wkLen]; omega) | decide +kernel) only [↓wkPre, ↓wkPre2, ↓wkE, wkPost, wkDef, wkF, simprocAttr, huc, hz]
      refine loop_use extMono (fun m e H => ∃ i : Nat, m = c.length - i ∧ i ≤ c.length ∧ e 0 = .p (arcs L) ∧ e 1 = .p (U fr) ∧ e 7 = .fn 18 [.vptr 0 0] ∧ e 8 = .p (us c) ∧ e 9 = .p (I k) ∧ e 10 = .p (I i) ∧ H = [.var true (.p (U salt))]) ?_ c.length _ _ ⟨0, rfl, by omega, ?_⟩
      · rintro m e H ⟨i, rfl, hi, e0, e1, e7, e8, e9, e10, rfl⟩
        rcases Nat.lt_or_ge i c.length with hlt | hge
        · have gi := usL_get hlt
          simp -implicitDefEqProofs -dsimp (disch := first | omega | (simp only [wkLen]; omega) | decide +kernel) only [↓wkPre, ↓wkPre2, ↓evC_region_st [13], ↓evC_text_st [13], ↓evC_cond, ↓evC_block, ↓evC_stop [13], wkPost, wkDef, wkF, simprocAttr, e0, e1, e7, e8, e9, e10, huc, gi, gk]
          refine stop_pl pl_5_13 (by kernel_rfl) (by decide +kernel) ?_
          simp only [pl_5_13]
          simp -implicitDefEqProofs -dsimp (disch := first | omega | (simp only [wkLen]; omega) | decide +kernel) only [↓wkPre, ↓wkPre2, ↓wkE, wkPost, wkDef, wkF, simprocAttr, e0, e1, e7, e8, e9, e10, huc, gi, gk]
          refine PS.app md_18 Try.func18 (p18 _ salt) rfl ?_
          rintro _ rfl
          simp -implicitDefEqProofs -dsimp (disch := first | omega | (simp only [wkLen]; omega) | decide +kernel) only [↓wkPre, ↓wkPre2, ↓wkE, wkPost, wkDef, wkF, simprocAttr, e0, e1, e7, e8, e9, e10, huc, gi, gk]
          refine PS.app md_18 Try.func18 (p18 _ salt) rfl ?_
          rintro _ rfl
          have hle : (stF salt c[k] < stF salt c[i]) = False := by have := hb1 i hlt; simp; omega
          rcases Nat.lt_or_ge k i with hki | hki
          · have hne : (stF salt c[i] == stF salt c[k]) = false := beq_eq_false_iff_ne.2 (by have := hb2 i hlt hki; omega)
            have hkd : ((k : Int) < (i : Int)) = True := by simp; omega
            simp -implicitDefEqProofs -dsimp (disch := first | omega | (simp only [wkLen]; omega) | decide +kernel) only [↓wkPre, ↓wkPre2, ↓wkE, wkPost, wkDef, wkF, simprocAttr, e0, e1, e7, e8, e9, e10, huc, gi, gk, hle, hkd]
            refine PS.app md_18 Try.func18 (p18 _ salt) rfl ?_
            rintro _ rfl
            simp -implicitDefEqProofs -dsimp (disch := first | omega | (simp only [wkLen]; omega) | decide +kernel) only [↓wkPre, ↓wkPre2, ↓wkE, wkPost, wkDef, wkF, simprocAttr, e0, e1, e7, e8, e9, e10, huc, gi, gk, hle, hkd]
            refine PS.app md_18 Try.func18 (p18 _ salt) rfl ?_
            rintro _ rfl
            simp -implicitDefEqProofs -dsimp (disch := first | omega | (simp only [wkLen]; omega) | decide +kernel) only [↓wkPre, ↓wkPre2, ↓wkE, wkPost, wkDef, wkF, simprocAttr, e0, e1, e7, e8, e9, e10, huc, gi, gk, hle, hkd, hne]
            exact ⟨c.length - (i + 1), by omega, i + 1, rfl, by omega, by push_cast; rfl⟩
          · have hkd : ((k : Int) < (i : Int)) = False := by simp; omega
            simp -implicitDefEqProofs -dsimp (disch := first | omega | (simp only [wkLen]; omega) | decide +kernel) only [↓wkPre, ↓wkPre2, ↓wkE, wkPost, wkDef, wkF, simprocAttr, e0, e1, e7, e8, e9, e10, huc, gi, gk, hle, hkd]
            exact ⟨c.length - (i + 1), by omega, i + 1, rfl, by omega, by push_cast; rfl⟩
        · obtain rfl : i = c.length := by omega
          simp -implicitDefEqProofs -dsimp (disch := first | omega | (simp only [wkLen]; omega) | decide +kernel) only [↓wkPre, ↓wkPre2, ↓wkE, wkPost, wkDef, wkF, simprocAttr, e0, e1, e7, e8, e9, e10, huc, gk]
          refine loop_use extMono (fun m e H => ∃ (i : Nat) (w : AV), m = L.length - i ∧ i ≤ L.length ∧ e 0 = .p (arcs L) ∧ e 1 = .p (U fr) ∧ e 8 = .p (us c) ∧ e 9 = .p (I k) ∧ e 11 = w ∧ e 12 = .p (I i) ∧ OwnS H w 2 (arcL (offL c[k] (L.take i)))) ?_ L.length _ _ ⟨0, .nsl, rfl, by omega, ?_⟩
          · rintro m e H ⟨i, w, rfl, hi, e0, e1, e8, e9, e11, e12, hown⟩
            have hb : (arcL (offL c[k] (L.take i))).length ≤ L.length := by rw [arcL_len]; exact Nat.le_trans (offL_len _ _) (by rw [List.length_take]; omega)
            rcases Nat.lt_or_ge i L.length with hlt | hge
            · have gi := arcL_get hlt
              have ht := offL_take (x := c[k]) hlt
              have hby : Program.bytesOf Try.prog 34 = 16 := by decide +kernel
              by_cases h1 : L[i].1 = c[k]
              · have d1 : (L[i].1 == c[k]) = true := by simp [h1]
                rw [if_neg (fun h => h.1 h1), List.append_nil] at ht
                simp -implicitDefEqProofs -dsimp (disch := first | omega | (simp only [wkLen]; omega) | decide +kernel) only [↓wkPre, ↓wkPre2, ↓wkE, wkPost, wkDef, wkF, simprocAttr, e0, e1, e8, e9, e11, e12, hul, huc, gi, gk, d1]
                exact ⟨L.length - (i + 1), by omega, i + 1, w, rfl, by omega, rfl, by push_cast; rfl, by rw [ht]; exact hown⟩
              · have d1 : (L[i].1 == c[k]) = false := by simp [h1]
                by_cases h2 : L[i].2 = c[k]
                · have d2 : (L[i].2 == c[k]) = true := by simp [h2]
                  rw [if_neg (fun h => h.2 h2), List.append_nil] at ht
                  simp -implicitDefEqProofs -dsimp (disch := first | omega | (simp only [wkLen]; omega) | decide +kernel) only [↓wkPre, ↓wkPre2, ↓wkE, wkPost, wkDef, wkF, simprocAttr, e0, e1, e8, e9, e11, e12, hul, huc, gi, gk, d1, d2]
                  exact ⟨L.length - (i + 1), by omega, i + 1, w, rfl, by omega, rfl, by push_cast; rfl, by rw [ht]; exact hown⟩
                · have d2 : (L[i].2 == c[k]) = false := by simp [h2]
                  rw [if_pos ⟨h1, h2⟩] at ht
                  simp -implicitDefEqProofs -dsimp (disch := first | omega | (simp only [wkLen]; omega) | decide +kernel) only [↓wkPre, ↓wkPre2, ↓wkE, wkPost, wkDef, wkF, simprocAttr, e0, e1, e8, e9, e11, e12, hul, huc, gi, gk, d1, d2]
                  refine append_step telem_22 (elems_new rfl rfl) (by simp) (hown.app _) ?_ ?_
                  · rw [hby]; simp; omega
                  intro w' H' hown' hfr hle hb'
                  simp -implicitDefEqProofs -dsimp (disch := first | omega | (simp only [wkLen]; omega) | decide +kernel) only [↓wkPre, ↓wkPre2, ↓wkE, wkPost, wkDef, wkF, simprocAttr, e0, e1, e8, e9, e12]
                  exact ⟨L.length - (i + 1), by omega, i + 1, w', rfl, by omega, rfl, by push_cast; rfl, by rw [ht, arcL_snoc]; exact hown'⟩
            · obtain rfl : i = L.length := by omega
              rw [List.take_length] at hown
              have hol := offL_len c[k] L
              simp -implicitDefEqProofs -dsimp (disch := first | omega | (simp only [wkLen]; omega) | decide +kernel) only [↓wkPre, ↓wkPre2, ↓wkE, wkPost, wkDef, wkF, simprocAttr, e0, e1, e8, e9, e11, e12, hul]
              refine own_app (by omega) (RN.own hown) fun H1 hr1 => ?_
              simp -implicitDefEqProofs -dsimp (disch := first | omega | (simp only [wkLen]; omega) | decide +kernel) only [↓wkPre, ↓wkPre2, ↓wkE, wkPost, wkDef, wkF, simprocAttr, e0, e1, e8, e9]
              refine PS.app md_9 Try.func9 (p9 (offL c[k] L) (by omega) fr) rfl ?_
              rintro _ ⟨d, rfl, hd⟩
              obtain ⟨hd1, hd2⟩ := offL_no hd
              have hdl := hd.cl
              have hud := usL_len d
              simp -implicitDefEqProofs -dsimp (disch := first | omega | (simp only [wkLen]; omega) | decide +kernel) only [↓wkPre, ↓wkPre2, ↓wkE, wkPost, wkDef, wkF, simprocAttr, e0, e1, e8, e9]
              refine loop_use extMono (fun m e Hc => ∃ i : Nat, m = d.length - i ∧ i ≤ d.length ∧ e 1 = .p (U fr) ∧ e 8 = .p (us c) ∧ e 9 = .p (I k) ∧ e 13 = .p (us d) ∧ e 14 = .p (I i)) ?_ d.length _ _ ⟨0, rfl, by omega, ?_⟩
              · rintro m e Hc ⟨i, rfl, hi, e1, e8, e9, e13, e14⟩
                rcases Nat.lt_or_ge i d.length with hlt | hge
                · have gi := usL_get hlt
                  have hne : (d[i] == c[k]) = false := beq_eq_false_iff_ne.2 (hd1 _ (List.getElem_mem _))
                  simp -implicitDefEqProofs -dsimp (disch := first | omega | (simp only [wkLen]; omega) | decide +kernel) only [↓wkPre, ↓wkPre2, ↓wkE, wkPost, wkDef, wkF, simprocAttr, e1, e8, e9, e13, e14, huc, hud, gi, gk, hne]
                  exact ⟨d.length - (i + 1), by omega, i + 1, rfl, by omega, by push_cast; rfl⟩
                · obtain rfl : i = d.length := by omega
                  by_cases hfr : fr = c[k]
                  · have hd0 := hd2 hfr
                    have d1 : (fr == c[k]) = true := by simp [hfr]
                    have d2 : ((d.length : Int) == 0) = true := by simp [hd0]
                    simp -implicitDefEqProofs -dsimp (disch := first | omega | (simp only [wkLen]; omega) | decide +kernel) only [↓wkPre, ↓wkPre2, ↓wkE, wkPost, wkDef, wkF, simprocAttr, e1, e8, e9, e13, e14, huc, hud, gk, d1, d2]
                    refine PS.app md_8 Try.func8 p8 rfl ?_
                    rintro _ rfl
                    simp -implicitDefEqProofs -dsimp (disch := first | omega | (simp only [wkLen]; omega) | decide +kernel) only [↓wkPre, ↓wkPre2, ↓wkE, wkPost, wkDef, wkF, simprocAttr]
                  · have d1 : (fr == c[k]) = false := by simp [hfr]
                    simp -implicitDefEqProofs -dsimp (disch := first | omega | (simp only [wkLen]; omega) | decide +kernel) only [↓wkPre, ↓wkPre2, ↓wkE, wkPost, wkDef, wkF, simprocAttr, e1, e8, e9, e13, e14, huc, hud, gk, d1]
                    refine PS.app md_8 Try.func8 p8 rfl ?_
                    rintro _ rfl
                    simp -implicitDefEqProofs -dsimp (disch := first | omega | (simp only [wkLen]; omega) | decide +kernel) only [↓wkPre, ↓wkPre2, ↓wkE, wkPost, wkDef, wkF, simprocAttr]
              · simp -implicitDefEqProofs -dsimp (disch := first | omega | (simp only [wkLen]; omega) | decide +kernel) only [↓wkPre, ↓wkPre2, ↓wkE, wkPost, wkDef, wkF, simprocAttr, e0, e1, e8, e9]
          · simp -implicitDefEqProofs -dsimp (disch := first | omega | (simp only [wkLen]; omega) | decide +kernel) only [↓wkPre, ↓wkPre2, ↓wkE, wkPost, wkDef, wkF, simprocAttr, e0, e1, e8, e9]
            exact OwnS.nil _ _
      · simp -implicitDefEqProofs -dsimp (disch := first | omega | (simp only [wkLen]; omega) | decide +kernel) only [↓wkPre, ↓wkPre2, ↓wkE, wkPost, wkDef, wkF, simprocAttr]
theorem law_args3 {xs : List PV} (h : Tyas [(0, [Ty.sl 2 [Ty.int .u64, Ty.int .u64]]), (0, [Ty.int .u64]), (0, [Ty.int .u64])] xs) : ∃ (L : Arcs) (fr salt : Int), xs = [arcs L, U fr, U salt] := by
  simp only [Tyas] at h
  obtain ⟨x2, r2, rfl, h2, xa, ra, rfl, ha, xb, rb, rfl, hb, rfl⟩ := h
  have h3 := Tya_one h2
  simp only [Tyd] at h3
  obtain ⟨ys, rfl, _, h4⟩ := h3
  obtain ⟨L, rfl⟩ := arcs_list h4
  obtain ⟨a, rfl, _⟩ := Tya_one ha
  obtain ⟨b, rfl, _⟩ := Tya_one hb
  exact ⟨L, a, b, rfl⟩
theorem lawCycleBreaks : ∀ xs, Tyas [(0, [Ty.sl 2 [Ty.int .u64, Ty.int .u64]]), (0, [Ty.int .u64]), (0, [Ty.int .u64])] xs → (Ev.W Cf okf).call 5 (xs.map AV.p) [] fun v _ => v = .p (.bool true) := by
  intro xs h
  obtain ⟨L, fr, salt, rfl⟩ := law_args3 h
  exact breaks L fr salt
end Go.Ev.F12
end
section
namespace Go.Proofs.Ytffjakkofdgpbaa
open Go.Ev Go.Ev.F12
set_option maxRecDepth 100000
theorem own : ownKnob Try.prog.godebug = Option.none := by kernel_rfl
theorem laidOut : laidOutB Try.prog = true := by kernel_rfl
theorem tyCycleBreaks : Try.f5.params.toList.mapM (tyA Try.prog 8) = some [(0, [Ty.sl 2 [Ty.int .u64, Ty.int .u64]]), (0, [Ty.int .u64]), (0, [Ty.int .u64])] := by kernel_rfl
theorem cycleBreaks_lifted (os : Os) (started : os.Started) (H : Type) (enc : TypeId × Value → H) :
    ReturnsInHanded {} Try.checked os 5 .any (Rows.cycleBreaksSpec.pre6 enc Try.prog Try.f5 Rows.cycleBreaksRow.domain false) (Rows.cycleBreaksSpec.post enc Try.prog Try.f5 false true false false) := by
  refine returnsInHanded_of_change (C := Try.checked) own started (by kernel_rfl) Try.func5
    (ChangeSpec.witness6 (enc := enc) (C := Try.checked) false ⟨#[], #[.slice Option.none 0 0, .int .u64 0, .int .u64 0], []⟩ 8 (by kernel_rfl) (by kernel_rfl) (by kernel_rfl) (by kernel_rfl)) ?_
  intro W base args ds gs before hval hW _ _
  refine law_calls (C := Cf) extOK extMono okfOK (fn := Try.f5) laidOut (by decide +kernel) (s := Rows.cycleBreaksSpec) rfl ?_ tyCycleBreaks (bt := 4) (by kernel_rfl) und_4 lawCycleBreaks hval hW
  intro H ds h
  match ds, h with
  | [_, _, _], _ => rfl
theorem cycleBreaks_holds : Rows.CycleBreaksSaid :=
  OpenClaim.holds_of_wide 5 Try.f5 rfl rfl rfl rfl rfl rfl rfl ⟨rfl, rfl, rfl, rfl, rfl⟩ rfl rfl rfl rfl rfl (by kernel_rfl) Try.func5 (by kernel_rfl)
    (of_decide_eq_true (by kernel_rfl)) (by unfold Func.isWrapper; rw [if_neg (by decide +kernel)]; exact ⟨rfl, rfl⟩)
    (fun os started H enc _ => cycleBreaks_lifted os started H enc)
end Go.Proofs.Ytffjakkofdgpbaa
#print axioms Go.Proofs.Ytffjakkofdgpbaa.cycleBreaks_holds
end
