/- The law CycleNone answers true for every input, and its arguments read as before. No condition: the whole of the given statement. -/
import Derived.Test.YtffjakkofdgpbaaRows
import Derived.Test.YtffjakkofdgpbaaWalkC
set_option linter.all false
section
namespace Go.Ev.F12
open Go.Proofs Go.Ev Go.Sort
set_option maxRecDepth 100000
set_option linter.all false
def upA (a : Int × Int) : Int × Int := if a.2 < a.1 then (a.2, a.1) else a
def upS (L : Arcs) : Arcs := (L.map upA).filter fun a => decide (a.1 ≠ a.2)
theorem upS_lt (L : Arcs) : ∀ a ∈ upS L, a.1 < a.2 := by
  intro a ha
  obtain ⟨h1, h2⟩ := List.mem_filter.1 ha
  obtain ⟨b, _, rfl⟩ := List.mem_map.1 h1
  unfold upA at h2 ⊢
  split
  · assumption
  · rename_i h
    rw [if_neg h] at h2
    simp at h2; omega
theorem wk_up {L : Arcs} (h : ∀ a ∈ L, a.1 < a.2) : ∀ {k : Nat} {a b : Int}, Wk L (k + 1) a b → a < b
  | 0, a, b, ⟨m, h1, h2⟩ => by cases h1; exact h _ h2
  | k + 1, a, b, ⟨m, h1, h2⟩ => by
    have := wk_up h h1
    have := h _ h2
    simp only at this
    omega
theorem rch_up {L : Arcs} (h : ∀ a ∈ L, a.1 < a.2) {a b : Int} (hr : Rch L a b) : a < b := by
  obtain ⟨k, hk, hw⟩ := hr
  obtain ⟨j, rfl⟩ : ∃ j, k = j + 1 := ⟨k - 1, by omega⟩
  exact wk_up h hw
theorem upS_take {L : Arcs} {i : Nat} (h : i < L.length) : upS (L.take (i + 1)) = upS (L.take i) ++ if (upA L[i]).1 = (upA L[i]).2 then [] else [upA L[i]] := by
  unfold upS
  rw [List.take_succ_eq_append_getElem h, List.map_append, List.filter_append]
  congr 1
  by_cases hc : (upA L[i]).1 = (upA L[i]).2
  · simp [hc]
  · simp [hc]
theorem upS_len (L : Arcs) : (upS L).length ≤ L.length := by
  unfold upS
  exact Nat.le_trans (List.length_filter_le _ _) (by simp)
theorem arcL_snoc (L : Arcs) (a : Int × Int) : arcL (L ++ [a]) = arcL L ++ [.agg [.int .u64 a.1, .int .u64 a.2]] := by simp only [arcL, List.map_append, List.map_cons, List.map_nil, arc]
theorem own_frz {H : Heap} {w : AV} {L : Arcs} (h : OwnS H w 2 (arcL L)) (t : TypeId) (ht : telem Try.prog t = some (34, 2)) : frzN Try.prog H 4 t w = some (arcs L) := frz_own ht h
/-- A slice that is only read, or nil. -/
def RN (H : Heap) (v : AV) (sh : Nat) (xs : List PV) : Prop := (v = .nsl ∧ xs = []) ∨ RV H v sh xs
theorem RN.own {H : Heap} {v : AV} {sh : Nat} {xs : List PV} (h : OwnS H v sh xs) : RN H v sh xs := by
  rcases h with h | ⟨b, g, rfl, hb⟩
  · exact .inl h
  · exact .inr (.inr ⟨b, g, true, rfl, hb⟩)
theorem RN.frz {P : Program} {H : Heap} {v : AV} {sh n : Nat} {t e : TypeId} {xs : List PV} (ht : telem P t = some (e, sh)) (h : RN H v sh xs) : frzN P H n t v = some (.sl sh xs) := by
  rcases h with ⟨rfl, rfl⟩ | h
  · rw [frzN_nsl, ht]; rfl
  · exact h.frz
theorem RN.ids {H : Heap} {v : AV} {sh : Nat} {xs : List PV} (h : RN H v sh xs) : ∀ b ∈ ids 4 v, ∃ l g s ys, H[b]? = some (.arr l g s ys) := by
  rcases h with ⟨rfl, rfl⟩ | h
  · rw [ids_nsl]; intro b hb; cases hb
  · exact h.ids
theorem RN.keep {H H' : Heap} {v : AV} {sh : Nat} {xs : List PV} (h : RN H v sh xs) (k : ∀ v sh xs, RV H v sh xs → RV H' v sh xs) : RN H' v sh xs := by
  rcases h with h | h
  · exact .inl h
  · exact .inr (k _ _ _ h)
/-- The program's own arcs, of a slice. -/
theorem own_app {H : Heap} {w : AV} {S : Arcs} {k : AV → Heap → Prop} {t : Tag k} (hS : S.length ≤ 1000) (h : RN H w 2 (arcL S)) (hk : ∀ H', RN H' w 2 (arcL S) → k (.p (arcs S)) H') : evCallT Cf (W Cf okf) 10 [w] H k t := by
  refine PS.appR md_10 Try.func10 (p10 S hS) (by show frzL (frzN Try.prog H 4) [w] [22] = _; simp [frzL, h.frz telem_22]) ?_ ?_
  · intro b hb
    simp only [List.flatMap_cons, List.flatMap_nil, List.append_nil] at hb
    exact h.ids b hb
  · rintro _ H' rfl _ _ hr
    exact hk H' (h.keep hr)
set_option maxHeartbeats 1000000 in
theorem nones (L : Arcs) (fr : Int) : (W Cf okf).call 7 [.p (arcs L), .p (U fr)] [] fun v _ => v = .p (.bool true) := by
  refine top_mk extMono Try.func7 body7 (by decide) rfl ?_
  simp only [c7, Try.f7, Option.getD_some]
  have hul := arcL_len L
  rcases Nat.lt_or_ge 40 L.length with h | h
  · simp -implicitDefEqProofs -dsimp (disch := first | omega | (simp only [wkLen]; omega) | decide +kernel) only [↓wkPre, ↓wkPre2, ↓wkE, wkPost, wkDef, wkF, simprocAttr, hul]
    refine PS.app md_8 Try.func8 p8 rfl ?_
    rintro _ rfl
    simp -implicitDefEqProofs -dsimp (disch := first | omega | (simp only [wkLen]; omega) | decide +kernel) only [↓wkPre, ↓wkPre2, ↓wkE, wkPost, wkDef, wkF, simprocAttr]
  · simp -implicitDefEqProofs -dsimp (disch := first | omega | (simp only [wkLen]; omega) | decide +kernel) only [↓wkPre, ↓wkPre2, ↓wkE, wkPost, wkDef, wkF, simprocAttr, hul]
    refine loop_use extMono (fun m e H => ∃ (i : Nat) (w : AV), m = L.length - i ∧ i ≤ L.length ∧ e 0 = .p (arcs L) ∧ e 1 = .p (U fr) ∧ e 5 = w ∧ e 6 = .p (I i) ∧ OwnS H w 2 (arcL (upS (L.take i)))) ?_ L.length _ _ ⟨0, .nsl, rfl, by omega, ?_⟩
    · rintro m e H ⟨i, w, rfl, hi, e0, e1, e5, e6, hown⟩
      have hb : (arcL (upS (L.take i))).length ≤ L.length := by rw [arcL_len]; exact Nat.le_trans (upS_len _) (by rw [List.length_take]; omega)
      rcases Nat.lt_or_ge i L.length with hlt | hge
      · have gi := arcL_get hlt
        have ht := upS_take hlt
        have hby : Program.bytesOf Try.prog 34 = 16 := by decide +kernel
        by_cases hgt : L[i].2 < L[i].1
        · have hu : upA L[i] = (L[i].2, L[i].1) := if_pos hgt
          have hne : (L[i].2 == L[i].1) = false := by simp; omega
          rw [hu, if_neg (by simp only; omega)] at ht
          simp -implicitDefEqProofs -dsimp (disch := first | omega | (simp only [wkLen]; omega) | decide +kernel) only [↓wkPre, ↓wkPre2, ↓wkE, wkPost, wkDef, wkF, simprocAttr, e0, e1, e5, e6, hul, gi, hne]
          refine append_step telem_22 (elems_new2 rfl rfl) (by simp) (hown.app _) ?_ ?_
          · rw [hby]; simp; omega
          intro w' H' hown' hfr hle hb'
          simp -implicitDefEqProofs -dsimp (disch := first | omega | (simp only [wkLen]; omega) | decide +kernel) only [↓wkPre, ↓wkPre2, ↓wkE, wkPost, wkDef, wkF, simprocAttr, e0, e1, e5, e6]
          exact ⟨L.length - (i + 1), by omega, i + 1, w', rfl, by omega, rfl, by push_cast; rfl, by rw [ht, arcL_snoc]; exact hown'⟩
        · have hu : upA L[i] = L[i] := if_neg hgt
          rw [hu] at ht
          by_cases heq : L[i].1 = L[i].2
          · have hne : (L[i].1 == L[i].2) = true := by simp [heq]
            rw [if_pos heq, List.append_nil] at ht
            simp -implicitDefEqProofs -dsimp (disch := first | omega | (simp only [wkLen]; omega) | decide +kernel) only [↓wkPre, ↓wkPre2, ↓wkE, wkPost, wkDef, wkF, simprocAttr, e0, e1, e5, e6, hul, gi, hne]
            exact ⟨L.length - (i + 1), by omega, i + 1, w, rfl, by omega, rfl, by push_cast; rfl, by rw [ht]; exact hown.app _⟩
          · have hne : (L[i].1 == L[i].2) = false := by simp [heq]
            rw [if_neg heq] at ht
            simp -implicitDefEqProofs -dsimp (disch := first | omega | (simp only [wkLen]; omega) | decide +kernel) only [↓wkPre, ↓wkPre2, ↓wkE, wkPost, wkDef, wkF, simprocAttr, e0, e1, e5, e6, hul, gi, hne]
            refine append_step telem_22 (elems_new2 rfl rfl) (by simp) (hown.app _) ?_ ?_
            · rw [hby]; simp; omega
            intro w' H' hown' hfr hle hb'
            simp -implicitDefEqProofs -dsimp (disch := first | omega | (simp only [wkLen]; omega) | decide +kernel) only [↓wkPre, ↓wkPre2, ↓wkE, wkPost, wkDef, wkF, simprocAttr, e0, e1, e5, e6]
            exact ⟨L.length - (i + 1), by omega, i + 1, w', rfl, by omega, rfl, by push_cast; rfl, by rw [ht, arcL_snoc]; exact hown'⟩
      · obtain rfl : i = L.length := by omega
        rw [List.take_length] at hown
        have hup := upS_lt L
        have hul2 := upS_len L
        generalize upS L = S at *
        simp -implicitDefEqProofs -dsimp (disch := first | omega | (simp only [wkLen]; omega) | decide +kernel) only [↓wkPre, ↓wkPre2, ↓wkE, wkPost, wkDef, wkF, simprocAttr, e0, e1, e5, e6, hul]
        refine own_app (by omega) (RN.own hown) fun H1 hr1 => ?_
        simp -implicitDefEqProofs -dsimp (disch := first | omega | (simp only [wkLen]; omega) | decide +kernel) only [↓wkPre, ↓wkPre2, ↓wkE, wkPost, wkDef, wkF, simprocAttr, e0, e1, e5]
        refine PS.app md_15 Try.func15 (p15 S (by omega) fr) rfl ?_
        rintro _ ⟨R, rfl, hR⟩
        simp -implicitDefEqProofs -dsimp (disch := first | omega | (simp only [wkLen]; omega) | decide +kernel) only [↓wkPre, ↓wkPre2, ↓wkE, wkPost, wkDef, wkF, simprocAttr, e0, e1, e5]
        have hur := usL_len R
        have hRl : R.length ≤ S.length := by
          rw [hR.uniq (rnd2_end S fr)]; exact rnd2_len _ _ _
        refine loop_use extMono (fun m e Hc => ∃ i : Nat, m = R.length - i ∧ i ≤ R.length ∧ e 1 = .p (U fr) ∧ e 5 = w ∧ e 8 = .p (us R) ∧ e 9 = .p (I i) ∧ RN Hc w 2 (arcL S)) ?_ R.length _ _ ⟨0, rfl, by omega, ?_⟩
        · rintro m e Hc ⟨i, rfl, hi, e1, e5, e8, e9, hr⟩
          rcases Nat.lt_or_ge i R.length with hlt | hge
          · have gi := usL_get hlt
            have hgt : fr < R[i] := rch_up hup ((hR.2 _).1 (List.getElem_mem hlt))
            simp -implicitDefEqProofs -dsimp (disch := first | omega | (simp only [wkLen]; omega) | decide +kernel) only [↓wkPre, ↓wkPre2, ↓wkE, wkPost, wkDef, wkF, simprocAttr, e1, e5, e8, e9, hur, gi]
            exact ⟨R.length - (i + 1), by omega, i + 1, rfl, by omega, by push_cast; rfl, hr⟩
          · obtain rfl : i = R.length := by omega
            simp -implicitDefEqProofs -dsimp (disch := first | omega | (simp only [wkLen]; omega) | decide +kernel) only [↓wkPre, ↓wkPre2, ↓wkE, wkPost, wkDef, wkF, simprocAttr, e1, e5, e8, e9, hur]
            refine own_app (by omega) hr fun H2 hr2 => ?_
            simp -implicitDefEqProofs -dsimp (disch := first | omega | (simp only [wkLen]; omega) | decide +kernel) only [↓wkPre, ↓wkPre2, ↓wkE, wkPost, wkDef, wkF, simprocAttr, e1, e5]
            refine PS.app md_12 Try.func12 (p12 S (by omega) fr) rfl ?_
            rintro _ ⟨b, rfl, hb⟩
            have hnr : ¬ Rch S fr fr := fun h => by have := rch_up hup h; omega
            obtain rfl : b = false := by
              cases b
              · rfl
              · exact absurd (hb.1 rfl) hnr
            simp -implicitDefEqProofs -dsimp (disch := first | omega | (simp only [wkLen]; omega) | decide +kernel) only [↓wkPre, ↓wkPre2, ↓wkE, wkPost, wkDef, wkF, simprocAttr, e1, e5]
            refine own_app (by omega) hr2 fun H3 hr3 => ?_
            simp -implicitDefEqProofs -dsimp (disch := first | omega | (simp only [wkLen]; omega) | decide +kernel) only [↓wkPre, ↓wkPre2, ↓wkE, wkPost, wkDef, wkF, simprocAttr, e1, e5]
            refine PS.app md_9 Try.func9 (p9 S (by omega) fr) rfl ?_
            rintro _ ⟨c, rfl, hc⟩
            have hc0 : c = [] := by
              have := hc.rch
              have h0 : ¬ 0 < c.length := fun h => hnr (this.2 h)
              exact List.eq_nil_of_length_eq_zero (by omega)
            subst hc0
            simp -implicitDefEqProofs -dsimp (disch := first | omega | (simp only [wkLen]; omega) | decide +kernel) only [↓wkPre, ↓wkPre2, ↓wkE, wkPost, wkDef, wkF, simprocAttr, e1, e5, usL]
            refine own_app (by omega) hr3 fun H4 hr4 => ?_
            simp -implicitDefEqProofs -dsimp (disch := first | omega | (simp only [wkLen]; omega) | decide +kernel) only [↓wkPre, ↓wkPre2, ↓wkE, wkPost, wkDef, wkF, simprocAttr, e1, e5]
            refine PS.app md_17 Try.func17 (p17 S (by omega)) rfl ?_
            rintro _ ⟨b, rfl, hb⟩
            obtain rfl : b = true := hb.2 fun a ha h => by have := rch_up hup h; omega
            simp -implicitDefEqProofs -dsimp (disch := first | omega | (simp only [wkLen]; omega) | decide +kernel) only [↓wkPre, ↓wkPre2, ↓wkE, wkPost, wkDef, wkF, simprocAttr, e1, e5]
            refine PS.app md_8 Try.func8 p8 rfl ?_
            rintro _ rfl
            simp -implicitDefEqProofs -dsimp (disch := first | omega | (simp only [wkLen]; omega) | decide +kernel) only [↓wkPre, ↓wkPre2, ↓wkE, wkPost, wkDef, wkF, simprocAttr]
        · simp -implicitDefEqProofs -dsimp (disch := first | omega | (simp only [wkLen]; omega) | decide +kernel) only [↓wkPre, ↓wkPre2, ↓wkE, wkPost, wkDef, wkF, simprocAttr, e1, e5]
          exact hr1
    · simp -implicitDefEqProofs -dsimp (disch := first | omega | (simp only [wkLen]; omega) | decide +kernel) only [↓wkPre, ↓wkPre2, ↓wkE, wkPost, wkDef, wkF, simprocAttr]
      exact OwnS.nil _ _
theorem lawCycleNone : ∀ xs, Tyas [(0, [Ty.sl 2 [Ty.int .u64, Ty.int .u64]]), (0, [Ty.int .u64])] xs → (Ev.W Cf okf).call 7 (xs.map AV.p) [] fun v _ => v = .p (.bool true) := by
  intro xs h
  obtain ⟨L, fr, rfl⟩ := law_args h
  exact nones L fr
end Go.Ev.F12
end
section
namespace Go.Proofs.Ytffjakkofdgpbaa
open Go.Ev Go.Ev.F12
set_option maxRecDepth 100000
theorem own : ownKnob Try.prog.godebug = Option.none := by kernel_rfl
theorem laidOut : laidOutB Try.prog = true := by kernel_rfl
theorem tyCycleNone : Try.f7.params.toList.mapM (tyA Try.prog 8) = some [(0, [Ty.sl 2 [Ty.int .u64, Ty.int .u64]]), (0, [Ty.int .u64])] := by kernel_rfl
theorem cycleNone_lifted (os : Os) (started : os.Started) (H : Type) (enc : TypeId × Value → H) :
    ReturnsInHanded {} Try.checked os 7 .any (Rows.cycleNoneSpec.pre6 enc Try.prog Try.f7 Rows.cycleNoneRow.domain false) (Rows.cycleNoneSpec.post enc Try.prog Try.f7 false true false false) := by
  refine returnsInHanded_of_change (C := Try.checked) own started (by kernel_rfl) Try.func7
    (ChangeSpec.witness6 (enc := enc) (C := Try.checked) false ⟨#[], #[.slice Option.none 0 0, .int .u64 0], []⟩ 8 (by kernel_rfl) (by kernel_rfl) (by kernel_rfl) (by kernel_rfl)) ?_
  intro W base args ds gs before hval hW _ _
  refine law_calls (C := Cf) extOK extMono okfOK (fn := Try.f7) laidOut (by decide +kernel) (s := Rows.cycleNoneSpec) rfl ?_ tyCycleNone (bt := 4) (by kernel_rfl) und_4 lawCycleNone hval hW
  intro H ds h
  match ds, h with
  | [_, _], _ => rfl
theorem cycleNone_holds : Rows.CycleNoneSaid :=
  OpenClaim.holds_of_wide 7 Try.f7 rfl rfl rfl rfl rfl rfl rfl ⟨rfl, rfl, rfl, rfl, rfl⟩ rfl rfl rfl rfl rfl (by kernel_rfl) Try.func7 (by kernel_rfl)
    (of_decide_eq_true (by kernel_rfl)) (by unfold Func.isWrapper; rw [if_neg (by decide +kernel)]; exact ⟨rfl, rfl⟩)
    (fun os started H enc _ => cycleNone_lifted os started H enc)
end Go.Proofs.Ytffjakkofdgpbaa
#print axioms Go.Proofs.Ytffjakkofdgpbaa.cycleNone_holds
end
