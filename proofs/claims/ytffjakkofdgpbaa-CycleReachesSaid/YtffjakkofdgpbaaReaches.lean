/- The law CycleReaches answers true for every input, and its arguments read as before. No condition: the whole of the given statement. -/
import Derived.Test.YtffjakkofdgpbaaRows
import Derived.Test.YtffjakkofdgpbaaWalkC
set_option linter.all false
section
namespace Go.Ev.F12
open Go.Proofs Go.Ev Go.Sort
set_option maxRecDepth 100000
set_option linter.all false
theorem Bfs.ex {L : Arcs} {fr : Int} : ∀ (N : Nat) (rest : List Int) (ps : List (List Int)) (i : Nat) (p : List Int), L.length + 2 - i ≤ N → Bfs L fr ps i rest → ps[i]? = some p → ∃ c, FindS L fr c := by
  intro N
  induction N with
  | zero =>
    intro rest ps i p hN h hp
    have := h.len
    have := (List.getElem?_eq_some_iff.1 hp).1
    omega
  | succ N ih =>
    intro rest
    induction rest with
    | nil =>
      intro ps i p hN h hp
      have hl := h.len
      have hil := (List.getElem?_eq_some_iff.1 hp).1
      rcases Nat.lt_or_ge (i + 1) ps.length with h1 | h1
      · have h2 : ps[i + 1]? = some ps[i + 1] := by simp [h1]
        exact ih _ ps (i + 1) _ (by omega) (h.next h2) h2
      · exact ⟨[], h.none h1⟩
    | cons t rest ih2 =>
      intro ps i p hN h hp
      have hil := (List.getElem?_eq_some_iff.1 hp).1
      by_cases ht : t = fr
      · exact ⟨p, h.found hp (ht ▸ h.rst p hp t (by simp))⟩
      · by_cases hm : t ∈ (ps.map lastN).tail
        · exact ih2 ps i p hN (h.skip hp ht hm) hp
        · exact ih2 _ i p hN (h.add hp ht hm) (by rw [List.getElem?_append_left hil]; exact hp)
theorem FindS.ex (L : Arcs) (fr : Int) : ∃ c, FindS L fr c := Bfs.ex _ _ _ 0 [fr] (Nat.le_refl _) (Bfs.init L fr) rfl
/-- How far, of those who reach themselves: not more than there are arcs. -/
theorem far_iff {L : Arcs} {a : Int} {n : Nat} (h : FarS L a a n) (c : List Int) (hc : FindS L a c) : n = 0 ↔ ¬ Rch L a a := by
  rw [hc.rch, hc.far h]; omega
set_option maxHeartbeats 1000000 in
theorem reaches (L : Arcs) (fr : Int) : (W Cf okf).call 4 [.p (arcs L), .p (U fr)] [] fun v _ => v = .p (.bool true) := by
  refine top_mk extMono Try.func4 body4 (by decide) rfl ?_
  simp only [c4, Try.f4, Option.getD_some]
  have hul := arcL_len L
  rcases Nat.lt_or_ge 40 L.length with h | h
  · simp -implicitDefEqProofs -dsimp (disch := first | omega | (simp only [wkLen]; omega) | decide +kernel) only [↓wkPre, ↓wkPre2, ↓wkE, wkPost, wkDef, wkF, simprocAttr, hul]
    refine PS.app md_8 Try.func8 p8 rfl ?_
    rintro _ rfl
    simp -implicitDefEqProofs -dsimp (disch := first | omega | (simp only [wkLen]; omega) | decide +kernel) only [↓wkPre, ↓wkPre2, ↓wkE, wkPost, wkDef, wkF, simprocAttr]
  · simp -implicitDefEqProofs -dsimp (disch := first | omega | (simp only [wkLen]; omega) | decide +kernel) only [↓wkPre, ↓wkPre2, ↓wkE, wkPost, wkDef, wkF, simprocAttr, hul]
    refine loop_use extMono (fun m e H => ∃ (i : Nat) (b : Bool), m = L.length - i ∧ i ≤ L.length ∧ e 0 = .p (arcs L) ∧ e 1 = .p (U fr) ∧ e 5 = .p (B b) ∧ e 6 = .p (I i) ∧ (b = true ↔ ∀ a ∈ L.take i, ¬ Rch L a.1 a.1)) ?_ L.length _ _ ⟨0, true, rfl, by omega, ?_⟩
    · rintro m e H ⟨i, b, rfl, hi, e0, e1, e5, e6, hb⟩
      rcases Nat.lt_or_ge i L.length with hlt | hge
      · have gi := arcL_get hlt
        have hs := List.take_succ_eq_append_getElem hlt
        cases b with
        | false =>
          simp -implicitDefEqProofs -dsimp (disch := first | omega | (simp only [wkLen]; omega) | decide +kernel) only [↓wkPre, ↓wkPre2, ↓wkE, wkPost, wkDef, wkF, simprocAttr, e0, e1, e5, e6, hul, gi]
          refine ⟨L.length - (i + 1), by omega, i + 1, false, rfl, by omega, rfl, by push_cast; rfl, ?_⟩
          constructor
          · intro h; cases h
          · intro h2
            exact hb.2 fun a ha => h2 a (by rw [hs]; exact List.mem_append_left _ ha)
        | true =>
          simp -implicitDefEqProofs -dsimp (disch := first | omega | (simp only [wkLen]; omega) | decide +kernel) only [↓wkPre, ↓wkPre2, ↓wkE, wkPost, wkDef, wkF, simprocAttr, e0, e1, e5, e6, hul, gi]
          refine PS.app md_11 Try.func11 (p11 L L[i].1 L[i].1 (by omega)) rfl ?_
          rintro _ ⟨n, rfl, hn⟩
          obtain ⟨c, hc⟩ := FindS.ex L L[i].1
          have hfi := far_iff hn c hc
          simp -implicitDefEqProofs -dsimp (disch := first | omega | (simp only [wkLen]; omega) | decide +kernel) only [↓wkPre, ↓wkPre2, ↓wkE, wkPost, wkDef, wkF, simprocAttr, e0, e1, e5, e6]
          refine ⟨L.length - (i + 1), by omega, i + 1, _, rfl, by omega, rfl, by push_cast; rfl, ?_⟩
          have h1 := hb.1 rfl
          rw [hs]
          constructor
          · intro h a ha
            rcases List.mem_append.1 ha with ha | ha
            · exact h1 a ha
            · rw [List.mem_singleton] at ha
              subst ha
              exact hfi.1 (by simpa using h)
          · intro h2
            have := hfi.2 (h2 L[i] (List.mem_append_right _ (List.mem_singleton_self _)))
            simp [this]
      · obtain rfl : i = L.length := by omega
        rw [List.take_length] at hb
        simp -implicitDefEqProofs -dsimp (disch := first | omega | (simp only [wkLen]; omega) | decide +kernel) only [↓wkPre, ↓wkPre2, ↓wkE, wkPost, wkDef, wkF, simprocAttr, e0, e1, e5, e6, hul]
        refine PS.app md_10 Try.func10 (p10 L (by omega)) rfl ?_
        rintro _ rfl
        simp -implicitDefEqProofs -dsimp (disch := first | omega | (simp only [wkLen]; omega) | decide +kernel) only [↓wkPre, ↓wkPre2, ↓wkE, wkPost, wkDef, wkF, simprocAttr, e0, e1]
        refine PS.app md_15 Try.func15 (p15 L h fr) rfl ?_
        rintro _ ⟨R, rfl, hR⟩
        obtain rfl := hR.uniq (rnd2_end L fr)
        simp -implicitDefEqProofs -dsimp (disch := first | omega | (simp only [wkLen]; omega) | decide +kernel) only [↓wkPre, ↓wkPre2, ↓wkE, wkPost, wkDef, wkF, simprocAttr, e0, e1]
        refine PS.app md_16 Try.func16 (p16 L (by omega) fr) rfl ?_
        rintro _ rfl
        simp -implicitDefEqProofs -dsimp (disch := first | omega | (simp only [wkLen]; omega) | decide +kernel) only [↓wkPre, ↓wkPre2, ↓wkE, wkPost, wkDef, wkF, simprocAttr, e0, e1]
        have hrl := rnd2_len L fr L.length
        refine PS.app md_14 Try.func14 (p14 _ _ (by omega)) rfl ?_
        rintro _ rfl
        simp -implicitDefEqProofs -dsimp (disch := first | omega | (simp only [wkLen]; omega) | decide +kernel) only [↓wkPre, ↓wkPre2, ↓wkE, wkPost, wkDef, wkF, simprocAttr, e0, e1]
        refine PS.app md_10 Try.func10 (p10 L (by omega)) rfl ?_
        rintro _ rfl
        simp -implicitDefEqProofs -dsimp (disch := first | omega | (simp only [wkLen]; omega) | decide +kernel) only [↓wkPre, ↓wkPre2, ↓wkE, wkPost, wkDef, wkF, simprocAttr, e0, e1]
        refine PS.app md_17 Try.func17 (p17 L h) rfl ?_
        rintro _ ⟨b2, rfl, hb2⟩
        obtain rfl : b2 = b := by
          rw [Bool.eq_iff_iff, hb2, hb]
        simp -implicitDefEqProofs -dsimp (disch := first | omega | (simp only [wkLen]; omega) | decide +kernel) only [↓wkPre, ↓wkPre2, ↓wkE, wkPost, wkDef, wkF, simprocAttr, e0, e1, e5]
        refine PS.app md_8 Try.func8 p8 rfl ?_
        rintro _ rfl
        simp -implicitDefEqProofs -dsimp (disch := first | omega | (simp only [wkLen]; omega) | decide +kernel) only [↓wkPre, ↓wkPre2, ↓wkE, wkPost, wkDef, wkF, simprocAttr]
    · simp -implicitDefEqProofs -dsimp (disch := first | omega | (simp only [wkLen]; omega) | decide +kernel) only [↓wkPre, ↓wkPre2, ↓wkE, wkPost, wkDef, wkF, simprocAttr]
      simp
theorem lawCycleReaches : ∀ xs, Tyas [(0, [Ty.sl 2 [Ty.int .u64, Ty.int .u64]]), (0, [Ty.int .u64])] xs → (Ev.W Cf okf).call 4 (xs.map AV.p) [] fun v _ => v = .p (.bool true) := by
  intro xs h
  obtain ⟨L, fr, rfl⟩ := law_args h
  exact reaches L fr
end Go.Ev.F12
end
section
namespace Go.Proofs.Ytffjakkofdgpbaa
open Go.Ev Go.Ev.F12
set_option maxRecDepth 100000
theorem own : ownKnob Try.prog.godebug = Option.none := by kernel_rfl
theorem laidOut : laidOutB Try.prog = true := by kernel_rfl
theorem tyCycleReaches : Try.f4.params.toList.mapM (tyA Try.prog 8) = some [(0, [Ty.sl 2 [Ty.int .u64, Ty.int .u64]]), (0, [Ty.int .u64])] := by kernel_rfl
theorem cycleReaches_lifted (os : Os) (started : os.Started) (H : Type) (enc : TypeId × Value → H) :
    ReturnsInHanded {} Try.checked os 4 .any (Rows.cycleReachesSpec.pre6 enc Try.prog Try.f4 Rows.cycleReachesRow.domain false) (Rows.cycleReachesSpec.post enc Try.prog Try.f4 false true false false) := by
  refine returnsInHanded_of_change (C := Try.checked) own started (by kernel_rfl) Try.func4
    (ChangeSpec.witness6 (enc := enc) (C := Try.checked) false ⟨#[], #[.slice Option.none 0 0, .int .u64 0], []⟩ 8 (by kernel_rfl) (by kernel_rfl) (by kernel_rfl) (by kernel_rfl)) ?_
  intro W base args ds gs before hval hW _ _
  refine law_calls (C := Cf) extOK extMono okfOK (fn := Try.f4) laidOut (by decide +kernel) (s := Rows.cycleReachesSpec) rfl ?_ tyCycleReaches (bt := 4) (by kernel_rfl) und_4 lawCycleReaches hval hW
  intro H ds h
  match ds, h with
  | [_, _], _ => rfl
theorem cycleReaches_holds : Rows.CycleReachesSaid :=
  OpenClaim.holds_of_wide 4 Try.f4 rfl rfl rfl rfl rfl rfl rfl ⟨rfl, rfl, rfl, rfl, rfl⟩ rfl rfl rfl rfl rfl (by kernel_rfl) Try.func4 (by kernel_rfl)
    (of_decide_eq_true (by kernel_rfl)) (by unfold Func.isWrapper; rw [if_neg (by decide +kernel)]; exact ⟨rfl, rfl⟩)
    (fun os started H enc _ => cycleReaches_lifted os started H enc)
end Go.Proofs.Ytffjakkofdgpbaa
#print axioms Go.Proofs.Ytffjakkofdgpbaa.cycleReaches_holds
end
