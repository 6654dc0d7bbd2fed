/- A part of the proof: walks of the functions that the law calls. No condition. -/
import Derived.Test.YtdcialefdfalfaaWalkA
set_option linter.all false
section
namespace Go.Ev.F15
open Go.Proofs Go.Ev Go.Sort
set_option maxRecDepth 100000
set_option linter.all false
theorem at_iff {x : Int} : ∀ {l : List Int}, Rise l → ∀ (k : Nat) (h : k < l.length), k < atL l x ↔ l[k] ≤ x
  | [], _, k, h => by simp at h
  | a :: t, hr, k, h => by
    obtain ⟨h1, h2⟩ := List.pairwise_cons.1 hr
    by_cases ha : a ≤ x
    · have e : atL (a :: t) x = atL t x + 1 := by simp [atL, ha]
      rw [e]
      cases k with
      | zero => simp [ha]
      | succ k => simp only [List.length_cons] at h; rw [List.getElem_cons_succ, ← at_iff h2 k (by omega)]; omega
    · have e : atL (a :: t) x = 0 := by
        unfold atL
        rw [List.length_eq_zero_iff, List.filter_eq_nil_iff]
        intro b hb
        rcases List.mem_cons.1 hb with rfl | hb
        · simpa using ha
        · have := h1 b hb; simp; omega
      rw [e]
      refine ⟨fun h => by omega, fun hk => ?_⟩
      cases k with
      | zero => exact absurd hk ha
      | succ k =>
        simp only [List.length_cons] at h
        have := h1 _ (List.getElem_mem (show k < t.length by omega))
        rw [List.getElem_cons_succ] at hk
        omega
theorem atL_le (l : List Int) (x : Int) : atL l x ≤ l.length := List.length_filter_le _ _
theorem atL_eq {x : Int} : ∀ {l : List Int}, Rise l → atL l x = ltL l x + if x ∈ l then 1 else 0
  | [], _ => by simp [atL, ltL]
  | a :: t, hr => by
    obtain ⟨h1, h2⟩ := List.pairwise_cons.1 hr
    have ih := atL_eq (x := x) h2
    rcases Int.lt_trichotomy a x with h | h | h
    · have e1 : atL (a :: t) x = atL t x + 1 := by simp [atL, show a ≤ x by omega]
      have e2 : ltL (a :: t) x = ltL t x + 1 := by simp [ltL, h]
      have e3 : (x ∈ a :: t) ↔ x ∈ t := by simp; omega
      simp only [e1, e2, e3, ih]
      omega
    · subst h
      have hno : a ∉ t := fun hm => by have := h1 a hm; omega
      have e1 : atL (a :: t) a = atL t a + 1 := by simp [atL]
      have e2 : ltL (a :: t) a = ltL t a := by simp [ltL]
      rw [e1, e2, ih, if_neg hno, if_pos (by simp)]
    · have e1 : atL (a :: t) x = atL t x := by simp [atL, show ¬ a ≤ x by omega]
      have e2 : ltL (a :: t) x = ltL t x := by simp [ltL, show ¬ a < x by omega]
      have e3 : (x ∈ a :: t) ↔ x ∈ t := by simp; omega
      simp only [e1, e2, e3, ih]
theorem p15 (l : List Int) (x : Int) (hl : l.length ≤ 1000000) (hr : Rise l) : PS Cf okf 15 [3] [sc l, E x] (fun r => r = I (atL l x)) := by
  refine PS.mk extMono Try.func15 body15 (by decide) rfl ?_
  simp only [c15, Try.f15, Option.getD_some]
  have hle := atL_le l x
  have he := atL_eq (x := x) hr
  simp -implicitDefEqProofs -dsimp (disch := first | omega | (simp only [wkLen]; omega) | decide +kernel) only [↓wkPre, ↓wkPre2, ↓wkE, wkPost, wkDef, wkF, simprocAttr]
  refine PS.app md_24 Try.func24 (p24 l x hl hr) rfl ?_
  rintro _ rfl
  by_cases hm : x ∈ l
  · rw [if_pos hm] at he
    simp -implicitDefEqProofs -dsimp (disch := first | omega | (simp only [wkLen]; omega) | decide +kernel) only [↓wkPre, ↓wkPre2, ↓wkE, wkPost, wkDef, wkF, simprocAttr, decide_eq_true hm]
    rw [he]; push_cast; rfl
  · rw [if_neg hm, Nat.add_zero] at he
    simp -implicitDefEqProofs -dsimp (disch := first | omega | (simp only [wkLen]; omega) | decide +kernel) only [↓wkPre, ↓wkPre2, ↓wkE, wkPost, wkDef, wkF, simprocAttr, decide_eq_false hm]
    rw [he]
/-- The ends of a stretch. -/
def loL (l : List Int) (i : Nat) : Int := if h : 0 < i ∧ i - 1 < l.length then l[i - 1]'h.2 else 0
def hiL (l : List Int) (i : Nat) : Int := if h : i < l.length then l[i] - 1 else 4294967295
def InR (l : List Int) : Prop := ∀ x ∈ l, 0 < x ∧ x < 4294967296
theorem p17 (l : List Int) (i : Int) (hl : l.length ≤ 1000000) (hR : InR l) : PS Cf okf 17 [23, 23] [sc l, I i] (fun r => (¬ (0 ≤ i ∧ i ≤ l.length) ∧ r = .tup [E 1, E 0]) ∨ (0 ≤ i ∧ i ≤ l.length ∧ r = .tup [E (loL l i.toNat), E (hiL l i.toNat)])) := by
  refine PS.mk extMono Try.func17 body17 (by decide) rfl ?_
  simp only [c17, Try.f17, Option.getD_some]
  have hul := esL_len l
  by_cases h0 : i < 0
  · simp -implicitDefEqProofs -dsimp (disch := first | omega | (simp only [wkLen]; omega) | decide +kernel) only [↓wkPre, ↓wkPre2, ↓wkE, wkPost, wkDef, wkF, simprocAttr, hul, decide_eq_true h0]
    exact .inl (by omega)
  · obtain ⟨n, rfl⟩ : ∃ n : Nat, i = n := ⟨i.toNat, by omega⟩
    have d0 : ((n : Int) < 0) = False := by simp
    simp -implicitDefEqProofs -dsimp (disch := first | omega | (simp only [wkLen]; omega) | decide +kernel) only [↓wkPre, ↓wkPre2, ↓wkE, wkPost, wkDef, wkF, simprocAttr, hul, d0]
    refine PS.app md_10 Try.func10 (p10 l hl) rfl ?_
    rintro _ rfl
    by_cases h1 : l.length + 1 ≤ n
    · simp -implicitDefEqProofs -dsimp (disch := first | omega | (simp only [wkLen]; omega) | decide +kernel) only [↓wkPre, ↓wkPre2, ↓wkE, wkPost, wkDef, wkF, simprocAttr, hul]
      exact .inl (by omega)
    · rcases Nat.eq_zero_or_pos n with rfl | hp
      · by_cases hn : 0 < l.length
        · have g0 := esL_get hn
          have hx := hR l[0] (List.getElem_mem hn)
          have hw : IntKind.u32.wrap (l[0] - 1) = l[0] - 1 := by unfold IntKind.wrap; simp [IntKind.signed, IntKind.bits]; omega
          simp -implicitDefEqProofs -dsimp (disch := first | omega | (simp only [wkLen]; omega) | decide +kernel) only [↓wkPre, ↓wkPre2, ↓wkE, wkPost, wkDef, wkF, simprocAttr, hul, g0, hw]
          simp [loL, hiL, hn]
        · simp -implicitDefEqProofs -dsimp (disch := first | omega | (simp only [wkLen]; omega) | decide +kernel) only [↓wkPre, ↓wkPre2, ↓wkE, wkPost, wkDef, wkF, simprocAttr, hul]
          simp [loL, hiL, hn]
      · obtain ⟨k, rfl⟩ : ∃ k, n = k + 1 := ⟨n - 1, by omega⟩
        have gk := esL_get (show k < l.length by omega)
        have hk : ((k + 1 : Nat) : Int) - 1 = (k : Int) := by omega
        by_cases hn : k + 1 < l.length
        · have gn := esL_get hn
          have hx := hR l[k + 1] (List.getElem_mem hn)
          have hw : IntKind.u32.wrap (l[k + 1] - 1) = l[k + 1] - 1 := by unfold IntKind.wrap; simp [IntKind.signed, IntKind.bits]; omega
          simp -implicitDefEqProofs -dsimp (disch := first | omega | (simp only [wkLen]; omega) | decide +kernel) only [↓wkPre, ↓wkPre2, ↓wkE, wkPost, wkDef, wkF, simprocAttr, hul, gn, gk, hk, hw]
          refine .inr ⟨by omega, by omega, ?_⟩
          simp [loL, hiL, hn, show k < l.length by omega]
        · simp -implicitDefEqProofs -dsimp (disch := first | omega | (simp only [wkLen]; omega) | decide +kernel) only [↓wkPre, ↓wkPre2, ↓wkE, wkPost, wkDef, wkF, simprocAttr, hul, gk, hk]
          refine .inr ⟨by omega, by omega, ?_⟩
          simp [loL, hiL, hn, show k < l.length by omega]
theorem hleaf : leafTs Try.prog 20 26 = [22] := by kernel_rfl
theorem frz_sc {H : Heap} {v : AV} {l : List Int} (h : OwnS H v 0 (esL l)) : frzN Try.prog H 4 26 (.agg [v]) = some (sc l) := by
  have := frz_own (P := Try.prog) (n := 3) telem_22 h
  simp only [frzN, hleaf, frzL, List.headD_cons, this, Option.bind_some, Option.map_some]
theorem p14 (l : List Int) (hl : l.length ≤ 1000000) : PS Cf okf 14 [22] [sc l] (fun r => r = es l) := by
  refine PS.mk extMono Try.func14 body14 (by decide) rfl ?_
  simp only [c14, Try.f14, Option.getD_some]
  simp -implicitDefEqProofs -dsimp (disch := first | omega | (simp only [wkLen]; omega) | decide +kernel) only [↓wkPre, ↓wkPre2, ↓wkE, wkPost, wkDef, wkF, simprocAttr]
  refine imp_call md_21 (w21 l _ hl _ fun v H' hown _ _ _ => ?_)
  have hf := frz_own (P := Try.prog) (n := 4) telem_22 hown
  simp -implicitDefEqProofs -dsimp (disch := first | omega | (simp only [wkLen]; omega) | decide +kernel) only [↓wkPre, ↓wkPre2, ↓wkE, wkPost, wkDef, wkF, simprocAttr]
  rcases hown with ⟨rfl, h⟩ | ⟨b, g, rfl, hb⟩
  · simp -implicitDefEqProofs -dsimp (disch := first | omega | (simp only [wkLen]; omega) | decide +kernel) only [↓wkPre, ↓wkPre2, ↓wkE, wkPost, wkDef, wkF, simprocAttr]
    show PV.sl 0 [] = .sl 0 (esL l)
    rw [h]
  · simp -implicitDefEqProofs -dsimp (disch := first | omega | (simp only [wkLen]; omega) | decide +kernel) only [↓wkPre, ↓wkPre2, ↓wkE, wkPost, wkDef, wkF, simprocAttr, hb]
    rw [hf]; rfl
theorem p8 (l : List Int) : PS Cf okf 8 [26, 4] [es l] (fun r => (RightL l ∧ r = .tup [sc l, B true]) ∨ (¬ RightL l ∧ r = .tup [sc [], B false])) := by
  refine PS.mk extMono Try.func8 body8 (by decide) rfl ?_
  simp only [c8, Try.f8, Option.getD_some]
  have hul := esL_len l
  rcases Nat.lt_or_ge 7 l.length with h7 | h7
  · simp -implicitDefEqProofs -dsimp (disch := first | omega | (simp only [wkLen]; omega) | decide +kernel) only [↓wkPre, ↓wkPre2, ↓wkE, wkPost, wkDef, wkF, simprocAttr, hul]
    exact .inr ⟨fun h => by have := h.1; omega, rfl⟩
  · have hl : l.length ≤ 1000000 := by omega
    simp -implicitDefEqProofs -dsimp (disch := first | omega | (simp only [wkLen]; omega) | decide +kernel) only [↓wkPre, ↓wkPre2, ↓wkE, wkPost, wkDef, wkF, simprocAttr, hul]
    refine loop_use extMono (fun m e H => ∃ i : Nat, m = l.length - i ∧ i ≤ l.length ∧ e 0 = .p (es l) ∧ e 2 = .vptr 0 0 ∧ e 10 = .p (es l) ∧ e 11 = .p (I l.length) ∧ e 12 = .p (I i) ∧ H = [.var true (.agg [.nsl])] ∧ (∀ x ∈ l.take i, x ≠ 0) ∧ Rise (l.take i)) ?_ l.length _ _ ⟨0, rfl, by omega, ?_⟩
    · rintro m e H ⟨i, rfl, hi, e0, e2, e10, e11, e12, rfl, hz, hr⟩
      rcases Nat.lt_or_ge i l.length with h | h
      · have gi := esL_get h
        by_cases h0 : l[i] = 0
        · have d0 : (l[i] == 0) = true := by simp [h0]
          simp -implicitDefEqProofs -dsimp (disch := first | omega | (simp only [wkLen]; omega) | decide +kernel) only [↓wkPre, ↓wkPre2, ↓wkE, wkPost, wkDef, wkF, simprocAttr, e0, e2, e10, e11, e12, hul, gi, d0]
          exact .inr ⟨not_right0 h h0, rfl⟩
        · have d0 : (l[i] == 0) = false := by simp [h0]
          rcases Nat.eq_zero_or_pos i with rfl | hp
          · simp -implicitDefEqProofs -dsimp (disch := first | omega | (simp only [wkLen]; omega) | decide +kernel) only [↓wkPre, ↓wkPre2, ↓wkE, wkPost, wkDef, wkF, simprocAttr, e0, e2, e10, e11, e12, hul, gi, d0]
            exact ⟨l.length - 1, by omega, 1, rfl, by omega, rfl, nz_snoc h hz h0, rise_snoc h hr (fun h => by omega)⟩
          · obtain ⟨k, rfl⟩ : ∃ k, i = k + 1 := ⟨i - 1, by omega⟩
            have gk := esL_get (show k < l.length by omega)
            have hk : ((k + 1 : Nat) : Int) - 1 = (k : Int) := by omega
            by_cases hle : l[k + 1] ≤ l[k]
            · simp -implicitDefEqProofs -dsimp (disch := first | omega | (simp only [wkLen]; omega) | decide +kernel) only [↓wkPre, ↓wkPre2, ↓wkE, wkPost, wkDef, wkF, simprocAttr, e0, e2, e10, e11, e12, hul, gi, d0, hk, gk, decide_eq_true hle]
              exact .inr ⟨not_right hp h hle, rfl⟩
            · simp -implicitDefEqProofs -dsimp (disch := first | omega | (simp only [wkLen]; omega) | decide +kernel) only [↓wkPre, ↓wkPre2, ↓wkE, wkPost, wkDef, wkF, simprocAttr, e0, e2, e10, e11, e12, hul, gi, d0, hk, gk, decide_eq_false hle]
              exact ⟨l.length - (k + 1 + 1), by omega, k + 1 + 1, rfl, by omega, by push_cast; rfl, nz_snoc h hz h0, rise_snoc h hr (fun _ => by simp only [Nat.add_sub_cancel]; omega)⟩
      · obtain rfl : i = l.length := by omega
        rw [List.take_length] at hz hr
        simp -implicitDefEqProofs -dsimp (disch := first | omega | (simp only [wkLen]; omega) | decide +kernel) only [↓wkPre, ↓wkPre2, ↓wkE, wkPost, wkDef, wkF, simprocAttr, e0, e2, e10, e11, e12, hul]
        refine imp_call md_21 (w21 l _ hl _ fun v H' hown hnew hfr hln => ?_)
        have h0 : H'[0]? = some (.var true (.agg [.nsl])) := by rw [hfr 0 (by simp)]; rfl
        have hset : ∀ X, (H'.set 0 X)[0]? = some X := fun X => hs_set (by simp at hln; omega)
        rcases hown with ⟨rfl, hx⟩ | ⟨b, g, rfl, hb⟩
        · simp -implicitDefEqProofs -dsimp (disch := first | omega | (simp only [wkLen]; omega) | decide +kernel) only [↓wkPre, ↓wkPre2, ↓wkE, wkPost, wkDef, wkF, simprocAttr, e0, e2, h0, hset]
          rw [frz_sc (l := l) (.inl ⟨rfl, hx⟩)]
          exact .inl ⟨⟨h7, hz, hr⟩, rfl⟩
        · have hbn := hnew b rfl
          have hsb : ∀ X, (H'.set 0 X)[b]? = some (.arr true g 0 (esL l)) := fun X => by rw [hs_ne (by simp at hbn; omega)]; exact hb
          simp -implicitDefEqProofs -dsimp (disch := first | omega | (simp only [wkLen]; omega) | decide +kernel) only [↓wkPre, ↓wkPre2, ↓wkE, wkPost, wkDef, wkF, simprocAttr, e0, e2, h0, hb, hset]
          rw [frz_sc (l := l) (.inr ⟨b, g, rfl, hsb _⟩)]
          exact .inl ⟨⟨h7, hz, hr⟩, rfl⟩
    · simp -implicitDefEqProofs -dsimp (disch := first | omega | (simp only [wkLen]; omega) | decide +kernel) only [↓wkPre, ↓wkPre2, ↓wkE, wkPost, wkDef, wkF, simprocAttr]
      simp
end Go.Ev.F15
end
section
namespace Go.Ev.F15
open Go.Proofs Go.Ev Go.Sort
set_option maxRecDepth 100000
set_option linter.all false
/-- A cut more. -/
def cutS (l : List Int) (x : Int) : List Int × Nat × Int :=
  if x = 0 ∨ x ∈ l then (l, 0, 8) else if 7 ≤ l.length then (l, 0, 6) else (l.take (atL l x) ++ x :: l.drop (atL l x), atL l x, 0)
theorem tw {H : Heap} {w : AV} {l : List Int} (h : OwnS H w 0 (esL l)) : frzN Try.prog H 4 22 w = some (es l) := frz_own telem_22 h
theorem p12 (l : List Int) (x : Int) (hl : l.length ≤ 1000000) : PS Cf okf 12 [22, 3, 31] [es l, E x] (fun r => r = .tup [es (cutS l x).1, I (cutS l x).2.1, I (cutS l x).2.2]) := by
  refine PS.mk extMono Try.func12 body12 (by decide) rfl ?_
  simp only [c12, Try.f12, Option.getD_some]
  have hul := esL_len l
  by_cases h0 : x = 0
  · subst h0
    simp -implicitDefEqProofs -dsimp (disch := first | omega | (simp only [wkLen]; omega) | decide +kernel) only [↓wkPre, ↓wkPre2, ↓wkE, wkPost, wkDef, wkF, simprocAttr]
    simp [cutS]
  · have d0 : (x == 0) = false := by simp [h0]
    simp -implicitDefEqProofs -dsimp (disch := first | omega | (simp only [wkLen]; omega) | decide +kernel) only [↓wkPre, ↓wkPre2, ↓wkE, wkPost, wkDef, wkF, simprocAttr, d0]
    refine PS.app md_23 Try.func23 (p23 l x hl) rfl ?_
    rintro _ rfl
    by_cases hm : x ∈ l
    · simp -implicitDefEqProofs -dsimp (disch := first | omega | (simp only [wkLen]; omega) | decide +kernel) only [↓wkPre, ↓wkPre2, ↓wkE, wkPost, wkDef, wkF, simprocAttr, decide_eq_true hm]
      simp [cutS, hm]
    · by_cases h7 : 7 ≤ l.length
      · simp -implicitDefEqProofs -dsimp (disch := first | omega | (simp only [wkLen]; omega) | decide +kernel) only [↓wkPre, ↓wkPre2, ↓wkE, wkPost, wkDef, wkF, simprocAttr, decide_eq_false hm, hul]
        simp [cutS, hm, h0, h7]
      · simp -implicitDefEqProofs -dsimp (disch := first | omega | (simp only [wkLen]; omega) | decide +kernel) only [↓wkPre, ↓wkPre2, ↓wkE, wkPost, wkDef, wkF, simprocAttr, decide_eq_false hm, hul]
        refine PS.app md_16 Try.func16 (p16 l x hl) rfl ?_
        rintro _ rfl
        have hle := atL_le l x
        simp -implicitDefEqProofs -dsimp (disch := first | omega | (simp only [wkLen]; omega) | decide +kernel) only [↓wkPre, ↓wkPre2, ↓wkE, wkPost, wkDef, wkF, simprocAttr, hul]
        refine append_any telem_22 (ys := esL (l.take (atL l x))) (by rw [← esL_take]; rfl) (xs := []) (OwnS.nil _ _) ?_ ?_
        · rw [byt_23, esL_len, List.length_take]; simp; omega
        intro v1 H1 o1 _ _ _
        simp -implicitDefEqProofs -dsimp (disch := first | omega | (simp only [wkLen]; omega) | decide +kernel) only [↓wkPre, ↓wkPre2, ↓wkE, wkPost, wkDef, wkF, simprocAttr, hul]
        refine append_step telem_22 (elems_new rfl rfl) (by simp) (o1.app _) ?_ ?_
        · rw [byt_23, List.nil_append, esL_len, List.length_take]; simp; omega
        intro v2 H2 o2 _ _ _
        simp -implicitDefEqProofs -dsimp (disch := first | omega | (simp only [wkLen]; omega) | decide +kernel) only [↓wkPre, ↓wkPre2, ↓wkE, wkPost, wkDef, wkF, simprocAttr, hul]
        refine append_any telem_22 (ys := esL (l.drop (atL l x))) (by show some (List.drop (atL l x) (List.take l.length (esL l))) = _; rw [List.take_of_length_le (by rw [hul]; exact Nat.le_refl _), esL_drop]) o2 ?_ ?_
        · rw [byt_23]; simp; omega
        intro v3 H3 o3 _ _ _
        simp -implicitDefEqProofs -dsimp (disch := first | omega | (simp only [wkLen]; omega) | decide +kernel) only [↓wkPre, ↓wkPre2, ↓wkE, wkPost, wkDef, wkF, simprocAttr, hul]
        have o4 : OwnS H3 v3 0 (esL (cutS l x).1) := by
          have : cutS l x = (l.take (atL l x) ++ x :: l.drop (atL l x), atL l x, 0) := by simp [cutS, hm, h0, h7]
          rw [this]
          simpa using o3
        have hc : (cutS l x).2 = (atL l x, 0) := by simp [cutS, hm, h0, h7]
        have hf := tw o4
        rw [hc]
        generalize (cutS l x).1 = c1 at *
        rcases o4 with ⟨rfl, hx⟩ | ⟨b, g, rfl, hb⟩
        · simp -implicitDefEqProofs -dsimp (disch := first | omega | (simp only [wkLen]; omega) | decide +kernel) only [↓wkPre, ↓wkPre2, ↓wkE, wkPost, wkDef, wkF, simprocAttr, hul]
          show PV.tup [PV.sl 0 [], _, _] = PV.tup [.sl 0 (esL c1), _, _]
          rw [hx]
        · simp -implicitDefEqProofs -dsimp (disch := first | omega | (simp only [wkLen]; omega) | decide +kernel) only [↓wkPre, ↓wkPre2, ↓wkE, wkPost, wkDef, wkF, simprocAttr, hul]
          rw [hf]
          rfl
theorem loL_iff {l : List Int} (hr : Rise l) (hR : InR l) (x : Int) (hx : 0 ≤ x) : x = loL l (atL l x) ↔ x = 0 ∨ x ∈ l := by
  have hle := atL_le l x
  have hi := at_iff (x := x) hr
  unfold loL
  split
  · rename_i h
    have h1 := (hi (atL l x - 1) h.2).1 (by omega)
    have h2 := hR _ (List.getElem_mem h.2)
    constructor
    · intro e
      right
      exact List.mem_of_getElem e.symm
    · rintro (rfl | hm)
      · omega
      · obtain ⟨k, hk, rfl⟩ := List.getElem_of_mem hm
        have h3 := (hi k hk).2 (Int.le_refl _)
        rcases Nat.lt_or_eq_of_le (show k ≤ atL l l[k] - 1 by omega) with h4 | h4
        · have := List.pairwise_iff_getElem.1 hr k _ hk h.2 h4
          omega
        · simp only [← h4]
  · rename_i h
    have h0 : atL l x = 0 := by omega
    constructor
    · exact .inl
    · rintro (h | hm)
      · exact h
      · obtain ⟨k, hk, rfl⟩ := List.getElem_of_mem hm
        have := (hi k hk).2 (Int.le_refl _)
        omega
theorem p11 (l : List Int) (x : Int) (h7 : l.length ≤ 7) (hr : Rise l) (hR : InR l) (hx : 0 ≤ x) : PS Cf okf 11 [26, 3, 31] [sc l, E x] (fun r => r = .tup [sc (cutS l x).1, I (cutS l x).2.1, I (cutS l x).2.2]) := by
  refine PS.mk extMono Try.func11 body11 (by decide) rfl ?_
  simp only [c11, Try.f11, Option.getD_some]
  have hul := esL_len l
  have hle := atL_le l x
  simp -implicitDefEqProofs -dsimp (disch := first | omega | (simp only [wkLen]; omega) | decide +kernel) only [↓wkPre, ↓wkPre2, ↓wkE, wkPost, wkDef, wkF, simprocAttr]
  refine PS.app md_15 Try.func15 (p15 l x (by omega) hr) rfl ?_
  rintro _ rfl
  simp -implicitDefEqProofs -dsimp (disch := first | omega | (simp only [wkLen]; omega) | decide +kernel) only [↓wkPre, ↓wkPre2, ↓wkE, wkPost, wkDef, wkF, simprocAttr]
  refine PS.app md_17 Try.func17 (p17 l (atL l x) (by omega) hR) rfl ?_
  rintro _ (⟨h, _⟩ | ⟨_, _, rfl⟩)
  · omega
  have hiff := loL_iff hr hR x hx
  rw [Int.toNat_natCast]
  by_cases hc : x = 0 ∨ x ∈ l
  · have d : (x == loL l (atL l x)) = true := beq_iff_eq.2 (hiff.2 hc)
    simp -implicitDefEqProofs -dsimp (disch := first | omega | (simp only [wkLen]; omega) | decide +kernel) only [↓wkPre, ↓wkPre2, ↓wkE, wkPost, wkDef, wkF, simprocAttr, d]
    simp [cutS, hc]
  · have d : (x == loL l (atL l x)) = false := by simp; exact fun e => hc (hiff.1 e)
    by_cases hl7 : l.length = 7
    · have d7 : ((l.length : Int) == 7) = true := by simp [hl7]
      simp -implicitDefEqProofs -dsimp (disch := first | omega | (simp only [wkLen]; omega) | decide +kernel) only [↓wkPre, ↓wkPre2, ↓wkE, wkPost, wkDef, wkF, simprocAttr, d, hul, d7]
      simp [cutS, hc, hl7]
    · have d7 : ((l.length : Int) == 7) = false := by simp; omega
      simp -implicitDefEqProofs -dsimp (disch := first | omega | (simp only [wkLen]; omega) | decide +kernel) only [↓wkPre, ↓wkPre2, ↓wkE, wkPost, wkDef, wkF, simprocAttr, d, hul, d7]
      refine imp_call md_21 (w21 l _ (by omega) _ fun v H' hown hnew hfr hln => ?_)
      simp -implicitDefEqProofs -dsimp (disch := first | omega | (simp only [wkLen]; omega) | decide +kernel) only [↓wkPre, ↓wkPre2, ↓wkE, wkPost, wkDef, wkF, simprocAttr, d, hul, d7]
      refine ext_call md_22 ?_
      have hcut : cutS l x = (l.take (atL l x) ++ x :: l.drop (atL l x), atL l x, 0) := by simp [cutS, hc]; omega
      have hln' : 2 ≤ H'.length := by simpa using hln
      have h1 : H'[1]? = some (.var true (.agg [.nsl])) := by rw [hfr 1 (by simp)]; rfl
      rcases hown with ⟨rfl, h0⟩ | ⟨b, g, rfl, hb⟩
      · have hl0 : l = [] := by cases l with | nil => rfl | cons => simp at h0
        subst hl0
        refine ⟨0, H'.length, 0, false, true, E x, hs_at, .inl ⟨rfl, ?_⟩⟩
        have a1 : ((H' ++ [Blk.arr true 0 0 [E x]] ++ [.arr true 0 0 [E x]] : Heap))[1]? = some (.var true (.agg [.nsl])) := by rw [hs_app (by simp; omega), hs_app (by omega)]; exact h1
        have a2 : ((H' ++ [Blk.arr true 0 0 [E x]] ++ [.arr true 0 0 [E x]] : Heap))[(H' ++ [Blk.arr true 0 0 [E x]]).length]? = some (.arr true 0 0 (esL [x])) := hs_at
        have a3 : 1 ≠ (H' ++ [Blk.arr true 0 0 [E x]]).length := by rw [List.length_append]; simp only [List.length_singleton]; omega
        have e3 : cutS [] x = ([x], 0, 0) := by rw [hcut]; rfl
        rw [e3]
        have a4 : 1 < (H' ++ [Blk.arr true 0 0 [E x]] ++ [.arr true 0 0 [E x]] : Heap).length := by rw [List.length_append, List.length_append]; simp only [List.length_singleton]; omega
        generalize (H' ++ [Blk.arr true 0 0 [E x]] ++ [.arr true 0 0 [E x]] : Heap) = Hn at a1 a2 a4 ⊢
        generalize (H' ++ [Blk.arr true 0 0 [E x]]).length = b at a2 a3 ⊢
        have hset : ∀ X, (Hn.set 1 X)[1]? = some X := fun X => hs_set a4
        have hsb : ∀ X, (Hn.set 1 X)[b]? = some (.arr true 0 0 (esL [x])) := fun X => by rw [hs_ne a3]; exact a2
        simp -implicitDefEqProofs -dsimp (disch := first | omega | (simp only [wkLen]; omega) | decide +kernel) only [↓wkPre, ↓wkPre2, ↓wkE, wkPost, wkDef, wkF, simprocAttr, a1, hset]
        rw [frz_sc (v := .ref b 0 0 1 false) (l := [x]) (.inr ⟨b, 0, rfl, hsb _⟩)]
        rfl
      · have hbn := hnew b rfl
        have hblt : b < H'.length := (List.getElem?_eq_some_iff.1 hb).1
        refine ⟨atL l x, H'.length, 0, false, true, E x, hs_at, .inr ⟨b, g, esL l, (by rw [hs_app hblt]; exact hb), by omega, by rw [hul]; exact hle, by rw [hul]; omega, rfl, ?_⟩⟩
        simp only [List.length_cons, List.length_nil] at hbn
        have hne : b ≠ 1 := by omega
        have e1 : (esL l).take (atL l x) ++ E x :: (esL l).drop (atL l x) = esL (cutS l x).1 := by rw [hcut]; simp [esL, List.map_take, List.map_drop]
        rw [e1]
        have e2 : (esL l).length + 1 = (esL (cutS l x).1).length := by rw [← e1]; simp; omega
        rw [e2]
        have e3 : (cutS l x).2 = (atL l x, 0) := by rw [hcut]
        rw [e3]
        generalize (cutS l x).1 = c1
        have a1 : ((H' ++ [Blk.arr true 0 0 [E x]] : Heap).set b (.arr true (g + 1) 0 (esL c1)))[1]? = some (.var true (.agg [.nsl])) := by rw [hs_ne hne, hs_app (by omega)]; exact h1
        have a2 : ((H' ++ [Blk.arr true 0 0 [E x]] : Heap).set b (.arr true (g + 1) 0 (esL c1)))[b]? = some (.arr true (g + 1) 0 (esL c1)) := hs_set (by simp; omega)
        have a4 : 1 < ((H' ++ [Blk.arr true 0 0 [E x]] : Heap).set b (.arr true (g + 1) 0 (esL c1))).length := by simp; omega
        generalize ((H' ++ [Blk.arr true 0 0 [E x]] : Heap).set b (.arr true (g + 1) 0 (esL c1))) = Hn at a1 a2 a4 ⊢
        have hset : ∀ X, (Hn.set 1 X)[1]? = some X := fun X => hs_set a4
        have hsb : ∀ X, (Hn.set 1 X)[b]? = some (.arr true (g + 1) 0 (esL c1)) := fun X => by rw [hs_ne (by omega)]; exact a2
        simp -implicitDefEqProofs -dsimp (disch := first | omega | (simp only [wkLen]; omega) | decide +kernel) only [↓wkPre, ↓wkPre2, ↓wkE, wkPost, wkDef, wkF, simprocAttr, a1, hset]
        rw [frz_sc (l := c1) (.inr ⟨b, g + 1, rfl, hsb _⟩)]
        rfl
end Go.Ev.F15
end
section
namespace Go.Ev.F15
open Go.Proofs Go.Ev Go.Sort
set_option maxRecDepth 100000
set_option linter.all false
/-- A call apart: behind it, all that no argument leads to stands as it stood. -/
theorem PS.appO {C : Cfg} {ok : FuncId → Bool} {f : FuncId} {fn : Func} {args : List AV} {pa : List PV} {R : PV → Prop} {H : Heap} {k : AV → Heap → Prop} {t : Tag k} (hm : C.md f = .pure)
    (hf : C.P.funcs[f]? = some fn) (h : PS C ok f fn.resultTypes.toList pa R) (hpa : frzL (frzN C.P H 4) args fn.params.toList = some pa)
    (hk : ∀ r H', R r → H'.length = H.length → (∀ i, i ∉ args.flatMap (ids 4) → H'[i]? = H[i]?) → k (.p r) H') : evCallT C (W C ok) f args H k t := by
  refine PS.app hm hf h hpa fun r hr => ?_
  split
  · exact hk r H hr rfl (fun _ _ => rfl)
  · exact hk r _ hr (freezeIds_length _ _) (fun i hi => by rw [freezeIds_get, if_neg hi])
theorem frz1 (H : Heap) (b g n : Nat) (ex l : Bool) (xs : List PV) (h : H[b]? = some (.arr l g 0 xs)) (hn : n = xs.length) : frzL (frzN Try.prog H 4) [.ref b g 0 n ex] [22] = some [.sl 0 xs] := by
  subst hn; simp [frzL, frzN, h]
theorem right1 : RightL [10, 20] := ⟨by decide, by decide, by decide⟩
theorem of1 : PS Cf okf 8 [26, 4] [es [10, 20]] (fun r => r = .tup [sc [10, 20], B true]) := (p8 [10, 20]).mono fun r h => by
  rcases h with ⟨_, h⟩ | ⟨h, _⟩
  · exact h
  · exact absurd right1 h
theorem right2 : ¬ RightL [10, 10] := fun h => absurd h.2.2 (by decide)
theorem of2 : PS Cf okf 8 [26, 4] [es [10, 10]] (fun r => r = .tup [sc [], B false]) := (p8 [10, 10]).mono fun r h => by
  rcases h with ⟨h, _⟩ | ⟨_, h⟩
  · exact absurd h right2
  · exact h
theorem mid1 : PS Cf okf 18 [23, 4] [es [5, 1, 9, 9]] (fun r => r = .tup [E 9, B true]) := run_eq (args := [es [5, 1, 9, 9]]) extMono 400 (by decide +kernel)
theorem mid2 : PS Cf okf 18 [23, 4] [es [3, 3]] (fun r => r = .tup [E 0, B false]) := run_eq (args := [es [3, 3]]) extMono 400 (by decide +kernel)
theorem p7 : PS Cf okf 7 [4] [] (fun r => r = B true) := by
  refine PS.mk extMono Try.func7 body7 (by decide) rfl ?_
  simp only [c7, Try.f7, Option.getD_some, List.append_eq, List.cons_append, List.nil_append]
  have hR1 : InR [10, 20] := by unfold InR; decide
  have hR2 : InR [10, 15, 20] := by unfold InR; decide
  have hs1 : Rise [10, 20] := right1.2.2
  have l1 : loL [10, 15, 20] 1 = 10 := by decide
  have l2 : hiL [10, 15, 20] 1 = 14 := by decide
  have c1 : cutS [10, 20] 15 = ([10, 15, 20], 1, 0) := by decide
  have c2 : cutS [10, 20] 20 = ([10, 20], 0, 8) := by decide
  simp -implicitDefEqProofs -dsimp (disch := first | omega | (simp only [wkLen]; omega) | decide +kernel) only [↓wkPre, ↓wkPre2, ↓wkE, wkPost, wkDef, wkF, simprocAttr]
  refine PS.app md_8 Try.func8 (of1) (frz1 _ _ _ _ _ _ _ rfl rfl) ?_
  rintro _ rfl
  simp -implicitDefEqProofs -dsimp (disch := first | omega | (simp only [wkLen]; omega) | decide +kernel) only [↓wkPre, ↓wkPre2, ↓wkE, wkPost, wkDef, wkF, simprocAttr, PV.flat, flatL, freezeIds, ids_ref, List.flatMap_cons, List.flatMap_nil, Blk.frozen, l1, l2]
  refine PS.app md_8 Try.func8 (of2) (frz1 _ _ _ _ _ _ _ rfl rfl) ?_
  rintro _ rfl
  simp -implicitDefEqProofs -dsimp (disch := first | omega | (simp only [wkLen]; omega) | decide +kernel) only [↓wkPre, ↓wkPre2, ↓wkE, wkPost, wkDef, wkF, simprocAttr, PV.flat, flatL, freezeIds, ids_ref, List.flatMap_cons, List.flatMap_nil, Blk.frozen, l1, l2]
  refine PS.app md_11 Try.func11 (p11 [10, 20] 15 (by decide) hs1 hR1 (by decide)) rfl ?_
  rintro _ rfl
  rw [c1]
  simp -implicitDefEqProofs -dsimp (disch := first | omega | (simp only [wkLen]; omega) | decide +kernel) only [↓wkPre, ↓wkPre2, ↓wkE, wkPost, wkDef, wkF, simprocAttr, PV.flat, flatL, freezeIds, ids_ref, List.flatMap_cons, List.flatMap_nil, Blk.frozen, l1, l2]
  refine PS.app md_11 Try.func11 (p11 [10, 20] 20 (by decide) hs1 hR1 (by decide)) rfl ?_
  rintro _ rfl
  rw [c2]
  simp -implicitDefEqProofs -dsimp (disch := first | omega | (simp only [wkLen]; omega) | decide +kernel) only [↓wkPre, ↓wkPre2, ↓wkE, wkPost, wkDef, wkF, simprocAttr, PV.flat, flatL, freezeIds, ids_ref, List.flatMap_cons, List.flatMap_nil, Blk.frozen, l1, l2]
  refine PS.app md_17 Try.func17 (p17 [10, 15, 20] 1 (by decide) hR2) rfl ?_
  rintro _ (⟨h, _⟩ | ⟨_, _, rfl⟩)
  · exact absurd (by decide) h
  simp -implicitDefEqProofs -dsimp (disch := first | omega | (simp only [wkLen]; omega) | decide +kernel) only [↓wkPre, ↓wkPre2, ↓wkE, wkPost, wkDef, wkF, simprocAttr, PV.flat, flatL, freezeIds, ids_ref, List.flatMap_cons, List.flatMap_nil, Blk.frozen, l1, l2]
  refine PS.app md_18 Try.func18 (mid1) (frz1 _ _ _ _ _ _ _ rfl rfl) ?_
  rintro _ rfl
  simp -implicitDefEqProofs -dsimp (disch := first | omega | (simp only [wkLen]; omega) | decide +kernel) only [↓wkPre, ↓wkPre2, ↓wkE, wkPost, wkDef, wkF, simprocAttr, PV.flat, flatL, freezeIds, ids_ref, List.flatMap_cons, List.flatMap_nil, Blk.frozen, l1, l2]
  refine PS.app md_18 Try.func18 (mid2) (frz1 _ _ _ _ _ _ _ rfl rfl) ?_
  rintro _ rfl
  simp -implicitDefEqProofs -dsimp (disch := first | omega | (simp only [wkLen]; omega) | decide +kernel) only [↓wkPre, ↓wkPre2, ↓wkE, wkPost, wkDef, wkF, simprocAttr, PV.flat, flatL, freezeIds, ids_ref, List.flatMap_cons, List.flatMap_nil, Blk.frozen, l1, l2]
  refine PS.app md_10 Try.func10 (p10 [10, 20] (by decide)) rfl ?_
  rintro _ rfl
  simp -implicitDefEqProofs -dsimp (disch := first | omega | (simp only [wkLen]; omega) | decide +kernel) only [↓wkPre, ↓wkPre2, ↓wkE, wkPost, wkDef, wkF, simprocAttr, PV.flat, flatL, freezeIds, ids_ref, List.flatMap_cons, List.flatMap_nil, Blk.frozen, l1, l2]
  refine PS.app md_15 Try.func15 (p15 [10, 20] 10 (by decide) hs1) rfl ?_
  rintro _ rfl
  simp -implicitDefEqProofs -dsimp (disch := first | omega | (simp only [wkLen]; omega) | decide +kernel) only [↓wkPre, ↓wkPre2, ↓wkE, wkPost, wkDef, wkF, simprocAttr, PV.flat, flatL, freezeIds, ids_ref, List.flatMap_cons, List.flatMap_nil, Blk.frozen, l1, l2]
  refine PS.app md_15 Try.func15 (p15 [10, 20] 9 (by decide) hs1) rfl ?_
  rintro _ rfl
  simp -implicitDefEqProofs -dsimp (disch := first | omega | (simp only [wkLen]; omega) | decide +kernel) only [↓wkPre, ↓wkPre2, ↓wkE, wkPost, wkDef, wkF, simprocAttr, PV.flat, flatL, freezeIds, ids_ref, List.flatMap_cons, List.flatMap_nil, Blk.frozen, l1, l2]
  refine PS.app md_10 Try.func10 (p10 [10, 15, 20] (by decide)) rfl ?_
  rintro _ rfl
  simp -implicitDefEqProofs -dsimp (disch := first | omega | (simp only [wkLen]; omega) | decide +kernel) only [↓wkPre, ↓wkPre2, ↓wkE, wkPost, wkDef, wkF, simprocAttr, PV.flat, flatL, freezeIds, ids_ref, List.flatMap_cons, List.flatMap_nil, Blk.frozen, l1, l2]
  refine PS.app md_20 Try.func20 (p20 [10, 20] [10, 20] (by decide)) rfl ?_
  rintro _ rfl
  simp -implicitDefEqProofs -dsimp (disch := first | omega | (simp only [wkLen]; omega) | decide +kernel) only [↓wkPre, ↓wkPre2, ↓wkE, wkPost, wkDef, wkF, simprocAttr, PV.flat, flatL, freezeIds, ids_ref, List.flatMap_cons, List.flatMap_nil, Blk.frozen, l1, l2]
  refine PS.app md_20 Try.func20 (p20 [10, 20] [10, 15, 20] (by decide)) rfl ?_
  rintro _ rfl
  simp -implicitDefEqProofs -dsimp (disch := first | omega | (simp only [wkLen]; omega) | decide +kernel) only [↓wkPre, ↓wkPre2, ↓wkE, wkPost, wkDef, wkF, simprocAttr, PV.flat, flatL, freezeIds, ids_ref, List.flatMap_cons, List.flatMap_nil, Blk.frozen, l1, l2]
  refine PS.app md_14 Try.func14 (p14 [10, 15, 20] (by decide)) rfl ?_
  rintro _ rfl
  simp -implicitDefEqProofs -dsimp (disch := first | omega | (simp only [wkLen]; omega) | decide +kernel) only [↓wkPre, ↓wkPre2, ↓wkE, wkPost, wkDef, wkF, simprocAttr, PV.flat, flatL, freezeIds, ids_ref, List.flatMap_cons, List.flatMap_nil, Blk.frozen, l1, l2]
end Go.Ev.F15
end
