/- A part of the proof: walks of the functions that the law calls. No condition. -/
import Derived.Test.YtdcialefdfalfaaSorts
set_option linter.all false
section
namespace Go.Ev.F15
open Go.Proofs Go.Ev Go.Sort
set_option maxRecDepth 100000
set_option linter.all false
theorem ext_call {C : Cfg} {X : Tr} {f : FuncId} {args : List AV} {H : Heap} {k : AV → Heap → Prop} {t : Tag k} {spec : List AV → Heap → (AV → Heap → Prop) → Prop} (hm : C.md f = .ext spec) (h : spec args H k) : evCallT C X f args H k t := by
  unfold evCallT evCall
  rw [hm]
  exact h
abbrev esL (l : List Int) : List PV := l.map E
abbrev es (l : List Int) : PV := .sl 0 (esL l)
abbrev sc (l : List Int) : PV := .agg [es l]
theorem esL_len (l : List Int) : (esL l).length = l.length := by simp
theorem esL_get {l : List Int} {i : Nat} (h : i < l.length) : (esL l)[i]? = some (.int .u32 l[i]) := by simp [h]
theorem esL_take (l : List Int) (i : Nat) : (esL l).take i = esL (l.take i) := by simp [esL, List.map_take]
theorem esL_drop (l : List Int) (i : Nat) : (esL l).drop i = esL (l.drop i) := by simp [esL, List.map_drop]
/-- Clone. -/
theorem w21 (l : List Int) (H : Heap) (hl : l.length ≤ 1000000) (Q : AV → Heap → Prop)
    (hq : ∀ v H', OwnS H' v 0 (esL l) → (∀ c, v.blk = some c → H.length ≤ c) → (∀ i, i < H.length → H'[i]? = H[i]?) → H.length ≤ H'.length → Q v H') : (W Cf okf).call 21 [.p (es l)] H Q := by
  refine top_mk extMono Try.func21 body21 (by decide) rfl ?_
  simp only [c21, Try.f21, Option.getD_some]
  have hul := esL_len l
  have app : ∀ (k : AV → Heap → Prop) (tg : Tag k), (∀ v H', OwnS H' v 0 (esL l) → (∀ c, v.blk = some c → H.length ≤ c) → (∀ i, i < H.length → H'[i]? = H[i]?) → H.length ≤ H'.length → k v H') →
      oK2 (evAppend Try.prog 22 (.ref H.length 0 0 0 false) (.p (es l)) (H ++ [.arr true 0 0 []])) k tg := by
    intro k tg hk
    refine append_any telem_22 (ys := esL l) rfl (xs := []) (.inr ⟨H.length, 0, rfl, by simp⟩) (by rw [byt_23, hul]; simp; omega) ?_
    intro v' H' hown hfr hle hb
    rw [List.nil_append] at hown
    refine hk v' H' hown (fun c hc => ?_) (fun i hi => ?_) (by simp at hle; omega)
    · rcases Nat.lt_or_ge c (H ++ [Blk.arr true 0 0 []]).length with h1 | h1
      · have := hb c hc h1
        simp [AV.blk] at this
        omega
      · simp at h1; omega
    · rw [hfr i (by simp; omega) (by simp [AV.blk]; omega)]
      exact hs_app hi
  by_cases h0 : l = []
  · subst h0
    simp -implicitDefEqProofs -dsimp (disch := first | omega | (simp only [wkLen]; omega) | decide +kernel) only [↓wkPre, ↓wkPre2, ↓wkE, wkPost, wkDef, wkF, simprocAttr, esL, List.map_nil, List.isEmpty_nil, binK_none]
    intro b
    cases b
    · simp -implicitDefEqProofs -dsimp (disch := first | omega | (simp only [wkLen]; omega) | decide +kernel) only [↓wkPre, ↓wkPre2, ↓wkE, wkPost, wkDef, wkF, simprocAttr]
      refine app _ _ fun v H' h1 h2 h3 h4 => ?_
      simp -implicitDefEqProofs -dsimp (disch := first | omega | (simp only [wkLen]; omega) | decide +kernel) only [↓wkPre, ↓wkPre2, ↓wkE, wkPost, wkDef, wkF, simprocAttr]
      exact hq v H' h1 h2 h3 h4
    · simp -implicitDefEqProofs -dsimp (disch := first | omega | (simp only [wkLen]; omega) | decide +kernel) only [↓wkPre, ↓wkPre2, ↓wkE, wkPost, wkDef, wkF, simprocAttr]
      exact hq _ _ (OwnS.nil _ _) (fun c h => by cases h) (fun _ _ => rfl) (Nat.le_refl _)
  · have he : (esL l).isEmpty = false := by cases l with | nil => exact absurd rfl h0 | cons => rfl
    simp -implicitDefEqProofs -dsimp (disch := first | omega | (simp only [wkLen]; omega) | decide +kernel) only [↓wkPre, ↓wkPre2, ↓wkE, wkPost, wkDef, wkF, simprocAttr, he]
    refine app _ _ fun v H' h1 h2 h3 h4 => ?_
    simp -implicitDefEqProofs -dsimp (disch := first | omega | (simp only [wkLen]; omega) | decide +kernel) only [↓wkPre, ↓wkPre2, ↓wkE, wkPost, wkDef, wkF, simprocAttr]
    exact hq v H' h1 h2 h3 h4
/-- How many are below, and how many are not above. -/
def ltL (l : List Int) (x : Int) : Nat := (l.filter fun y => decide (y < x)).length
def atL (l : List Int) (x : Int) : Nat := (l.filter fun y => decide (y ≤ x)).length
theorem p16 (l : List Int) (x : Int) (hl : l.length ≤ 1000000) : PS Cf okf 16 [3] [es l, E x] (fun r => r = I (atL l x)) := by
  refine PS.mk extMono Try.func16 body16 (by decide) rfl ?_
  simp only [c16, Try.f16, Option.getD_some]
  have hul := esL_len l
  simp -implicitDefEqProofs -dsimp (disch := first | omega | (simp only [wkLen]; omega) | decide +kernel) only [↓wkPre, ↓wkPre2, ↓wkE, wkPost, wkDef, wkF, simprocAttr]
  refine loop_use extMono (fun m e H => ∃ i : Nat, m = l.length - i ∧ i ≤ l.length ∧ e 0 = .p (es l) ∧ e 1 = .p (E x) ∧ e 5 = .p (I (atL (l.take i) x)) ∧ e 6 = .p (I i)) ?_ l.length _ _ ⟨0, rfl, by omega, ?_⟩
  · rintro m e H ⟨i, rfl, hi, e0, e1, e5, e6⟩
    have hb : atL (l.take i) x ≤ l.length := Nat.le_trans (List.length_filter_le _ _) (by rw [List.length_take]; omega)
    rcases Nat.lt_or_ge i l.length with h | h
    · have gi := esL_get h
      have hs : atL (l.take (i + 1)) x = atL (l.take i) x + if l[i] ≤ x then 1 else 0 := by
        unfold atL
        rw [List.take_succ_eq_append_getElem h, List.filter_append, List.length_append]
        by_cases hx : l[i] ≤ x <;> simp [hx]
      by_cases hx : l[i] ≤ x
      · rw [if_pos hx] at hs
        simp -implicitDefEqProofs -dsimp (disch := first | omega | (simp only [wkLen]; omega) | decide +kernel) only [↓wkPre, ↓wkPre2, ↓wkE, wkPost, wkDef, wkF, simprocAttr, e0, e1, e5, e6, hul, gi, decide_eq_true hx]
        exact ⟨l.length - (i + 1), by omega, i + 1, rfl, by omega, by rw [hs]; push_cast; rfl, by push_cast; rfl⟩
      · rw [if_neg hx] at hs
        simp -implicitDefEqProofs -dsimp (disch := first | omega | (simp only [wkLen]; omega) | decide +kernel) only [↓wkPre, ↓wkPre2, ↓wkE, wkPost, wkDef, wkF, simprocAttr, e0, e1, e5, e6, hul, gi, decide_eq_false hx]
        exact ⟨l.length - (i + 1), by omega, i + 1, rfl, by omega, by rw [hs]; rfl, by push_cast; rfl⟩
    · obtain rfl : i = l.length := by omega
      rw [List.take_length] at e5
      simp -implicitDefEqProofs -dsimp (disch := first | omega | (simp only [wkLen]; omega) | decide +kernel) only [↓wkPre, ↓wkPre2, ↓wkE, wkPost, wkDef, wkF, simprocAttr, e0, e1, e5, e6, hul]
  · simp -implicitDefEqProofs -dsimp (disch := first | omega | (simp only [wkLen]; omega) | decide +kernel) only [↓wkPre, ↓wkPre2, ↓wkE, wkPost, wkDef, wkF, simprocAttr]
    rfl
theorem p10 (l : List Int) (hl : l.length ≤ 1000000) : PS Cf okf 10 [3] [sc l] (fun r => r = I (l.length + 1 : Nat)) := by
  refine PS.mk extMono Try.func10 body10 (by decide) rfl ?_
  simp only [c10, Try.f10, Option.getD_some]
  have hul := esL_len l
  simp -implicitDefEqProofs -dsimp (disch := first | omega | (simp only [wkLen]; omega) | decide +kernel) only [↓wkPre, ↓wkPre2, ↓wkE, wkPost, wkDef, wkF, simprocAttr, hul]
  rfl
end Go.Ev.F15
end
section
namespace Go.Ev.F15
open Go.Proofs Go.Ev Go.Sort
set_option maxRecDepth 100000
set_option linter.all false
abbrev Rise (l : List Int) : Prop := l.Pairwise (· < ·)
def RightL (l : List Int) : Prop := l.length ≤ 7 ∧ (∀ x ∈ l, x ≠ 0) ∧ Rise l
theorem rise_snoc {l : List Int} {i : Nat} (h : i < l.length) (hr : Rise (l.take i)) (hx : ∀ hi : 0 < i, l[i - 1] < l[i]) : Rise (l.take (i + 1)) := by
  rw [List.take_succ_eq_append_getElem h]
  refine List.pairwise_append.2 ⟨hr, List.pairwise_singleton _ _, fun a ha b hb => ?_⟩
  rw [List.mem_singleton] at hb
  subst hb
  obtain ⟨k, hk, rfl⟩ := List.getElem_of_mem ha
  simp only [List.length_take] at hk
  have h1 := hx (by omega)
  rw [List.getElem_take]
  rcases Nat.lt_or_eq_of_le (show k ≤ i - 1 by omega) with h2 | h2
  · have := List.pairwise_iff_getElem.1 hr k (i - 1) (by simp; omega) (by simp; omega) h2
    rw [List.getElem_take, List.getElem_take] at this
    omega
  · subst h2; exact h1
theorem nz_snoc {l : List Int} {i : Nat} (h : i < l.length) (hr : ∀ x ∈ l.take i, x ≠ 0) (hx : l[i] ≠ 0) : ∀ x ∈ l.take (i + 1), x ≠ 0 := by
  intro x h1
  rw [List.take_succ_eq_append_getElem h] at h1
  rcases List.mem_append.1 h1 with h1 | h1
  · exact hr x h1
  · rw [List.mem_singleton.1 h1]; exact hx
theorem not_right {l : List Int} {i : Nat} (hi : 0 < i) (h : i < l.length) (hx : l[i] ≤ l[i - 1]) : ¬ RightL l := fun hr => by
  have := List.pairwise_iff_getElem.1 hr.2.2 (i - 1) i (by omega) h (by omega)
  omega
theorem not_right0 {l : List Int} {i : Nat} (h : i < l.length) (hx : l[i] = 0) : ¬ RightL l := fun hr => hr.2.1 _ (List.getElem_mem h) hx
theorem p9 (l : List Int) (hl : l.length ≤ 1000000) : PS Cf okf 9 [4] [es l] (fun r => ∃ b, r = B b ∧ (b = true ↔ RightL l)) := by
  refine PS.mk extMono Try.func9 body9 (by decide) rfl ?_
  simp only [c9, Try.f9, Option.getD_some]
  have hul := esL_len l
  rcases Nat.lt_or_ge 7 l.length with h7 | h7
  · simp -implicitDefEqProofs -dsimp (disch := first | omega | (simp only [wkLen]; omega) | decide +kernel) only [↓wkPre, ↓wkPre2, ↓wkE, wkPost, wkDef, wkF, simprocAttr, hul]
    exact ⟨false, rfl, by simp; exact fun h => by have := h.1; omega⟩
  · simp -implicitDefEqProofs -dsimp (disch := first | omega | (simp only [wkLen]; omega) | decide +kernel) only [↓wkPre, ↓wkPre2, ↓wkE, wkPost, wkDef, wkF, simprocAttr, hul]
    refine loop_use extMono (fun m e H => ∃ i : Nat, m = l.length - i ∧ i ≤ l.length ∧ e 0 = .p (es l) ∧ e 3 = .p (I i) ∧ (∀ x ∈ l.take i, x ≠ 0) ∧ Rise (l.take i)) ?_ l.length _ _ ⟨0, rfl, by omega, ?_⟩
    · rintro m e H ⟨i, rfl, hi, e0, e3, hz, hr⟩
      rcases Nat.lt_or_ge i l.length with h | h
      · have gi := esL_get h
        by_cases h0 : l[i] = 0
        · have d0 : (l[i] == 0) = true := by simp [h0]
          simp -implicitDefEqProofs -dsimp (disch := first | omega | (simp only [wkLen]; omega) | decide +kernel) only [↓wkPre, ↓wkPre2, ↓wkE, wkPost, wkDef, wkF, simprocAttr, e0, e3, hul, gi, d0]
          exact ⟨false, rfl, by simp; exact not_right0 h h0⟩
        · have d0 : (l[i] == 0) = false := by simp [h0]
          rcases Nat.eq_zero_or_pos i with rfl | hp
          · simp -implicitDefEqProofs -dsimp (disch := first | omega | (simp only [wkLen]; omega) | decide +kernel) only [↓wkPre, ↓wkPre2, ↓wkE, wkPost, wkDef, wkF, simprocAttr, e0, e3, hul, gi, d0]
            exact ⟨l.length - 1, by omega, 1, rfl, by omega, rfl, nz_snoc h hz h0, rise_snoc h hr (fun h => by omega)⟩
          · obtain ⟨k, rfl⟩ : ∃ k, i = k + 1 := ⟨i - 1, by omega⟩
            have gk := esL_get (show k < l.length by omega)
            have hk : ((k + 1 : Nat) : Int) - 1 = (k : Int) := by omega
            by_cases hle : l[k + 1] ≤ l[k]
            · simp -implicitDefEqProofs -dsimp (disch := first | omega | (simp only [wkLen]; omega) | decide +kernel) only [↓wkPre, ↓wkPre2, ↓wkE, wkPost, wkDef, wkF, simprocAttr, e0, e3, hul, gi, d0, hk, gk, decide_eq_true hle]
              exact ⟨false, rfl, by simp; exact not_right hp h hle⟩
            · simp -implicitDefEqProofs -dsimp (disch := first | omega | (simp only [wkLen]; omega) | decide +kernel) only [↓wkPre, ↓wkPre2, ↓wkE, wkPost, wkDef, wkF, simprocAttr, e0, e3, hul, gi, d0, hk, gk, decide_eq_false hle]
              exact ⟨l.length - (k + 1 + 1), by omega, k + 1 + 1, rfl, by omega, by push_cast; rfl, nz_snoc h hz h0, rise_snoc h hr (fun _ => by simp only [Nat.add_sub_cancel]; omega)⟩
      · obtain rfl : i = l.length := by omega
        rw [List.take_length] at hz hr
        simp -implicitDefEqProofs -dsimp (disch := first | omega | (simp only [wkLen]; omega) | decide +kernel) only [↓wkPre, ↓wkPre2, ↓wkE, wkPost, wkDef, wkF, simprocAttr, e0, e3, hul]
        exact ⟨true, rfl, by simp; exact ⟨h7, hz, hr⟩⟩
    · simp -implicitDefEqProofs -dsimp (disch := first | omega | (simp only [wkLen]; omega) | decide +kernel) only [↓wkPre, ↓wkPre2, ↓wkE, wkPost, wkDef, wkF, simprocAttr]
      simp
theorem p23 (l : List Int) (n : Int) (hl : l.length ≤ 1000000) : PS Cf okf 23 [4] [es l, E n] (fun r => r = B (decide (n ∈ l))) := by
  refine PS.mk extMono Try.func23 body23 (by decide) rfl ?_
  simp only [c23, Try.f23, Option.getD_some]
  have hul := esL_len l
  simp -implicitDefEqProofs -dsimp (disch := first | omega | (simp only [wkLen]; omega) | decide +kernel) only [↓wkPre, ↓wkPre2, ↓wkE, wkPost, wkDef, wkF, simprocAttr]
  refine loop_use extMono (fun m e H => ∃ i : Nat, m = l.length - i ∧ i ≤ l.length ∧ e 0 = .p (es l) ∧ e 1 = .p (E n) ∧ e 5 = .p (I i) ∧ n ∉ l.take i) ?_ l.length _ _ ⟨0, rfl, by omega, ?_⟩
  · rintro m e H ⟨i, rfl, hi, e0, e1, e5, hno⟩
    rcases Nat.lt_or_ge i l.length with h | h
    · have gi := esL_get h
      by_cases hx : l[i] = n
      · have d : (l[i] == n) = true := by simp [hx]
        simp -implicitDefEqProofs -dsimp (disch := first | omega | (simp only [wkLen]; omega) | decide +kernel) only [↓wkPre, ↓wkPre2, ↓wkE, wkPost, wkDef, wkF, simprocAttr, e0, e1, e5, hul, gi, d]
        rw [decide_eq_true (by rw [← hx]; exact List.getElem_mem h)]
      · have d : (l[i] == n) = false := by simp [hx]
        simp -implicitDefEqProofs -dsimp (disch := first | omega | (simp only [wkLen]; omega) | decide +kernel) only [↓wkPre, ↓wkPre2, ↓wkE, wkPost, wkDef, wkF, simprocAttr, e0, e1, e5, hul, gi, d]
        refine ⟨l.length - (i + 1), by omega, i + 1, rfl, by omega, by push_cast; rfl, ?_⟩
        rw [List.take_succ_eq_append_getElem h, List.mem_append, List.mem_singleton]
        rintro (h1 | h1)
        · exact hno h1
        · exact hx h1.symm
    · obtain rfl : i = l.length := by omega
      rw [List.take_length] at hno
      simp -implicitDefEqProofs -dsimp (disch := first | omega | (simp only [wkLen]; omega) | decide +kernel) only [↓wkPre, ↓wkPre2, ↓wkE, wkPost, wkDef, wkF, simprocAttr, e0, e1, e5, hul]
      rw [decide_eq_false hno]
  · simp -implicitDefEqProofs -dsimp (disch := first | omega | (simp only [wkLen]; omega) | decide +kernel) only [↓wkPre, ↓wkPre2, ↓wkE, wkPost, wkDef, wkF, simprocAttr]
    simp
theorem take_eq {a b : List Int} {i : Nat} (ha : i < a.length) (hb : i < b.length) (h : a.take i = b.take i) (hx : a[i] = b[i]) : a.take (i + 1) = b.take (i + 1) := by
  rw [List.take_succ_eq_append_getElem ha, List.take_succ_eq_append_getElem hb, h, hx]
theorem p13 (a b : List Int) (hl : a.length ≤ 1000000) : PS Cf okf 13 [4] [es a, es b] (fun r => r = B (decide (a = b))) := by
  refine PS.mk extMono Try.func13 body13 (by decide) rfl ?_
  simp only [c13, Try.f13, Option.getD_some]
  have ha := esL_len a
  have hb := esL_len b
  by_cases hn : a.length = b.length
  · have d : ((a.length : Int) == (b.length : Int)) = true := by simp [hn]
    simp -implicitDefEqProofs -dsimp (disch := first | omega | (simp only [wkLen]; omega) | decide +kernel) only [↓wkPre, ↓wkPre2, ↓wkE, wkPost, wkDef, wkF, simprocAttr, ha, hb, d]
    refine loop_use extMono (fun m e H => ∃ i : Nat, m = a.length - i ∧ i ≤ a.length ∧ e 0 = .p (es a) ∧ e 1 = .p (es b) ∧ e 5 = .p (I i) ∧ a.take i = b.take i) ?_ a.length _ _ ⟨0, rfl, by omega, ?_⟩
    · rintro m e H ⟨i, rfl, hi, e0, e1, e5, heq⟩
      rcases Nat.lt_or_ge i a.length with h | h
      · have gi := esL_get h
        have gj := esL_get (show i < b.length by omega)
        by_cases hx : a[i] = b[i]
        · have d : (a[i] == b[i]) = true := by simp [hx]
          simp -implicitDefEqProofs -dsimp (disch := first | omega | (simp only [wkLen]; omega) | decide +kernel) only [↓wkPre, ↓wkPre2, ↓wkE, wkPost, wkDef, wkF, simprocAttr, e0, e1, e5, ha, hb, gi, gj, d]
          exact ⟨a.length - (i + 1), by omega, i + 1, rfl, by omega, by push_cast; rfl, take_eq h (by omega) heq hx⟩
        · have d : (a[i] == b[i]) = false := by simp [hx]
          simp -implicitDefEqProofs -dsimp (disch := first | omega | (simp only [wkLen]; omega) | decide +kernel) only [↓wkPre, ↓wkPre2, ↓wkE, wkPost, wkDef, wkF, simprocAttr, e0, e1, e5, ha, hb, gi, gj, d]
          rw [decide_eq_false (fun e => hx (by subst e; rfl))]
      · obtain rfl : i = a.length := by omega
        rw [List.take_length, List.take_of_length_le (by omega)] at heq
        simp -implicitDefEqProofs -dsimp (disch := first | omega | (simp only [wkLen]; omega) | decide +kernel) only [↓wkPre, ↓wkPre2, ↓wkE, wkPost, wkDef, wkF, simprocAttr, e0, e1, e5, ha]
        rw [decide_eq_true heq]
    · simp -implicitDefEqProofs -dsimp (disch := first | omega | (simp only [wkLen]; omega) | decide +kernel) only [↓wkPre, ↓wkPre2, ↓wkE, wkPost, wkDef, wkF, simprocAttr]
  · have d : ((a.length : Int) == (b.length : Int)) = false := by simp; omega
    simp -implicitDefEqProofs -dsimp (disch := first | omega | (simp only [wkLen]; omega) | decide +kernel) only [↓wkPre, ↓wkPre2, ↓wkE, wkPost, wkDef, wkF, simprocAttr, ha, hb, d]
    rw [decide_eq_false (fun e => hn (by rw [e]))]
theorem p28 (a b : List Int) (hl : a.length ≤ 1000000) : PS Cf okf 28 [4] [es a, es b] (fun r => r = B (decide (a = b))) := by
  refine PS.mk extMono Try.func28 body28 (by decide) rfl ?_
  simp only [c28, Try.f28, Option.getD_some]
  have ha := esL_len a
  have hb := esL_len b
  by_cases hn : a.length = b.length
  · have d : ((a.length : Int) == (b.length : Int)) = true := by simp [hn]
    simp -implicitDefEqProofs -dsimp (disch := first | omega | (simp only [wkLen]; omega) | decide +kernel) only [↓wkPre, ↓wkPre2, ↓wkE, wkPost, wkDef, wkF, simprocAttr, ha, hb, d]
    refine loop_use extMono (fun m e H => ∃ i : Nat, m = a.length - i ∧ i ≤ a.length ∧ e 0 = .p (es a) ∧ e 1 = .p (es b) ∧ e 12 = .p (I a.length) ∧ e 13 = .p (I i) ∧ a.take i = b.take i) ?_ a.length _ _ ⟨0, rfl, by omega, ?_⟩
    · rintro m e H ⟨i, rfl, hi, e0, e1, e12, e13, heq⟩
      rcases Nat.lt_or_ge i a.length with h | h
      · have gi := esL_get h
        have gj := esL_get (show i < b.length by omega)
        by_cases hx : a[i] = b[i]
        · have d : (a[i] == b[i]) = true := by simp [hx]
          simp -implicitDefEqProofs -dsimp (disch := first | omega | (simp only [wkLen]; omega) | decide +kernel) only [↓wkPre, ↓wkPre2, ↓wkE, wkPost, wkDef, wkF, simprocAttr, e0, e1, e12, e13, ha, hb, gi, gj, d]
          exact ⟨a.length - (i + 1), by omega, i + 1, rfl, by omega, by push_cast; rfl, take_eq h (by omega) heq hx⟩
        · have d : (a[i] == b[i]) = false := by simp [hx]
          simp -implicitDefEqProofs -dsimp (disch := first | omega | (simp only [wkLen]; omega) | decide +kernel) only [↓wkPre, ↓wkPre2, ↓wkE, wkPost, wkDef, wkF, simprocAttr, e0, e1, e12, e13, ha, hb, gi, gj, d]
          rw [decide_eq_false (fun e => hx (by subst e; rfl))]
      · obtain rfl : i = a.length := by omega
        rw [List.take_length, List.take_of_length_le (by omega)] at heq
        simp -implicitDefEqProofs -dsimp (disch := first | omega | (simp only [wkLen]; omega) | decide +kernel) only [↓wkPre, ↓wkPre2, ↓wkE, wkPost, wkDef, wkF, simprocAttr, e0, e1, e12, e13, ha]
        rw [decide_eq_true heq]
    · simp -implicitDefEqProofs -dsimp (disch := first | omega | (simp only [wkLen]; omega) | decide +kernel) only [↓wkPre, ↓wkPre2, ↓wkE, wkPost, wkDef, wkF, simprocAttr]
  · have d : ((a.length : Int) == (b.length : Int)) = false := by simp; omega
    simp -implicitDefEqProofs -dsimp (disch := first | omega | (simp only [wkLen]; omega) | decide +kernel) only [↓wkPre, ↓wkPre2, ↓wkE, wkPost, wkDef, wkF, simprocAttr, ha, hb, d]
    rw [decide_eq_false (fun e => hn (by rw [e]))]
theorem p20 (a b : List Int) (hl : a.length ≤ 1000000) : PS Cf okf 20 [4] [sc a, sc b] (fun r => r = B (decide (a = b))) := by
  refine PS.mk extMono Try.func20 body20 (by decide) rfl ?_
  simp only [c20, Try.f20, Option.getD_some]
  simp -implicitDefEqProofs -dsimp (disch := first | omega | (simp only [wkLen]; omega) | decide +kernel) only [↓wkPre, ↓wkPre2, ↓wkE, wkPost, wkDef, wkF, simprocAttr]
  refine PS.app md_28 Try.func28 (p28 a b hl) rfl ?_
  rintro _ rfl
  simp -implicitDefEqProofs -dsimp (disch := first | omega | (simp only [wkLen]; omega) | decide +kernel) only [↓wkPre, ↓wkPre2, ↓wkE, wkPost, wkDef, wkF, simprocAttr]
end Go.Ev.F15
end
section
namespace Go.Ev.F15
open Go.Proofs Go.Ev Go.Sort
set_option maxRecDepth 100000
set_option linter.all false
theorem filt_take {l : List Int} (p : Int → Bool) {i : Nat} (hi : i ≤ l.length) (h1 : ∀ (k : Nat) (h : k < l.length), k < i → p l[k] = true) (h2 : ∀ (k : Nat) (h : k < l.length), i ≤ k → p l[k] = false) : (l.filter p).length = i := by
  have e : l = l.take i ++ l.drop i := (List.take_append_drop i l).symm
  rw [e, List.filter_append, List.filter_eq_self.2 (fun a ha => ?_), List.filter_eq_nil_iff.2 (fun a ha => ?_)]
  · simp [hi]
  · obtain ⟨k, hk, rfl⟩ := List.getElem_of_mem ha
    simp only [List.length_drop] at hk
    rw [List.getElem_drop, h2 (i + k) (by omega) (by omega)]
    simp
  · obtain ⟨k, hk, rfl⟩ := List.getElem_of_mem ha
    simp only [List.length_take] at hk
    rw [List.getElem_take]
    exact h1 k (by omega) (by omega)
theorem p32 (x : Int) : PS Cf okf 32 [4] [E x] (fun r => r = B false) := by
  refine PS.mk extMono Try.func32 body32 (by decide) rfl ?_
  simp only [c32, Try.f32, Option.getD_some]
  simp -implicitDefEqProofs -dsimp (disch := first | omega | (simp only [wkLen]; omega) | decide +kernel) only [↓wkPre, ↓wkPre2, ↓wkE, wkPost, wkDef, wkF, simprocAttr]
theorem p24 (l : List Int) (x : Int) (hl : l.length ≤ 1000000) (hr : Rise l) : PS Cf okf 24 [3, 4] [es l, E x] (fun r => r = .tup [I (ltL l x), B (decide (x ∈ l))]) := by
  refine PS.mk extMono Try.func24 body24 (by decide) rfl ?_
  simp only [c24, Try.f24, Option.getD_some]
  have hul := esL_len l
  simp -implicitDefEqProofs -dsimp (disch := first | omega | (simp only [wkLen]; omega) | decide +kernel) only [↓wkPre, ↓wkPre2, ↓wkE, wkPost, wkDef, wkF, simprocAttr]
  refine loop_use extMono (fun m e H => ∃ i j : Nat, m = j - i ∧ i ≤ j ∧ j ≤ l.length ∧ e 0 = .p (es l) ∧ e 1 = .p (E x) ∧ e 6 = .p (I l.length) ∧ e 7 = .p (I i) ∧ e 8 = .p (I j) ∧ (∀ (k : Nat) (h : k < l.length), k < i → l[k] < x) ∧ ∀ (k : Nat) (h : k < l.length), j ≤ k → ¬ l[k] < x) ?_ l.length _ _ ⟨0, l.length, rfl, by omega, by omega, ?_⟩
  · rintro m e H ⟨i, j, rfl, hij, hj, e0, e1, e6, e7, e8, h1, h2⟩
    rcases Nat.lt_or_ge i j with h | h
    · have hk : (i + j) / 2 < l.length := by omega
      have gk := esL_get hk
      have hsh : IntKind.i64.wrap (((i : Int) + (j : Int)).fdiv (2 ^ min 1 IntKind.u64.bits)) = (((i + j) / 2 : Nat) : Int) := by
        have h2 : (2 : Int) ^ min 1 IntKind.u64.bits = 2 := by decide
        rw [h2, Int.fdiv_eq_ediv_of_nonneg _ (by decide), Go.IntKind.wrap_i64]
        omega
      simp -implicitDefEqProofs -dsimp (disch := first | omega | (simp only [wkLen]; omega) | decide +kernel) only [↓wkPre, ↓wkPre2, ↓wkE, wkPost, wkDef, wkF, simprocAttr, e0, e1, e6, e7, e8, hul, hsh, gk]
      generalize hh : (i + j) / 2 = h at *
      refine PS.app md_31 Try.func31 (pLess _ _) rfl ?_
      rintro _ rfl
      by_cases hx : l[h] < x
      · have d : ltInt l[h] x = true := by simp [ltInt, hx]
        simp -implicitDefEqProofs -dsimp (disch := first | omega | (simp only [wkLen]; omega) | decide +kernel) only [↓wkPre, ↓wkPre2, ↓wkE, wkPost, wkDef, wkF, simprocAttr, e0, e1, e6, e7, e8, hul, d]
        refine ⟨j - (h + 1), by omega, h + 1, j, rfl, by omega, by omega, by push_cast; rfl, rfl, fun k hk hkh => ?_, h2⟩
        rcases Nat.lt_or_eq_of_le (show k ≤ h by omega) with h3 | h3
        · have := List.pairwise_iff_getElem.1 hr k h hk (by assumption) h3
          omega
        · subst h3; exact hx
      · have d : ltInt l[h] x = false := by simp [ltInt]; omega
        simp -implicitDefEqProofs -dsimp (disch := first | omega | (simp only [wkLen]; omega) | decide +kernel) only [↓wkPre, ↓wkPre2, ↓wkE, wkPost, wkDef, wkF, simprocAttr, e0, e1, e6, e7, e8, hul, d]
        refine ⟨h - i, by omega, i, h, rfl, by omega, by omega, rfl, rfl, h1, fun k hk hkh => ?_⟩
        rcases Nat.lt_or_eq_of_le hkh with h3 | h3
        · have := List.pairwise_iff_getElem.1 hr h k (by assumption) hk h3
          omega
        · subst h3; exact hx
    · obtain rfl : i = j := by omega
      have hlt : ltL l x = i := filt_take _ hj (fun k h hk => by simpa using h1 k h hk) (fun k h hk => by have := h2 k h hk; simp; omega)
      rcases Nat.lt_or_ge i l.length with h | h
      · have gi := esL_get h
        by_cases hx : l[i] = x
        · have d : (l[i] == x) = true := by simp [hx]
          simp -implicitDefEqProofs -dsimp (disch := first | omega | (simp only [wkLen]; omega) | decide +kernel) only [↓wkPre, ↓wkPre2, ↓wkE, wkPost, wkDef, wkF, simprocAttr, e0, e1, e6, e7, e8, hul, gi, d]
          rw [hlt, decide_eq_true (by rw [← hx]; exact List.getElem_mem h)]
        · have d : (l[i] == x) = false := by simp [hx]
          simp -implicitDefEqProofs -dsimp (disch := first | omega | (simp only [wkLen]; omega) | decide +kernel) only [↓wkPre, ↓wkPre2, ↓wkE, wkPost, wkDef, wkF, simprocAttr, e0, e1, e6, e7, e8, hul, gi, d]
          refine PS.app md_32 Try.func32 (p32 _) rfl ?_
          rintro _ rfl
          simp -implicitDefEqProofs -dsimp (disch := first | omega | (simp only [wkLen]; omega) | decide +kernel) only [↓wkPre, ↓wkPre2, ↓wkE, wkPost, wkDef, wkF, simprocAttr, e0, e1, e6, e7, e8, hul, gi, d]
          rw [hlt, decide_eq_false (fun hm => ?_)]
          obtain ⟨k, hk, hkx⟩ := List.getElem_of_mem hm
          rcases Nat.lt_trichotomy k i with h3 | h3 | h3
          · have := h1 k hk h3; omega
          · subst h3; exact hx hkx
          · have := List.pairwise_iff_getElem.1 hr i k h hk h3
            have := h2 i h (Nat.le_refl _)
            omega
      · obtain rfl : i = l.length := by omega
        simp -implicitDefEqProofs -dsimp (disch := first | omega | (simp only [wkLen]; omega) | decide +kernel) only [↓wkPre, ↓wkPre2, ↓wkE, wkPost, wkDef, wkF, simprocAttr, e0, e1, e6, e7, e8, hul]
        rw [hlt, decide_eq_false (fun hm => ?_)]
        obtain ⟨k, hk, hkx⟩ := List.getElem_of_mem hm
        have := h1 k hk hk
        omega
  · simp -implicitDefEqProofs -dsimp (disch := first | omega | (simp only [wkLen]; omega) | decide +kernel) only [↓wkPre, ↓wkPre2, ↓wkE, wkPost, wkDef, wkF, simprocAttr]
    simp
    omega
end Go.Ev.F15
end
