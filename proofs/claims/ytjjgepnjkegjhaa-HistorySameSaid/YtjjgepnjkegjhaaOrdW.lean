/- A part of the proof: walks of the functions that the law calls. No condition. -/
import Derived.Test.YtjjgepnjkegjhaaLawW
set_option linter.all false
section
namespace Go.Ev.F23
open Go.Proofs Go.Ev Go.Sort
set_option maxRecDepth 100000
set_option linter.all false
/-- One after another: later ones are not ahead, and are others. -/
def After (l : List Acc) (out : List Int) : Prop := out.Pairwise (fun x y => ahB y x l = false ∧ y ≠ x)
theorem ordS_ok (l : List Acc) : ∀ (n : Nat) (left out : List Int), n = left.length → left.Nodup → After l out → (∀ x ∈ out, ∀ y ∈ left, ahB y x l = false ∧ y ≠ x) →
    After l (ordS l n left out).1 ∧ ((ordS l n left out).2 = true → (ordS l n left out).1.Perm (out ++ left)) ∧
      ((ordS l n left out).2 = false → (ordS l n left out).1 = [] ∧ ∃ S : List Int, S ≠ [] ∧ (∀ x ∈ S, x ∈ left) ∧ ∀ x ∈ S, ∃ y ∈ S, ahB y x l = true)
  | 0, left, out, hn, _, ho, _ => by
    have : left = [] := List.eq_nil_of_length_eq_zero hn.symm
    subst this
    exact ⟨ho, fun _ => by rw [List.append_nil]; exact List.Perm.refl _, fun h => by cases h⟩
  | n + 1, left, out, hn, hd, ho, hc => by
    rw [ordS]
    cases hp : pick l left with
    | none =>
      refine ⟨List.Pairwise.nil, fun h => (by cases h), fun _ => ⟨rfl, left, fun e => by rw [e] at hn; simp at hn, fun x h => h, fun x hx => ?_⟩⟩
      have := List.find?_eq_none.1 hp x hx
      simp only [Bool.not_eq_true, Bool.not_eq_false', blk, List.any_eq_true] at this
      exact this
    | some x =>
      have hx : x ∈ left := List.mem_of_find?_eq_some hp
      have hb := List.find?_some hp
      simp only [Bool.not_eq_true', blk, List.any_eq_false] at hb
      have hne : ∀ y ∈ left.erase x, y ∈ left ∧ y ≠ x := fun y hy => ⟨List.mem_of_mem_erase hy, fun e => by subst e; exact (hd.not_mem_erase) hy⟩
      obtain ⟨h1, h2, h3⟩ := ordS_ok l n (left.erase x) (out ++ [x]) (by rw [List.length_erase_of_mem hx]; omega) (hd.erase x)
        (List.pairwise_append.2 ⟨ho, List.pairwise_singleton _ _, fun a ha b hb' => by rw [List.mem_singleton.1 hb']; exact hc a ha x hx⟩)
        (fun a ha y hy => by
          rcases List.mem_append.1 ha with h | h
          · exact hc a h y (hne y hy).1
          · rw [List.mem_singleton.1 h]
            exact ⟨by simpa using hb y (hne y hy).1, (hne y hy).2⟩)
      refine ⟨h1, fun h => (h2 h).trans ?_, fun h => ?_⟩
      · rw [List.append_assoc]
        exact List.Perm.append_left out (List.perm_cons_erase hx).symm
      · obtain ⟨k1, S, k2, k3, k4⟩ := h3 h
        exact ⟨k1, S, k2, fun y hy => (hne y (k3 y hy)).1, k4⟩
theorem law3 (l : List Acc) : (Ev.W Cf okf).call 3 [.p (acs l)] [] fun v _ => v = .p (.bool true) := by
  refine top_mk extMono Try.func3 body3 (by decide) rfl ?_
  simp only [c3, Try.f3, Option.getD_some]
  have hul := aL_len l
  rcases Nat.lt_or_ge 24 l.length with hbig | hl
  · simp -implicitDefEqProofs -dsimp (disch := first | omega | (simp only [wkLen]; omega) | decide +kernel) only [↓wkPre, ↓wkPre2, ↓wkE, wkPost, wkDef, wkF, simprocAttr, hul]
    refine PS.app md_7 Try.func7 p7 rfl ?_
    rintro _ rfl
    simp -implicitDefEqProofs -dsimp (disch := first | omega | (simp only [wkLen]; omega) | decide +kernel) only [↓wkPre, ↓wkPre2, ↓wkE, wkPost, wkDef, wkF, simprocAttr]
  obtain ⟨hr, hmem⟩ := ppl_ok l
  have hpl := ppl_len l
  have q11 := p11 l (by omega)
  have q12 := p12 l (by omega)
  have hO := ordS_ok l (ppl l).length (ppl l) [] rfl (Rise.nodup hr) List.Pairwise.nil (fun x h => by cases h)
  have w9' := fun (Q : AV → Heap → Prop) (hq : ∀ v H', LF H' v (ppl l) → GE [] H' → Q v H') => w9 l [] (by omega) Q hq
  have q10 := p10 l (by omega)
  generalize ppl l = P at hr hmem hpl q11 q12 hO w9' q10
  generalize ordS l P.length P [] = R at q11 q12 hO
  obtain ⟨O, ok⟩ := R
  obtain ⟨hO1, hO2, hO3⟩ := hO
  dsimp only at q11 q12 hO1 hO2 hO3
  have huO := iL_len O
  have huP := iL_len P
  have hOP : (ok = false ∨ O.length = P.length) ∧ O.length ≤ P.length := by
    cases ok with
    | false => exact ⟨.inl rfl, by rw [(hO3 rfl).1]; simp⟩
    | true => have := (hO2 rfl).length_eq; simp at this; exact ⟨.inr this, by omega⟩
  have hAt : ∀ i k (hi : i < O.length) (hk : k < i), ahB O[i] O[k] l = false ∧ (O[i] == O[k]) = false := fun i k hi hk => by
    have := List.pairwise_iff_getElem.1 hO1 k i (by omega) hi hk
    exact ⟨this.1, by simpa using this.2⟩
  simp -implicitDefEqProofs -dsimp (disch := first | omega | (simp only [wkLen]; omega) | decide +kernel) only [↓wkPre, ↓wkPre2, ↓wkE, wkPost, wkDef, wkF, simprocAttr, hul]
  refine PS.app md_8 Try.func8 (p8 l (by omega)) rfl ?_
  rintro _ rfl
  simp -implicitDefEqProofs -dsimp (disch := first | omega | (simp only [wkLen]; omega) | decide +kernel) only [↓wkPre, ↓wkPre2, ↓wkE, wkPost, wkDef, wkF, simprocAttr]
  refine imp_call md_9 (w9' _ fun v H1 hlf hge => ?_)
  simp -implicitDefEqProofs -dsimp (disch := first | omega | (simp only [wkLen]; omega) | decide +kernel) only [↓wkPre, ↓wkPre2, ↓wkE, wkPost, wkDef, wkF, simprocAttr]
  refine PS.app md_10 Try.func10 q10 rfl ?_
  rintro _ rfl
  simp -implicitDefEqProofs -dsimp (disch := first | omega | (simp only [wkLen]; omega) | decide +kernel) only [↓wkPre, ↓wkPre2, ↓wkE, wkPost, wkDef, wkF, simprocAttr]
  refine PS.app md_11 Try.func11 q11 rfl ?_
  rintro _ rfl
  simp -implicitDefEqProofs -dsimp (disch := first | omega | (simp only [wkLen]; omega) | decide +kernel) only [↓wkPre, ↓wkPre2, ↓wkE, wkPost, wkDef, wkF, simprocAttr]
  refine PS.app md_12 Try.func12 q12 rfl ?_
  rintro _ rfl
  rcases hlf with ⟨rfl, h9⟩ | ⟨b, g, ex, lv, zs, rfl, hb⟩
  · have hP0 : P.length = 0 := by rw [h9]; rfl
    simp -implicitDefEqProofs -dsimp (disch := first | omega | (simp only [wkLen]; omega) | decide +kernel) only [↓wkPre, ↓wkPre2, ↓wkE, wkPost, wkDef, wkF, simprocAttr, huO, huP]
    refine loop_use extMono (fun m e Hc => ∃ i : Nat, m = P.length - i ∧ i ≤ P.length ∧ H1 = Hc ∧ e 0 = .p (acs l) ∧ e 4 = .nsl ∧ e 5 = .p (ins P) ∧ e 6 = .p (ins O) ∧ e 7 = .p (B ok) ∧ e 8 = .p (ins O) ∧ e 10 = .p (I i)) ?_ P.length _ _ ⟨0, rfl, by omega, rfl, ?_⟩
    · rintro m e Hc ⟨i, rfl, hi, rfl, e0, e4, e5, e6, e7, e8, e10⟩
      rcases Nat.lt_or_ge i P.length with h | h
      · omega
      · obtain rfl : i = P.length := by omega
        simp -implicitDefEqProofs -dsimp (disch := first | omega | (simp only [wkLen]; omega) | decide +kernel) only [↓wkPre, ↓wkPre2, ↓wkE, wkPost, wkDef, wkF, simprocAttr, e0, e4, e5, e6, e7, e8, e10, huP]
        refine loop_use extMono (fun m e Hc => ∃ i : Nat, m = O.length - i ∧ i ≤ O.length ∧ H1 = Hc ∧ e 0 = .p (acs l) ∧ e 4 = .nsl ∧ e 6 = .p (ins O) ∧ e 7 = .p (B ok) ∧ e 8 = .p (ins O) ∧ e 11 = .p (I i)) ?_ O.length _ _ ⟨0, rfl, by omega, rfl, ?_⟩
        · rintro m e Hc ⟨i, rfl, hi, rfl, e0, e4, e6, e7, e8, e11⟩
          rcases Nat.lt_or_ge i O.length with h | h
          · exfalso; have := hOP.2; omega
          · obtain rfl : i = O.length := by omega
            have fin : (!ok || ((O.length : Int) == (0 : Int))) = true := by
              rcases hOP.1 with h9 | h9
              · rw [h9]; rfl
              · rw [h9, hP0]; simp
            cases hok : ok
            · simp -implicitDefEqProofs -dsimp (disch := first | omega | (simp only [wkLen]; omega) | decide +kernel) only [↓wkPre, ↓wkPre2, ↓wkE, wkPost, wkDef, wkF, simprocAttr, e0, e4, e6, e7, e8, e11, huO, hok]
              refine PS.app md_7 Try.func7 p7 rfl ?_
              rintro _ rfl
              simp -implicitDefEqProofs -dsimp (disch := first | omega | (simp only [wkLen]; omega) | decide +kernel) only [↓wkPre, ↓wkPre2, ↓wkE, wkPost, wkDef, wkF, simprocAttr]
            · rw [hok] at fin
              have fin2 : ((O.length : Int) == (0 : Int)) = true := by simpa using fin
              simp -implicitDefEqProofs -dsimp (disch := first | omega | (simp only [wkLen]; omega) | decide +kernel) only [↓wkPre, ↓wkPre2, ↓wkE, wkPost, wkDef, wkF, simprocAttr, e0, e4, e6, e7, e8, e11, huO, hok, fin2]
              refine PS.app md_7 Try.func7 p7 rfl ?_
              rintro _ rfl
              simp -implicitDefEqProofs -dsimp (disch := first | omega | (simp only [wkLen]; omega) | decide +kernel) only [↓wkPre, ↓wkPre2, ↓wkE, wkPost, wkDef, wkF, simprocAttr]
        · simp -implicitDefEqProofs -dsimp (disch := first | omega | (simp only [wkLen]; omega) | decide +kernel) only [↓wkPre, ↓wkPre2, ↓wkE, wkPost, wkDef, wkF, simprocAttr]
          exact ⟨e0, e4, e6, e7, e8⟩
    · simp -implicitDefEqProofs -dsimp (disch := first | omega | (simp only [wkLen]; omega) | decide +kernel) only [↓wkPre, ↓wkPre2, ↓wkE, wkPost, wkDef, wkF, simprocAttr]
  · skip
    simp -implicitDefEqProofs -dsimp (disch := first | omega | (simp only [wkLen]; omega) | decide +kernel) only [↓wkPre, ↓wkPre2, ↓wkE, wkPost, wkDef, wkF, simprocAttr, huO, huP]
    refine loop_use extMono (fun m e Hc => ∃ i : Nat, m = P.length - i ∧ i ≤ P.length ∧ H1 = Hc ∧ e 0 = .p (acs l) ∧ e 4 = .ref b g 0 P.length ex ∧ e 5 = .p (ins P) ∧ e 6 = .p (ins O) ∧ e 7 = .p (B ok) ∧ e 8 = .p (ins O) ∧ e 10 = .p (I i)) ?_ P.length _ _ ⟨0, rfl, by omega, rfl, ?_⟩
    · rintro m e Hc ⟨i, rfl, hi, rfl, e0, e4, e5, e6, e7, e8, e10⟩
      rcases Nat.lt_or_ge i P.length with h | h
      · have gi := iL_get h
        have gz := pre_get (zs := zs) h
        have hln : (iL P ++ zs).length = P.length + zs.length := by rw [List.length_append, huP]
        simp -implicitDefEqProofs -dsimp (disch := first | omega | (simp only [wkLen]; omega) | decide +kernel) only [↓wkPre, ↓wkPre2, ↓wkE, wkPost, wkDef, wkF, simprocAttr, e0, e4, e5, e6, e7, e8, e10, huP, hb, gi, gz, hln]
        exact ⟨P.length - (i + 1), by omega, i + 1, rfl, by omega, by push_cast; rfl⟩
      · obtain rfl : i = P.length := by omega
        simp -implicitDefEqProofs -dsimp (disch := first | omega | (simp only [wkLen]; omega) | decide +kernel) only [↓wkPre, ↓wkPre2, ↓wkE, wkPost, wkDef, wkF, simprocAttr, e0, e4, e5, e6, e7, e8, e10, huP]
        refine loop_use extMono (fun m e Hc => ∃ i : Nat, m = O.length - i ∧ i ≤ O.length ∧ H1 = Hc ∧ e 0 = .p (acs l) ∧ e 4 = .ref b g 0 P.length ex ∧ e 6 = .p (ins O) ∧ e 7 = .p (B ok) ∧ e 8 = .p (ins O) ∧ e 11 = .p (I i)) ?_ O.length _ _ ⟨0, rfl, by omega, rfl, ?_⟩
        · rintro m e Hc ⟨i, rfl, hi, rfl, e0, e4, e6, e7, e8, e11⟩
          rcases Nat.lt_or_ge i O.length with h | h
          · have gi := iL_get h
            simp -implicitDefEqProofs -dsimp (disch := first | omega | (simp only [wkLen]; omega) | decide +kernel) only [↓wkPre, ↓wkPre2, ↓wkE, wkPost, wkDef, wkF, simprocAttr, e0, e4, e6, e7, e8, e11, huO, gi]
            refine loop_use extMono (fun m e Hc => ∃ k : Nat, m = i - k ∧ k ≤ i ∧ H1 = Hc ∧ e 0 = .p (acs l) ∧ e 4 = .ref b g 0 P.length ex ∧ e 6 = .p (ins O) ∧ e 7 = .p (B ok) ∧ e 8 = .p (ins O) ∧ e 11 = .p (I i) ∧ e 12 = .p (I k)) ?_ i _ _ ⟨0, rfl, by omega, rfl, ?_⟩
            · rintro m e Hc ⟨k, rfl, hk, rfl, e0, e4, e6, e7, e8, e11, e12⟩
              rcases Nat.lt_or_ge k i with h2 | h2
              · have gk := iL_get (l := O) (i := k) (by omega)
                obtain ⟨a1, a2⟩ := hAt i k h h2
                simp -implicitDefEqProofs -dsimp (disch := first | omega | (simp only [wkLen]; omega) | decide +kernel) only [↓wkPre, ↓wkPre2, ↓wkE, wkPost, wkDef, wkF, simprocAttr, e0, e4, e6, e7, e8, e11, e12, huO, gi, gk]
                refine PS.app md_13 Try.func13 (p13 l O[i] O[k] (by omega)) rfl ?_
                rintro _ rfl
                simp -implicitDefEqProofs -dsimp (disch := first | omega | (simp only [wkLen]; omega) | decide +kernel) only [↓wkPre, ↓wkPre2, ↓wkE, wkPost, wkDef, wkF, simprocAttr, e0, e4, e6, e7, e8, e11, e12, huO, gi, gk, a1, a2]
                exact ⟨i - (k + 1), by omega, k + 1, rfl, by omega, by push_cast; rfl⟩
              · obtain rfl : k = i := by omega
                simp -implicitDefEqProofs -dsimp (disch := first | omega | (simp only [wkLen]; omega) | decide +kernel) only [↓wkPre, ↓wkPre2, ↓wkE, wkPost, wkDef, wkF, simprocAttr, e0, e4, e6, e7, e8, e11, e12]
                exact ⟨O.length - (k + 1), by omega, k + 1, rfl, by omega, by push_cast; rfl⟩
            · simp -implicitDefEqProofs -dsimp (disch := first | omega | (simp only [wkLen]; omega) | decide +kernel) only [↓wkPre, ↓wkPre2, ↓wkE, wkPost, wkDef, wkF, simprocAttr]
              exact ⟨e0, e4, e6, e7, e8, e11⟩
          · obtain rfl : i = O.length := by omega
            have fin : (!ok || ((O.length : Int) == (P.length : Int))) = true := by
              rcases hOP.1 with h9 | h9
              · rw [h9]; rfl
              · rw [h9]; simp
            cases hok : ok
            · simp -implicitDefEqProofs -dsimp (disch := first | omega | (simp only [wkLen]; omega) | decide +kernel) only [↓wkPre, ↓wkPre2, ↓wkE, wkPost, wkDef, wkF, simprocAttr, e0, e4, e6, e7, e8, e11, huO, hok]
              refine PS.app md_7 Try.func7 p7 rfl ?_
              rintro _ rfl
              simp -implicitDefEqProofs -dsimp (disch := first | omega | (simp only [wkLen]; omega) | decide +kernel) only [↓wkPre, ↓wkPre2, ↓wkE, wkPost, wkDef, wkF, simprocAttr]
            · rw [hok] at fin
              have fin2 : ((O.length : Int) == (P.length : Int)) = true := by simpa using fin
              simp -implicitDefEqProofs -dsimp (disch := first | omega | (simp only [wkLen]; omega) | decide +kernel) only [↓wkPre, ↓wkPre2, ↓wkE, wkPost, wkDef, wkF, simprocAttr, e0, e4, e6, e7, e8, e11, huO, hok, fin2]
              refine PS.app md_7 Try.func7 p7 rfl ?_
              rintro _ rfl
              simp -implicitDefEqProofs -dsimp (disch := first | omega | (simp only [wkLen]; omega) | decide +kernel) only [↓wkPre, ↓wkPre2, ↓wkE, wkPost, wkDef, wkF, simprocAttr]
        · simp -implicitDefEqProofs -dsimp (disch := first | omega | (simp only [wkLen]; omega) | decide +kernel) only [↓wkPre, ↓wkPre2, ↓wkE, wkPost, wkDef, wkF, simprocAttr]
          exact ⟨e0, e4, e6, e7, e8⟩
    · simp -implicitDefEqProofs -dsimp (disch := first | omega | (simp only [wkLen]; omega) | decide +kernel) only [↓wkPre, ↓wkPre2, ↓wkE, wkPost, wkDef, wkF, simprocAttr]
theorem lawHistoryOrders : ∀ xs, Tyas [(0, [Ty.sl 3 [Ty.int .i64, Ty.int .u64, Ty.bool]])] xs → (Ev.W Cf okf).call 3 (xs.map AV.p) [] fun v _ => v = .p (.bool true) := by
  intro xs h
  obtain ⟨L, rfl⟩ := law_args h
  exact law3 L
end Go.Ev.F23
end
