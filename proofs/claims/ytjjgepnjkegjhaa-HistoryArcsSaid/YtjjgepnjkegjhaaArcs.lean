/- The law HistoryArcs answers true for every input, and its arguments read as before. No condition: the whole of the given statement. -/
import Derived.Test.YtjjgepnjkegjhaaRows
import Derived.Test.YtjjgepnjkegjhaaOrdW
set_option linter.all false
section
namespace Go.Ev.F23
open Go.Proofs Go.Ev Go.Sort
set_option maxRecDepth 100000
set_option linter.all false
/-- Ahead, round about. -/
abbrev RA1 (l : List Acc) (x y : Int) : Prop := ahB x y l = true
abbrev Cyc (l : List Acc) : Prop := ∃ p, Relation.TransGen (RA1 l) p p
theorem ahB_ends {l : List Acc} {x y : Int} (h : ahB x y l = true) : x ∈ l.map (·.1) ∧ y ∈ l.map (·.1) ∧ x ≠ y := by
  have := (mem_rawA (x, y) l).2 h
  clear h
  induction l with
  | nil => simp [rawA] at this
  | cons a t ih =>
    rw [rawA, List.mem_append] at this
    rcases this with h | h
    · unfold rawI at h
      obtain ⟨b, hb, he⟩ := List.mem_map.1 h
      obtain ⟨h1, h2⟩ := List.mem_filter.1 hb
      simp only [Prod.mk.injEq] at he
      obtain ⟨rfl, rfl⟩ := he
      refine ⟨by simp, List.mem_map.2 ⟨b, by simp [h1], rfl⟩, ?_⟩
      unfold conf at h2
      rw [Bool.and_eq_true] at h2
      simpa using h2.1
    · obtain ⟨h1, h2, h3⟩ := ih h
      exact ⟨by rw [List.map_cons]; exact List.mem_cons_of_mem _ h1, by rw [List.map_cons]; exact List.mem_cons_of_mem _ h2, h3⟩
/-- Of finitely many one is least. -/
theorem least_of {T : Int → Int → Prop} (htr : ∀ a b c, T a b → T b c → T a c) (hir : ∀ a, ¬ T a a) : ∀ S : List Int, S ≠ [] → ∃ m ∈ S, ∀ y ∈ S, ¬ T y m
  | [], h => absurd rfl h
  | a :: S, _ => by
    by_cases hS : S = []
    · subst hS
      exact ⟨a, by simp, fun y hy => by rw [List.mem_singleton.1 hy]; exact hir a⟩
    · obtain ⟨m, hm, hl⟩ := least_of htr hir S hS
      by_cases ha : T a m
      · refine ⟨a, by simp, fun y hy h => ?_⟩
        rcases List.mem_cons.1 hy with rfl | hy
        · exact hir _ h
        · exact hl y hy (htr _ _ _ h ha)
      · refine ⟨m, by simp [hm], fun y hy h => ?_⟩
        rcases List.mem_cons.1 hy with rfl | hy
        · exact ha h
        · exact hl y hy h
/-- There is an order just if there is no way round. -/
theorem ord_cyc (l : List Acc) : (ordS l (ppl l).length (ppl l) []).2 = true ↔ ¬ Cyc l := by
  obtain ⟨hr, hmem⟩ := ppl_ok l
  obtain ⟨hO1, hO2, hO3⟩ := ordS_ok l (ppl l).length (ppl l) [] rfl (Rise.nodup hr) List.Pairwise.nil (fun x h => by cases h)
  generalize ordS l (ppl l).length (ppl l) [] = R at hO1 hO2 hO3 ⊢
  obtain ⟨O, ok⟩ := R
  dsimp only at hO1 hO2 hO3 ⊢
  constructor
  · rintro hok ⟨p, hp⟩
    have hperm := hO2 hok
    have hidx : ∀ x y, RA1 l x y → O.idxOf x < O.idxOf y := fun x y h => by
      obtain ⟨h1, h2, h3⟩ := ahB_ends h
      have m1 : x ∈ O := hperm.mem_iff.2 (by simpa using (hmem x).2 h1)
      have m2 : y ∈ O := hperm.mem_iff.2 (by simpa using (hmem y).2 h2)
      have l1 := List.idxOf_lt_length_iff.2 m1
      have l2 := List.idxOf_lt_length_iff.2 m2
      rcases Nat.lt_or_ge (O.idxOf x) (O.idxOf y) with h4 | h4
      · exact h4
      · exfalso
        rcases Nat.lt_or_eq_of_le h4 with h5 | h5
        · have := (List.pairwise_iff_getElem.1 hO1 _ _ l2 l1 h5).1
          rw [List.getElem_idxOf l1, List.getElem_idxOf l2] at this
          rw [h] at this; cases this
        · have e1 := List.getElem_idxOf l1
          have e2 := List.getElem_idxOf l2
          simp only [h5] at e2
          exact h3 (e1.symm.trans e2)
    have : ∀ x y, Relation.TransGen (RA1 l) x y → O.idxOf x < O.idxOf y := fun x y h => by
      induction h with
      | single h => exact hidx _ _ h
      | tail _ h ih => exact Nat.lt_trans ih (hidx _ _ h)
    exact Nat.lt_irrefl _ (this p p hp)
  · intro hc
    cases hok : ok with
    | true => rfl
    | false =>
      obtain ⟨_, S, h1, h2, h3⟩ := hO3 hok
      obtain ⟨m, hm, hl⟩ := least_of (T := Relation.TransGen (RA1 l)) (fun _ _ _ h k => h.trans k) (fun a h => hc ⟨a, h⟩) S h1
      obtain ⟨y, hy, hh⟩ := h3 m hm
      exact absurd (.single hh) (hl y hy)
theorem p15 (l : List Acc) (P : List Int) (hl : l.length ≤ 1000) (hP : P.length ≤ 16) (hmem : ∀ x, x ∈ P ↔ x ∈ l.map (·.1)) : PS Cf okf 15 [4] [acs l, ins P] (fun r => ∃ b : Bool, r = B b ∧ (b = true ↔ Cyc l)) := by
  refine PS.mk extMono Try.func15 body15 (by decide) rfl ?_
  simp only [c15, Try.f15, Option.getD_some]
  have hul := iL_len P
  simp -implicitDefEqProofs -dsimp (disch := first | omega | (simp only [wkLen]; omega) | decide +kernel) only [↓wkPre, ↓wkPre2, ↓wkE, wkPost, wkDef, wkF, simprocAttr]
  refine loop_use extMono (fun m e Hc => ∃ i : Nat, m = P.length - i ∧ i ≤ P.length ∧ e 0 = .p (acs l) ∧ e 1 = .p (ins P) ∧ e 5 = .p (I i) ∧ ∀ q, q < i → ¬ Relation.TransGen (RA1 l) P[q]! P[q]!) ?_ P.length _ _ ⟨0, rfl, by omega, ?_⟩
  · rintro m e Hc ⟨i, rfl, hi, e0, e1, e5, hno⟩
    rcases Nat.lt_or_ge i P.length with h | h
    · have gi := iL_get h
      simp -implicitDefEqProofs -dsimp (disch := first | omega | (simp only [wkLen]; omega) | decide +kernel) only [↓wkPre, ↓wkPre2, ↓wkE, wkPost, wkDef, wkF, simprocAttr, e0, e1, e5, hul, gi]
      refine loop_use extMono (fun m e Hc => ∃ (k b g : Nat) (met : List Int), m = 17 - k ∧ k ≤ met.length ∧ e 0 = .p (acs l) ∧ e 1 = .p (ins P) ∧ e 5 = .p (I i) ∧ e 6 = .ref b g 0 met.length false ∧ Hc[b]? = some (.arr true g 0 (iL met)) ∧ e 7 = .p (I k) ∧
        met.Nodup ∧ (∀ x ∈ met, x ∈ P) ∧ P[i] ∈ met ∧ (∀ x ∈ met, x = P[i] ∨ Relation.TransGen (RA1 l) P[i] x) ∧ ∀ q (hq : q < met.length), q < k → ∀ y ∈ P, ahB met[q] y l = true → y ∈ met ∧ y ≠ P[i]) ?_ 17 _ _ ⟨0, Hc.length, 0, [P[i]], rfl, by simp, ?_⟩
      · rintro m e Hc ⟨k, b, g, met, rfl, hk, e0, e1, e5, e6, hb, e7, hnd, hsub, hin, hfrom, hcl⟩
        have hml : met.length ≤ 16 := Nat.le_trans (List.Nodup.length_le_of_subset hnd hsub) hP
        have hum := iL_len met
        rcases Nat.lt_or_ge k met.length with h2 | h2
        · have gk := iL_get h2
          simp -implicitDefEqProofs -dsimp (disch := first | omega | (simp only [wkLen]; omega) | decide +kernel) only [↓wkPre, ↓wkPre2, ↓wkE, wkPost, wkDef, wkF, simprocAttr, e0, e1, e5, e6, e7, hul, hb, gk, hum]
          refine loop_use extMono (fun m e Hc => ∃ (j b g : Nat) (met : List Int), m = P.length - j ∧ j ≤ P.length ∧ k < met.length ∧ e 0 = .p (acs l) ∧ e 1 = .p (ins P) ∧ e 5 = .p (I i) ∧ e 6 = .ref b g 0 met.length false ∧ Hc[b]? = some (.arr true g 0 (iL met)) ∧ e 7 = .p (I k) ∧ e 8 = .p (I j) ∧
            met.Nodup ∧ (∀ x ∈ met, x ∈ P) ∧ P[i] ∈ met ∧ (∀ x ∈ met, x = P[i] ∨ Relation.TransGen (RA1 l) P[i] x) ∧ (∀ q (hq : q < met.length), q < k → ∀ y ∈ P, ahB met[q] y l = true → y ∈ met ∧ y ≠ P[i]) ∧ ∀ y ∈ P.take j, ahB met[k]! y l = true → y ∈ met ∧ y ≠ P[i]) ?_ P.length _ _ ⟨0, b, g, met, rfl, by omega, h2, ?_⟩
          · clear hcl hfrom hin hsub hnd hb hml gk hum e0 e1 e5 e6 e7 hk h2
            rintro m e Hc ⟨j, b, g, met, rfl, hj, h2, e0, e1, e5, e6, hb, e7, e8, hnd, hsub, hin, hfrom, hcl, hnow⟩
            have hml : met.length ≤ 16 := Nat.le_trans (List.Nodup.length_le_of_subset hnd hsub) hP
            have hum := iL_len met
            have gk := iL_get h2
            have hgk : met[k]! = met[k] := getElem!_pos met k h2
            rw [hgk] at hnow
            rcases Nat.lt_or_ge j P.length with h3 | h3
            · have gj := iL_get h3
              have tk : P.take (j + 1) = P.take j ++ [P[j]] := List.take_succ_eq_append_getElem h3
              simp -implicitDefEqProofs -dsimp (disch := first | omega | (simp only [wkLen]; omega) | decide +kernel) only [↓wkPre, ↓wkPre2, ↓wkE, wkPost, wkDef, wkF, simprocAttr, e0, e1, e5, e6, e7, e8, hul, hb, gk, gj, hum]
              refine PS.app md_13 Try.func13 (p13 l met[k] P[j] (by omega)) rfl ?_
              rintro _ rfl
              cases hah : ahB met[k] P[j] l
              · simp -implicitDefEqProofs -dsimp (disch := first | omega | (simp only [wkLen]; omega) | decide +kernel) only [↓wkPre, ↓wkPre2, ↓wkE, wkPost, wkDef, wkF, simprocAttr, e0, e1, e5, e6, e7, e8, hah]
                refine ⟨P.length - (j + 1), by omega, j + 1, b, g, met, rfl, by omega, h2, rfl, hb, by push_cast; rfl, hnd, hsub, hin, hfrom, hcl, fun y hy hhy => ?_⟩
                rw [tk, List.mem_append] at hy
                rw [hgk] at hhy
                rcases hy with hy | hy
                · exact hnow y hy hhy
                · rw [List.mem_singleton.1 hy, hah] at hhy; cases hhy
              · cases heq : (P[j] == P[i])
                · have hne : P[j] ≠ P[i] := by simpa using heq
                  simp -implicitDefEqProofs -dsimp (disch := first | omega | (simp only [wkLen]; omega) | decide +kernel) only [↓wkPre, ↓wkPre2, ↓wkE, wkPost, wkDef, wkF, simprocAttr, e0, e1, e5, e6, e7, e8, hah, hul, gi, gj, heq]
                  refine loop_use extMono (fun m e H => ∃ q : Nat, m = met.length - q ∧ q ≤ met.length ∧ Hc = H ∧ e 0 = .p (acs l) ∧ e 1 = .p (ins P) ∧ e 5 = .p (I i) ∧ e 6 = .ref b g 0 met.length false ∧ e 7 = .p (I k) ∧ e 8 = .p (I j) ∧ e 10 = .p (I q) ∧ e 9 = .p (B (decide (P[j] ∈ met.take q)))) ?_ met.length _ _ ⟨0, rfl, by omega, rfl, ?_⟩
                  · rintro m e H ⟨q, rfl, hq, rfl, e0, e1, e5, e6, e7, e8, e10, e9⟩
                    rcases Nat.lt_or_ge q met.length with h4 | h4
                    · have gq := iL_get h4
                      have tq : met.take (q + 1) = met.take q ++ [met[q]] := List.take_succ_eq_append_getElem h4
                      cases hm : decide (P[j] ∈ met.take q)
                      · rw [hm] at e9
                        have hm' := of_decide_eq_false hm
                        cases hc : (met[q] == P[j])
                        · have hd : decide (P[j] ∈ met.take (q + 1)) = false := decide_eq_false fun h9 => by
                            rw [tq, List.mem_append, List.mem_singleton] at h9
                            rcases h9 with h9 | h9
                            · exact hm' h9
                            · rw [h9] at hc; simp at hc
                          simp -implicitDefEqProofs -dsimp (disch := first | omega | (simp only [wkLen]; omega) | decide +kernel) only [↓wkPre, ↓wkPre2, ↓wkE, wkPost, wkDef, wkF, simprocAttr, e0, e1, e5, e6, e7, e8, e10, e9, hul, hum, hb, gq, gj, hc]
                          exact ⟨met.length - (q + 1), by omega, q + 1, rfl, by omega, by push_cast; rfl, by rw [hd]⟩
                        · have hd : decide (P[j] ∈ met.take (q + 1)) = true := decide_eq_true (by rw [tq, List.mem_append, List.mem_singleton]; exact .inr (beq_iff_eq.1 hc).symm)
                          simp -implicitDefEqProofs -dsimp (disch := first | omega | (simp only [wkLen]; omega) | decide +kernel) only [↓wkPre, ↓wkPre2, ↓wkE, wkPost, wkDef, wkF, simprocAttr, e0, e1, e5, e6, e7, e8, e10, e9, hul, hum, hb, gq, gj, hc]
                          exact ⟨met.length - (q + 1), by omega, q + 1, rfl, by omega, by push_cast; rfl, by rw [hd]⟩
                      · rw [hm] at e9
                        have hd : decide (P[j] ∈ met.take (q + 1)) = true := decide_eq_true (by rw [tq, List.mem_append]; exact .inl (of_decide_eq_true hm))
                        simp -implicitDefEqProofs -dsimp (disch := first | omega | (simp only [wkLen]; omega) | decide +kernel) only [↓wkPre, ↓wkPre2, ↓wkE, wkPost, wkDef, wkF, simprocAttr, e0, e1, e5, e6, e7, e8, e10, e9, hul, hum, hb, gq, gj]
                        exact ⟨met.length - (q + 1), by omega, q + 1, rfl, by omega, by push_cast; rfl, by rw [hd]⟩
                    · obtain rfl : q = met.length := by omega
                      rw [List.take_length] at e9
                      cases hm : decide (P[j] ∈ met)
                      · rw [hm] at e9
                        have hm' := of_decide_eq_false hm
                        simp -implicitDefEqProofs -dsimp (disch := first | omega | (simp only [wkLen]; omega) | decide +kernel) only [↓wkPre, ↓wkPre2, ↓wkE, wkPost, wkDef, wkF, simprocAttr, e0, e1, e5, e6, e7, e8, e10, e9, hul, gj]
                        have h0w : OwnS Hc (.ref b g 0 met.length false) 0 (iL met) := .inr ⟨b, g, by rw [hum], hb⟩
                        refine append_step telem_26 (elems_new rfl rfl) (by simp) (h0w.app _) ?_ ?_
                        · rw [byt_3, hum]; simp; omega
                        intro w' H' hown' hfr hle hb'
                        rw [← iL_snoc] at hown'
                        rcases hown' with ⟨_, h9⟩ | ⟨b', g', rfl, hb2⟩
                        · rw [iL_snoc] at h9; simp at h9
                        rw [iL_len]
                        simp -implicitDefEqProofs -dsimp (disch := first | omega | (simp only [wkLen]; omega) | decide +kernel) only [↓wkPre, ↓wkPre2, ↓wkE, wkPost, wkDef, wkF, simprocAttr, e0, e1, e5, e6, e7, e8]
                        refine ⟨P.length - (j + 1), by omega, j + 1, b', g', met ++ [P[j]], rfl, by omega, (by simp; omega), by simp, hb2, by push_cast; rfl, ?_, ?_, by simp [hin], ?_, ?_, ?_⟩
                        · rw [List.nodup_append]; exact ⟨hnd, by simp, fun x hx y hy => by rw [List.mem_singleton.1 hy]; exact fun e => hm' (e ▸ hx)⟩
                        · intro x hx
                          rcases List.mem_append.1 hx with h | h
                          · exact hsub x h
                          · rw [List.mem_singleton.1 h]; exact List.getElem_mem h3
                        · intro x hx
                          rcases List.mem_append.1 hx with h | h
                          · exact hfrom x h
                          · rw [List.mem_singleton.1 h]
                            rcases hfrom _ (List.getElem_mem h2) with h5 | h5
                            · exact .inr (.single (by rw [← h5]; exact hah))
                            · exact .inr (.tail h5 hah)
                        · intro q hq hqk y hy hyy
                          rw [List.getElem_append_left (by omega)] at hyy
                          obtain ⟨a1, a2⟩ := hcl q (by omega) hqk y hy hyy
                          exact ⟨List.mem_append_left _ a1, a2⟩
                        · intro y hy hyy
                          rw [getElem!_pos _ k (by simp; omega), List.getElem_append_left h2] at hyy
                          rw [tk, List.mem_append] at hy
                          rcases hy with hy | hy
                          · obtain ⟨a1, a2⟩ := hnow y hy hyy
                            exact ⟨List.mem_append_left _ a1, a2⟩
                          · rw [List.mem_singleton.1 hy]
                            exact ⟨by simp, hne⟩
                      · rw [hm] at e9
                        have hm' := of_decide_eq_true hm
                        simp -implicitDefEqProofs -dsimp (disch := first | omega | (simp only [wkLen]; omega) | decide +kernel) only [↓wkPre, ↓wkPre2, ↓wkE, wkPost, wkDef, wkF, simprocAttr, e0, e1, e5, e6, e7, e8, e10, e9, hul, gj]
                        refine ⟨P.length - (j + 1), by omega, j + 1, b, g, met, rfl, by omega, h2, rfl, hb, by push_cast; rfl, hnd, hsub, hin, hfrom, hcl, fun y hy hhy => ?_⟩
                        rw [tk, List.mem_append] at hy
                        rw [hgk] at hhy
                        rcases hy with hy | hy
                        · exact hnow y hy hhy
                        · rw [List.mem_singleton.1 hy]; exact ⟨hm', hne⟩
                  · simp -implicitDefEqProofs -dsimp (disch := first | omega | (simp only [wkLen]; omega) | decide +kernel) only [↓wkPre, ↓wkPre2, ↓wkE, wkPost, wkDef, wkF, simprocAttr]
                    exact ⟨e0, e1, e5, e6, e7, e8, by simp⟩
                · have he : P[j] = P[i] := by simpa using heq
                  simp -implicitDefEqProofs -dsimp (disch := first | omega | (simp only [wkLen]; omega) | decide +kernel) only [↓wkPre, ↓wkPre2, ↓wkE, wkPost, wkDef, wkF, simprocAttr, e0, e1, e5, e6, e7, e8, hah, hul, gi, gj, heq]
                  refine ⟨true, rfl, fun _ => ?_, fun _ => rfl⟩
                  refine ⟨P[i], ?_⟩
                  rw [he] at hah
                  rcases hfrom _ (List.getElem_mem h2) with h5 | h5
                  · exact .single (by rw [h5] at hah; exact hah)
                  · exact .tail h5 hah
            · obtain rfl : j = P.length := by omega
              rw [List.take_length] at hnow
              simp -implicitDefEqProofs -dsimp (disch := first | omega | (simp only [wkLen]; omega) | decide +kernel) only [↓wkPre, ↓wkPre2, ↓wkE, wkPost, wkDef, wkF, simprocAttr, e0, e1, e5, e6, e7, e8, hul]
              refine ⟨17 - (k + 1), by omega, k + 1, b, g, met, rfl, by omega, rfl, hb, by push_cast; rfl, hnd, hsub, hin, hfrom, fun q hq hqk y hy hyy => ?_⟩
              rcases Nat.lt_or_ge q k with h4 | h4
              · exact hcl q hq h4 y hy hyy
              · obtain rfl : q = k := by omega
                exact hnow y hy hyy
          · simp -implicitDefEqProofs -dsimp (disch := first | omega | (simp only [wkLen]; omega) | decide +kernel) only [↓wkPre, ↓wkPre2, ↓wkE, wkPost, wkDef, wkF, simprocAttr]
            exact ⟨e0, e1, e5, e6, hb, e7, hnd, hsub, hin, hfrom, hcl, fun y hy => by cases hy⟩
        · obtain rfl : k = met.length := by omega
          have stay : ∀ z, Relation.TransGen (RA1 l) P[i] z → z ∈ met ∧ z ≠ P[i] := fun z hz => by
            have step : ∀ x y, x ∈ met → RA1 l x y → y ∈ met ∧ y ≠ P[i] := fun x y hx hxy => by
              obtain ⟨q, hq, rfl⟩ := List.mem_iff_getElem.1 hx
              exact hcl q hq hq y ((hmem y).2 (ahB_ends hxy).2.1) hxy
            induction hz with
            | single h => exact step _ _ hin h
            | tail _ h ih => exact step _ _ ih.1 h
          simp -implicitDefEqProofs -dsimp (disch := first | omega | (simp only [wkLen]; omega) | decide +kernel) only [↓wkPre, ↓wkPre2, ↓wkE, wkPost, wkDef, wkF, simprocAttr, e0, e1, e5, e6, e7]
          refine ⟨P.length - (i + 1), by omega, i + 1, rfl, by omega, by push_cast; rfl, fun q hq hT => ?_⟩
          rcases Nat.lt_or_ge q i with h4 | h4
          · exact hno q h4 hT
          · obtain rfl : q = i := by omega
            rw [getElem!_pos P q h] at hT
            exact (stay _ hT).2 rfl
      · simp -implicitDefEqProofs -dsimp (disch := first | omega | (simp only [wkLen]; omega) | decide +kernel) only [↓wkPre, ↓wkPre2, ↓wkE, wkPost, wkDef, wkF, simprocAttr]
        refine ⟨e0, e1, e5, by simp [iL], ?_, fun x hx => ?_, by simp, fun x hx => ?_, fun q hq h => ?_⟩
        · simp
        · rw [List.mem_singleton.1 hx]; exact List.getElem_mem h
        · exact .inl (List.mem_singleton.1 hx)
        · omega
    · obtain rfl : i = P.length := by omega
      simp -implicitDefEqProofs -dsimp (disch := first | omega | (simp only [wkLen]; omega) | decide +kernel) only [↓wkPre, ↓wkPre2, ↓wkE, wkPost, wkDef, wkF, simprocAttr, e0, e1, e5, hul]
      refine ⟨false, rfl, fun h => (by cases h), fun ⟨p, hp⟩ => ?_⟩
      have hm : p ∈ P := by
        have : ∀ x y, Relation.TransGen (RA1 l) x y → x ∈ P := fun x y h => by
          induction h with
          | single h => exact (hmem _).2 (ahB_ends h).1
          | tail _ _ ih => exact ih
        exact this p p hp
      obtain ⟨q, hq, rfl⟩ := List.mem_iff_getElem.1 hm
      have := hno q hq
      rw [getElem!_pos P q hq] at this
      exact absurd hp this
  · simp -implicitDefEqProofs -dsimp (disch := first | omega | (simp only [wkLen]; omega) | decide +kernel) only [↓wkPre, ↓wkPre2, ↓wkE, wkPost, wkDef, wkF, simprocAttr]
    exact fun q hq => absurd hq (by omega)
/-- The arcs, one by one. -/
def arcsF (l : List Acc) (P : List Int) (Q : List Int) : List Arc := Q.flatMap (fun x => (P.filter (fun y => ahB x y l)).map (fun y => (x, y)))
theorem arcsF_cons (l : List Acc) (P : List Int) (x : Int) (Q : List Int) : arcsF l P (x :: Q) = (P.filter (fun y => ahB x y l)).map (fun y => (x, y)) ++ arcsF l P Q := rfl
theorem arcsF_rise (l : List Acc) {P : List Int} (hP : Rise P) : ∀ {Q : List Int}, Rise Q → RiseR (arcsF l P Q) ∧ ∀ a ∈ arcsF l P Q, a.1 ∈ Q
  | [], _ => ⟨List.Pairwise.nil, fun a h => by cases h⟩
  | x :: Q, hQ => by
    obtain ⟨h1, h2⟩ := List.pairwise_cons.1 hQ
    obtain ⟨h3, h4⟩ := arcsF_rise l hP h2
    rw [arcsF_cons]
    refine ⟨List.pairwise_append.2 ⟨?_, h3, fun a ha b hb => ?_⟩, fun a ha => ?_⟩
    · rw [List.pairwise_map]
      exact (hP.filter _).imp fun h => by simp [ltR, h]
    · obtain ⟨y, _, rfl⟩ := List.mem_map.1 ha
      have := h1 _ (h4 b hb)
      simp [ltR, this]
    · rcases List.mem_append.1 ha with h | h
      · obtain ⟨y, _, rfl⟩ := List.mem_map.1 h
        simp
      · exact List.mem_cons_of_mem _ (h4 a h)
theorem arcsF_eq (l : List Acc) {A : List Arc} (hA1 : RiseR A) (hA2 : ∀ a, a ∈ A ↔ ahB a.1 a.2 l = true) : A = arcsF l (ppl l) (ppl l) := by
  obtain ⟨hr, hmem⟩ := ppl_ok l
  refine hA1.ext (arcsF_rise l hr hr).1 fun a => ?_
  rw [hA2]
  obtain ⟨x, y⟩ := a
  simp only [arcsF, List.mem_flatMap, List.mem_map, List.mem_filter, Prod.mk.injEq]
  constructor
  · intro h
    obtain ⟨h1, h2, _⟩ := ahB_ends h
    exact ⟨x, (hmem x).2 h1, y, ⟨(hmem y).2 h2, h⟩, rfl, rfl⟩
  · rintro ⟨x', _, y', ⟨_, h⟩, rfl, rfl⟩
    exact h
theorem law4 (l : List Acc) : (Ev.W Cf okf).call 4 [.p (acs l)] [] fun v _ => v = .p (.bool true) := by
  refine top_mk extMono Try.func4 body4 (by decide) rfl ?_
  simp only [c4, Try.f4, Option.getD_some]
  have hul := aL_len l
  rcases Nat.lt_or_ge 16 l.length with hbig | hl
  · simp -implicitDefEqProofs -dsimp (disch := first | omega | (simp only [wkLen]; omega) | decide +kernel) only [↓wkPre, ↓wkPre2, ↓wkE, wkPost, wkDef, wkF, simprocAttr, hul]
    refine PS.app md_7 Try.func7 p7 rfl ?_
    rintro _ rfl
    simp -implicitDefEqProofs -dsimp (disch := first | omega | (simp only [wkLen]; omega) | decide +kernel) only [↓wkPre, ↓wkPre2, ↓wkE, wkPost, wkDef, wkF, simprocAttr]
  simp -implicitDefEqProofs -dsimp (disch := first | omega | (simp only [wkLen]; omega) | decide +kernel) only [↓wkPre, ↓wkPre2, ↓wkE, wkPost, wkDef, wkF, simprocAttr, hul]
  refine PS.app md_8 Try.func8 (p8 l (by omega)) rfl ?_
  rintro _ rfl
  simp -implicitDefEqProofs -dsimp (disch := first | omega | (simp only [wkLen]; omega) | decide +kernel) only [↓wkPre, ↓wkPre2, ↓wkE, wkPost, wkDef, wkF, simprocAttr, hul]
  refine PS.app md_14 Try.func14 (p14 l (by omega)) rfl ?_
  rintro _ ⟨A, rfl, hA1, hAl, hA2⟩
  have hAe := arcsF_eq l hA1 hA2
  obtain ⟨hr, hmem⟩ := ppl_ok l
  have hpl := ppl_len l
  have q11 := p11 l (by omega)
  have q10 := p10 l (by omega)
  have hoc := ord_cyc l
  generalize ordS l (ppl l).length (ppl l) [] = R at q11 hoc
  have q15 := p15 l (ppl l) (by omega) (by omega) hmem
  generalize ppl l = P at hr hmem hpl q10 hAe q15
  obtain ⟨O, ok⟩ := R
  dsimp only at q11 hoc
  have huA := rL_len A
  have huP := iL_len P
  simp -implicitDefEqProofs -dsimp (disch := first | omega | (simp only [wkLen]; omega) | decide +kernel) only [↓wkPre, ↓wkPre2, ↓wkE, wkPost, wkDef, wkF, simprocAttr, hul]
  refine PS.app md_10 Try.func10 q10 rfl ?_
  rintro _ rfl
  simp -implicitDefEqProofs -dsimp (disch := first | omega | (simp only [wkLen]; omega) | decide +kernel) only [↓wkPre, ↓wkPre2, ↓wkE, wkPost, wkDef, wkF, simprocAttr, hul]
  refine loop_use extMono (fun m e Hc => ∃ (i : Nat) (pre : List Arc), m = P.length - i ∧ i ≤ P.length ∧ e 0 = .p (acs l) ∧ e 3 = .p (rcs A) ∧ e 4 = .p (ins P) ∧ e 5 = .p (I pre.length) ∧ e 6 = .p (I i) ∧ A = pre ++ arcsF l P (P.drop i)) ?_ P.length _ _ ⟨0, [], rfl, by omega, ?_⟩
  · rintro m e Hc ⟨i, pre, rfl, hi, e0, e3, e4, e5, e6, hA⟩
    rcases Nat.lt_or_ge i P.length with h | h
    · have gi := iL_get h
      rw [List.drop_eq_getElem_cons h, arcsF_cons] at hA
      simp -implicitDefEqProofs -dsimp (disch := first | omega | (simp only [wkLen]; omega) | decide +kernel) only [↓wkPre, ↓wkPre2, ↓wkE, wkPost, wkDef, wkF, simprocAttr, e0, e3, e4, e5, e6, huP]
      refine loop_use extMono (fun m e Hc => ∃ (k : Nat) (pre : List Arc), m = P.length - k ∧ k ≤ P.length ∧ e 0 = .p (acs l) ∧ e 3 = .p (rcs A) ∧ e 4 = .p (ins P) ∧ e 5 = .p (I pre.length) ∧ e 6 = .p (I i) ∧ e 7 = .p (I k) ∧ A = pre ++ (((P.drop k).filter (fun y => ahB P[i] y l)).map (fun y => (P[i], y)) ++ arcsF l P (P.drop (i + 1)))) ?_ P.length _ _ ⟨0, pre, rfl, by omega, ?_⟩
      · rintro m e Hc ⟨k, pre, rfl, hk, e0, e3, e4, e5, e6, e7, hA⟩
        rcases Nat.lt_or_ge k P.length with h2 | h2
        · have gk := iL_get h2
          rw [List.drop_eq_getElem_cons h2, List.filter_cons] at hA
          simp -implicitDefEqProofs -dsimp (disch := first | omega | (simp only [wkLen]; omega) | decide +kernel) only [↓wkPre, ↓wkPre2, ↓wkE, wkPost, wkDef, wkF, simprocAttr, e0, e3, e4, e5, e6, e7, huP, gi, gk]
          refine PS.app md_13 Try.func13 (p13 l P[i] P[k] (by omega)) rfl ?_
          rintro _ rfl
          cases hah : ahB P[i] P[k] l
          · rw [hah] at hA
            simp -implicitDefEqProofs -dsimp (disch := first | omega | (simp only [wkLen]; omega) | decide +kernel) only [↓wkPre, ↓wkPre2, ↓wkE, wkPost, wkDef, wkF, simprocAttr, e0, e3, e4, e5, e6, e7, hah]
            exact ⟨P.length - (k + 1), by omega, k + 1, pre, rfl, by omega, rfl, by push_cast; rfl, by simpa using hA⟩
          · rw [hah] at hA
            have hA' : A = pre ++ (P[i], P[k]) :: (((P.drop (k + 1)).filter (fun y => ahB P[i] y l)).map (fun y => (P[i], y)) ++ arcsF l P (P.drop (i + 1))) := by simpa using hA
            have hn : pre.length < A.length := by rw [hA']; simp
            have ga : (rL A)[pre.length]? = some (.agg [.int .i64 P[i], .int .i64 P[k]]) := by
              rw [rL_get hn]
              have : A[pre.length] = (P[i], P[k]) := by
                have h9 : A[pre.length]? = some (P[i], P[k]) := by rw [hA']; simp
                rw [List.getElem?_eq_getElem hn] at h9
                simpa using h9
              rw [this]
            have hng : decide ((A.length : Int) ≤ (pre.length : Int)) = false := by simp; omega
            simp -implicitDefEqProofs -dsimp (disch := first | omega | (simp only [wkLen]; omega) | decide +kernel) only [↓wkPre, ↓wkPre2, ↓wkE, wkPost, wkDef, wkF, simprocAttr, e0, e3, e4, e5, e6, e7, hah, huA, huP, gi, gk, ga, hng]
            refine ⟨P.length - (k + 1), by omega, k + 1, pre ++ [(P[i], P[k])], rfl, by omega, by simp, by push_cast; rfl, ?_⟩
            rw [List.append_assoc]; exact hA'
        · obtain rfl : k = P.length := by omega
          rw [List.drop_length] at hA
          simp -implicitDefEqProofs -dsimp (disch := first | omega | (simp only [wkLen]; omega) | decide +kernel) only [↓wkPre, ↓wkPre2, ↓wkE, wkPost, wkDef, wkF, simprocAttr, e0, e3, e4, e5, e6, e7, huP]
          exact ⟨P.length - (i + 1), by omega, i + 1, pre, rfl, by omega, rfl, by push_cast; rfl, by simpa using hA⟩
      · simp -implicitDefEqProofs -dsimp (disch := first | omega | (simp only [wkLen]; omega) | decide +kernel) only [↓wkPre, ↓wkPre2, ↓wkE, wkPost, wkDef, wkF, simprocAttr]
        exact ⟨e0, e3, e4, e5, e6, by simpa using hA⟩
    · obtain rfl : i = P.length := by omega
      rw [List.drop_length] at hA
      have hA' : A.length = pre.length := by rw [hA]; simp [arcsF]
      simp -implicitDefEqProofs -dsimp (disch := first | omega | (simp only [wkLen]; omega) | decide +kernel) only [↓wkPre, ↓wkPre2, ↓wkE, wkPost, wkDef, wkF, simprocAttr, e0, e3, e4, e5, e6, huP]
      refine PS.app md_8 Try.func8 (p8 l (by omega)) rfl ?_
      rintro _ rfl
      simp -implicitDefEqProofs -dsimp (disch := first | omega | (simp only [wkLen]; omega) | decide +kernel) only [↓wkPre, ↓wkPre2, ↓wkE, wkPost, wkDef, wkF, simprocAttr, e0, e3, e4, e5, e6]
      refine PS.app md_11 Try.func11 q11 rfl ?_
      rintro _ rfl
      simp -implicitDefEqProofs -dsimp (disch := first | omega | (simp only [wkLen]; omega) | decide +kernel) only [↓wkPre, ↓wkPre2, ↓wkE, wkPost, wkDef, wkF, simprocAttr, e0, e3, e4, e5, e6, huA, hA']
      refine PS.app md_15 Try.func15 q15 rfl ?_
      rintro _ ⟨b, rfl, hb⟩
      have hbo : (ok == !b) = true := by
        have h1 : ok = true ↔ ¬ (b = true) := by rw [hoc, hb]
        cases ok <;> cases b <;> simp at h1 ⊢
      simp -implicitDefEqProofs -dsimp (disch := first | omega | (simp only [wkLen]; omega) | decide +kernel) only [↓wkPre, ↓wkPre2, ↓wkE, wkPost, wkDef, wkF, simprocAttr, e0, e3, e4, e5, e6, hbo]
      refine PS.app md_7 Try.func7 p7 rfl ?_
      rintro _ rfl
      simp -implicitDefEqProofs -dsimp (disch := first | omega | (simp only [wkLen]; omega) | decide +kernel) only [↓wkPre, ↓wkPre2, ↓wkE, wkPost, wkDef, wkF, simprocAttr]
  · simp -implicitDefEqProofs -dsimp (disch := first | omega | (simp only [wkLen]; omega) | decide +kernel) only [↓wkPre, ↓wkPre2, ↓wkE, wkPost, wkDef, wkF, simprocAttr]
    exact hAe
theorem lawHistoryArcs : ∀ xs, Tyas [(0, [Ty.sl 3 [Ty.int .i64, Ty.int .u64, Ty.bool]])] xs → (Ev.W Cf okf).call 4 (xs.map AV.p) [] fun v _ => v = .p (.bool true) := by
  intro xs h
  obtain ⟨L, rfl⟩ := law_args h
  exact law4 L
end Go.Ev.F23
end
section
namespace Go.Proofs.Ytjjgepnjkegjhaa
open Go.Ev Go.Ev.F23
set_option maxRecDepth 100000
theorem own : ownKnob Try.prog.godebug = Option.none := by kernel_rfl
theorem laidOut : laidOutB Try.prog = true := by kernel_rfl
theorem tyHistoryArcs : Try.f4.params.toList.mapM (tyA Try.prog 8) = some [(0, [Ty.sl 3 [Ty.int .i64, Ty.int .u64, Ty.bool]])] := by kernel_rfl
theorem historyArcs_lifted (os : Os) (started : os.Started) (H : Type) (enc : TypeId × Value → H) :
    ReturnsInHanded {} Try.checked os 4 .any (Rows.historyArcsSpec.pre6 enc Try.prog Try.f4 Rows.historyArcsRow.domain false) (Rows.historyArcsSpec.post enc Try.prog Try.f4 false true false false) := by
  refine returnsInHanded_of_change (C := Try.checked) own started (by kernel_rfl) Try.func4
    (ChangeSpec.witness6 (enc := enc) (C := Try.checked) false ⟨#[], #[.slice Option.none 0 0], []⟩ 8 (by kernel_rfl) (by kernel_rfl) (by kernel_rfl) (by kernel_rfl)) ?_
  intro W base args ds gs before hval hW _ _
  refine law_calls (C := Cf) extOK extMono okfOK (fn := Try.f4) laidOut (by decide +kernel) (s := Rows.historyArcsSpec) rfl ?_ tyHistoryArcs (bt := 4) (by kernel_rfl) und_4 lawHistoryArcs hval hW
  intro H ds h
  match ds, h with
  | [_], _ => rfl
theorem historyArcs_holds : Rows.HistoryArcsSaid :=
  OpenClaim.holds_of_wide 4 Try.f4 rfl rfl rfl rfl rfl rfl rfl ⟨rfl, rfl, rfl, rfl, rfl⟩ rfl rfl rfl rfl rfl (by kernel_rfl) Try.func4 (by kernel_rfl)
    (of_decide_eq_true (by kernel_rfl)) (by unfold Func.isWrapper; rw [if_neg (by decide +kernel)]; exact ⟨rfl, rfl⟩)
    (fun os started H enc _ => historyArcs_lifted os started H enc)
end Go.Proofs.Ytjjgepnjkegjhaa
#print axioms Go.Proofs.Ytjjgepnjkegjhaa.historyArcs_holds
end
