/- A part of the proof: walks of the functions that the law calls. No condition. -/
import Derived.Test.YtlbdgdpnilebpaaTrD
set_option linter.all false
section
namespace Go.Ev.F35
open Go.Proofs Go.Ev
set_option maxRecDepth 100000
set_option linter.all false
theorem lightV_ok {l : List Vt} (h : lightV l = true) : l.length ≤ 60 ∧ ∀ v ∈ l, v.a.recs.length ≤ 60 := by
  unfold lightV at h
  simp only [Bool.and_eq_true, decide_eq_true_eq, List.all_eq_true] at h
  exact ⟨h.1, fun v hv => (h.2 v hv).2⟩
theorem cutF_ok (l : List Vt) : (cutF l).length ≤ l.length ∧ ∀ t ∈ cutF l, t.evs.length ≤ l.length ∧ ∀ v ∈ t.evs, v ∈ l := by
  have h := cut_ok l l.length (Nat.le_refl _)
  rw [List.take_length] at h
  obtain ⟨q1, q2⟩ := sortT_asc h.nd
  unfold cutF
  refine ⟨?_, fun t ht => ?_⟩
  · rw [List.length_append, q2.length_eq]
    have := h.ln
    omega
  · rcases List.mem_append.1 ht with h1 | h1
    · exact h.o2 t h1
    · exact (h.o1 t (q2.mem_iff.1 h1)).2
theorem accN_at (T : List Tx) (b : Int) {i : Nat} (h : i < T.length) : accN b T = accN b (T.take i) ++ (accT (b + i) T[i].evs ++ accN (b + i + 1) (T.drop (i + 1))) := by
  induction T generalizing b i with
  | nil => simp at h
  | cons t T ih =>
    cases i with
    | zero => simp [accN]
    | succ i =>
      simp only [List.take_succ_cons, accN, List.getElem_cons_succ, List.drop_succ_cons, List.append_assoc]
      rw [ih (b + 1) (by simpa using h)]
      congr 4
      · push_cast; omega
      · push_cast; omega
theorem accT_at (b : Int) (L : List Vt) {j : Nat} (h : j < L.length) : accT b L = accT b (L.take j) ++ (accV b L[j] ++ accT b (L.drop (j + 1))) := by
  unfold accT
  rw [← List.flatMap_cons, ← List.flatMap_append]
  congr 1
  rw [← List.drop_eq_getElem_cons h, List.take_append_drop]
theorem at_app {α : Type} {A B C : List α} {x : α} : (A ++ (x :: B) ++ C)[A.length]? = some x := by simp
def plen (P : List Ac) : Nat := P.length
theorem acs_at {A P Q : List Ac} {x : Ac} {k : Nat} (h : A = P ++ x :: Q) (hk : k = P.length) : (acs A)[k]? = some (acP x) := by
  subst h hk
  simp [acs]
set_option maxHeartbeats 4000000 in
theorem law5 (l : List Vt) : (W Cf okf).call 5 [.p (.sl 16 (vts l))] [] fun v _ => v = .p (.bool true) := by
  refine top_mk extMono Try.func5 body5 (by decide) rfl ?_
  simp only [c5, Try.f5, Option.getD_some, List.append_eq, List.cons_append, List.nil_append]
  have hl := vts_len l
  simp -implicitDefEqProofs -dsimp (maxSteps := 1000000) (disch := first | omega | (simp only [wkLen]; omega) | decide +kernel) only [↓wkPre, ↓wkPre2, ↓wkE, wkPost, wkDef, wkF, simprocAttr]
  refine PS.app md_6 Try.func6 (q6 l) rfl ?_
  rintro _ rfl
  cases hlight : lightV l with
  | false =>
    simp -implicitDefEqProofs -dsimp (maxSteps := 1000000) (disch := first | omega | (simp only [wkLen]; omega) | decide +kernel) only [↓wkPre, ↓wkPre2, ↓wkE, wkPost, wkDef, wkF, simprocAttr]
    refine PS.app md_7 Try.func7 q7 rfl ?_
    rintro _ rfl
    simp -implicitDefEqProofs -dsimp (maxSteps := 1000000) (disch := first | omega | (simp only [wkLen]; omega) | decide +kernel) only [↓wkPre, ↓wkPre2, ↓wkE, wkPost, wkDef, wkF, simprocAttr]
  | true =>
    obtain ⟨hln, hrl⟩ := lightV_ok hlight
    simp -implicitDefEqProofs -dsimp (maxSteps := 1000000) (disch := first | omega | (simp only [wkLen]; omega) | decide +kernel) only [↓wkPre, ↓wkPre2, ↓wkE, wkPost, wkDef, wkF, simprocAttr]
    refine PS.app md_20 Try.func20 (q20 l (by omega)) rfl ?_
    rintro _ rfl
    have hcl := cnts_len l
    simp -implicitDefEqProofs -dsimp (maxSteps := 1000000) (disch := first | omega | (simp only [wkLen]; omega) | decide +kernel) only [↓wkPre, ↓wkPre2, ↓evC_region_st [4], ↓evC_text_st [4], ↓evC_cond, ↓evC_block, ↓evC_stop [4], wkPost, wkDef, wkF, simprocAttr, hcl]
    refine stop_st (fun e G => ∃ b, e 0 = .p (.sl 16 (vts l)) ∧ e 3 = .vptr b 0 ∧ G[b]? = some (.var true (.p (.agg (cntsF l))))) ⟨_, rfl, rfl, by simp⟩ ?_
    rintro e G ⟨b, e0, e3, gb⟩
    refine stop_go ?_
    simp -implicitDefEqProofs -dsimp (maxSteps := 1000000) (disch := first | omega | (simp only [wkLen]; omega) | decide +kernel) only [↓wkPre, ↓wkPre2, ↓wkE, wkPost, wkDef, wkF, simprocAttr, e0, e3]
    -- how many of each code
    refine loop_use extMono (fun m' e G => ∃ (c : Nat), m' = 15 - c ∧ c ≤ 15 ∧ e 0 = .p (.sl 16 (vts l)) ∧ e 3 = .vptr b 0 ∧ e 4 = .p (I 0) ∧ e 5 = .p (I c) ∧ G[b]? = some (.var true (.p (.agg (cntsF l))))) ?_ 15 _ _ ⟨0, rfl, by omega, ?_⟩
    · clear e0 e3 gb e G
      rintro m' e G ⟨c, rfl, hc, e0, e3, e4, e5, gb⟩
      rcases Nat.lt_or_ge c 15 with hlt | hge
      · simp -implicitDefEqProofs -dsimp (maxSteps := 1000000) (disch := first | omega | (simp only [wkLen]; omega) | decide +kernel) only [↓wkPre, ↓wkPre2, ↓wkE, wkPost, wkDef, wkF, simprocAttr, e0, e3, e4, e5]
        refine loop_use extMono (fun m' e G => ∃ (i : Nat), m' = l.length - i ∧ i ≤ l.length ∧ e 0 = .p (.sl 16 (vts l)) ∧ e 3 = .vptr b 0 ∧ e 4 = .p (I 0) ∧ e 5 = .p (I c) ∧ e 6 = .p (I (cntF (l.take i) c)) ∧ e 7 = .p (I i) ∧ G[b]? = some (.var true (.p (.agg (cntsF l))))) ?_ l.length _ _ ⟨0, rfl, by omega, ?_⟩
        · clear e0 e3 e4 e5 gb e G
          rintro m' e G ⟨i, rfl, hi, e0, e3, e4, e5, e6, e7, gb⟩
          rcases Nat.lt_or_ge i l.length with hli | hgi
          · have gi := vts_get hli
            have hs : cntF (l.take (i + 1)) c = cntF (l.take i) c + (if l[i].a.code = c then 1 else 0) := by
              rw [List.take_succ_eq_append_getElem hli, cnt_snoc]
            have hcb : cntF (l.take i) c ≤ 60 := by
              have h1 := List.length_filter_le (fun v : Vt => decide (v.a.code = (c : Int))) (l.take i)
              rw [List.length_take] at h1
              show (List.filter _ _).length ≤ _
              omega
            by_cases hcd : l[i].a.code = c
            · rw [if_pos hcd] at hs
              simp -implicitDefEqProofs -dsimp (maxSteps := 1000000) (disch := first | omega | (simp only [wkLen]; omega) | decide +kernel) only [↓wkPre, ↓wkPre2, ↓wkE, wkPost, wkDef, wkF, simprocAttr, e0, e3, e4, e5, e6, e7, hl, gi, hcd]
              exact ⟨l.length - (i + 1), by omega, i + 1, rfl, by omega, by rw [hs]; push_cast; rfl, by push_cast; rfl, gb⟩
            · rw [if_neg hcd] at hs
              simp -implicitDefEqProofs -dsimp (maxSteps := 1000000) (disch := first | omega | (simp only [wkLen]; omega) | decide +kernel) only [↓wkPre, ↓wkPre2, ↓wkE, wkPost, wkDef, wkF, simprocAttr, e0, e3, e4, e5, e6, e7, hl, gi, hcd]
              exact ⟨l.length - (i + 1), by omega, i + 1, rfl, by omega, by rw [hs]; rfl, by push_cast; rfl, gb⟩
          · obtain rfl : i = l.length := by omega
            rw [List.take_length] at e6
            have hg := cnts_get l hlt
            have hg' : ((cntsF l).map AV.p)[c]? = some (.p (I (cntF l c))) := by rw [List.getElem?_map, hg]; rfl
            simp -implicitDefEqProofs -dsimp (maxSteps := 1000000) (disch := first | omega | (simp only [wkLen]; omega) | decide +kernel) only [↓wkPre, ↓wkPre2, ↓wkE, wkPost, wkDef, wkF, simprocAttr, e0, e3, e4, e5, e6, e7, hl, gb, hcl, hg, hg', and_false, if_false]
            exact ⟨15 - (c + 1), by omega, c + 1, rfl, by omega, by push_cast; rfl⟩
        · simp -implicitDefEqProofs -dsimp (maxSteps := 1000000) (disch := first | omega | (simp only [wkLen]; omega) | decide +kernel) only [↓wkPre, ↓wkPre2, ↓wkE, wkPost, wkDef, wkF, simprocAttr]
          exact ⟨e0, e3, e4, e5, rfl, gb⟩
      · obtain rfl : c = 15 := by omega
        simp -implicitDefEqProofs -dsimp (maxSteps := 1000000) (disch := first | omega | (simp only [wkLen]; omega) | decide +kernel) only [↓wkPre, ↓wkPre2, ↓wkE, wkPost, wkDef, wkF, simprocAttr, e0, e3, e4, e5]
        -- who gave up most often
        refine loop_use extMono (fun m' e G => ∃ (i : Nat), m' = l.length - i ∧ i ≤ l.length ∧ e 0 = .p (.sl 16 (vts l)) ∧ e 4 = .p (I (triesF (l.take i))) ∧ e 8 = .p (I i)) ?_ l.length _ _ ⟨0, rfl, by omega, ?_⟩
        · clear e0 e3 e4 e5 gb e G
          rintro m' e G ⟨i, rfl, hi, e0, e4, e8⟩
          rcases Nat.lt_or_ge i l.length with hli | hgi
          · have gi := vts_get hli
            have hs : triesF (l.take (i + 1)) = max (triesF (l.take i)) l[i].tr := by
              rw [List.take_succ_eq_append_getElem hli]; unfold triesF; rw [List.foldl_append]; rfl
            by_cases hgt : triesF (l.take i) < l[i].tr
            · simp -implicitDefEqProofs -dsimp (maxSteps := 1000000) (disch := first | omega | (simp only [wkLen]; omega) | decide +kernel) only [↓wkPre, ↓wkPre2, ↓wkE, wkPost, wkDef, wkF, simprocAttr, e0, e4, e8, hl, gi, hgt]
              exact ⟨l.length - (i + 1), by omega, i + 1, rfl, by omega, by rw [hs, Int.max_eq_right (by omega)], by push_cast; rfl⟩
            · simp -implicitDefEqProofs -dsimp (maxSteps := 1000000) (disch := first | omega | (simp only [wkLen]; omega) | decide +kernel) only [↓wkPre, ↓wkPre2, ↓wkE, wkPost, wkDef, wkF, simprocAttr, e0, e4, e8, hl, gi, hgt]
              exact ⟨l.length - (i + 1), by omega, i + 1, rfl, by omega, by rw [hs, Int.max_eq_left (by omega)], by push_cast; rfl⟩
          · obtain rfl : i = l.length := by omega
            rw [List.take_length] at e4
            simp -implicitDefEqProofs -dsimp (maxSteps := 1000000) (disch := first | omega | (simp only [wkLen]; omega) | decide +kernel) only [↓wkPre, ↓wkPre2, ↓wkE, wkPost, wkDef, wkF, simprocAttr, e0, e4, e8, hl]
            refine PS.app md_8 Try.func8 (q8 l (by omega)) rfl ?_
            rintro _ rfl
            obtain ⟨hTl, hTe⟩ := cutF_ok l
            generalize cutF l = T at hTl hTe ⊢
            have htl := txs_len T
            simp -implicitDefEqProofs -dsimp (maxSteps := 1000000) (disch := first | omega | (simp only [wkLen]; omega) | decide +kernel) only [↓wkPre, ↓wkPre2, ↓wkE, wkPost, wkDef, wkF, simprocAttr, e0, e4]
            refine PS.app md_21 Try.func21 (q21 T (by omega) (fun t ht => ⟨by have := (hTe t ht).1; omega, fun v hv => by have := hrl v ((hTe t ht).2 v hv); omega⟩)) rfl ?_
            rintro _ rfl
            have hal := acs_len (accF T)
            have hNl := accN_len T 0 (fun t ht => ⟨by have := (hTe t ht).1; omega, fun v hv => by have := hrl v ((hTe t ht).2 v hv); omega⟩)
            have hNl : (accF T).length ≤ 1000000 * T.length := hNl
            simp -implicitDefEqProofs -dsimp (maxSteps := 1000000) (disch := first | omega | (simp only [wkLen]; omega) | decide +kernel) only [↓wkPre, ↓wkPre2, ↓wkE, wkPost, wkDef, wkF, simprocAttr, e0, e4]
            have hA0 := fun (i : Nat) (h : i < T.length) => accN_at T 0 h
            generalize hAe : accF T = A at hal hNl ⊢
            refine loop_use extMono (fun m' e G => ∃ (i : Nat), m' = T.length - i ∧ i ≤ T.length ∧ e 0 = .p (.sl 16 (vts l)) ∧ e 4 = .p (I (triesF l)) ∧ e 9 = .p (.sl 4 (txs T)) ∧ e 10 = .p (.sl 3 (acs A)) ∧ e 11 = .p (I (plen (accF (T.take i)))) ∧ e 12 = .p (I i)) ?_ T.length _ _ ⟨0, rfl, by omega, ?_⟩
            · clear e0 e4 e8 e G
              rintro m' e G ⟨i, rfl, hi, e0, e4, e9, e10, e11, e12⟩
              rcases Nat.lt_or_ge i T.length with hlt | hge
              · have gi := txs_get hlt
                have hti := hTe _ (List.getElem_mem hlt)
                have hA1 : A = accF (T.take i) ++ (accT i T[i].evs ++ accN (0 + i + 1) (T.drop (i + 1))) := by
                  rw [← hAe]
                  have := hA0 i hlt
                  rw [Int.zero_add] at this ⊢
                  exact this
                have hsn : accF (T.take (i + 1)) = accF (T.take i) ++ accT i T[i].evs := by
                  rw [List.take_succ_eq_append_getElem hlt, accF_snoc, List.length_take, Nat.min_eq_left (by omega)]
                generalize accN (0 + i + 1) (T.drop (i + 1)) = R at hA1
                generalize accF (T.take i) = P at hA1 hsn e11
                generalize T[i] = t at gi hti hA1 hsn
                obtain ⟨twho, L, td, tp⟩ := t
                dsimp only at hti hA1 hsn
                have hLl := vts_len L
                simp -implicitDefEqProofs -dsimp (maxSteps := 1000000) (disch := first | omega | (simp only [wkLen]; omega) | decide +kernel) only [↓wkPre, ↓wkPre2, ↓wkE, wkPost, wkDef, wkF, simprocAttr, e0, e4, e9, e10, e11, e12, htl, gi]
                refine loop_use extMono (fun m' e G => ∃ (j : Nat), m' = L.length - j ∧ j ≤ L.length ∧ e 0 = .p (.sl 16 (vts l)) ∧ e 4 = .p (I (triesF l)) ∧ e 9 = .p (.sl 4 (txs T)) ∧ e 10 = .p (.sl 3 (acs A)) ∧ e 11 = .p (I (plen (P ++ accT i (L.take j)))) ∧ e 12 = .p (I i) ∧ e 13 = .p (I j)) ?_ L.length _ _ ⟨0, rfl, by omega, ?_⟩
                · clear e0 e4 e9 e10 e11 e12 e G
                  rintro m' e G ⟨j, rfl, hj, e0, e4, e9, e10, e11, e12, e13⟩
                  rcases Nat.lt_or_ge j L.length with hlj | hgj
                  · have gj := vts_get hlj
                    have hA2 : A = (P ++ accT i (L.take j)) ++ (accV i L[j] ++ (accT i (L.drop (j + 1)) ++ R)) := by
                      rw [hA1, accT_at i L hlj]; simp only [List.append_assoc]
                    have hsj : P ++ accT i (L.take (j + 1)) = (P ++ accT i (L.take j)) ++ accV i L[j] := by
                      rw [List.take_succ_eq_append_getElem hlj, accT_snoc, List.append_assoc]
                    have hAl : (P ++ accT i (L.take j)).length + (accV i L[j]).length ≤ A.length := by
                      rw [hA2]; simp only [List.length_append]; omega
                    generalize accT i (L.drop (j + 1)) ++ R = R2 at hA2
                    generalize P ++ accT i (L.take j) = P2 at hA2 hsj hAl e11
                    generalize L[j] = v at gj hA2 hsj hAl
                    obtain ⟨vw, va, vt, ⟨ok, key, ox, oy, val, rc, on⟩, ⟨code, recs, an⟩⟩ := v
                    unfold accV at hA2 hsj hAl
                    dsimp only at hA2 hsj hAl
                    have nxt : ∀ (n : Int), n = (plen (P ++ accT i (L.take (j + 1))) : Nat) → ∃ m', m' < L.length - j ∧ ∃ (j' : Nat), m' = L.length - j' ∧ j' ≤ L.length ∧ AV.p (PV.int IntKind.i64 n) = AV.p (I (plen (P ++ accT i (L.take j')))) ∧ AV.p (PV.int IntKind.i64 (↑j + 1)) = AV.p (I j') :=
                      fun n hn => ⟨L.length - (j + 1), by omega, j + 1, rfl, by omega, by rw [hn], by push_cast; rfl⟩
                    by_cases c6 : code = 6
                    · rw [if_pos (.inl c6), List.append_nil] at hsj
                      simp -implicitDefEqProofs -dsimp (maxSteps := 1000000) (disch := first | omega | (simp only [wkLen]; omega) | decide +kernel) only [↓wkPre, ↓wkPre2, ↓wkE, wkPost, wkDef, wkF, simprocAttr, e0, e4, e9, e10, e11, e12, e13, htl, gi, gj, hLl, c6]
                      exact nxt _ (by rw [hsj])
                    by_cases c11 : code = 11
                    · rw [if_pos (.inr c11), List.append_nil] at hsj
                      simp -implicitDefEqProofs -dsimp (maxSteps := 1000000) (disch := first | omega | (simp only [wkLen]; omega) | decide +kernel) only [↓wkPre, ↓wkPre2, ↓wkE, wkPost, wkDef, wkF, simprocAttr, e0, e4, e9, e10, e11, e12, e13, htl, gi, gj, hLl, c6, c11]
                      exact nxt _ (by rw [hsj])
                    rw [if_neg (fun h => h.elim c6 c11)] at hA2 hsj hAl
                    obtain ⟨GL, hGL⟩ : ∃ n, G.length = n := ⟨_, rfl⟩
                    by_cases k2 : ok = 2
                    · rw [if_pos k2] at hA2 hsj hAl
                      have hkA : ¬ (A.length : Int) ≤ (plen P2 : Int) := by simp only [plen, List.length_cons, List.length_nil] at *; omega
                      have gk := acs_at (k := plen P2) hA2 rfl
                      subst k2
                      simp -implicitDefEqProofs -dsimp (maxSteps := 1000000) (disch := first | omega | (simp only [wkLen]; omega) | decide +kernel) only [↓wkPre, ↓wkPre2, ↓wkE, wkPost, wkDef, wkF, simprocAttr, e0, e4, e9, e10, e11, e12, e13, htl, gi, gj, hLl, hal, hkA, gk, c6, c11, c6]
                      refine loop_use extMono (fun m' e G => m' = 0 ∧ e 0 = .p (.sl 16 (vts l)) ∧ e 4 = .p (I (triesF l)) ∧ e 9 = .p (.sl 4 (txs T)) ∧ e 10 = .p (.sl 3 (acs A)) ∧ e 11 = .p (I ((plen P2 : Int) + 1)) ∧ e 12 = .p (I i) ∧ e 13 = .p (I j) ∧ e 14 = .vptr GL 0 ∧ e 15 = .p (I 0) ∧ G[GL]? = some (.var true (.p (vtP ⟨vw, va, vt, ⟨2, key, ox, oy, val, rc, on⟩, ⟨code, recs, an⟩⟩)))) ?_ 0 _ _ ⟨rfl, ?_⟩
                      · clear e0 e4 e9 e10 e11 e12 e13 hGL e G
                        rintro m' e G ⟨rfl, e0, e4, e9, e10, e11, e12, e13, e14, e15, ge⟩
                        simp -implicitDefEqProofs -dsimp (maxSteps := 1000000) (disch := first | omega | (simp only [wkLen]; omega) | decide +kernel) only [↓wkPre, ↓wkPre2, ↓wkE, wkPost, wkDef, wkF, simprocAttr, e0, e4, e9, e10, e11, e12, e13, e14, e15, ge, c6]
                        exact nxt _ (by first | (rw [hsj]; done) | (rw [hsj]; unfold plen; rw [List.length_append]; push_cast; rfl))
                      · simp -implicitDefEqProofs -dsimp (maxSteps := 1000000) (disch := first | omega | (simp only [wkLen]; omega) | decide +kernel) only [↓wkPre, ↓wkPre2, ↓wkE, wkPost, wkDef, wkF, simprocAttr]
                        simp only [e0, e4, e9, e10, e11, e12, e13, hGL, and_self, true_and, and_true] <;> (try (rw [← hGL]; simp))
                    rw [if_neg k2] at hA2 hsj hAl
                    by_cases k13 : ok = 1 ∨ ok = 3
                    · rw [if_pos k13] at hA2 hsj hAl
                      have hkA : ¬ (A.length : Int) ≤ (plen P2 : Int) := by simp only [plen, List.length_cons, List.length_nil] at *; omega
                      have gk := acs_at (k := plen P2) hA2 rfl
                      by_cases c0 : code = 0
                      · rw [decide_eq_true c0] at gk
                        subst c0
                        rcases k13 with k1 | k1
                        · subst k1
                          simp -implicitDefEqProofs -dsimp (maxSteps := 1000000) (disch := first | omega | (simp only [wkLen]; omega) | decide +kernel) only [↓wkPre, ↓wkPre2, ↓wkE, wkPost, wkDef, wkF, simprocAttr, e0, e4, e9, e10, e11, e12, e13, htl, gi, gj, hLl, hal, hkA, gk, c6, c11, c6]
                          refine loop_use extMono (fun m' e G => m' = 0 ∧ e 0 = .p (.sl 16 (vts l)) ∧ e 4 = .p (I (triesF l)) ∧ e 9 = .p (.sl 4 (txs T)) ∧ e 10 = .p (.sl 3 (acs A)) ∧ e 11 = .p (I ((plen P2 : Int) + 1)) ∧ e 12 = .p (I i) ∧ e 13 = .p (I j) ∧ e 14 = .vptr GL 0 ∧ e 15 = .p (I 0) ∧ G[GL]? = some (.var true (.p (vtP ⟨vw, va, vt, ⟨1, key, ox, oy, val, rc, on⟩, ⟨0, recs, an⟩⟩)))) ?_ 0 _ _ ⟨rfl, ?_⟩
                          · clear e0 e4 e9 e10 e11 e12 e13 hGL e G
                            rintro m' e G ⟨rfl, e0, e4, e9, e10, e11, e12, e13, e14, e15, ge⟩
                            simp -implicitDefEqProofs -dsimp (maxSteps := 1000000) (disch := first | omega | (simp only [wkLen]; omega) | decide +kernel) only [↓wkPre, ↓wkPre2, ↓wkE, wkPost, wkDef, wkF, simprocAttr, e0, e4, e9, e10, e11, e12, e13, e14, e15, ge, c6]
                            exact nxt _ (by first | (rw [hsj]; done) | (rw [hsj]; unfold plen; rw [List.length_append]; push_cast; rfl))
                          · simp -implicitDefEqProofs -dsimp (maxSteps := 1000000) (disch := first | omega | (simp only [wkLen]; omega) | decide +kernel) only [↓wkPre, ↓wkPre2, ↓wkE, wkPost, wkDef, wkF, simprocAttr]
                            simp only [e0, e4, e9, e10, e11, e12, e13, hGL, and_self, true_and, and_true] <;> (try (rw [← hGL]; simp))
                        · subst k1
                          simp -implicitDefEqProofs -dsimp (maxSteps := 1000000) (disch := first | omega | (simp only [wkLen]; omega) | decide +kernel) only [↓wkPre, ↓wkPre2, ↓wkE, wkPost, wkDef, wkF, simprocAttr, e0, e4, e9, e10, e11, e12, e13, htl, gi, gj, hLl, hal, hkA, gk, c6, c11, c6]
                          refine loop_use extMono (fun m' e G => m' = 0 ∧ e 0 = .p (.sl 16 (vts l)) ∧ e 4 = .p (I (triesF l)) ∧ e 9 = .p (.sl 4 (txs T)) ∧ e 10 = .p (.sl 3 (acs A)) ∧ e 11 = .p (I ((plen P2 : Int) + 1)) ∧ e 12 = .p (I i) ∧ e 13 = .p (I j) ∧ e 14 = .vptr GL 0 ∧ e 15 = .p (I 0) ∧ G[GL]? = some (.var true (.p (vtP ⟨vw, va, vt, ⟨3, key, ox, oy, val, rc, on⟩, ⟨0, recs, an⟩⟩)))) ?_ 0 _ _ ⟨rfl, ?_⟩
                          · clear e0 e4 e9 e10 e11 e12 e13 hGL e G
                            rintro m' e G ⟨rfl, e0, e4, e9, e10, e11, e12, e13, e14, e15, ge⟩
                            simp -implicitDefEqProofs -dsimp (maxSteps := 1000000) (disch := first | omega | (simp only [wkLen]; omega) | decide +kernel) only [↓wkPre, ↓wkPre2, ↓wkE, wkPost, wkDef, wkF, simprocAttr, e0, e4, e9, e10, e11, e12, e13, e14, e15, ge, c6]
                            exact nxt _ (by first | (rw [hsj]; done) | (rw [hsj]; unfold plen; rw [List.length_append]; push_cast; rfl))
                          · simp -implicitDefEqProofs -dsimp (maxSteps := 1000000) (disch := first | omega | (simp only [wkLen]; omega) | decide +kernel) only [↓wkPre, ↓wkPre2, ↓wkE, wkPost, wkDef, wkF, simprocAttr]
                            simp only [e0, e4, e9, e10, e11, e12, e13, hGL, and_self, true_and, and_true] <;> (try (rw [← hGL]; simp))
                      · rw [decide_eq_false c0] at gk
                        have c0' : (code == 0) = false := by simpa using c0
                        rcases k13 with k1 | k1
                        · subst k1
                          simp -implicitDefEqProofs -dsimp (maxSteps := 1000000) (disch := first | omega | (simp only [wkLen]; omega) | decide +kernel) only [↓wkPre, ↓wkPre2, ↓wkE, wkPost, wkDef, wkF, simprocAttr, e0, e4, e9, e10, e11, e12, e13, htl, gi, gj, hLl, hal, hkA, gk, c6, c11, c0, c0']
                          refine loop_use extMono (fun m' e G => m' = 0 ∧ e 0 = .p (.sl 16 (vts l)) ∧ e 4 = .p (I (triesF l)) ∧ e 9 = .p (.sl 4 (txs T)) ∧ e 10 = .p (.sl 3 (acs A)) ∧ e 11 = .p (I ((plen P2 : Int) + 1)) ∧ e 12 = .p (I i) ∧ e 13 = .p (I j) ∧ e 14 = .vptr GL 0 ∧ e 15 = .p (I 0) ∧ G[GL]? = some (.var true (.p (vtP ⟨vw, va, vt, ⟨1, key, ox, oy, val, rc, on⟩, ⟨code, recs, an⟩⟩)))) ?_ 0 _ _ ⟨rfl, ?_⟩
                          · clear e0 e4 e9 e10 e11 e12 e13 hGL e G
                            rintro m' e G ⟨rfl, e0, e4, e9, e10, e11, e12, e13, e14, e15, ge⟩
                            simp -implicitDefEqProofs -dsimp (maxSteps := 1000000) (disch := first | omega | (simp only [wkLen]; omega) | decide +kernel) only [↓wkPre, ↓wkPre2, ↓wkE, wkPost, wkDef, wkF, simprocAttr, e0, e4, e9, e10, e11, e12, e13, e14, e15, ge, c6]
                            exact nxt _ (by first | (rw [hsj]; done) | (rw [hsj]; unfold plen; rw [List.length_append]; push_cast; rfl))
                          · simp -implicitDefEqProofs -dsimp (maxSteps := 1000000) (disch := first | omega | (simp only [wkLen]; omega) | decide +kernel) only [↓wkPre, ↓wkPre2, ↓wkE, wkPost, wkDef, wkF, simprocAttr]
                            simp only [e0, e4, e9, e10, e11, e12, e13, hGL, and_self, true_and, and_true] <;> (try (rw [← hGL]; simp))
                        · subst k1
                          simp -implicitDefEqProofs -dsimp (maxSteps := 1000000) (disch := first | omega | (simp only [wkLen]; omega) | decide +kernel) only [↓wkPre, ↓wkPre2, ↓wkE, wkPost, wkDef, wkF, simprocAttr, e0, e4, e9, e10, e11, e12, e13, htl, gi, gj, hLl, hal, hkA, gk, c6, c11, c0, c0']
                          refine loop_use extMono (fun m' e G => m' = 0 ∧ e 0 = .p (.sl 16 (vts l)) ∧ e 4 = .p (I (triesF l)) ∧ e 9 = .p (.sl 4 (txs T)) ∧ e 10 = .p (.sl 3 (acs A)) ∧ e 11 = .p (I ((plen P2 : Int) + 1)) ∧ e 12 = .p (I i) ∧ e 13 = .p (I j) ∧ e 14 = .vptr GL 0 ∧ e 15 = .p (I 0) ∧ G[GL]? = some (.var true (.p (vtP ⟨vw, va, vt, ⟨3, key, ox, oy, val, rc, on⟩, ⟨code, recs, an⟩⟩)))) ?_ 0 _ _ ⟨rfl, ?_⟩
                          · clear e0 e4 e9 e10 e11 e12 e13 hGL e G
                            rintro m' e G ⟨rfl, e0, e4, e9, e10, e11, e12, e13, e14, e15, ge⟩
                            simp -implicitDefEqProofs -dsimp (maxSteps := 1000000) (disch := first | omega | (simp only [wkLen]; omega) | decide +kernel) only [↓wkPre, ↓wkPre2, ↓wkE, wkPost, wkDef, wkF, simprocAttr, e0, e4, e9, e10, e11, e12, e13, e14, e15, ge, c6]
                            exact nxt _ (by first | (rw [hsj]; done) | (rw [hsj]; unfold plen; rw [List.length_append]; push_cast; rfl))
                          · simp -implicitDefEqProofs -dsimp (maxSteps := 1000000) (disch := first | omega | (simp only [wkLen]; omega) | decide +kernel) only [↓wkPre, ↓wkPre2, ↓wkE, wkPost, wkDef, wkF, simprocAttr]
                            simp only [e0, e4, e9, e10, e11, e12, e13, hGL, and_self, true_and, and_true] <;> (try (rw [← hGL]; simp))
                    rw [if_neg k13] at hA2 hsj hAl
                    have k1 : ¬ ok = 1 := fun h => k13 (.inl h)
                    have k3 : ¬ ok = 3 := fun h => k13 (.inr h)
                    have hnot : ¬ (1 ≤ ok ∧ ok ≤ 3) := by omega
                    by_cases k4 : ok = 4
                    · rw [if_pos k4] at hA2 hsj hAl
                      subst k4
                      have hrl4 := rgs_len recs
                      have hrb : recs.length ≤ 100000000 := by have := hAl; rw [List.length_map] at this; omega
                      simp -implicitDefEqProofs -dsimp (maxSteps := 1000000) (disch := first | omega | (simp only [wkLen]; omega) | decide +kernel) only [↓wkPre, ↓wkPre2, ↓wkE, wkPost, wkDef, wkF, simprocAttr, e0, e4, e9, e10, e11, e12, e13, htl, gi, gj, hLl, c6, c11]
                      refine loop_use extMono (fun m' e G => ∃ q : Nat, m' = recs.length - q ∧ q ≤ recs.length ∧ e 0 = .p (.sl 16 (vts l)) ∧ e 4 = .p (I (triesF l)) ∧ e 9 = .p (.sl 4 (txs T)) ∧ e 10 = .p (.sl 3 (acs A)) ∧ e 11 = .p (I (plen (P2 ++ (recs.take q).map fun r => ⟨i, r.key, false⟩))) ∧ e 12 = .p (I i) ∧ e 13 = .p (I j) ∧ e 14 = .vptr GL 0 ∧ e 15 = .p (I q) ∧ G[GL]? = some (.var true (.p (vtP ⟨vw, va, vt, ⟨4, key, ox, oy, val, rc, on⟩, ⟨code, recs, an⟩⟩)))) ?_ recs.length _ _ ⟨0, rfl, by omega, ?_⟩
                      · clear e0 e4 e9 e10 e11 e12 e13 hGL e G
                        rintro m' e G ⟨q, rfl, hq, e0, e4, e9, e10, e11, e12, e13, e14, e15, ge⟩
                        rcases Nat.lt_or_ge q recs.length with hlq | hgq
                        · have gq := rgs_get hlq
                          have hA3 : A = (P2 ++ (recs.take q).map fun r => (⟨i, r.key, false⟩ : Ac)) ++ (⟨i, recs[q].key, false⟩ : Ac) :: (((recs.drop (q + 1)).map fun r => (⟨i, r.key, false⟩ : Ac)) ++ R2) := by
                            rw [hA2]
                            have h9 : recs.map (fun r => (⟨i, r.key, false⟩ : Ac)) = (recs.take q).map (fun r => (⟨i, r.key, false⟩ : Ac)) ++ ((⟨i, recs[q].key, false⟩ : Ac) :: (recs.drop (q + 1)).map (fun r => (⟨i, r.key, false⟩ : Ac))) := by
                              rw [← List.map_cons (f := fun r : Rg => (⟨i, r.key, false⟩ : Ac)), ← List.map_append, ← List.drop_eq_getElem_cons hlq, List.take_append_drop]
                            rw [h9]
                            simp only [List.append_assoc, List.cons_append]
                          have hsq : P2 ++ (recs.take (q + 1)).map (fun r => (⟨i, r.key, false⟩ : Ac)) = (P2 ++ (recs.take q).map fun r => ⟨i, r.key, false⟩) ++ [⟨i, recs[q].key, false⟩] := by
                            rw [List.take_succ_eq_append_getElem hlq, List.map_append, List.append_assoc]; rfl
                          generalize P2 ++ (recs.take q).map (fun r => (⟨i, r.key, false⟩ : Ac)) = P3 at e11 hA3 hsq
                          have gk := acs_at (k := plen P3) hA3 rfl
                          have hkA : ¬ (A.length : Int) ≤ (plen P3 : Int) := by
                            have := congrArg List.length hA3
                            simp only [List.length_append, List.length_cons] at this
                            simp only [plen]
                            omega
                          simp -implicitDefEqProofs -dsimp (maxSteps := 1000000) (disch := first | omega | (simp only [wkLen]; omega) | decide +kernel) only [↓wkPre, ↓wkPre2, ↓wkE, wkPost, wkDef, wkF, simprocAttr, e0, e4, e9, e10, e11, e12, e13, e14, e15, ge, hrl4, gq, gk, hal, hkA]
                          exact ⟨recs.length - (q + 1), by omega, q + 1, rfl, by omega, by rw [hsq]; unfold plen; rw [List.length_append]; push_cast; rfl, by push_cast; rfl⟩
                        · obtain rfl : q = recs.length := by omega
                          rw [List.take_length, ← hsj] at e11
                          simp -implicitDefEqProofs -dsimp (maxSteps := 1000000) (disch := first | omega | (simp only [wkLen]; omega) | decide +kernel) only [↓wkPre, ↓wkPre2, ↓wkE, wkPost, wkDef, wkF, simprocAttr, e0, e4, e9, e10, e11, e12, e13, e14, e15, ge, hrl4]
                          exact nxt _ rfl
                      · simp -implicitDefEqProofs -dsimp (maxSteps := 1000000) (disch := first | omega | (simp only [wkLen]; omega) | decide +kernel) only [↓wkPre, ↓wkPre2, ↓wkE, wkPost, wkDef, wkF, simprocAttr]
                        simp only [e0, e4, e9, e10, e11, e12, e13, hGL, and_self, true_and, and_true, List.append_nil] <;> (try (rw [← hGL]; simp))
                    · rw [if_neg k4, List.append_nil] at hsj
                      by_cases hge1 : 1 ≤ ok
                      · have hle3 : ¬ ok ≤ 3 := by omega
                        simp -implicitDefEqProofs -dsimp (maxSteps := 1000000) (disch := first | omega | (simp only [wkLen]; omega) | decide +kernel) only [↓wkPre, ↓wkPre2, ↓wkE, wkPost, wkDef, wkF, simprocAttr, e0, e4, e9, e10, e11, e12, e13, htl, gi, gj, hLl, c6, c11, hge1, hle3]
                        refine loop_use extMono (fun m' e G => m' = 0 ∧ e 0 = .p (.sl 16 (vts l)) ∧ e 4 = .p (I (triesF l)) ∧ e 9 = .p (.sl 4 (txs T)) ∧ e 10 = .p (.sl 3 (acs A)) ∧ e 11 = .p (I (plen P2)) ∧ e 12 = .p (I i) ∧ e 13 = .p (I j) ∧ e 14 = .vptr GL 0 ∧ e 15 = .p (I 0) ∧ G[GL]? = some (.var true (.p (vtP ⟨vw, va, vt, ⟨ok, key, ox, oy, val, rc, on⟩, ⟨code, recs, an⟩⟩)))) ?_ 0 _ _ ⟨rfl, ?_⟩
                        · clear e0 e4 e9 e10 e11 e12 e13 hGL e G
                          rintro m' e G ⟨rfl, e0, e4, e9, e10, e11, e12, e13, e14, e15, ge⟩
                          simp -implicitDefEqProofs -dsimp (maxSteps := 1000000) (disch := first | omega | (simp only [wkLen]; omega) | decide +kernel) only [↓wkPre, ↓wkPre2, ↓wkE, wkPost, wkDef, wkF, simprocAttr, e0, e4, e9, e10, e11, e12, e13, e14, e15, ge, c6, k4]
                          exact nxt _ (by first | (rw [hsj]; done) | (rw [hsj]; unfold plen; rw [List.length_append]; push_cast; rfl))
                        · simp -implicitDefEqProofs -dsimp (maxSteps := 1000000) (disch := first | omega | (simp only [wkLen]; omega) | decide +kernel) only [↓wkPre, ↓wkPre2, ↓wkE, wkPost, wkDef, wkF, simprocAttr]
                          simp only [e0, e4, e9, e10, e11, e12, e13, hGL, and_self, true_and, and_true] <;> (try (rw [← hGL]; simp))
                      · simp -implicitDefEqProofs -dsimp (maxSteps := 1000000) (disch := first | omega | (simp only [wkLen]; omega) | decide +kernel) only [↓wkPre, ↓wkPre2, ↓wkE, wkPost, wkDef, wkF, simprocAttr, e0, e4, e9, e10, e11, e12, e13, htl, gi, gj, hLl, c6, c11, hge1]
                        refine loop_use extMono (fun m' e G => m' = 0 ∧ e 0 = .p (.sl 16 (vts l)) ∧ e 4 = .p (I (triesF l)) ∧ e 9 = .p (.sl 4 (txs T)) ∧ e 10 = .p (.sl 3 (acs A)) ∧ e 11 = .p (I (plen P2)) ∧ e 12 = .p (I i) ∧ e 13 = .p (I j) ∧ e 14 = .vptr GL 0 ∧ e 15 = .p (I 0) ∧ G[GL]? = some (.var true (.p (vtP ⟨vw, va, vt, ⟨ok, key, ox, oy, val, rc, on⟩, ⟨code, recs, an⟩⟩)))) ?_ 0 _ _ ⟨rfl, ?_⟩
                        · clear e0 e4 e9 e10 e11 e12 e13 hGL e G
                          rintro m' e G ⟨rfl, e0, e4, e9, e10, e11, e12, e13, e14, e15, ge⟩
                          simp -implicitDefEqProofs -dsimp (maxSteps := 1000000) (disch := first | omega | (simp only [wkLen]; omega) | decide +kernel) only [↓wkPre, ↓wkPre2, ↓wkE, wkPost, wkDef, wkF, simprocAttr, e0, e4, e9, e10, e11, e12, e13, e14, e15, ge, c6, k4]
                          exact nxt _ (by first | (rw [hsj]; done) | (rw [hsj]; unfold plen; rw [List.length_append]; push_cast; rfl))
                        · simp -implicitDefEqProofs -dsimp (maxSteps := 1000000) (disch := first | omega | (simp only [wkLen]; omega) | decide +kernel) only [↓wkPre, ↓wkPre2, ↓wkE, wkPost, wkDef, wkF, simprocAttr]
                          simp only [e0, e4, e9, e10, e11, e12, e13, hGL, and_self, true_and, and_true] <;> (try (rw [← hGL]; simp))
                  · obtain rfl : j = L.length := by omega
                    rw [List.take_length] at e11
                    simp -implicitDefEqProofs -dsimp (maxSteps := 1000000) (disch := first | omega | (simp only [wkLen]; omega) | decide +kernel) only [↓wkPre, ↓wkPre2, ↓wkE, wkPost, wkDef, wkF, simprocAttr, e0, e4, e9, e10, e11, e12, e13, htl, gi, hLl]
                    exact ⟨T.length - (i + 1), by omega, i + 1, rfl, by omega, by rw [hsn], by push_cast; rfl⟩
                · simp -implicitDefEqProofs -dsimp (maxSteps := 1000000) (disch := first | omega | (simp only [wkLen]; omega) | decide +kernel) only [↓wkPre, ↓wkPre2, ↓wkE, wkPost, wkDef, wkF, simprocAttr]
                  exact ⟨e0, e4, e9, e10, by rw [show accT (i : Int) [] = [] from rfl, List.append_nil]; exact e11, e12⟩
              · obtain rfl : i = T.length := by omega
                rw [List.take_length, hAe] at e11
                unfold plen at e11
                simp -implicitDefEqProofs -dsimp (maxSteps := 1000000) (disch := first | omega | (simp only [wkLen]; omega) | decide +kernel) only [↓wkPre, ↓wkPre2, ↓wkE, wkPost, wkDef, wkF, simprocAttr, e0, e4, e9, e10, e11, e12, htl, hal]
                refine PS.app md_22 Try.func22 (q22 l (by omega)) rfl ?_
                rintro _ rfl
                simp -implicitDefEqProofs -dsimp (maxSteps := 1000000) (disch := first | omega | (simp only [wkLen]; omega) | decide +kernel) only [↓wkPre, ↓wkPre2, ↓wkE, wkPost, wkDef, wkF, simprocAttr, e0, e4, e9, e10, e11, e12]
                refine PS.app md_7 Try.func7 q7 rfl ?_
                rintro _ rfl
                simp -implicitDefEqProofs -dsimp (maxSteps := 1000000) (disch := first | omega | (simp only [wkLen]; omega) | decide +kernel) only [↓wkPre, ↓wkPre2, ↓wkE, wkPost, wkDef, wkF, simprocAttr]
            · simp -implicitDefEqProofs -dsimp (maxSteps := 1000000) (disch := first | omega | (simp only [wkLen]; omega) | decide +kernel) only [↓wkPre, ↓wkPre2, ↓wkE, wkPost, wkDef, wkF, simprocAttr]
              exact ⟨e0, e4, rfl⟩
        · simp -implicitDefEqProofs -dsimp (maxSteps := 1000000) (disch := first | omega | (simp only [wkLen]; omega) | decide +kernel) only [↓wkPre, ↓wkPre2, ↓wkE, wkPost, wkDef, wkF, simprocAttr]
          first | exact e0 | exact e4 | exact ⟨e0, e4⟩
    · simp -implicitDefEqProofs -dsimp (maxSteps := 1000000) (disch := first | omega | (simp only [wkLen]; omega) | decide +kernel) only [↓wkPre, ↓wkPre2, ↓wkE, wkPost, wkDef, wkF, simprocAttr]
      exact ⟨e0, e3, gb⟩
theorem rg_list : ∀ {xs : List PV}, (∀ y ∈ xs, y.shape = 6 ∧ Tyds [.int .u64, .int .u64, .int .u32, .int .u32, .str, .bool] y.cells) → ∃ l : List Rg, xs = rgs l
  | [], _ => ⟨[], rfl⟩
  | y :: ys, h => by
    obtain ⟨l, rfl⟩ := rg_list (xs := ys) fun z hz => h z (by simp [hz])
    obtain ⟨h0, h1⟩ := h y (by simp)
    simp only [Tyds, Tyd] at h1
    obtain ⟨_, r1, hc, ⟨id, rfl, _⟩, _, r2, rfl, ⟨key, rfl, _⟩, _, r3, rfl, ⟨x, rfl, _⟩, _, r4, rfl, ⟨yy, rfl, _⟩, _, r5, rfl, ⟨v, rfl, _⟩, _, r6, rfl, ⟨g, rfl⟩, rfl⟩ := h1
    refine ⟨⟨id, key, x, yy, v, g⟩ :: l, ?_⟩
    cases y with
    | agg xs => simp only [PV.cells] at hc; subst hc; rfl
    | _ => simp [PV.shape] at h0
abbrev vtT : List Ty := [.int .i64, .int .i64, .int .i64, .int .i64, .int .u64, .int .u32, .int .u32, .str, .int .u32, .int .u32, .int .u32, .int .u32, .int .i64, .int .i64, .sl 6 [.int .u64, .int .u64, .int .u32, .int .u32, .str, .bool], .int .i64]
theorem vt_list : ∀ {xs : List PV}, (∀ y ∈ xs, y.shape = 16 ∧ Tyds vtT y.cells) → ∃ l : List Vt, (∀ v ∈ l, inI v.o.n) ∧ xs = vts l
  | [], _ => ⟨[], fun v h => (by cases h), rfl⟩
  | y :: ys, h => by
    obtain ⟨l, hl, rfl⟩ := vt_list (xs := ys) fun z hz => h z (by simp [hz])
    obtain ⟨h0, h1⟩ := h y (by simp)
    simp only [vtT, Tyds, Tyd] at h1
    obtain ⟨_, r1, hc, ⟨who, rfl, _⟩, _, r2, rfl, ⟨at', rfl, _⟩, _, r3, rfl, ⟨tr, rfl, _⟩, _, r4, rfl, ⟨k, rfl, _⟩, _, r5, rfl, ⟨key, rfl, _⟩, _, r6, rfl, ⟨x, rfl, _⟩, _, r7, rfl, ⟨yy, rfl, _⟩, _, r8, rfl, ⟨v, rfl, _⟩,
      _, r9, rfl, ⟨x0, rfl, _⟩, _, r10, rfl, ⟨y0, rfl, _⟩, _, r11, rfl, ⟨x1, rfl, _⟩, _, r12, rfl, ⟨y1, rfl, _⟩, _, r13, rfl, ⟨n, rfl, hn⟩, _, r14, rfl, ⟨code, rfl, _⟩, _, r15, rfl, ⟨rs, rfl, _, hrs⟩, _, r16, rfl, ⟨an, rfl, _⟩, rfl⟩ := h1
    obtain ⟨recs, rfl⟩ := rg_list (fun z hz => by simpa [Tyds, Tyd] using hrs z hz)
    refine ⟨⟨who, at', tr, ⟨k, key, x, yy, v, ⟨x0, y0, x1, y1⟩, n⟩, ⟨code, recs, an⟩⟩ :: l, ?_, ?_⟩
    · intro w hw
      rcases List.mem_cons.1 hw with rfl | hw
      · exact hn
      · exact hl w hw
    · cases y with
      | agg xs => simp only [PV.cells] at hc; subst hc; rfl
      | _ => simp [PV.shape] at h0
theorem vt_args {xs : List PV} (h : Tyas [(0, [Ty.sl 16 vtT])] xs) : ∃ l : List Vt, (∀ v ∈ l, inI v.o.n) ∧ xs = [.sl 16 (vts l)] := by
  simp only [Tyas] at h
  obtain ⟨x1, r1, rfl, h1, rfl⟩ := h
  have h1 := Tya_one h1
  rw [Tyd] at h1
  obtain ⟨ys, rfl, _, h6⟩ := h1
  obtain ⟨l, hl, rfl⟩ := vt_list h6
  exact ⟨l, hl, rfl⟩
theorem lawTraceCounts : ∀ xs, Tyas [(0, [Ty.sl 16 vtT])] xs → (W Cf okf).call 5 (xs.map AV.p) [] fun v _ => v = .p (.bool true) := by
  intro xs h
  obtain ⟨l, _, rfl⟩ := vt_args h
  exact law5 l
end Go.Ev.F35
end
