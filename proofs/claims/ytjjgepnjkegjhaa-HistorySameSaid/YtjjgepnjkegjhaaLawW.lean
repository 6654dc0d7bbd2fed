/- A part of the proof: walks of the functions that the law calls. No condition. -/
import Derived.Test.YtjjgepnjkegjhaaWalkD
set_option linter.all false
section
namespace Go.Ev.F23
open Go.Proofs Go.Ev Go.Sort
set_option maxRecDepth 100000
set_option linter.all false
theorem frmL_len (l : List Acc) (n : Nat) : (frmL l n).length = n := by simp [frmL]
theorem frmL_get {l : List Acc} {n i : Nat} (h : i < n) : (frmL l n)[i]? = some (.agg [.int .i64 (frm l i).1, .int .i64 (frm l i).2]) := by simp [frmL, h]
theorem law6 (l : List Acc) : (Ev.W Cf okf).call 6 [.p (acs l)] [] fun v _ => v = .p (.bool true) := by
  refine top_mk extMono Try.func6 body6 (by decide) rfl ?_
  simp only [c6, Try.f6, Option.getD_some]
  have hul := aL_len l
  rcases Nat.lt_or_ge 40 l.length with hbig | hl
  · simp -implicitDefEqProofs -dsimp (disch := first | omega | (simp only [wkLen]; omega) | decide +kernel) only [↓wkPre, ↓wkPre2, ↓wkE, wkPost, wkDef, wkF, simprocAttr, hul]
    refine PS.app md_7 Try.func7 p7 rfl ?_
    rintro _ rfl
    simp -implicitDefEqProofs -dsimp (disch := first | omega | (simp only [wkLen]; omega) | decide +kernel) only [↓wkPre, ↓wkPre2, ↓wkE, wkPost, wkDef, wkF, simprocAttr]
  have hfl := frmL_len l l.length
  simp -implicitDefEqProofs -dsimp (disch := first | omega | (simp only [wkLen]; omega) | decide +kernel) only [↓wkPre, ↓wkPre2, ↓wkE, wkPost, wkDef, wkF, simprocAttr, hul]
  refine PS.app md_8 Try.func8 (p8 l (by omega)) rfl ?_
  rintro _ rfl
  simp -implicitDefEqProofs -dsimp (disch := first | omega | (simp only [wkLen]; omega) | decide +kernel) only [↓wkPre, ↓wkPre2, ↓wkE, wkPost, wkDef, wkF, simprocAttr, hul]
  refine PS.app md_17 Try.func17 (p17 l (by omega)) rfl ?_
  rintro _ rfl
  simp -implicitDefEqProofs -dsimp (disch := first | omega | (simp only [wkLen]; omega) | decide +kernel) only [↓wkPre, ↓wkPre2, ↓wkE, wkPost, wkDef, wkF, simprocAttr, hul, hfl]
  refine loop_use extMono (fun m e Hc => ∃ (i : Nat) (b : Bool), m = l.length - i ∧ i ≤ l.length ∧ e 0 = .p (acs l) ∧ e 3 = .p (acs l) ∧ e 4 = .p (.sl 2 (frmL l l.length)) ∧ e 5 = .p (B b) ∧ e 6 = .p (I i) ∧ (b = true ↔ ∀ i', i' < i → SS l i')) ?_ l.length _ _ ⟨0, true, rfl, by omega, ?_⟩
  · rintro m e Hc ⟨i, b, rfl, hi, e0, e3, e4, e5, e6, hb⟩
    rcases Nat.lt_or_ge i l.length with h | h
    · have gi := aL_get h
      have hgi : l[i]! = l[i] := getElem!_pos l i h
      have gf := frmL_get (l := l) h
      simp -implicitDefEqProofs -dsimp (disch := first | omega | (simp only [wkLen]; omega) | decide +kernel) only [↓wkPre, ↓wkPre2, ↓wkE, wkPost, wkDef, wkF, simprocAttr, e0, e3, e4, e5, e6, hul]
      refine PS.app md_19 Try.func19 (p19 l i h (by omega)) rfl ?_
      rintro _ rfl
      rcases frm_src l i h with ⟨hs, hf⟩ | ⟨k, hk, hs, hf⟩
      · rw [hf] at gf
        have hs' : decide (0 ≤ srcA l l[i].2.1 i) = false := by simp; omega
        simp -implicitDefEqProofs -dsimp (disch := first | omega | (simp only [wkLen]; omega) | decide +kernel) only [↓wkPre, ↓wkPre2, ↓wkE, wkPost, wkDef, wkF, simprocAttr, e0, e3, e4, e5, e6, hul, hfl, gf, hs']
        refine loop_use extMono (fun m e Hc => ∃ (j : Nat) (b : Bool), m = i - j ∧ j ≤ i ∧ e 0 = .p (acs l) ∧ e 3 = .p (acs l) ∧ e 4 = .p (.sl 2 (frmL l l.length)) ∧ e 5 = .p (B b) ∧ e 6 = .p (I i) ∧ e 9 = .p (I j) ∧ (b = true ↔ (∀ i', i' < i → SS l i') ∧ ∀ j', j' < j → SJ l i j')) ?_ i _ _ ⟨0, b, rfl, by omega, ?_⟩
        · rintro m e Hc ⟨j, b, rfl, hj, e0, e3, e4, e5, e6, e9, hb⟩
          rcases Nat.lt_or_ge j i with h2 | h2
          · have hjl : j < l.length := by omega
            have gj := aL_get hjl
            have hgj : l[j]! = l[j] := getElem!_pos l j hjl
            have skip : SJ l i j → (b = true ↔ (∀ i', i' < i → SS l i') ∧ ∀ j', j' < j + 1 → SJ l i j') := fun hs => by
              rw [hb]
              refine and_congr Iff.rfl ⟨fun h9 j' hj' => ?_, fun h9 j' hj' => h9 j' (by omega)⟩
              rcases Nat.lt_or_ge j' j with h8 | h8
              · exact h9 j' h8
              · obtain rfl : j' = j := by omega
                exact hs
            cases c1 : l[j].2.2
            · simp -implicitDefEqProofs -dsimp (disch := first | omega | (simp only [wkLen]; omega) | decide +kernel) only [↓wkPre, ↓wkPre2, ↓wkE, wkPost, wkDef, wkF, simprocAttr, e0, e3, e4, e5, e6, e9, hul, gi, gj, c1]
              exact ⟨i - (j + 1), by omega, j + 1, b, rfl, by omega, rfl, by push_cast; rfl, skip (fun hw => by rw [hgj, c1] at hw; cases hw)⟩
            cases c2 : (l[j].2.1 == l[i].2.1)
            · simp -implicitDefEqProofs -dsimp (disch := first | omega | (simp only [wkLen]; omega) | decide +kernel) only [↓wkPre, ↓wkPre2, ↓wkE, wkPost, wkDef, wkF, simprocAttr, e0, e3, e4, e5, e6, e9, hul, gi, gj, c1, c2]
              exact ⟨i - (j + 1), by omega, j + 1, b, rfl, by omega, rfl, by push_cast; rfl, skip (fun _ hk => by rw [hgj, hgi] at hk; simp [hk] at c2)⟩
            cases c3 : (l[j].1 == l[i].1)
            · simp -implicitDefEqProofs -dsimp (disch := first | omega | (simp only [wkLen]; omega) | decide +kernel) only [↓wkPre, ↓wkPre2, ↓wkE, wkPost, wkDef, wkF, simprocAttr, e0, e3, e4, e5, e6, e9, hul, gi, gj, c1, c2, c3]
              refine loop_use extMono (fun m e Hc => ∃ (q : Nat) (b : Bool), m = l.length - q ∧ i < q ∧ q ≤ l.length ∧ e 0 = .p (acs l) ∧ e 3 = .p (acs l) ∧ e 4 = .p (.sl 2 (frmL l l.length)) ∧ e 5 = .p (B b) ∧ e 6 = .p (I i) ∧ e 9 = .p (I j) ∧ e 10 = .p (I q) ∧ (b = true ↔ ((∀ i', i' < i → SS l i') ∧ ∀ j', j' < j → SJ l i j') ∧ ∀ q', i < q' → q' < q → l[q']!.1 ≠ l[j]!.1)) ?_ (l.length - (i + 1)) _ _ ⟨i + 1, b, rfl, by omega, by omega, ?_⟩
              · rintro m e Hc ⟨q, b, rfl, hiq, hq, e0, e3, e4, e5, e6, e9, e10, hb⟩
                rcases Nat.lt_or_ge q l.length with h3 | h3
                · have gq := aL_get h3
                  have hgq : l[q]! = l[q] := getElem!_pos l q h3
                  have nxt : ∀ b' : Bool, (b' = true ↔ b = true ∧ l[q].1 ≠ l[j].1) → (b' = true ↔ ((∀ i', i' < i → SS l i') ∧ ∀ j', j' < j → SJ l i j') ∧ ∀ q', i < q' → q' < q + 1 → l[q']!.1 ≠ l[j]!.1) := fun b' h9 => by
                    rw [h9, hb, and_assoc]
                    refine and_congr Iff.rfl ⟨fun ⟨h7, h8⟩ q' h5 h6 => ?_, fun h7 => ⟨fun q' h5 h6 => h7 q' h5 (by omega), ?_⟩⟩
                    · rcases Nat.lt_or_ge q' q with h4 | h4
                      · exact h7 q' h5 h4
                      · obtain rfl : q' = q := by omega
                        rw [hgq, hgj]; exact h8
                    · have := h7 q hiq (by omega)
                      rwa [hgq, hgj] at this
                  cases b
                  · simp -implicitDefEqProofs -dsimp (disch := first | omega | (simp only [wkLen]; omega) | decide +kernel) only [↓wkPre, ↓wkPre2, ↓wkE, wkPost, wkDef, wkF, simprocAttr, e0, e3, e4, e5, e6, e9, e10, hul, gj, gq]
                    exact ⟨l.length - (q + 1), by omega, q + 1, false, rfl, by omega, by omega, rfl, by push_cast; rfl, nxt false (by simp)⟩
                  · cases c4 : (l[q].1 == l[j].1)
                    · simp -implicitDefEqProofs -dsimp (disch := first | omega | (simp only [wkLen]; omega) | decide +kernel) only [↓wkPre, ↓wkPre2, ↓wkE, wkPost, wkDef, wkF, simprocAttr, e0, e3, e4, e5, e6, e9, e10, hul, gj, gq, c4]
                      exact ⟨l.length - (q + 1), by omega, q + 1, true, rfl, by omega, by omega, by simp [bne, c4], by push_cast; rfl, nxt true (by simp at c4; simp [c4])⟩
                    · simp -implicitDefEqProofs -dsimp (disch := first | omega | (simp only [wkLen]; omega) | decide +kernel) only [↓wkPre, ↓wkPre2, ↓wkE, wkPost, wkDef, wkF, simprocAttr, e0, e3, e4, e5, e6, e9, e10, hul, gj, gq, c4]
                      exact ⟨l.length - (q + 1), by omega, q + 1, false, rfl, by omega, by omega, by simp [bne, c4], by push_cast; rfl, nxt false (by simp at c4; simp [c4])⟩
                · obtain rfl : q = l.length := by omega
                  simp -implicitDefEqProofs -dsimp (disch := first | omega | (simp only [wkLen]; omega) | decide +kernel) only [↓wkPre, ↓wkPre2, ↓wkE, wkPost, wkDef, wkF, simprocAttr, e0, e3, e4, e5, e6, e9, e10, hul]
                  refine ⟨i - (j + 1), by omega, j + 1, b, rfl, by omega, rfl, by push_cast; rfl, ?_⟩
                  rw [hb, and_assoc]
                  refine and_congr Iff.rfl ⟨fun ⟨h7, h8⟩ j' hj' => ?_, fun h7 => ⟨fun j' hj' => h7 j' (by omega), ?_⟩⟩
                  · rcases Nat.lt_or_ge j' j with h4 | h4
                    · exact h7 j' h4
                    · obtain rfl : j' = j := by omega
                      exact fun _ _ _ => h8
                  · exact h7 j (by omega) (by rw [hgj]; exact c1) (by rw [hgj, hgi]; exact beq_iff_eq.1 c2) (by rw [hgj, hgi]; simpa using c3)
              · simp -implicitDefEqProofs -dsimp (disch := first | omega | (simp only [wkLen]; omega) | decide +kernel) only [↓wkPre, ↓wkPre2, ↓wkE, wkPost, wkDef, wkF, simprocAttr]
                exact ⟨e0, e3, e4, e5, e6, e9, by push_cast; rfl, by rw [hb]; exact ⟨fun h9 => ⟨h9, fun q' h5 h6 => absurd h6 (by omega)⟩, fun h9 => h9.1⟩⟩
            · simp -implicitDefEqProofs -dsimp (disch := first | omega | (simp only [wkLen]; omega) | decide +kernel) only [↓wkPre, ↓wkPre2, ↓wkE, wkPost, wkDef, wkF, simprocAttr, e0, e3, e4, e5, e6, e9, hul, gi, gj, c1, c2, c3]
              exact ⟨i - (j + 1), by omega, j + 1, b, rfl, by omega, rfl, by push_cast; rfl, skip (fun _ _ hn => by rw [hgj, hgi] at hn; simp at c3; exact absurd c3 hn)⟩
          · obtain rfl : j = i := by omega
            simp -implicitDefEqProofs -dsimp (disch := first | omega | (simp only [wkLen]; omega) | decide +kernel) only [↓wkPre, ↓wkPre2, ↓wkE, wkPost, wkDef, wkF, simprocAttr, e0, e3, e4, e5, e6, e9]
            refine ⟨l.length - (j + 1), by omega, j + 1, b, rfl, by omega, rfl, by push_cast; rfl, ?_⟩
            rw [hb]
            refine ⟨fun ⟨h7, h8⟩ i' hi' => ?_, fun h7 => ⟨fun i' hi' => h7 i' (by omega), fun j' hj' => h7 j (by omega) j' hj'⟩⟩
            rcases Nat.lt_or_ge i' j with h4 | h4
            · exact h7 i' h4
            · obtain rfl : i' = j := by omega
              exact h8
        · simp -implicitDefEqProofs -dsimp (disch := first | omega | (simp only [wkLen]; omega) | decide +kernel) only [↓wkPre, ↓wkPre2, ↓wkE, wkPost, wkDef, wkF, simprocAttr]
          exact ⟨e0, e3, e4, e5, e6, by rw [hb]; exact ⟨fun h9 => ⟨h9, fun j' h5 => absurd h5 (by omega)⟩, fun h9 => h9.1⟩⟩
      · rw [hf] at gf
        have hkl : k < l.length := by omega
        have gk := aL_get hkl
        rw [hs]
        simp -implicitDefEqProofs -dsimp (disch := first | omega | (simp only [wkLen]; omega) | decide +kernel) only [↓wkPre, ↓wkPre2, ↓evC_region_st [14], ↓evC_text_st [14], ↓evC_cond, ↓evC_block, ↓evC_stop [14], wkPost, wkDef, wkF, simprocAttr, e0, e3, e4, e5, e6, hul, hfl, gf, gk]
        refine stop_pl pl_6_14 (by kernel_rfl) (by decide +kernel) ?_
        simp only [pl_6_14]
        simp -implicitDefEqProofs -dsimp (disch := first | omega | (simp only [wkLen]; omega) | decide +kernel) only [↓wkPre, ↓wkPre2, ↓wkE, wkPost, wkDef, wkF, simprocAttr, e0, e3, e4, e5, e6, hul, hfl, gf, gk]
        refine PS.app md_20 Try.func20 (p20 l k hkl (by omega)) rfl ?_
        rintro _ rfl
        have gw : (Hc ++ [Blk.var true (.p (.agg [.int .i64 l[k].1, .int .i64 (nthA l l[k] (k + 1) : Nat)]))])[Hc.length]? = some (.var true (.p (.agg [.int .i64 l[k].1, .int .i64 (nthA l l[k] (k + 1) : Nat)]))) := by simp
        simp -implicitDefEqProofs -dsimp (disch := first | omega | (simp only [wkLen]; omega) | decide +kernel) only [↓wkPre, ↓wkPre2, ↓wkE, wkPost, wkDef, wkF, simprocAttr, e0, e3, e4, e5, e6, hul, hfl, gf, gk, gw]
        refine loop_use extMono (fun m e Hc => ∃ (j : Nat) (b : Bool), m = i - j ∧ j ≤ i ∧ e 0 = .p (acs l) ∧ e 3 = .p (acs l) ∧ e 4 = .p (.sl 2 (frmL l l.length)) ∧ e 5 = .p (B b) ∧ e 6 = .p (I i) ∧ e 9 = .p (I j) ∧ (b = true ↔ (∀ i', i' < i → SS l i') ∧ ∀ j', j' < j → SJ l i j')) ?_ i _ _ ⟨0, b, rfl, by omega, ?_⟩
        · rintro m e Hc ⟨j, b, rfl, hj, e0, e3, e4, e5, e6, e9, hb⟩
          rcases Nat.lt_or_ge j i with h2 | h2
          · have hjl : j < l.length := by omega
            have gj := aL_get hjl
            have hgj : l[j]! = l[j] := getElem!_pos l j hjl
            have skip : SJ l i j → (b = true ↔ (∀ i', i' < i → SS l i') ∧ ∀ j', j' < j + 1 → SJ l i j') := fun hs => by
              rw [hb]
              refine and_congr Iff.rfl ⟨fun h9 j' hj' => ?_, fun h9 j' hj' => h9 j' (by omega)⟩
              rcases Nat.lt_or_ge j' j with h8 | h8
              · exact h9 j' h8
              · obtain rfl : j' = j := by omega
                exact hs
            cases c1 : l[j].2.2
            · simp -implicitDefEqProofs -dsimp (disch := first | omega | (simp only [wkLen]; omega) | decide +kernel) only [↓wkPre, ↓wkPre2, ↓wkE, wkPost, wkDef, wkF, simprocAttr, e0, e3, e4, e5, e6, e9, hul, gi, gj, c1]
              exact ⟨i - (j + 1), by omega, j + 1, b, rfl, by omega, rfl, by push_cast; rfl, skip (fun hw => by rw [hgj, c1] at hw; cases hw)⟩
            cases c2 : (l[j].2.1 == l[i].2.1)
            · simp -implicitDefEqProofs -dsimp (disch := first | omega | (simp only [wkLen]; omega) | decide +kernel) only [↓wkPre, ↓wkPre2, ↓wkE, wkPost, wkDef, wkF, simprocAttr, e0, e3, e4, e5, e6, e9, hul, gi, gj, c1, c2]
              exact ⟨i - (j + 1), by omega, j + 1, b, rfl, by omega, rfl, by push_cast; rfl, skip (fun _ hk => by rw [hgj, hgi] at hk; simp [hk] at c2)⟩
            cases c3 : (l[j].1 == l[i].1)
            · simp -implicitDefEqProofs -dsimp (disch := first | omega | (simp only [wkLen]; omega) | decide +kernel) only [↓wkPre, ↓wkPre2, ↓wkE, wkPost, wkDef, wkF, simprocAttr, e0, e3, e4, e5, e6, e9, hul, gi, gj, c1, c2, c3]
              refine loop_use extMono (fun m e Hc => ∃ (q : Nat) (b : Bool), m = l.length - q ∧ i < q ∧ q ≤ l.length ∧ e 0 = .p (acs l) ∧ e 3 = .p (acs l) ∧ e 4 = .p (.sl 2 (frmL l l.length)) ∧ e 5 = .p (B b) ∧ e 6 = .p (I i) ∧ e 9 = .p (I j) ∧ e 10 = .p (I q) ∧ (b = true ↔ ((∀ i', i' < i → SS l i') ∧ ∀ j', j' < j → SJ l i j') ∧ ∀ q', i < q' → q' < q → l[q']!.1 ≠ l[j]!.1)) ?_ (l.length - (i + 1)) _ _ ⟨i + 1, b, rfl, by omega, by omega, ?_⟩
              · rintro m e Hc ⟨q, b, rfl, hiq, hq, e0, e3, e4, e5, e6, e9, e10, hb⟩
                rcases Nat.lt_or_ge q l.length with h3 | h3
                · have gq := aL_get h3
                  have hgq : l[q]! = l[q] := getElem!_pos l q h3
                  have nxt : ∀ b' : Bool, (b' = true ↔ b = true ∧ l[q].1 ≠ l[j].1) → (b' = true ↔ ((∀ i', i' < i → SS l i') ∧ ∀ j', j' < j → SJ l i j') ∧ ∀ q', i < q' → q' < q + 1 → l[q']!.1 ≠ l[j]!.1) := fun b' h9 => by
                    rw [h9, hb, and_assoc]
                    refine and_congr Iff.rfl ⟨fun ⟨h7, h8⟩ q' h5 h6 => ?_, fun h7 => ⟨fun q' h5 h6 => h7 q' h5 (by omega), ?_⟩⟩
                    · rcases Nat.lt_or_ge q' q with h4 | h4
                      · exact h7 q' h5 h4
                      · obtain rfl : q' = q := by omega
                        rw [hgq, hgj]; exact h8
                    · have := h7 q hiq (by omega)
                      rwa [hgq, hgj] at this
                  cases b
                  · simp -implicitDefEqProofs -dsimp (disch := first | omega | (simp only [wkLen]; omega) | decide +kernel) only [↓wkPre, ↓wkPre2, ↓wkE, wkPost, wkDef, wkF, simprocAttr, e0, e3, e4, e5, e6, e9, e10, hul, gj, gq]
                    exact ⟨l.length - (q + 1), by omega, q + 1, false, rfl, by omega, by omega, rfl, by push_cast; rfl, nxt false (by simp)⟩
                  · cases c4 : (l[q].1 == l[j].1)
                    · simp -implicitDefEqProofs -dsimp (disch := first | omega | (simp only [wkLen]; omega) | decide +kernel) only [↓wkPre, ↓wkPre2, ↓wkE, wkPost, wkDef, wkF, simprocAttr, e0, e3, e4, e5, e6, e9, e10, hul, gj, gq, c4]
                      exact ⟨l.length - (q + 1), by omega, q + 1, true, rfl, by omega, by omega, by simp [bne, c4], by push_cast; rfl, nxt true (by simp at c4; simp [c4])⟩
                    · simp -implicitDefEqProofs -dsimp (disch := first | omega | (simp only [wkLen]; omega) | decide +kernel) only [↓wkPre, ↓wkPre2, ↓wkE, wkPost, wkDef, wkF, simprocAttr, e0, e3, e4, e5, e6, e9, e10, hul, gj, gq, c4]
                      exact ⟨l.length - (q + 1), by omega, q + 1, false, rfl, by omega, by omega, by simp [bne, c4], by push_cast; rfl, nxt false (by simp at c4; simp [c4])⟩
                · obtain rfl : q = l.length := by omega
                  simp -implicitDefEqProofs -dsimp (disch := first | omega | (simp only [wkLen]; omega) | decide +kernel) only [↓wkPre, ↓wkPre2, ↓wkE, wkPost, wkDef, wkF, simprocAttr, e0, e3, e4, e5, e6, e9, e10, hul]
                  refine ⟨i - (j + 1), by omega, j + 1, b, rfl, by omega, rfl, by push_cast; rfl, ?_⟩
                  rw [hb, and_assoc]
                  refine and_congr Iff.rfl ⟨fun ⟨h7, h8⟩ j' hj' => ?_, fun h7 => ⟨fun j' hj' => h7 j' (by omega), ?_⟩⟩
                  · rcases Nat.lt_or_ge j' j with h4 | h4
                    · exact h7 j' h4
                    · obtain rfl : j' = j := by omega
                      exact fun _ _ _ => h8
                  · exact h7 j (by omega) (by rw [hgj]; exact c1) (by rw [hgj, hgi]; exact beq_iff_eq.1 c2) (by rw [hgj, hgi]; simpa using c3)
              · simp -implicitDefEqProofs -dsimp (disch := first | omega | (simp only [wkLen]; omega) | decide +kernel) only [↓wkPre, ↓wkPre2, ↓wkE, wkPost, wkDef, wkF, simprocAttr]
                exact ⟨e0, e3, e4, e5, e6, e9, by push_cast; rfl, by rw [hb]; exact ⟨fun h9 => ⟨h9, fun q' h5 h6 => absurd h6 (by omega)⟩, fun h9 => h9.1⟩⟩
            · simp -implicitDefEqProofs -dsimp (disch := first | omega | (simp only [wkLen]; omega) | decide +kernel) only [↓wkPre, ↓wkPre2, ↓wkE, wkPost, wkDef, wkF, simprocAttr, e0, e3, e4, e5, e6, e9, hul, gi, gj, c1, c2, c3]
              exact ⟨i - (j + 1), by omega, j + 1, b, rfl, by omega, rfl, by push_cast; rfl, skip (fun _ _ hn => by rw [hgj, hgi] at hn; simp at c3; exact absurd c3 hn)⟩
          · obtain rfl : j = i := by omega
            simp -implicitDefEqProofs -dsimp (disch := first | omega | (simp only [wkLen]; omega) | decide +kernel) only [↓wkPre, ↓wkPre2, ↓wkE, wkPost, wkDef, wkF, simprocAttr, e0, e3, e4, e5, e6, e9]
            refine ⟨l.length - (j + 1), by omega, j + 1, b, rfl, by omega, rfl, by push_cast; rfl, ?_⟩
            rw [hb]
            refine ⟨fun ⟨h7, h8⟩ i' hi' => ?_, fun h7 => ⟨fun i' hi' => h7 i' (by omega), fun j' hj' => h7 j (by omega) j' hj'⟩⟩
            rcases Nat.lt_or_ge i' j with h4 | h4
            · exact h7 i' h4
            · obtain rfl : i' = j := by omega
              exact h8
        · simp -implicitDefEqProofs -dsimp (disch := first | omega | (simp only [wkLen]; omega) | decide +kernel) only [↓wkPre, ↓wkPre2, ↓wkE, wkPost, wkDef, wkF, simprocAttr]
          exact ⟨e0, e3, e4, e5, e6, by rw [hb]; exact ⟨fun h9 => ⟨h9, fun j' h5 => absurd h5 (by omega)⟩, fun h9 => h9.1⟩⟩
    · obtain rfl : i = l.length := by omega
      have hst : b = stB l := by rw [Bool.eq_iff_iff, hb, stB_iff]
      simp -implicitDefEqProofs -dsimp (disch := first | omega | (simp only [wkLen]; omega) | decide +kernel) only [↓wkPre, ↓wkPre2, ↓wkE, wkPost, wkDef, wkF, simprocAttr, e0, e3, e4, e5, e6, hul]
      refine PS.app md_18 Try.func18 (p18 l (by omega)) rfl ?_
      rintro _ ⟨ys, rfl, hp, hso⟩
      obtain ⟨hy1, hy2⟩ := last_rise hp hso
      have hyl := aL_len ys
      simp -implicitDefEqProofs -dsimp (disch := first | omega | (simp only [wkLen]; omega) | decide +kernel) only [↓wkPre, ↓wkPre2, ↓wkE, wkPost, wkDef, wkF, simprocAttr, e0, e3, e4, e5, e6, hul]
      have hlen : ys.length ≤ 1000000 := by have := hp.length_eq; have := lstR_len l l.length []; simp at this; omega
      refine loop_use extMono (fun m e Hc => ∃ i : Nat, m = ys.length - i ∧ i ≤ ys.length ∧ e 3 = .p (acs l) ∧ e 5 = .p (B b) ∧ e 11 = .p (acs ys) ∧ e 12 = .p (I i)) ?_ ys.length _ _ ⟨0, rfl, by omega, ?_⟩
      · rintro m e Hc ⟨i, rfl, hi, e3, e5, e11, e12⟩
        rcases Nat.lt_or_ge i ys.length with h | h
        · have gi := aL_get h
          have hw : ys[i].2.2 = true := by have := hy1 i h; rwa [getElem!_pos ys i h] at this
          rcases Nat.eq_zero_or_pos i with h0 | h0
          · subst h0
            simp -implicitDefEqProofs -dsimp (disch := first | omega | (simp only [wkLen]; omega) | decide +kernel) only [↓wkPre, ↓wkPre2, ↓wkE, wkPost, wkDef, wkF, simprocAttr, e3, e5, e11, e12, hyl, gi, hw]
            exact ⟨ys.length - 1, by omega, 1, rfl, by omega, rfl⟩
          · have g1 := aL_get (l := ys) (i := i - 1) (by omega)
            have hii : (i : Int) - 1 = ((i - 1 : Nat) : Int) := by omega
            have hlt := hy2 (i - 1) i (by omega) h
            rw [getElem!_pos ys i h, getElem!_pos ys (i - 1) (by omega)] at hlt
            have hge : decide (ys[i].2.1 ≤ ys[i - 1].2.1) = false := by simp; omega
            have hi0 : decide (0 < (i : Int)) = true := by simp; omega
            simp -implicitDefEqProofs -dsimp (disch := first | omega | (simp only [wkLen]; omega) | decide +kernel) only [↓wkPre, ↓wkPre2, ↓wkE, wkPost, wkDef, wkF, simprocAttr, e3, e5, e11, e12, hyl, gi, g1, hw, hii, hge, hi0]
            exact ⟨ys.length - (i + 1), by omega, i + 1, rfl, by omega, by push_cast; rfl⟩
        · obtain rfl : i = ys.length := by omega
          simp -implicitDefEqProofs -dsimp (disch := first | omega | (simp only [wkLen]; omega) | decide +kernel) only [↓wkPre, ↓wkPre2, ↓wkE, wkPost, wkDef, wkF, simprocAttr, e3, e5, e11, e12, hyl]
          refine PS.app md_21 Try.func21 (p21 l (by omega)) rfl ?_
          rintro _ rfl
          subst hst
          simp -implicitDefEqProofs -dsimp (disch := first | omega | (simp only [wkLen]; omega) | decide +kernel) only [↓wkPre, ↓wkPre2, ↓wkE, wkPost, wkDef, wkF, simprocAttr, e3, e5, e11, e12]
          refine PS.app md_7 Try.func7 p7 rfl ?_
          rintro _ rfl
          simp -implicitDefEqProofs -dsimp (disch := first | omega | (simp only [wkLen]; omega) | decide +kernel) only [↓wkPre, ↓wkPre2, ↓wkE, wkPost, wkDef, wkF, simprocAttr]
      · simp -implicitDefEqProofs -dsimp (disch := first | omega | (simp only [wkLen]; omega) | decide +kernel) only [↓wkPre, ↓wkPre2, ↓wkE, wkPost, wkDef, wkF, simprocAttr]
        exact ⟨e3, e5⟩
  · simp -implicitDefEqProofs -dsimp (disch := first | omega | (simp only [wkLen]; omega) | decide +kernel) only [↓wkPre, ↓wkPre2, ↓wkE, wkPost, wkDef, wkF, simprocAttr, hul]
    exact ⟨fun _ i' h => absurd h (by omega), fun _ => trivial⟩
theorem accs_list : ∀ {xs : List PV}, (∀ y ∈ xs, y.shape = 3 ∧ Tyds [.int .i64, .int .u64, .bool] y.cells) → ∃ L : List Acc, xs = aL L
  | [], _ => ⟨[], rfl⟩
  | y :: ys, h => by
    obtain ⟨L, rfl⟩ := accs_list (xs := ys) fun z hz => h z (by simp [hz])
    obtain ⟨h0, h1⟩ := h y (by simp)
    simp only [Tyds, Tyd] at h1
    obtain ⟨a, r, hc, ⟨n, rfl, _⟩, b, r', rfl, ⟨m, rfl, _⟩, c, r2, rfl, ⟨k, rfl⟩, rfl⟩ := h1
    refine ⟨(n, m, k) :: L, ?_⟩
    cases y with
    | agg xs => simp [PV.cells] at hc; subst hc; rfl
    | _ => simp [PV.shape] at h0
theorem law_args {xs : List PV} (h : Tyas [(0, [Ty.sl 3 [Ty.int .i64, Ty.int .u64, Ty.bool]])] xs) : ∃ L : List Acc, xs = [acs L] := by
  simp only [Tyas] at h
  obtain ⟨x2, r2, rfl, h2, rfl⟩ := h
  have h3 := Tya_one h2
  simp only [Tyd] at h3
  obtain ⟨ys, rfl, _, h4⟩ := h3
  obtain ⟨L, rfl⟩ := accs_list h4
  exact ⟨L, rfl⟩
theorem lawHistorySources : ∀ xs, Tyas [(0, [Ty.sl 3 [Ty.int .i64, Ty.int .u64, Ty.bool]])] xs → (Ev.W Cf okf).call 6 (xs.map AV.p) [] fun v _ => v = .p (.bool true) := by
  intro xs h
  obtain ⟨L, rfl⟩ := law_args h
  exact law6 L
end Go.Ev.F23
end
