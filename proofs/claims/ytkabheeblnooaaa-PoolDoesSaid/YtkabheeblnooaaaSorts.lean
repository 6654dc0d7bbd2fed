/- A part of the proof: walks of the functions that the law calls. No condition. -/
import Derived.Test.YtkabheeblnooaaaBase
import Derived.Test.YtkabheeblnooaaaRun
set_option linter.all false
section
namespace Go.Ev.F28
open Go.Proofs Go.Ev Go.Sort
set_option maxRecDepth 100000
set_option linter.all false
abbrev I (n : Int) : PV := .int .i64 n
abbrev U (n : Int) : PV := .int .u64 n
abbrev B (b : Bool) : PV := .bool b
abbrev E (n : Int) : PV := .int .i64 n
theorem setE (d : Array Int) (i : Nat) (x : Int) : (encA E d).set i (.int .i64 x) = encA E (d.setIfInBounds i x) := encA_set E d i x
theorem pNan (x : Int) : PS Cf okf 60 [4] [E x] (fun r => r = B false) := by
  refine PS.mk extMono Try.func60 body60 (by decide) rfl ?_
  simp only [c60, Try.f60, Option.getD_some]
  simp -implicitDefEqProofs -dsimp (maxSteps := 1000000) (disch := first | omega | (simp only [wkLen]; omega) | decide +kernel) only [↓wkPre, ↓wkPre2, ↓wkE, wkPost, wkDef, wkF, simprocAttr]
theorem pLess (a b : Int) : PS Cf okf 50 [4] [E a, E b] (fun r => r = B (ltInt a b)) := by
  refine PS.mk extMono Try.func50 body50 (by decide) rfl ?_
  simp only [c50, Try.f50, Option.getD_some]
  simp -implicitDefEqProofs -dsimp (maxSteps := 1000000) (disch := first | omega | (simp only [wkLen]; omega) | decide +kernel) only [↓wkPre, ↓wkPre2, ↓wkE, wkPost, wkDef, wkF, simprocAttr]
  refine PS.app md_60 Try.func60 (pNan a) rfl ?_
  rintro r rfl
  simp -implicitDefEqProofs -dsimp (maxSteps := 1000000) (disch := first | omega | (simp only [wkLen]; omega) | decide +kernel) only [↓wkPre, ↓wkPre2, ↓wkE, wkPost, wkDef, wkF, simprocAttr]
  rfl
theorem wIns (b g n : Nat) (ex : Bool) (lo hi : Nat) (d : Array Int) (H : Heap) (hn : d.size = n) (hr : RowA E 0 H b g d) (hlh : lo ≤ hi) (hh : hi ≤ d.size) (hs : d.size ≤ 1000000) (Q : AV → Heap → Prop)
    (hq : ∀ H', RowA E 0 H' b g (insertionSort ltInt d lo hi) → Frm b H H' → Q (.p (.tup [])) H') : (W Cf okf).call 44 [.ref b g 0 n ex, .p (I lo), .p (I hi)] H Q := by
  subst hn
  refine top_mk extMono Try.func44 body44 (by decide) rfl ?_
  simp only [c44, Try.f44, Option.getD_some]
  simp -implicitDefEqProofs -dsimp (maxSteps := 1000000) (disch := first | omega | (simp only [wkLen]; omega) | decide +kernel) only [↓wkPre, ↓wkPre2, ↓wkE, wkPost, wkDef, wkF, simprocAttr]
  refine loop_use extMono (fun m e Hc => ∃ (i : Nat) (d' : Array Int), m = hi - i ∧ e 0 = .ref b g 0 d.size ex ∧ e 1 = .p (I lo) ∧ e 2 = .p (I hi) ∧ e 6 = .p (I i) ∧ lo < i ∧ i ≤ d.size + 1 ∧ RowA E 0 Hc b g d' ∧ d'.size = d.size ∧ Frm b H Hc ∧
    insOuter ltInt lo hi i d' = insertionSort ltInt d lo hi) ?_ (hi - (lo + 1)) _ _ ⟨lo + 1, d, rfl, ?_⟩
  · rintro m e Hc ⟨i, d', rfl, e0, e1, e2, e6, hli, hid, hrow, hsz, hfr, heq⟩
    rcases Nat.lt_or_ge i hi with h | h
    · simp -implicitDefEqProofs -dsimp (maxSteps := 1000000) (disch := first | omega | (simp only [wkLen]; omega) | decide +kernel) only [↓wkPre, ↓wkPre2, ↓wkE, wkPost, wkDef, wkF, simprocAttr, e0, e1, e2, e6]
      refine loop_use extMono (fun m e Hc => ∃ (j : Nat) (d2 : Array Int), m = j ∧ e 0 = .ref b g 0 d.size ex ∧ e 1 = .p (I lo) ∧ e 2 = .p (I hi) ∧ e 6 = .p (I i) ∧ e 7 = .p (I j) ∧ lo ≤ j ∧ j ≤ i ∧ RowA E 0 Hc b g d2 ∧ d2.size = d.size ∧ Frm b H Hc ∧
        insInner ltInt lo j d2 = insInner ltInt lo i d') ?_ i _ _ ⟨i, d', rfl, ?_⟩
      · rintro m e Hc ⟨j, d2, rfl, e0, e1, e2, e6, e7, hlj, hji, hrow, hsz, hfr, hin⟩
        have stop : insInner ltInt lo m d2 = d2 → insOuter ltInt lo hi (i + 1) d2 = insertionSort ltInt d lo hi := fun h1 => by
          rw [← heq]; conv => rhs; rw [insOuter, if_pos h, ← hin, h1]
        cases m with
        | zero =>
          simp -implicitDefEqProofs -dsimp (maxSteps := 1000000) (disch := first | omega | (simp only [wkLen]; omega) | decide +kernel) only [↓wkPre, ↓wkPre2, ↓wkE, wkPost, wkDef, wkF, simprocAttr, e0, e1, e2, e6, e7]
          refine ⟨hi - (i + 1), by omega, i + 1, d2, rfl, by push_cast; rfl, by omega, by omega, hrow, hsz, hfr, stop rfl⟩
        | succ k =>
          have kb : Hc[b]? = some (.arr true g 0 (encA E d2)) := hrow
          have hbl := hrow.lt
          have hk : ((k + 1 : Nat) : Int) - 1 = (k : Int) := by omega
          rw [insInner_succ] at hin stop
          rcases Nat.lt_or_ge lo (k + 1) with h2 | h2
          · simp -implicitDefEqProofs -dsimp (maxSteps := 1000000) (disch := first | omega | (simp only [wkLen]; omega) | decide +kernel) only [↓wkPre, ↓wkPre2, ↓wkE, wkPost, wkDef, wkF, simprocAttr, e0, e1, e2, e6, e7, kb, encA_len, encA_get, hk]
            refine PS.app md_50 Try.func50 (pLess _ _) rfl ?_
            rintro r rfl
            cases hl : ltInt d2[k + 1]! d2[k]!
            · simp -implicitDefEqProofs -dsimp (maxSteps := 1000000) (disch := first | omega | (simp only [wkLen]; omega) | decide +kernel) only [↓wkPre, ↓wkPre2, ↓wkE, wkPost, wkDef, wkF, simprocAttr, e0, e1, e2, e6, e7]
              refine ⟨hi - (i + 1), by omega, i + 1, d2, rfl, by push_cast; rfl, by omega, by omega, hrow, hsz, hfr, stop (by simp [hl])⟩
            · simp -implicitDefEqProofs -dsimp (maxSteps := 1000000) (disch := first | omega | (simp only [wkLen]; omega) | decide +kernel) only [↓wkPre, ↓wkPre2, ↓wkE, wkPost, wkDef, wkF, simprocAttr, e0, e1, e2, e6, e7, kb, encA_len, encA_get, hk, setE]
              refine ⟨k, by omega, k, swp d2 (k + 1) k, rfl, rfl, by omega, by omega, RowA.put2 hbl, by rw [swp_size]; exact hsz, (hfr.set _).set _, ?_⟩
              rw [← hin, if_pos (by simp [hl]; omega)]
          · simp -implicitDefEqProofs -dsimp (maxSteps := 1000000) (disch := first | omega | (simp only [wkLen]; omega) | decide +kernel) only [↓wkPre, ↓wkPre2, ↓wkE, wkPost, wkDef, wkF, simprocAttr, e0, e1, e2, e6, e7]
            refine ⟨hi - (i + 1), by omega, i + 1, d2, rfl, by push_cast; rfl, by omega, by omega, hrow, hsz, hfr, stop (by simp; omega)⟩
      · simp -implicitDefEqProofs -dsimp (maxSteps := 1000000) (disch := first | omega | (simp only [wkLen]; omega) | decide +kernel) only [↓wkPre, ↓wkPre2, ↓wkE, wkPost, wkDef, wkF, simprocAttr]
        exact ⟨e0, e1, e2, e6, by omega, by omega, hrow, hsz, hfr⟩
    · simp -implicitDefEqProofs -dsimp (maxSteps := 1000000) (disch := first | omega | (simp only [wkLen]; omega) | decide +kernel) only [↓wkPre, ↓wkPre2, ↓wkE, wkPost, wkDef, wkF, simprocAttr, e0, e1, e2, e6]
      rw [insOuter, if_neg (by omega)] at heq
      rw [heq] at hrow
      exact hq _ hrow hfr
  · simp -implicitDefEqProofs -dsimp (maxSteps := 1000000) (disch := first | omega | (simp only [wkLen]; omega) | decide +kernel) only [↓wkPre, ↓wkPre2, ↓wkE, wkPost, wkDef, wkF, simprocAttr]
    exact ⟨by push_cast; rfl, by omega, by omega, hr, Frm.refl _ _, rfl⟩
end Go.Ev.F28
end
section
namespace Go.Ev.F28
open Go.Proofs Go.Ev Go.Sort
set_option maxRecDepth 100000
set_option linter.all false
theorem wSift (b g n : Nat) (ex : Bool) (lo hi fi : Nat) (d : Array Int) (H : Heap) (hn : d.size = n) (hr : RowA E 0 H b g d) (hh : fi + hi ≤ d.size) (hl : lo ≤ hi) (hs : d.size ≤ 1000000) (Q : AV → Heap → Prop)
    (hq : ∀ H', RowA E 0 H' b g (siftDown ltInt hi fi lo d) → (siftDown ltInt hi fi lo d).size = d.size → Frm b H H' → Q (.p (.tup [])) H') : (W Cf okf).call 55 [.ref b g 0 n ex, .p (I lo), .p (I hi), .p (I fi)] H Q := by
  subst hn
  refine top_mk extMono Try.func55 body55 (by decide) rfl ?_
  simp only [c55, Try.f55, Option.getD_some]
  simp -implicitDefEqProofs -dsimp (maxSteps := 1000000) (disch := first | omega | (simp only [wkLen]; omega) | decide +kernel) only [↓wkPre, ↓wkPre2, ↓wkE, wkPost, wkDef, wkF, simprocAttr]
  refine loop_use extMono (fun m e Hc => ∃ (r : Nat) (d' : Array Int), m = hi - r ∧ r ≤ hi ∧ e 0 = .ref b g 0 d.size ex ∧ e 2 = .p (I hi) ∧ e 3 = .p (I fi) ∧ e 8 = .p (I r) ∧ RowA E 0 Hc b g d' ∧ d'.size = d.size ∧ Frm b H Hc ∧
    siftDown ltInt hi fi r d' = siftDown ltInt hi fi lo d) ?_ (hi - lo) _ _ ⟨lo, d, rfl, ?_⟩
  · rintro m e Hc ⟨r, d', rfl, hrh, e0, e2, e3, e8, hrow, hsz, hfr, heq⟩
    have kb : Hc[b]? = some (.arr true g 0 (encA E d')) := hrow
    have hbl := hrow.lt
    have fin : siftDown ltInt hi fi r d' = d' → Q (.p (.tup [])) Hc := fun h => hq Hc (by rw [← heq, h]; exact hrow) (by rw [← heq, h]; exact hsz) hfr
    rw [siftDown] at heq fin
    by_cases h1 : 2 * r + 1 ≥ hi
    · have fin' := fin (by rw [dif_pos h1])
      simp -implicitDefEqProofs -dsimp (maxSteps := 1000000) (disch := first | omega | (simp only [wkLen]; omega) | decide +kernel) only [↓wkPre, ↓wkPre2, ↓wkE, wkPost, wkDef, wkF, simprocAttr, e0, e2, e3, e8]
      exact fin'
    · have h1' : 2 * r + 1 < hi := by omega
      rw [dif_neg h1] at heq fin
      have q1 : (fi : Int) + (2 * (r : Int) + 1) = ((fi + (2 * r + 1) : Nat) : Int) := by omega
      have q2 : ((fi + (2 * r + 1) : Nat) : Int) + 1 = ((fi + (2 * r + 1) + 1 : Nat) : Int) := by omega
      have q3 : (fi : Int) + r = ((fi + r : Nat) : Int) := by omega
      have q4 : (fi : Int) + (2 * (r : Int) + 1 + 1) = ((fi + (2 * r + 2) : Nat) : Int) := by omega
      rcases Nat.lt_or_ge (2 * r + 1 + 1) hi with h2 | h2
      · simp -implicitDefEqProofs -dsimp (maxSteps := 1000000) (disch := first | omega | (simp only [wkLen]; omega) | decide +kernel) only [↓wkPre, ↓wkPre2, ↓wkE, wkPost, wkDef, wkF, simprocAttr, e0, e2, e3, e8, kb, encA_len, encA_get, q1, q2, q3]
        refine PS.app md_50 Try.func50 (pLess _ _) rfl ?_
        rintro _ rfl
        cases hl1 : ltInt d'[fi + (2 * r + 1)]! d'[fi + (2 * r + 1) + 1]!
        · rw [if_neg (by simp [hl1])] at heq fin
          simp -implicitDefEqProofs -dsimp (maxSteps := 1000000) (disch := first | omega | (simp only [wkLen]; omega) | decide +kernel) only [↓wkPre, ↓wkPre2, ↓wkE, wkPost, wkDef, wkF, simprocAttr, e0, e2, e3, e8, kb, encA_len, encA_get, q1, q2, q3]
          refine PS.app md_50 Try.func50 (pLess _ _) rfl ?_
          rintro _ rfl
          cases hl2 : ltInt d'[fi + r]! d'[fi + (2 * r + 1)]!
          · have fin' := fin (by simp [hl2])
            simp -implicitDefEqProofs -dsimp (maxSteps := 1000000) (disch := first | omega | (simp only [wkLen]; omega) | decide +kernel) only [↓wkPre, ↓wkPre2, ↓wkE, wkPost, wkDef, wkF, simprocAttr, e0, e2, e3, e8, kb, encA_len, encA_get, q1, q2, q3]
            exact fin'
          · rw [if_neg (by simp [hl2])] at heq
            simp -implicitDefEqProofs -dsimp (maxSteps := 1000000) (disch := first | omega | (simp only [wkLen]; omega) | decide +kernel) only [↓wkPre, ↓wkPre2, ↓wkE, wkPost, wkDef, wkF, simprocAttr, e0, e2, e3, e8, kb, encA_len, encA_get, q1, q2, q3, setE]
            refine ⟨hi - (2 * r + 1), by omega, 2 * r + 1, swp d' (fi + r) (fi + (2 * r + 1)), rfl, by omega, by push_cast; rfl, RowA.put2 hbl, by rw [swp_size]; exact hsz, (hfr.set _).set _, heq⟩
        · rw [if_pos (by simp [hl1, h2])] at heq fin
          simp -implicitDefEqProofs -dsimp (maxSteps := 1000000) (disch := first | omega | (simp only [wkLen]; omega) | decide +kernel) only [↓wkPre, ↓wkPre2, ↓wkE, wkPost, wkDef, wkF, simprocAttr, e0, e2, e3, e8, kb, encA_len, encA_get, q1, q2, q3, q4]
          refine PS.app md_50 Try.func50 (pLess _ _) rfl ?_
          rintro _ rfl
          cases hl2 : ltInt d'[fi + r]! d'[fi + (2 * r + 2)]!
          · have fin' := fin (by simp [hl2])
            simp -implicitDefEqProofs -dsimp (maxSteps := 1000000) (disch := first | omega | (simp only [wkLen]; omega) | decide +kernel) only [↓wkPre, ↓wkPre2, ↓wkE, wkPost, wkDef, wkF, simprocAttr, e0, e2, e3, e8, kb, encA_len, encA_get, q1, q2, q3, q4]
            exact fin'
          · rw [if_neg (by simp [hl2]), dif_pos (by omega)] at heq
            simp -implicitDefEqProofs -dsimp (maxSteps := 1000000) (disch := first | omega | (simp only [wkLen]; omega) | decide +kernel) only [↓wkPre, ↓wkPre2, ↓wkE, wkPost, wkDef, wkF, simprocAttr, e0, e2, e3, e8, kb, encA_len, encA_get, q1, q2, q3, q4, setE]
            refine ⟨hi - (2 * r + 2), by omega, 2 * r + 2, swp d' (fi + r) (fi + (2 * r + 2)), rfl, by omega, by push_cast; congr 2, RowA.put2 hbl, by rw [swp_size]; exact hsz, (hfr.set _).set _, heq⟩
      · rw [if_neg (by simp; omega)] at heq fin
        simp -implicitDefEqProofs -dsimp (maxSteps := 1000000) (disch := first | omega | (simp only [wkLen]; omega) | decide +kernel) only [↓wkPre, ↓wkPre2, ↓wkE, wkPost, wkDef, wkF, simprocAttr, e0, e2, e3, e8, kb, encA_len, encA_get, q1, q2, q3]
        refine PS.app md_50 Try.func50 (pLess _ _) rfl ?_
        rintro _ rfl
        cases hl2 : ltInt d'[fi + r]! d'[fi + (2 * r + 1)]!
        · have fin' := fin (by simp [hl2])
          simp -implicitDefEqProofs -dsimp (maxSteps := 1000000) (disch := first | omega | (simp only [wkLen]; omega) | decide +kernel) only [↓wkPre, ↓wkPre2, ↓wkE, wkPost, wkDef, wkF, simprocAttr, e0, e2, e3, e8, kb, encA_len, encA_get, q1, q2, q3]
          exact fin'
        · rw [if_neg (by simp [hl2])] at heq
          simp -implicitDefEqProofs -dsimp (maxSteps := 1000000) (disch := first | omega | (simp only [wkLen]; omega) | decide +kernel) only [↓wkPre, ↓wkPre2, ↓wkE, wkPost, wkDef, wkF, simprocAttr, e0, e2, e3, e8, kb, encA_len, encA_get, q1, q2, q3, setE]
          refine ⟨hi - (2 * r + 1), by omega, 2 * r + 1, swp d' (fi + r) (fi + (2 * r + 1)), rfl, by omega, by push_cast; rfl, RowA.put2 hbl, by rw [swp_size]; exact hsz, (hfr.set _).set _, heq⟩
  · simp -implicitDefEqProofs -dsimp (maxSteps := 1000000) (disch := first | omega | (simp only [wkLen]; omega) | decide +kernel) only [↓wkPre, ↓wkPre2, ↓wkE, wkPost, wkDef, wkF, simprocAttr]
    exact ⟨hl, hr, Frm.refl _ _⟩
theorem heapBuild_succ (lt : Int → Int → Bool) (hi fi k : Nat) (d : Array Int) : heapBuild lt hi fi (k + 1) d = heapBuild lt hi fi k (siftDown lt hi fi k d) := rfl
theorem heapPop_succ (lt : Int → Int → Bool) (fi k : Nat) (d : Array Int) : heapPop lt fi (k + 1) d = heapPop lt fi k (siftDown lt k fi 0 (swp d fi (fi + k))) := rfl
theorem wHeap (b g n : Nat) (ex : Bool) (lo hi : Nat) (d : Array Int) (H : Heap) (hn : d.size = n) (hr : RowA E 0 H b g d) (hlh : lo < hi) (hh : hi ≤ d.size) (hs : d.size ≤ 1000000) (Q : AV → Heap → Prop)
    (hq : ∀ H', RowA E 0 H' b g (heapSort ltInt d lo hi) → (heapSort ltInt d lo hi).size = d.size → Frm b H H' → Q (.p (.tup [])) H') : (W Cf okf).call 45 [.ref b g 0 n ex, .p (I lo), .p (I hi)] H Q := by
  subst hn
  refine top_mk extMono Try.func45 body45 (by decide) rfl ?_
  simp only [c45, Try.f45, Option.getD_some]
  have q1 : (hi : Int) - lo = ((hi - lo : Nat) : Int) := by omega
  have q2 : (((hi - lo : Nat) : Int) - 1) / 2 = (((hi - lo - 1) / 2 + 1 : Nat) : Int) - 1 := by omega
  simp -implicitDefEqProofs -dsimp (maxSteps := 1000000) (disch := first | omega | (simp only [wkLen]; omega) | decide +kernel) only [↓wkPre, ↓wkPre2, ↓wkE, wkPost, wkDef, wkF, simprocAttr, q1, q2]
  generalize hN : hi - lo = N at *
  generalize hK : (N - 1) / 2 + 1 = K at *
  refine loop_use extMono (fun m e Hc => ∃ (d' : Array Int), m ≤ K ∧ e 0 = .ref b g 0 d.size ex ∧ e 6 = .p (I lo) ∧ e 7 = .p (I 0) ∧ e 8 = .p (I N) ∧ e 9 = .p (I ((m : Int) - 1)) ∧ RowA E 0 Hc b g d' ∧ d'.size = d.size ∧ Frm b H Hc ∧
    heapPop ltInt lo N (heapBuild ltInt N lo m d') = heapSort ltInt d lo hi) ?_ K _ _ ⟨d, Nat.le_refl _, ?_⟩
  · rintro m e Hc ⟨d', hm, e0, e6, e7, e8, e9, hrow, hsz, hfr, heq⟩
    cases m with
    | succ k =>
      have q3 : ((k + 1 : Nat) : Int) - 1 = (k : Int) := by omega
      simp -implicitDefEqProofs -dsimp (maxSteps := 1000000) (disch := first | omega | (simp only [wkLen]; omega) | decide +kernel) only [↓wkPre, ↓wkPre2, ↓wkE, wkPost, wkDef, wkF, simprocAttr, e0, e6, e7, e8, e9, q3]
      rw [heapBuild_succ] at heq
      refine imp_call md_55 (wSift b g d.size ex k N lo d' Hc hsz hrow (by omega) (by omega) (by omega) _ ?_)
      intro H' hrow' hsz' hfr'
      simp -implicitDefEqProofs -dsimp (maxSteps := 1000000) (disch := first | omega | (simp only [wkLen]; omega) | decide +kernel) only [↓wkPre, ↓wkPre2, ↓wkE, wkPost, wkDef, wkF, simprocAttr, e0, e6, e7, e8, e9, q3]
      exact ⟨k, by omega, _, by omega, rfl, hrow', by rw [hsz', hsz], hfr.trans hfr', heq⟩
    | zero =>
      simp -implicitDefEqProofs -dsimp (maxSteps := 1000000) (disch := first | omega | (simp only [wkLen]; omega) | decide +kernel) only [↓wkPre, ↓wkPre2, ↓wkE, wkPost, wkDef, wkF, simprocAttr, e0, e6, e7, e8, e9]
      refine loop_use extMono (fun m e Hc => ∃ (d' : Array Int), m ≤ N ∧ e 0 = .ref b g 0 d.size ex ∧ e 6 = .p (I lo) ∧ e 7 = .p (I 0) ∧ e 10 = .p (I ((m : Int) - 1)) ∧ RowA E 0 Hc b g d' ∧ d'.size = d.size ∧ Frm b H Hc ∧
        heapPop ltInt lo m d' = heapSort ltInt d lo hi) ?_ N _ _ ⟨d', Nat.le_refl _, ?_⟩
      · rintro m e Hc ⟨d', hm, e0, e6, e7, e10, hrow, hsz, hfr, heq⟩
        cases m with
        | succ k =>
          have kb : Hc[b]? = some (.arr true g 0 (encA E d')) := hrow
          have hbl := hrow.lt
          have q3 : ((k + 1 : Nat) : Int) - 1 = (k : Int) := by omega
          have q4 : (lo : Int) + k = ((lo + k : Nat) : Int) := by omega
          simp -implicitDefEqProofs -dsimp (maxSteps := 1000000) (disch := first | omega | (simp only [wkLen]; omega) | decide +kernel) only [↓wkPre, ↓wkPre2, ↓wkE, wkPost, wkDef, wkF, simprocAttr, e0, e6, e7, e10, q3, q4, kb, encA_len, encA_get, setE]
          rw [heapPop_succ] at heq
          have hsz2 : (swp d' lo (lo + k)).size = d.size := by rw [swp_size]; exact hsz
          refine imp_call md_55 (wSift b g d.size ex 0 k lo (swp d' lo (lo + k)) _ hsz2 (RowA.put2 hbl) (by omega) (by omega) (by omega) _ ?_)
          intro H' hrow' hsz' hfr'
          simp -implicitDefEqProofs -dsimp (maxSteps := 1000000) (disch := first | omega | (simp only [wkLen]; omega) | decide +kernel) only [↓wkPre, ↓wkPre2, ↓wkE, wkPost, wkDef, wkF, simprocAttr, e0, e6, e7, e10, q3]
          exact ⟨k, by omega, _, by omega, rfl, hrow', by rw [hsz', hsz2], ((hfr.set _).set _).trans hfr', heq⟩
        | zero =>
          simp -implicitDefEqProofs -dsimp (maxSteps := 1000000) (disch := first | omega | (simp only [wkLen]; omega) | decide +kernel) only [↓wkPre, ↓wkPre2, ↓wkE, wkPost, wkDef, wkF, simprocAttr, e0, e6, e7, e10]
          have e1 : d' = heapSort ltInt d lo hi := heq
          exact hq _ (e1 ▸ hrow) (e1 ▸ hsz) hfr
      · simp -implicitDefEqProofs -dsimp (maxSteps := 1000000) (disch := first | omega | (simp only [wkLen]; omega) | decide +kernel) only [↓wkPre, ↓wkPre2, ↓wkE, wkPost, wkDef, wkF, simprocAttr]
        exact ⟨e0, e6, e7, hrow, hsz, hfr, heq⟩
  · simp -implicitDefEqProofs -dsimp (maxSteps := 1000000) (disch := first | omega | (simp only [wkLen]; omega) | decide +kernel) only [↓wkPre, ↓wkPre2, ↓wkE, wkPost, wkDef, wkF, simprocAttr]
    refine ⟨hr, Frm.refl _ _, ?_⟩
    rw [← hK, ← hN]; rfl
end Go.Ev.F28
end
section
namespace Go.Ev.F28
open Go.Proofs Go.Ev Go.Sort
set_option maxRecDepth 100000
set_option linter.all false
theorem scanDown_succ (p : Int → Bool) (d : Array Int) (i j : Nat) : scanDown p d i (j + 1) = if i ≤ j + 1 && p d[j + 1]! then scanDown p d i j else j + 1 := rfl
theorem wRev (b g n : Nat) (ex : Bool) (lo hi : Nat) (d : Array Int) (H : Heap) (hn : d.size = n) (hr : RowA E 0 H b g d) (hlh : lo < hi) (hh : hi ≤ d.size) (hs : d.size ≤ 1000000) (Q : AV → Heap → Prop)
    (hq : ∀ H', RowA E 0 H' b g (reverseRange d lo hi) → Frm b H H' → Q (.p (.tup [])) H') : (W Cf okf).call 48 [.ref b g 0 n ex, .p (I lo), .p (I hi)] H Q := by
  subst hn
  refine top_mk extMono Try.func48 body48 (by decide) rfl ?_
  simp only [c48, Try.f48, Option.getD_some]
  simp -implicitDefEqProofs -dsimp (maxSteps := 1000000) (disch := first | omega | (simp only [wkLen]; omega) | decide +kernel) only [↓wkPre, ↓wkPre2, ↓wkE, wkPost, wkDef, wkF, simprocAttr]
  refine loop_use extMono (fun m e Hc => ∃ (i j : Nat) (d' : Array Int), m = j - i ∧ j < hi ∧ e 0 = .ref b g 0 d.size ex ∧ e 6 = .p (I i) ∧ e 7 = .p (I j) ∧ RowA E 0 Hc b g d' ∧ d'.size = d.size ∧ Frm b H Hc ∧
    reverseLoop i j d' = reverseRange d lo hi) ?_ (hi - 1 - lo) _ _ ⟨lo, hi - 1, d, rfl, by omega, ?_⟩
  · rintro m e Hc ⟨i, j, d', rfl, hj, e0, e6, e7, hrow, hsz, hfr, heq⟩
    have kb : Hc[b]? = some (.arr true g 0 (encA E d')) := hrow
    have hbl := hrow.lt
    rw [reverseLoop] at heq
    rcases Nat.lt_or_ge i j with h | h
    · rw [if_pos h] at heq
      have hk : (j : Int) - 1 = ((j - 1 : Nat) : Int) := by omega
      simp -implicitDefEqProofs -dsimp (maxSteps := 1000000) (disch := first | omega | (simp only [wkLen]; omega) | decide +kernel) only [↓wkPre, ↓wkPre2, ↓wkE, wkPost, wkDef, wkF, simprocAttr, e0, e6, e7, kb, encA_len, encA_get, setE, hk]
      exact ⟨j - 1 - (i + 1), by omega, i + 1, j - 1, swp d' i j, rfl, by omega, by push_cast; rfl, rfl, RowA.put2 hbl, by rw [swp_size]; exact hsz, (hfr.set _).set _, heq⟩
    · rw [if_neg (by omega)] at heq
      simp -implicitDefEqProofs -dsimp (maxSteps := 1000000) (disch := first | omega | (simp only [wkLen]; omega) | decide +kernel) only [↓wkPre, ↓wkPre2, ↓wkE, wkPost, wkDef, wkF, simprocAttr, e0, e6, e7]
      exact hq _ (heq ▸ hrow) hfr
  · have hk : ((hi - 1 : Nat) : Int) = (hi : Int) - 1 := by omega
    simp -implicitDefEqProofs -dsimp (maxSteps := 1000000) (disch := first | omega | (simp only [wkLen]; omega) | decide +kernel) only [↓wkPre, ↓wkPre2, ↓wkE, wkPost, wkDef, wkF, simprocAttr, hk]
    exact ⟨hr, Frm.refl _ _, rfl⟩
theorem wPeq (b g n : Nat) (ex : Bool) (lo hi pv : Nat) (d : Array Int) (H : Heap) (hn : d.size = n) (hr : RowA E 0 H b g d) (hlp : lo ≤ pv) (hph : pv < hi) (hh : hi ≤ d.size) (hs : d.size ≤ 1000000) (Q : AV → Heap → Prop)
    (hq : ∀ H', RowA E 0 H' b g (partitionEqual ltInt d lo hi pv).2 → Frm b H H' → Q (.p (I (partitionEqual ltInt d lo hi pv).1)) H') : (W Cf okf).call 51 [.ref b g 0 n ex, .p (I lo), .p (I hi), .p (I pv)] H Q := by
  subst hn
  refine top_mk extMono Try.func51 body51 (by decide) rfl ?_
  simp only [c51, Try.f51, Option.getD_some]
  have kb0 : H[b]? = some (.arr true g 0 (encA E d)) := hr
  have hbl0 := hr.lt
  simp -implicitDefEqProofs -dsimp (maxSteps := 1000000) (disch := first | omega | (simp only [wkLen]; omega) | decide +kernel) only [↓wkPre, ↓wkPre2, ↓wkE, wkPost, wkDef, wkF, simprocAttr, kb0, encA_len, encA_get, setE]
  refine loop_use extMono (fun m e Hc => ∃ (i j : Nat) (d' : Array Int), m = j + 1 - i ∧ lo < i ∧ i ≤ hi ∧ j < hi ∧ e 0 = .ref b g 0 d.size ex ∧ e 1 = .p (I lo) ∧ e 9 = .p (I i) ∧ e 10 = .p (I j) ∧ RowA E 0 Hc b g d' ∧ d'.size = d.size ∧ Frm b H Hc ∧
    partEqLoop ltInt lo i j d' = partitionEqual ltInt d lo hi pv) ?_ (hi - 1 + 1 - (lo + 1)) _ _ ⟨lo + 1, hi - 1, swp d lo pv, rfl, by omega, by omega, by omega, ?_⟩
  · rintro m e Hc ⟨i, j, d', rfl, hli, hih, hj, e0, e1, e9, e10, hrow, hsz, hfr, heq⟩
    have kb : Hc[b]? = some (.arr true g 0 (encA E d')) := hrow
    have hbl := hrow.lt
    rw [partEqLoop_eq] at heq
    simp -implicitDefEqProofs -dsimp (maxSteps := 1000000) (disch := first | omega | (simp only [wkLen]; omega) | decide +kernel) only [↓wkPre, ↓wkPre2, ↓evC_region, ↓evC_text, ↓evC_cond, ↓evC_block_st [2, 4], ↓evC_block_stop [2, 4], wkPost, wkDef, wkF, simprocAttr]
    refine stop_cut extMono (fun e' H' => H' = Hc ∧ e' 0 = .ref b g 0 d.size ex ∧ e' 1 = .p (I lo) ∧ e' 9 = .p (I (scanUp (fun x => !ltInt d'[lo]! x) d' j i : Nat)) ∧ e' 10 = .p (I j)) ?_ ?_
    · simp -implicitDefEqProofs -dsimp (maxSteps := 1000000) (disch := first | omega | (simp only [wkLen]; omega) | decide +kernel) only [↓wkPre, ↓wkPre2, ↓wkE, wkPost, wkDef, wkF, simprocAttr, e0, e1, e9, e10]
      refine loop_use extMono (fun m e' Hd => ∃ (i2 : Nat), m = j + 1 - i2 ∧ i ≤ i2 ∧ e' 0 = .ref b g 0 d.size ex ∧ e' 1 = .p (I lo) ∧ e' 9 = .p (I i2) ∧ e' 10 = .p (I j) ∧ Hd = Hc ∧ scanUp (fun x => !ltInt d'[lo]! x) d' j i2 = scanUp (fun x => !ltInt d'[lo]! x) d' j i) ?_ (j + 1 - i) _ _ ⟨i, rfl, Nat.le_refl _, ?_⟩
      · rintro m e Hd ⟨i2, rfl, hi2, e0, e1, ei, ej, rfl, hsc⟩
        rw [scanUp] at hsc
        rcases Nat.lt_or_ge j i2 with hij | hij
        · simp -implicitDefEqProofs -dsimp (maxSteps := 1000000) (disch := first | omega | (simp only [wkLen]; omega) | decide +kernel) only [↓wkPre, ↓wkPre2, ↓wkE, wkPost, wkDef, wkF, simprocAttr, e0, e1, ei, ej]
          rw [if_neg (by simp; omega)] at hsc
          rw [hsc]
        · simp -implicitDefEqProofs -dsimp (maxSteps := 1000000) (disch := first | omega | (simp only [wkLen]; omega) | decide +kernel) only [↓wkPre, ↓wkPre2, ↓wkE, wkPost, wkDef, wkF, simprocAttr, e0, e1, ei, ej, kb, encA_len, encA_get]
          refine PS.app md_50 Try.func50 (pLess _ _) rfl ?_
          rintro _ rfl
          cases hl : ltInt d'[lo]! d'[i2]!
          · simp -implicitDefEqProofs -dsimp (maxSteps := 1000000) (disch := first | omega | (simp only [wkLen]; omega) | decide +kernel) only [↓wkPre, ↓wkPre2, ↓wkE, wkPost, wkDef, wkF, simprocAttr, e0, e1, ei, ej]
            exact ⟨j + 1 - (i2 + 1), by omega, i2 + 1, rfl, by omega, by push_cast; rfl, by rw [← hsc, if_pos (by simp [hl]; omega)]⟩
          · simp -implicitDefEqProofs -dsimp (maxSteps := 1000000) (disch := first | omega | (simp only [wkLen]; omega) | decide +kernel) only [↓wkPre, ↓wkPre2, ↓wkE, wkPost, wkDef, wkF, simprocAttr, e0, e1, ei, ej]
            rw [if_neg (by simp [hl])] at hsc
            rw [hsc]
      · simp -implicitDefEqProofs -dsimp (maxSteps := 1000000) (disch := first | omega | (simp only [wkLen]; omega) | decide +kernel) only [↓wkPre, ↓wkPre2, ↓wkE, wkPost, wkDef, wkF, simprocAttr, e0, e1, e9, e10]
    clear e0 e1 e9 e10
    rintro e Hd ⟨rfl, e0, e1, e9, e10⟩
    have hge := scanUp_ge (fun x => !ltInt d'[lo]! x) d' j i
    generalize scanUp (fun x => !ltInt d'[lo]! x) d' j i = i1 at *
    simp -implicitDefEqProofs -dsimp (maxSteps := 1000000) (disch := first | omega | (simp only [wkLen]; omega) | decide +kernel) only [↓wkPre, ↓wkPre2, ↓evC_region, ↓evC_text, ↓evC_cond, ↓evC_block_st [4], ↓evC_block_stop [4], wkPost, wkDef, wkF, simprocAttr]
    refine stop_cut extMono (fun e' H' => H' = Hd ∧ e' 0 = .ref b g 0 d.size ex ∧ e' 1 = .p (I lo) ∧ e' 9 = .p (I i1) ∧ e' 10 = .p (I (scanDown (fun x => ltInt d'[lo]! x) d' i1 j : Nat))) ?_ ?_
    · simp -implicitDefEqProofs -dsimp (maxSteps := 1000000) (disch := first | omega | (simp only [wkLen]; omega) | decide +kernel) only [↓wkPre, ↓wkPre2, ↓wkE, wkPost, wkDef, wkF, simprocAttr, e0, e1, e9, e10]
      refine loop_use extMono (fun m e' Hf => ∃ (j2 : Nat), m = j2 ∧ j2 ≤ j ∧ e' 0 = .ref b g 0 d.size ex ∧ e' 1 = .p (I lo) ∧ e' 9 = .p (I i1) ∧ e' 10 = .p (I j2) ∧ Hf = Hd ∧ scanDown (fun x => ltInt d'[lo]! x) d' i1 j2 = scanDown (fun x => ltInt d'[lo]! x) d' i1 j) ?_ j _ _ ⟨j, rfl, Nat.le_refl _, ?_⟩
      · rintro m e Hf ⟨j2, rfl, hj2, e0, e1, ei, ej, rfl, hsc⟩
        cases m with
        | zero =>
          simp -implicitDefEqProofs -dsimp (maxSteps := 1000000) (disch := first | omega | (simp only [wkLen]; omega) | decide +kernel) only [↓wkPre, ↓wkPre2, ↓wkE, wkPost, wkDef, wkF, simprocAttr, e0, e1, ei, ej]
          rw [← hsc]; rfl
        | succ k =>
          have hk : ((k + 1 : Nat) : Int) - 1 = (k : Int) := by omega
          rw [scanDown_succ] at hsc
          rcases Nat.lt_or_ge (k + 1) i1 with hij | hij
          · simp -implicitDefEqProofs -dsimp (maxSteps := 1000000) (disch := first | omega | (simp only [wkLen]; omega) | decide +kernel) only [↓wkPre, ↓wkPre2, ↓wkE, wkPost, wkDef, wkF, simprocAttr, e0, e1, ei, ej]
            rw [if_neg (by simp; omega)] at hsc
            rw [hsc]
          · simp -implicitDefEqProofs -dsimp (maxSteps := 1000000) (disch := first | omega | (simp only [wkLen]; omega) | decide +kernel) only [↓wkPre, ↓wkPre2, ↓wkE, wkPost, wkDef, wkF, simprocAttr, e0, e1, ei, ej, kb, encA_len, encA_get]
            refine PS.app md_50 Try.func50 (pLess _ _) rfl ?_
            rintro _ rfl
            cases hl : ltInt d'[lo]! d'[(k + 1)]!
            · simp -implicitDefEqProofs -dsimp (maxSteps := 1000000) (disch := first | omega | (simp only [wkLen]; omega) | decide +kernel) only [↓wkPre, ↓wkPre2, ↓wkE, wkPost, wkDef, wkF, simprocAttr, e0, e1, ei, ej]
              rw [if_neg (by simp [hl])] at hsc
              rw [hsc]
            · simp -implicitDefEqProofs -dsimp (maxSteps := 1000000) (disch := first | omega | (simp only [wkLen]; omega) | decide +kernel) only [↓wkPre, ↓wkPre2, ↓wkE, wkPost, wkDef, wkF, simprocAttr, e0, e1, ei, ej, hk]
              exact ⟨k, by omega, k, rfl, by omega, rfl, by rw [← hsc, if_pos (by simp [hl]; omega)]⟩
      · simp -implicitDefEqProofs -dsimp (maxSteps := 1000000) (disch := first | omega | (simp only [wkLen]; omega) | decide +kernel) only [↓wkPre, ↓wkPre2, ↓wkE, wkPost, wkDef, wkF, simprocAttr, e0, e1, e9, e10]
    clear e0 e1 e9 e10
    rintro e Hf ⟨rfl, e0, e1, e9, e10⟩
    have hle := scanDown_le (fun x => ltInt d'[lo]! x) d' i1 j
    generalize scanDown (fun x => ltInt d'[lo]! x) d' i1 j = j1 at *
    rcases Nat.lt_or_ge j1 i1 with h | h
    · rw [if_pos (by omega)] at heq
      have hq' := hq Hf (by rw [← heq]; exact hrow) hfr
      rw [← heq] at hq'
      simp -implicitDefEqProofs -dsimp (maxSteps := 1000000) (disch := first | omega | (simp only [wkLen]; omega) | decide +kernel) only [↓wkPre, ↓wkPre2, ↓wkE, wkPost, wkDef, wkF, simprocAttr, e0, e1, e9, e10]
      exact hq'
    · rw [if_neg (by omega)] at heq
      have hk : (j1 : Int) - 1 = ((j1 - 1 : Nat) : Int) := by omega
      simp -implicitDefEqProofs -dsimp (maxSteps := 1000000) (disch := first | omega | (simp only [wkLen]; omega) | decide +kernel) only [↓wkPre, ↓wkPre2, ↓wkE, wkPost, wkDef, wkF, simprocAttr, e0, e1, e9, e10, kb, encA_len, encA_get, setE, hk]
      exact ⟨j1 - 1 + 1 - (i1 + 1), by omega, i1 + 1, j1 - 1, swp d' i1 j1, rfl, by omega, by omega, by omega, by push_cast; rfl, rfl, RowA.put2 hbl, by rw [swp_size]; exact hsz, (hfr.set _).set _, heq⟩
  · have hk : ((hi - 1 : Nat) : Int) = (hi : Int) - 1 := by omega
    simp -implicitDefEqProofs -dsimp (maxSteps := 1000000) (disch := first | omega | (simp only [wkLen]; omega) | decide +kernel) only [↓wkPre, ↓wkPre2, ↓wkE, wkPost, wkDef, wkF, simprocAttr, hk]
    exact ⟨by push_cast; rfl, RowA.put2 hbl0, by rw [swp_size], ((Frm.refl _ _).set _).set _, rfl⟩
theorem wPart (b g n : Nat) (ex : Bool) (lo hi pv : Nat) (d : Array Int) (H : Heap) (hn : d.size = n) (hr : RowA E 0 H b g d) (hlp : lo ≤ pv) (hph : pv < hi) (hh : hi ≤ d.size) (hs : d.size ≤ 1000000) (Q : AV → Heap → Prop)
    (hq : ∀ H' ap, RowA E 0 H' b g (partition ltInt d lo hi pv).2.2 → Frm b H H' → Q (.p (.tup [I (partition ltInt d lo hi pv).1, B ap])) H') : (W Cf okf).call 52 [.ref b g 0 n ex, .p (I lo), .p (I hi), .p (I pv)] H Q := by
  subst hn
  refine top_mk extMono Try.func52 body52 (by decide) rfl ?_
  simp only [c52, Try.f52, Option.getD_some]
  have kb0 : H[b]? = some (.arr true g 0 (encA E d)) := hr
  have hbl0 := hr.lt
  have hk : ((hi - 1 : Nat) : Int) = (hi : Int) - 1 := by omega
  simp -implicitDefEqProofs -dsimp (maxSteps := 1000000) (disch := first | omega | (simp only [wkLen]; omega) | decide +kernel) only [↓wkPre, ↓wkPre2, ↓evC_region, ↓evC_text, ↓evC_cond, ↓evC_block_st [0, 2], ↓evC_block_stop [0, 2], wkPost, wkDef, wkF, simprocAttr, kb0, encA_len, encA_get, setE]
  obtain ⟨d', hd'⟩ : ∃ d', swp d lo pv = d' := ⟨_, rfl⟩
  have hsz : d'.size = d.size := by rw [← hd', swp_size]
  refine stop_st (fun e' H' => e' 0 = .ref b g 0 d.size ex ∧ e' 1 = .p (I lo) ∧ e' 10 = .p (I (lo + 1 : Nat)) ∧ e' 11 = .p (I (hi - 1 : Nat)) ∧ RowA E 0 H' b g d' ∧ Frm b H H') ?_ ?_
  · simp -implicitDefEqProofs -dsimp (maxSteps := 1000000) (disch := first | omega | (simp only [wkLen]; omega) | decide +kernel) only [↓wkPre, ↓wkPre2, ↓wkE, wkPost, wkDef, wkF, simprocAttr, hk]
    exact ⟨by push_cast; rfl, by rw [← hd']; exact RowA.put2 hbl0, ((Frm.refl _ _).set _).set _⟩
  rintro e Hc ⟨e0, e1, e10, e11, hrow, hfr⟩
  have kb : Hc[b]? = some (.arr true g 0 (encA E d')) := hrow
  have hbl := hrow.lt
  have hpart : partition ltInt d lo hi pv = (if scanUp (fun x => ltInt x d'[lo]!) d' (hi - 1) (lo + 1) > scanDown (fun x => !ltInt x d'[lo]!) d' (scanUp (fun x => ltInt x d'[lo]!) d' (hi - 1) (lo + 1)) (hi - 1)
    then (scanDown (fun x => !ltInt x d'[lo]!) d' (scanUp (fun x => ltInt x d'[lo]!) d' (hi - 1) (lo + 1)) (hi - 1), true, swp d' (scanDown (fun x => !ltInt x d'[lo]!) d' (scanUp (fun x => ltInt x d'[lo]!) d' (hi - 1) (lo + 1)) (hi - 1)) lo)
    else ((partLoop ltInt lo (scanUp (fun x => ltInt x d'[lo]!) d' (hi - 1) (lo + 1) + 1) (scanDown (fun x => !ltInt x d'[lo]!) d' (scanUp (fun x => ltInt x d'[lo]!) d' (hi - 1) (lo + 1)) (hi - 1) - 1) (swp d' (scanUp (fun x => ltInt x d'[lo]!) d' (hi - 1) (lo + 1)) (scanDown (fun x => !ltInt x d'[lo]!) d' (scanUp (fun x => ltInt x d'[lo]!) d' (hi - 1) (lo + 1)) (hi - 1)))).1, false,
      swp (partLoop ltInt lo (scanUp (fun x => ltInt x d'[lo]!) d' (hi - 1) (lo + 1) + 1) (scanDown (fun x => !ltInt x d'[lo]!) d' (scanUp (fun x => ltInt x d'[lo]!) d' (hi - 1) (lo + 1)) (hi - 1) - 1) (swp d' (scanUp (fun x => ltInt x d'[lo]!) d' (hi - 1) (lo + 1)) (scanDown (fun x => !ltInt x d'[lo]!) d' (scanUp (fun x => ltInt x d'[lo]!) d' (hi - 1) (lo + 1)) (hi - 1)))).2
        (partLoop ltInt lo (scanUp (fun x => ltInt x d'[lo]!) d' (hi - 1) (lo + 1) + 1) (scanDown (fun x => !ltInt x d'[lo]!) d' (scanUp (fun x => ltInt x d'[lo]!) d' (hi - 1) (lo + 1)) (hi - 1) - 1) (swp d' (scanUp (fun x => ltInt x d'[lo]!) d' (hi - 1) (lo + 1)) (scanDown (fun x => !ltInt x d'[lo]!) d' (scanUp (fun x => ltInt x d'[lo]!) d' (hi - 1) (lo + 1)) (hi - 1)))).1 lo)) := by
    rw [← hd']; rfl
  refine stop_cut extMono (fun e' H' => H' = Hc ∧ e' 0 = .ref b g 0 d.size ex ∧ e' 1 = .p (I lo) ∧ e' 10 = .p (I (scanUp (fun x => ltInt x d'[lo]!) d' (hi - 1) (lo + 1) : Nat)) ∧ e' 11 = .p (I (hi - 1 : Nat))) ?_ ?_
  · simp -implicitDefEqProofs -dsimp (maxSteps := 1000000) (disch := first | omega | (simp only [wkLen]; omega) | decide +kernel) only [↓wkPre, ↓wkPre2, ↓wkE, wkPost, wkDef, wkF, simprocAttr, e0, e1, e10, e11]
    refine loop_use extMono (fun m e' Hd => ∃ (i2 : Nat), m = (hi - 1) + 1 - i2 ∧ (lo + 1) ≤ i2 ∧ e' 0 = .ref b g 0 d.size ex ∧ e' 1 = .p (I lo) ∧ e' 10 = .p (I i2) ∧ e' 11 = .p (I (hi - 1 : Nat)) ∧ Hd = Hc ∧ scanUp (fun x => ltInt x d'[lo]!) d' (hi - 1) i2 = scanUp (fun x => ltInt x d'[lo]!) d' (hi - 1) (lo + 1)) ?_ ((hi - 1) + 1 - (lo + 1)) _ _ ⟨lo + 1, rfl, Nat.le_refl _, ?_⟩
    · rintro m e Hd ⟨i2, rfl, hi2, e0, e1, ei, ej, rfl, hsc⟩
      rw [scanUp] at hsc
      rcases Nat.lt_or_ge (hi - 1) i2 with hij | hij
      · simp -implicitDefEqProofs -dsimp (maxSteps := 1000000) (disch := first | omega | (simp only [wkLen]; omega) | decide +kernel) only [↓wkPre, ↓wkPre2, ↓wkE, wkPost, wkDef, wkF, simprocAttr, e0, e1, ei, ej]
        rw [if_neg (by simp; omega)] at hsc
        rw [hsc]
      · simp -implicitDefEqProofs -dsimp (maxSteps := 1000000) (disch := first | omega | (simp only [wkLen]; omega) | decide +kernel) only [↓wkPre, ↓wkPre2, ↓wkE, wkPost, wkDef, wkF, simprocAttr, e0, e1, ei, ej, kb, encA_len, encA_get]
        refine PS.app md_50 Try.func50 (pLess _ _) rfl ?_
        rintro _ rfl
        cases hl : ltInt d'[i2]! d'[lo]!
        · simp -implicitDefEqProofs -dsimp (maxSteps := 1000000) (disch := first | omega | (simp only [wkLen]; omega) | decide +kernel) only [↓wkPre, ↓wkPre2, ↓wkE, wkPost, wkDef, wkF, simprocAttr, e0, e1, ei, ej]
          rw [if_neg (by simp [hl])] at hsc
          rw [hsc]
        · simp -implicitDefEqProofs -dsimp (maxSteps := 1000000) (disch := first | omega | (simp only [wkLen]; omega) | decide +kernel) only [↓wkPre, ↓wkPre2, ↓wkE, wkPost, wkDef, wkF, simprocAttr, e0, e1, ei, ej]
          exact ⟨(hi - 1) + 1 - (i2 + 1), by omega, i2 + 1, rfl, by omega, by push_cast; rfl, by rw [← hsc, if_pos (by simp [hl]; omega)]⟩
    · simp -implicitDefEqProofs -dsimp (maxSteps := 1000000) (disch := first | omega | (simp only [wkLen]; omega) | decide +kernel) only [↓wkPre, ↓wkPre2, ↓wkE, wkPost, wkDef, wkF, simprocAttr, e0, e1, e10, e11]
  clear e0 e1 e10 e11
  rintro e Hd ⟨rfl, e0, e1, e10, e11⟩
  have hge := scanUp_ge (fun x => ltInt x d'[lo]!) d' (hi - 1) (lo + 1)
  generalize scanUp (fun x => ltInt x d'[lo]!) d' (hi - 1) (lo + 1) = i1 at *
  simp -implicitDefEqProofs -dsimp (maxSteps := 1000000) (disch := first | omega | (simp only [wkLen]; omega) | decide +kernel) only [↓wkPre, ↓wkPre2, ↓evC_region, ↓evC_text, ↓evC_cond, ↓evC_block_st [2], ↓evC_block_stop [2], wkPost, wkDef, wkF, simprocAttr]
  refine stop_cut extMono (fun e' H' => H' = Hd ∧ e' 0 = .ref b g 0 d.size ex ∧ e' 1 = .p (I lo) ∧ e' 10 = .p (I i1) ∧ e' 11 = .p (I (scanDown (fun x => !ltInt x d'[lo]!) d' i1 (hi - 1) : Nat))) ?_ ?_
  · simp -implicitDefEqProofs -dsimp (maxSteps := 1000000) (disch := first | omega | (simp only [wkLen]; omega) | decide +kernel) only [↓wkPre, ↓wkPre2, ↓wkE, wkPost, wkDef, wkF, simprocAttr, e0, e1, e10, e11]
    refine loop_use extMono (fun m e' Hf => ∃ (j2 : Nat), m = j2 ∧ j2 ≤ (hi - 1) ∧ e' 0 = .ref b g 0 d.size ex ∧ e' 1 = .p (I lo) ∧ e' 10 = .p (I i1) ∧ e' 11 = .p (I j2) ∧ Hf = Hd ∧ scanDown (fun x => !ltInt x d'[lo]!) d' i1 j2 = scanDown (fun x => !ltInt x d'[lo]!) d' i1 (hi - 1)) ?_ (hi - 1) _ _ ⟨(hi - 1), rfl, Nat.le_refl _, ?_⟩
    · rintro m e Hf ⟨j2, rfl, hj2, e0, e1, ei, ej, rfl, hsc⟩
      cases m with
      | zero =>
        simp -implicitDefEqProofs -dsimp (maxSteps := 1000000) (disch := first | omega | (simp only [wkLen]; omega) | decide +kernel) only [↓wkPre, ↓wkPre2, ↓wkE, wkPost, wkDef, wkF, simprocAttr, e0, e1, ei, ej]
        rw [← hsc]; rfl
      | succ k =>
        have hk : ((k + 1 : Nat) : Int) - 1 = (k : Int) := by omega
        rw [scanDown_succ] at hsc
        rcases Nat.lt_or_ge (k + 1) i1 with hij | hij
        · simp -implicitDefEqProofs -dsimp (maxSteps := 1000000) (disch := first | omega | (simp only [wkLen]; omega) | decide +kernel) only [↓wkPre, ↓wkPre2, ↓wkE, wkPost, wkDef, wkF, simprocAttr, e0, e1, ei, ej]
          rw [if_neg (by simp; omega)] at hsc
          rw [hsc]
        · simp -implicitDefEqProofs -dsimp (maxSteps := 1000000) (disch := first | omega | (simp only [wkLen]; omega) | decide +kernel) only [↓wkPre, ↓wkPre2, ↓wkE, wkPost, wkDef, wkF, simprocAttr, e0, e1, ei, ej, kb, encA_len, encA_get]
          refine PS.app md_50 Try.func50 (pLess _ _) rfl ?_
          rintro _ rfl
          cases hl : ltInt d'[(k + 1)]! d'[lo]!
          · simp -implicitDefEqProofs -dsimp (maxSteps := 1000000) (disch := first | omega | (simp only [wkLen]; omega) | decide +kernel) only [↓wkPre, ↓wkPre2, ↓wkE, wkPost, wkDef, wkF, simprocAttr, e0, e1, ei, ej, hk]
            exact ⟨k, by omega, k, rfl, by omega, rfl, by rw [← hsc, if_pos (by simp [hl]; omega)]⟩
          · simp -implicitDefEqProofs -dsimp (maxSteps := 1000000) (disch := first | omega | (simp only [wkLen]; omega) | decide +kernel) only [↓wkPre, ↓wkPre2, ↓wkE, wkPost, wkDef, wkF, simprocAttr, e0, e1, ei, ej]
            rw [if_neg (by simp [hl])] at hsc
            rw [hsc]
    · simp -implicitDefEqProofs -dsimp (maxSteps := 1000000) (disch := first | omega | (simp only [wkLen]; omega) | decide +kernel) only [↓wkPre, ↓wkPre2, ↓wkE, wkPost, wkDef, wkF, simprocAttr, e0, e1, e10, e11]
  clear e0 e1 e10 e11
  rintro e Hf ⟨rfl, e0, e1, e10, e11⟩
  have hle := scanDown_le (fun x => !ltInt x d'[lo]!) d' i1 (hi - 1)
  generalize scanDown (fun x => !ltInt x d'[lo]!) d' i1 (hi - 1) = j1 at *
  rcases Nat.lt_or_ge j1 i1 with h | h
  · rw [if_pos (by omega)] at hpart
    rw [hpart] at hq
    simp -implicitDefEqProofs -dsimp (maxSteps := 1000000) (disch := first | omega | (simp only [wkLen]; omega) | decide +kernel) only [↓wkPre, ↓wkPre2, ↓wkE, wkPost, wkDef, wkF, simprocAttr, e0, e1, e10, e11, kb, encA_len, encA_get, setE]
    exact hq _ _ (RowA.put2 hbl) ((hfr.set _).set _)
  · rw [if_neg (by omega)] at hpart
    have hk : (j1 : Int) - 1 = ((j1 - 1 : Nat) : Int) := by omega
    simp -implicitDefEqProofs -dsimp (maxSteps := 1000000) (disch := first | omega | (simp only [wkLen]; omega) | decide +kernel) only [↓wkPre, ↓wkPre2, ↓wkE, wkPost, wkDef, wkF, simprocAttr, e0, e1, e10, e11, kb, encA_len, encA_get, setE, hk]
    generalize hR : partLoop ltInt lo (i1 + 1) (j1 - 1) (swp d' i1 j1) = R at *
    refine loop_use extMono (fun m e Hc => ∃ (i j : Nat) (d2 : Array Int), m = j + 1 - i ∧ lo < i ∧ j < hi ∧ e 0 = .ref b g 0 d.size ex ∧ e 1 = .p (I lo) ∧ e 10 = .p (I i) ∧ e 11 = .p (I j) ∧ RowA E 0 Hc b g d2 ∧ d2.size = d.size ∧ Frm b H Hc ∧
      partLoop ltInt lo i j d2 = R) ?_ (j1 - 1 + 1 - (i1 + 1)) _ _ ⟨i1 + 1, j1 - 1, swp d' i1 j1, rfl, by omega, by omega, ?_⟩
    · clear e0 e1 e10 e11 kb hbl hrow hfr hge hle hR hd' hsz h hk
      clear kb0
      rintro m e Hc ⟨i, j, d2, rfl, hli, hj, e0, e1, e10, e11, hrow, hsz, hfr, heq⟩
      have kb : Hc[b]? = some (.arr true g 0 (encA E d2)) := hrow
      have hbl := hrow.lt
      rw [partLoop_eq] at heq
      simp -implicitDefEqProofs -dsimp (maxSteps := 1000000) (disch := first | omega | (simp only [wkLen]; omega) | decide +kernel) only [↓wkPre, ↓wkPre2, ↓evC_region, ↓evC_text, ↓evC_cond, ↓evC_block_st [6, 8], ↓evC_block_stop [6, 8], wkPost, wkDef, wkF, simprocAttr]
      refine stop_cut extMono (fun e' H' => H' = Hc ∧ e' 0 = .ref b g 0 d.size ex ∧ e' 1 = .p (I lo) ∧ e' 10 = .p (I (scanUp (fun x => ltInt x d2[lo]!) d2 j i : Nat)) ∧ e' 11 = .p (I j)) ?_ ?_
      · simp -implicitDefEqProofs -dsimp (maxSteps := 1000000) (disch := first | omega | (simp only [wkLen]; omega) | decide +kernel) only [↓wkPre, ↓wkPre2, ↓wkE, wkPost, wkDef, wkF, simprocAttr, e0, e1, e10, e11]
        refine loop_use extMono (fun m e' Hd => ∃ (i2 : Nat), m = j + 1 - i2 ∧ i ≤ i2 ∧ e' 0 = .ref b g 0 d.size ex ∧ e' 1 = .p (I lo) ∧ e' 10 = .p (I i2) ∧ e' 11 = .p (I j) ∧ Hd = Hc ∧ scanUp (fun x => ltInt x d2[lo]!) d2 j i2 = scanUp (fun x => ltInt x d2[lo]!) d2 j i) ?_ (j + 1 - i) _ _ ⟨i, rfl, Nat.le_refl _, ?_⟩
        · rintro m e Hd ⟨i2, rfl, hi2, e0, e1, ei, ej, rfl, hsc⟩
          rw [scanUp] at hsc
          rcases Nat.lt_or_ge j i2 with hij | hij
          · simp -implicitDefEqProofs -dsimp (maxSteps := 1000000) (disch := first | omega | (simp only [wkLen]; omega) | decide +kernel) only [↓wkPre, ↓wkPre2, ↓wkE, wkPost, wkDef, wkF, simprocAttr, e0, e1, ei, ej]
            rw [if_neg (by simp; omega)] at hsc
            rw [hsc]
          · simp -implicitDefEqProofs -dsimp (maxSteps := 1000000) (disch := first | omega | (simp only [wkLen]; omega) | decide +kernel) only [↓wkPre, ↓wkPre2, ↓wkE, wkPost, wkDef, wkF, simprocAttr, e0, e1, ei, ej, kb, encA_len, encA_get]
            refine PS.app md_50 Try.func50 (pLess _ _) rfl ?_
            rintro _ rfl
            cases hl : ltInt d2[i2]! d2[lo]!
            · simp -implicitDefEqProofs -dsimp (maxSteps := 1000000) (disch := first | omega | (simp only [wkLen]; omega) | decide +kernel) only [↓wkPre, ↓wkPre2, ↓wkE, wkPost, wkDef, wkF, simprocAttr, e0, e1, ei, ej]
              rw [if_neg (by simp [hl])] at hsc
              rw [hsc]
            · simp -implicitDefEqProofs -dsimp (maxSteps := 1000000) (disch := first | omega | (simp only [wkLen]; omega) | decide +kernel) only [↓wkPre, ↓wkPre2, ↓wkE, wkPost, wkDef, wkF, simprocAttr, e0, e1, ei, ej]
              exact ⟨j + 1 - (i2 + 1), by omega, i2 + 1, rfl, by omega, by push_cast; rfl, by rw [← hsc, if_pos (by simp [hl]; omega)]⟩
        · simp -implicitDefEqProofs -dsimp (maxSteps := 1000000) (disch := first | omega | (simp only [wkLen]; omega) | decide +kernel) only [↓wkPre, ↓wkPre2, ↓wkE, wkPost, wkDef, wkF, simprocAttr, e0, e1, e10, e11]
      clear e0 e1 e10 e11
      rintro e Hd ⟨rfl, e0, e1, e10, e11⟩
      have hge := scanUp_ge (fun x => ltInt x d2[lo]!) d2 j i
      generalize scanUp (fun x => ltInt x d2[lo]!) d2 j i = i1 at *
      simp -implicitDefEqProofs -dsimp (maxSteps := 1000000) (disch := first | omega | (simp only [wkLen]; omega) | decide +kernel) only [↓wkPre, ↓wkPre2, ↓evC_region, ↓evC_text, ↓evC_cond, ↓evC_block_st [8], ↓evC_block_stop [8], wkPost, wkDef, wkF, simprocAttr]
      refine stop_cut extMono (fun e' H' => H' = Hd ∧ e' 0 = .ref b g 0 d.size ex ∧ e' 1 = .p (I lo) ∧ e' 10 = .p (I i1) ∧ e' 11 = .p (I (scanDown (fun x => !ltInt x d2[lo]!) d2 i1 j : Nat))) ?_ ?_
      · simp -implicitDefEqProofs -dsimp (maxSteps := 1000000) (disch := first | omega | (simp only [wkLen]; omega) | decide +kernel) only [↓wkPre, ↓wkPre2, ↓wkE, wkPost, wkDef, wkF, simprocAttr, e0, e1, e10, e11]
        refine loop_use extMono (fun m e' Hf => ∃ (j2 : Nat), m = j2 ∧ j2 ≤ j ∧ e' 0 = .ref b g 0 d.size ex ∧ e' 1 = .p (I lo) ∧ e' 10 = .p (I i1) ∧ e' 11 = .p (I j2) ∧ Hf = Hd ∧ scanDown (fun x => !ltInt x d2[lo]!) d2 i1 j2 = scanDown (fun x => !ltInt x d2[lo]!) d2 i1 j) ?_ j _ _ ⟨j, rfl, Nat.le_refl _, ?_⟩
        · rintro m e Hf ⟨j2, rfl, hj2, e0, e1, ei, ej, rfl, hsc⟩
          cases m with
          | zero =>
            simp -implicitDefEqProofs -dsimp (maxSteps := 1000000) (disch := first | omega | (simp only [wkLen]; omega) | decide +kernel) only [↓wkPre, ↓wkPre2, ↓wkE, wkPost, wkDef, wkF, simprocAttr, e0, e1, ei, ej]
            rw [← hsc]; rfl
          | succ k =>
            have hk : ((k + 1 : Nat) : Int) - 1 = (k : Int) := by omega
            rw [scanDown_succ] at hsc
            rcases Nat.lt_or_ge (k + 1) i1 with hij | hij
            · simp -implicitDefEqProofs -dsimp (maxSteps := 1000000) (disch := first | omega | (simp only [wkLen]; omega) | decide +kernel) only [↓wkPre, ↓wkPre2, ↓wkE, wkPost, wkDef, wkF, simprocAttr, e0, e1, ei, ej]
              rw [if_neg (by simp; omega)] at hsc
              rw [hsc]
            · simp -implicitDefEqProofs -dsimp (maxSteps := 1000000) (disch := first | omega | (simp only [wkLen]; omega) | decide +kernel) only [↓wkPre, ↓wkPre2, ↓wkE, wkPost, wkDef, wkF, simprocAttr, e0, e1, ei, ej, kb, encA_len, encA_get]
              refine PS.app md_50 Try.func50 (pLess _ _) rfl ?_
              rintro _ rfl
              cases hl : ltInt d2[(k + 1)]! d2[lo]!
              · simp -implicitDefEqProofs -dsimp (maxSteps := 1000000) (disch := first | omega | (simp only [wkLen]; omega) | decide +kernel) only [↓wkPre, ↓wkPre2, ↓wkE, wkPost, wkDef, wkF, simprocAttr, e0, e1, ei, ej, hk]
                exact ⟨k, by omega, k, rfl, by omega, rfl, by rw [← hsc, if_pos (by simp [hl]; omega)]⟩
              · simp -implicitDefEqProofs -dsimp (maxSteps := 1000000) (disch := first | omega | (simp only [wkLen]; omega) | decide +kernel) only [↓wkPre, ↓wkPre2, ↓wkE, wkPost, wkDef, wkF, simprocAttr, e0, e1, ei, ej]
                rw [if_neg (by simp [hl])] at hsc
                rw [hsc]
        · simp -implicitDefEqProofs -dsimp (maxSteps := 1000000) (disch := first | omega | (simp only [wkLen]; omega) | decide +kernel) only [↓wkPre, ↓wkPre2, ↓wkE, wkPost, wkDef, wkF, simprocAttr, e0, e1, e10, e11]
      clear e0 e1 e10 e11
      rintro e Hf ⟨rfl, e0, e1, e10, e11⟩
      have hle := scanDown_le (fun x => !ltInt x d2[lo]!) d2 i1 j
      generalize scanDown (fun x => !ltInt x d2[lo]!) d2 i1 j = j1 at *
      rcases Nat.lt_or_ge j1 i1 with h | h
      · rw [if_pos (by omega)] at heq
        rw [hpart, ← heq] at hq
        simp -implicitDefEqProofs -dsimp (maxSteps := 1000000) (disch := first | omega | (simp only [wkLen]; omega) | decide +kernel) only [↓wkPre, ↓wkPre2, ↓wkE, wkPost, wkDef, wkF, simprocAttr, e0, e1, e10, e11, kb, encA_len, encA_get, setE]
        exact hq _ _ (RowA.put2 hbl) ((hfr.set _).set _)
      · rw [if_neg (by omega)] at heq
        have hk : (j1 : Int) - 1 = ((j1 - 1 : Nat) : Int) := by omega
        simp -implicitDefEqProofs -dsimp (maxSteps := 1000000) (disch := first | omega | (simp only [wkLen]; omega) | decide +kernel) only [↓wkPre, ↓wkPre2, ↓wkE, wkPost, wkDef, wkF, simprocAttr, e0, e1, e10, e11, kb, encA_len, encA_get, setE, hk]
        exact ⟨j1 - 1 + 1 - (i1 + 1), by omega, i1 + 1, j1 - 1, swp d2 i1 j1, rfl, by omega, by omega, by push_cast; rfl, rfl, RowA.put2 hbl, by rw [swp_size]; exact hsz, (hfr.set _).set _, heq⟩
    · simp -implicitDefEqProofs -dsimp (maxSteps := 1000000) (disch := first | omega | (simp only [wkLen]; omega) | decide +kernel) only [↓wkPre, ↓wkPre2, ↓wkE, wkPost, wkDef, wkF, simprocAttr, e0, e1]
      exact ⟨by push_cast; rfl, RowA.put2 hbl, by rw [swp_size]; exact hsz, (hfr.set _).set _, hR⟩
end Go.Ev.F28
end
section
namespace Go.Ev.F28
open Go.Proofs Go.Ev Go.Sort
set_option maxRecDepth 100000
set_option linter.all false
theorem lenAll : ((List.range 64).all fun n => isAns ((xrun Cf okf 60).call 43 [.p (U (n : Nat))] []) (I (bitsLen n : Nat))) = true := by decide +kernel
theorem pLen (n : Nat) (h : n < 64) : PS Cf okf 43 [3] [U n] (fun r => r = I (bitsLen n : Nat)) := by
  have h1 := List.all_eq_true.1 lenAll n (by simpa using h)
  exact run_eq (args := [U n]) extMono 60 h1
theorem npotAll : ((List.range 64).all fun n => isAns ((xrun Cf okf 60).call 56 [.p (I (n : Nat))] []) (U (2 ^ bitsLen n : Nat))) = true := by decide +kernel
theorem pNpot (n : Nat) (h : n < 64) : PS Cf okf 56 [86] [I n] (fun r => r = U (2 ^ bitsLen n : Nat)) := by
  have h1 := List.all_eq_true.1 npotAll n (by simpa using h)
  exact run_eq (args := [I n]) extMono 60 h1
theorem wNext (c : Nat) (r : Int) (H : Heap) (hc : H[c]? = some (.var true (.p (U r)))) (Q : AV → Heap → Prop) (hq : ∀ r' H', H'[c]? = some (.var true (.p (U r'))) → (∀ i, i ≠ c → H'[i]? = H[i]?) → H'.length = H.length → Q (.p (U r')) H') :
    (W Cf okf).call 57 [.vptr c 0] H Q := by
  refine top_mk extMono Try.func57 body57 (by decide) rfl ?_
  simp only [c57, Try.f57, Option.getD_some]
  have hl : c < H.length := (List.getElem?_eq_some_iff.1 hc).1
  simp -implicitDefEqProofs -dsimp (maxSteps := 1000000) (disch := first | omega | (simp only [wkLen]; omega) | decide +kernel) only [↓wkPre, ↓wkPre2, ↓wkE, wkPost, wkDef, wkF, simprocAttr, hc, nonNil]
  refine hq _ _ (hs_set (by simp; omega)) (fun i hi => by rw [hs_ne (by omega), hs_ne (by omega), hs_ne (by omega)]) (by simp)
theorem wBrk (b g n : Nat) (ex : Bool) (lo hi : Nat) (d : Array Int) (H : Heap) (hn : d.size = n) (hr : RowA E 0 H b g d) (hlh : lo < hi) (hh : hi ≤ d.size) (hs : d.size < 50) (Q : AV → Heap → Prop)
    (hq : ∀ H' d', RowA E 0 H' b g d' → PermIn lo hi d d' → Frm b H H' → Q (.p (.tup [])) H') : (W Cf okf).call 46 [.ref b g 0 n ex, .p (I lo), .p (I hi)] H Q := by
  subst hn
  refine top_mk extMono Try.func46 body46 (by decide) rfl ?_
  simp only [c46, Try.f46, Option.getD_some]
  have q1 : (hi : Int) - lo = ((hi - lo : Nat) : Int) := by omega
  have hbl0 := hr.lt
  generalize hN : hi - lo = N at *
  rcases Nat.lt_or_ge N 8 with h8 | h8
  · simp -implicitDefEqProofs -dsimp (maxSteps := 1000000) (disch := first | omega | (simp only [wkLen]; omega) | decide +kernel) only [↓wkPre, ↓wkPre2, ↓wkE, wkPost, wkDef, wkF, simprocAttr, q1]
    exact hq _ d hr (permIn_refl d lo hi) (Frm.refl _ _)
  · simp -implicitDefEqProofs -dsimp (maxSteps := 1000000) (disch := first | omega | (simp only [wkLen]; omega) | decide +kernel) only [↓wkPre, ↓wkPre2, ↓wkE, wkPost, wkDef, wkF, simprocAttr, q1]
    refine PS.app md_56 Try.func56 (pNpot N (by omega)) rfl ?_
    rintro _ rfl
    have hm := two_pow_bitsLen_le (n := N) (by omega)
    have hm2 := lt_two_pow_bitsLen N
    generalize 2 ^ bitsLen N = M at *
    have q2 : (lo : Int) + (N : Int) / 4 * 2 - 1 = ((lo + N / 4 * 2 - 1 : Nat) : Int) := by omega
    simp -implicitDefEqProofs -dsimp (maxSteps := 1000000) (disch := first | omega | (simp only [wkLen]; omega) | decide +kernel) only [↓wkPre, ↓wkPre2, ↓wkE, wkPost, wkDef, wkF, simprocAttr, q1, q2]
    refine loop_use extMono (fun m e Hc => ∃ (i : Nat) (d' : Array Int) (r : Int), m = lo + N / 4 * 2 + 2 - i ∧ lo ≤ i ∧ i ≤ lo + N / 4 * 2 + 2 ∧ e 0 = .ref b g 0 d.size ex ∧ e 1 = .p (I lo) ∧ e 6 = .p (I N) ∧ e 7 = .vptr H.length 0 ∧ e 8 = .p (U M) ∧ e 9 = .p (I i) ∧
      RowA E 0 Hc b g d' ∧ PermIn lo hi d d' ∧ Frm b H Hc ∧ Hc[H.length]? = some (.var true (.p (U r)))) ?_ (lo + N / 4 * 2 + 2 - (lo + N / 4 * 2 - 1)) _ _ ⟨lo + N / 4 * 2 - 1, d, (N : Int), rfl, by omega, by omega, ?_⟩
    · rintro m e Hc ⟨i, d', r, rfl, hli, hih, e0, e1, e6, e7, e8, e9, hrow, hp, hfr, hx⟩
      have hsz : d'.size = d.size := hp.1
      rcases Nat.lt_or_ge i (lo + N / 4 * 2 + 2) with h | h
      · simp -implicitDefEqProofs -dsimp (maxSteps := 1000000) (disch := first | omega | (simp only [wkLen]; omega) | decide +kernel) only [↓wkPre, ↓wkPre2, ↓wkE, wkPost, wkDef, wkF, simprocAttr, e0, e1, e6, e7, e8, e9]
        refine imp_call md_57 (wNext H.length r Hc hx _ ?_)
        intro r' H' hx' hk' hl'
        obtain ⟨k, hk1, hk2⟩ := and_mask r' (m := (M : Int) - 1) (by omega) (by omega)
        have hrow' : RowA E 0 H' b g d' := hrow.keep (hk' b (by omega))
        have hfr' : Frm b H H' := ⟨fun i hi hl => (hk' i (by omega)).trans (hfr.1 i hi hl), by have := hfr.2; omega⟩
        have kb : H'[b]? = some (.arr true g 0 (encA E d')) := hrow'
        have hbl := hrow'.lt
        rcases Nat.lt_or_ge k N with hkN | hkN
        · have q4 : (lo : Int) + k = ((lo + k : Nat) : Int) := by omega
          simp -implicitDefEqProofs -dsimp (maxSteps := 1000000) (disch := first | omega | (simp only [wkLen]; omega) | decide +kernel) only [↓wkPre, ↓wkPre2, ↓wkE, wkPost, wkDef, wkF, simprocAttr, e0, e1, e6, e7, e8, e9, hk1, q4, kb, encA_len, encA_get, setE]
          refine ⟨lo + N / 4 * 2 + 2 - (i + 1), by omega, i + 1, swp d' i (lo + k), r', rfl, by omega, by omega, by push_cast; rfl, RowA.put2 hbl, permIn_trans _ _ _ _ _ hp (swp_permIn d' lo hi i (lo + k) (by omega) (by omega) (by omega) (by omega) (by omega)), (hfr'.set _).set _, ?_⟩
          exact hx'
        · have q4 : (lo : Int) + ((k : Int) - N) = ((lo + (k - N) : Nat) : Int) := by omega
          simp -implicitDefEqProofs -dsimp (maxSteps := 1000000) (disch := first | omega | (simp only [wkLen]; omega) | decide +kernel) only [↓wkPre, ↓wkPre2, ↓wkE, wkPost, wkDef, wkF, simprocAttr, e0, e1, e6, e7, e8, e9, hk1, q4, kb, encA_len, encA_get, setE]
          refine ⟨lo + N / 4 * 2 + 2 - (i + 1), by omega, i + 1, swp d' i (lo + (k - N)), r', rfl, by omega, by omega, by push_cast; rfl, RowA.put2 hbl, permIn_trans _ _ _ _ _ hp (swp_permIn d' lo hi i (lo + (k - N)) (by omega) (by omega) (by omega) (by omega) (by omega)), (hfr'.set _).set _, ?_⟩
          exact hx'
      · simp -implicitDefEqProofs -dsimp (maxSteps := 1000000) (disch := first | omega | (simp only [wkLen]; omega) | decide +kernel) only [↓wkPre, ↓wkPre2, ↓wkE, wkPost, wkDef, wkF, simprocAttr, e0, e1, e6, e7, e8, e9]
        exact hq _ d' hrow hp hfr
    · simp -implicitDefEqProofs -dsimp (maxSteps := 1000000) (disch := first | omega | (simp only [wkLen]; omega) | decide +kernel) only [↓wkPre, ↓wkPre2, ↓wkE, wkPost, wkDef, wkF, simprocAttr]
      exact ⟨hr.keep (hs_app hbl0), permIn_refl _ _ _, (Frm.refl _ _).app _⟩
theorem wOrd2 (b g n : Nat) (ex : Bool) (x y c : Nat) (s : Nat) (d : Array Int) (H : Heap) (hn : d.size = n) (hr : RowA E 0 H b g d) (hx : x < n) (hy : y < n) (hc : H[c]? = some (.var true (.p (I s)))) (hs : s ≤ 1000) (Q : AV → Heap → Prop)
    (hq : ∀ H' x' y' s' : _, ((x' = x ∧ y' = y) ∨ (x' = y ∧ y' = x)) → s' ≤ s + 1 → H'[c]? = some (.var true (.p (I (s' : Nat)))) → (∀ i, i ≠ c → H'[i]? = H[i]?) → H'.length = H.length → Q (.p (.tup [I (x' : Nat), I (y' : Nat)])) H') :
    (W Cf okf).call 61 [.ref b g 0 n ex, .p (I x), .p (I y), .vptr c 0] H Q := by
  subst hn
  refine top_mk extMono Try.func61 body61 (by decide) rfl ?_
  simp only [c61, Try.f61, Option.getD_some]
  have kb : H[b]? = some (.arr true g 0 (encA E d)) := hr
  have hl : c < H.length := (List.getElem?_eq_some_iff.1 hc).1
  simp -implicitDefEqProofs -dsimp (maxSteps := 1000000) (disch := first | omega | (simp only [wkLen]; omega) | decide +kernel) only [↓wkPre, ↓wkPre2, ↓wkE, wkPost, wkDef, wkF, simprocAttr, kb, encA_len, encA_get]
  refine PS.app md_50 Try.func50 (pLess _ _) rfl ?_
  rintro _ rfl
  cases hl : ltInt d[y]! d[x]!
  · simp -implicitDefEqProofs -dsimp (maxSteps := 1000000) (disch := first | omega | (simp only [wkLen]; omega) | decide +kernel) only [↓wkPre, ↓wkPre2, ↓wkE, wkPost, wkDef, wkF, simprocAttr, kb, encA_len, encA_get]
    exact hq H x y s (.inl ⟨rfl, rfl⟩) (by omega) hc (fun _ _ => rfl) rfl
  · simp -implicitDefEqProofs -dsimp (maxSteps := 1000000) (disch := first | omega | (simp only [wkLen]; omega) | decide +kernel) only [↓wkPre, ↓wkPre2, ↓wkE, wkPost, wkDef, wkF, simprocAttr, kb, encA_len, encA_get, hc, nonNil]
    refine hq _ y x (s + 1) (.inr ⟨rfl, rfl⟩) (by omega) ?_ (fun i hi => hs_ne (fun e => hi e.symm)) (by simp)
    rw [hs_set (by omega)]; push_cast; rfl
theorem wMed (b g n : Nat) (ex : Bool) (x y z c : Nat) (s : Nat) (d : Array Int) (H : Heap) (hn : d.size = n) (hr : RowA E 0 H b g d) (hx : x < n) (hy : y < n) (hz : z < n) (hc : H[c]? = some (.var true (.p (I s)))) (hcb : c ≠ b) (hs : s ≤ 900) (Q : AV → Heap → Prop)
    (hq : ∀ H' r s' : _, (r = x ∨ r = y ∨ r = z) → s' ≤ s + 3 → H'[c]? = some (.var true (.p (I (s' : Nat)))) → (∀ i, i ≠ c → H'[i]? = H[i]?) → H'.length = H.length → Q (.p (I (r : Nat))) H') :
    (W Cf okf).call 59 [.ref b g 0 n ex, .p (I x), .p (I y), .p (I z), .vptr c 0] H Q := by
  refine top_mk extMono Try.func59 body59 (by decide) rfl ?_
  simp only [c59, Try.f59, Option.getD_some]
  simp -implicitDefEqProofs -dsimp (maxSteps := 1000000) (disch := first | omega | (simp only [wkLen]; omega) | decide +kernel) only [↓wkPre, ↓wkPre2, ↓wkE, wkPost, wkDef, wkF, simprocAttr]
  refine imp_call md_61 (wOrd2 b g n ex x y c s d H hn hr hx hy hc (by omega) _ ?_)
  intro H1 x1 y1 s1 h1 hs1 hc1 hk1 hl1
  simp -implicitDefEqProofs -dsimp (maxSteps := 1000000) (disch := first | omega | (simp only [wkLen]; omega) | decide +kernel) only [↓wkPre, ↓wkPre2, ↓wkE, wkPost, wkDef, wkF, simprocAttr]
  refine imp_call md_61 (wOrd2 b g n ex y1 z c s1 d H1 hn (hr.keep (hk1 b (fun e => hcb e.symm))) (by omega) hz hc1 (by omega) _ ?_)
  intro H2 y2 z2 s2 h2 hs2 hc2 hk2 hl2
  simp -implicitDefEqProofs -dsimp (maxSteps := 1000000) (disch := first | omega | (simp only [wkLen]; omega) | decide +kernel) only [↓wkPre, ↓wkPre2, ↓wkE, wkPost, wkDef, wkF, simprocAttr]
  refine imp_call md_61 (wOrd2 b g n ex x1 y2 c s2 d H2 hn ((hr.keep (hk1 b (fun e => hcb e.symm))).keep (hk2 b (fun e => hcb e.symm))) (by omega) (by omega) hc2 (by omega) _ ?_)
  intro H3 x3 y3 s3 h3 hs3 hc3 hk3 hl3
  simp -implicitDefEqProofs -dsimp (maxSteps := 1000000) (disch := first | omega | (simp only [wkLen]; omega) | decide +kernel) only [↓wkPre, ↓wkPre2, ↓wkE, wkPost, wkDef, wkF, simprocAttr]
  exact hq H3 y3 s3 (by omega) (by omega) hc3 (fun i hi => (hk3 i hi).trans ((hk2 i hi).trans (hk1 i hi))) (by omega)
theorem wPiv (b g n : Nat) (ex : Bool) (lo hi : Nat) (d : Array Int) (H : Heap) (hn : d.size = n) (hr : RowA E 0 H b g d) (hlh : lo < hi) (hh : hi ≤ d.size) (hs : d.size < 50) (Q : AV → Heap → Prop)
    (hq : ∀ H' p h : _, lo ≤ p → p < hi → RowA E 0 H' b g d → Frm b H H' → Q (.p (.tup [I (p : Nat), I (h : Int)])) H') : (W Cf okf).call 47 [.ref b g 0 n ex, .p (I lo), .p (I hi)] H Q := by
  refine top_mk extMono Try.func47 body47 (by decide) rfl ?_
  simp only [c47, Try.f47, Option.getD_some]
  have q1 : (hi : Int) - lo = ((hi - lo : Nat) : Int) := by omega
  have hbl0 := hr.lt
  have q2 : (lo : Int) + ((hi - lo : Nat) : Int) / 4 * 1 = ((lo + (hi - lo) / 4 : Nat) : Int) := by omega
  have q3 : (lo : Int) + ((hi - lo : Nat) : Int) / 4 * 2 = ((lo + (hi - lo) / 4 * 2 : Nat) : Int) := by omega
  have q4 : (lo : Int) + ((hi - lo : Nat) : Int) / 4 * 3 = ((lo + (hi - lo) / 4 * 3 : Nat) : Int) := by omega
  rcases Nat.lt_or_ge (hi - lo) 8 with h8 | h8
  · simp -implicitDefEqProofs -dsimp (maxSteps := 1000000) (disch := first | omega | (simp only [wkLen]; omega) | decide +kernel) only [↓wkPre, ↓wkPre2, ↓wkE, wkPost, wkDef, wkF, simprocAttr, q1, q2, q3, q4]
    exact hq _ (lo + (hi - lo) / 4 * 2) 1 (by omega) (by omega) (hr.keep (hs_app hbl0)) ((Frm.refl _ _).app _)
  · simp -implicitDefEqProofs -dsimp (maxSteps := 1000000) (disch := first | omega | (simp only [wkLen]; omega) | decide +kernel) only [↓wkPre, ↓wkPre2, ↓wkE, wkPost, wkDef, wkF, simprocAttr, q1, q2, q3, q4]
    refine imp_call md_59 (wMed b g n ex (lo + (hi - lo) / 4) (lo + (hi - lo) / 4 * 2) (lo + (hi - lo) / 4 * 3) H.length 0 d _ hn (hr.keep (hs_app hbl0)) (by omega) (by omega) (by omega) (by simp) (by omega) (by omega) _ ?_)
    intro H' r s' hrr hs' hc' hk' hl'
    have hrow : RowA E 0 H' b g d := (hr.keep (hs_app hbl0)).keep (hk' b (by omega))
    have hfr : Frm b H H' := ⟨fun i hi hl => (hk' i (by omega)).trans (hs_app hl), by rw [hl']; simp⟩
    have hs3 : s' = 0 ∨ (s' ≠ 0 ∧ ((s' : Int) == 0) = false ∧ ((s' : Int) == 12) = false) := by
      rcases Nat.eq_zero_or_pos s' with h | h
      · exact .inl h
      · exact .inr ⟨by omega, by simp; omega, by simp; omega⟩
    rcases hs3 with rfl | ⟨_, h0, h12⟩
    · simp -implicitDefEqProofs -dsimp (maxSteps := 1000000) (disch := first | omega | (simp only [wkLen]; omega) | decide +kernel) only [↓wkPre, ↓wkPre2, ↓wkE, wkPost, wkDef, wkF, simprocAttr, hc']
      exact hq _ r 1 (by omega) (by omega) hrow hfr
    · simp -implicitDefEqProofs -dsimp (maxSteps := 1000000) (disch := first | omega | (simp only [wkLen]; omega) | decide +kernel) only [↓wkPre, ↓wkPre2, ↓wkE, wkPost, wkDef, wkF, simprocAttr, hc', h0, h12]
      exact hq _ r 0 (by omega) (by omega) hrow hfr
theorem wPins (b g n : Nat) (ex : Bool) (lo hi : Nat) (d : Array Int) (H : Heap) (hn : d.size = n) (hr : RowA E 0 H b g d) (hlh : lo < hi) (hh : hi ≤ d.size) (hs : d.size < 50) (Q : AV → Heap → Prop)
    (hq : ∀ r : Bool, (r = true → SortedIn ltInt lo hi d) → Q (.p (B r)) H) : (W Cf okf).call 49 [.ref b g 0 n ex, .p (I lo), .p (I hi)] H Q := by
  subst hn
  refine top_mk extMono Try.func49 body49 (by decide) rfl ?_
  simp only [c49, Try.f49, Option.getD_some]
  have kb : H[b]? = some (.arr true g 0 (encA E d)) := hr
  simp -implicitDefEqProofs -dsimp (maxSteps := 1000000) (disch := first | omega | (simp only [wkLen]; omega) | decide +kernel) only [↓wkPre, ↓wkPre2, ↓wkE, wkPost, wkDef, wkF, simprocAttr]
  refine loop_use extMono (fun m e Hc => m = 0 ∧ e 0 = .ref b g 0 d.size ex ∧ e 1 = .p (I lo) ∧ e 2 = .p (I hi) ∧ e 7 = .p (I (lo + 1 : Nat)) ∧ e 8 = .p (I 0) ∧ Hc = H) ?_ 0 _ _ ⟨rfl, ?_⟩
  · rintro m e Hc ⟨rfl, e0, e1, e2, e7, e8, rfl⟩
    simp -implicitDefEqProofs -dsimp (maxSteps := 1000000) (disch := first | omega | (simp only [wkLen]; omega) | decide +kernel) only [↓wkPre, ↓wkPre2, ↓wkE, wkPost, wkDef, wkF, simprocAttr, e0, e1, e2, e7, e8]
    refine loop_use extMono (fun m e Hd => ∃ i : Nat, m = hi - i ∧ lo < i ∧ i ≤ hi ∧ SortedIn ltInt lo i d ∧ e 0 = .ref b g 0 d.size ex ∧ e 1 = .p (I lo) ∧ e 2 = .p (I hi) ∧ e 7 = .p (I i) ∧ Hd = Hc) ?_ (hi - (lo + 1)) _ _ ⟨lo + 1, rfl, by omega, by omega, ?_⟩
    · rintro m e Hd ⟨i, rfl, hli, hih, hso, e0, e1, e2, e7, rfl⟩
      rcases Nat.lt_or_ge i hi with h | h
      · have hk : (i : Int) - 1 = ((i - 1 : Nat) : Int) := by omega
        simp -implicitDefEqProofs -dsimp (maxSteps := 1000000) (disch := first | omega | (simp only [wkLen]; omega) | decide +kernel) only [↓wkPre, ↓wkPre2, ↓wkE, wkPost, wkDef, wkF, simprocAttr, e0, e1, e2, e7, kb, encA_len, encA_get, hk]
        refine PS.app md_50 Try.func50 (pLess _ _) rfl ?_
        rintro _ rfl
        cases hl : ltInt d[i]! d[i - 1]!
        · simp -implicitDefEqProofs -dsimp (maxSteps := 1000000) (disch := first | omega | (simp only [wkLen]; omega) | decide +kernel) only [↓wkPre, ↓wkPre2, ↓wkE, wkPost, wkDef, wkF, simprocAttr, e0, e1, e2, e7]
          exact ⟨hi - (i + 1), by omega, i + 1, rfl, by omega, by omega, SortedIn.snoc swo_ltInt hso hl, by push_cast; rfl⟩
        · simp -implicitDefEqProofs -dsimp (maxSteps := 1000000) (disch := first | omega | (simp only [wkLen]; omega) | decide +kernel) only [↓wkPre, ↓wkPre2, ↓wkE, wkPost, wkDef, wkF, simprocAttr, e0, e1, e2, e7]
          exact hq false (fun h => by cases h)
      · obtain rfl : i = hi := by omega
        simp -implicitDefEqProofs -dsimp (maxSteps := 1000000) (disch := first | omega | (simp only [wkLen]; omega) | decide +kernel) only [↓wkPre, ↓wkPre2, ↓wkE, wkPost, wkDef, wkF, simprocAttr, e0, e1, e2, e7]
        exact hq true (fun _ => hso)
    · simp -implicitDefEqProofs -dsimp (maxSteps := 1000000) (disch := first | omega | (simp only [wkLen]; omega) | decide +kernel) only [↓wkPre, ↓wkPre2, ↓wkE, wkPost, wkDef, wkF, simprocAttr]
      exact ⟨fun i j h1 h2 h3 => by omega, e0, e1, e2, e7⟩
  · simp -implicitDefEqProofs -dsimp (maxSteps := 1000000) (disch := first | omega | (simp only [wkLen]; omega) | decide +kernel) only [↓wkPre, ↓wkPre2, ↓wkE, wkPost, wkDef, wkF, simprocAttr]
    push_cast; rfl
end Go.Ev.F28
end
section
namespace Go.Ev.F28
open Go.Proofs Go.Ev Go.Sort
set_option maxRecDepth 100000
set_option linter.all false
theorem Below.permX {a b : Nat} {d d' : Array Int} (h : Below ltInt a b d) (hb : b ≤ d.size) (hp : PermIn a b d d') : Below ltInt a b d' := Below.perm h hb hp
set_option maxHeartbeats 4000000 in
theorem wPdq (b g n : Nat) (ex : Bool) : ∀ (N lo hi : Nat) (lim : Nat) (d : Array Int) (H : Heap) (_ : hi - lo ≤ N) (hn : d.size = n) (hr : RowA E 0 H b g d) (hlh : lo ≤ hi) (hh : hi ≤ d.size) (hs : d.size < 50) (hbe : Below ltInt lo hi d) (hlim : lim ≤ 1000) (Q : AV → Heap → Prop)
    (hq : ∀ H' d', RowA E 0 H' b g d' → PermIn lo hi d d' → SortedIn ltInt lo hi d' → Frm b H H' → Q (.p (.tup [])) H'), (W Cf okf).call 42 [.ref b g 0 n ex, .p (I lo), .p (I hi), .p (I lim)] H Q := by
  intro N
  induction N using Nat.strongRecOn with
  | ind N ih =>
  intro lo hi lim d H hN hn hr hlh hh hs hbe hlim Q hq
  refine top_mk extMono Try.func42 body42 (by decide) rfl ?_
  simp only [c42, Try.f42, Option.getD_some]
  simp -implicitDefEqProofs -dsimp (maxSteps := 1000000) (disch := first | omega | (simp only [wkLen]; omega) | decide +kernel) only [↓wkPre, ↓wkPre2, ↓wkE, wkPost, wkDef, wkF, simprocAttr]
  refine loop_use extMono (fun m e Hc => ∃ (l h li : Nat) (wb wp : Bool) (d' : Array Int), m = h - l ∧ lo ≤ l ∧ l ≤ h ∧ h ≤ hi ∧ li ≤ 1000 ∧ e 0 = .ref b g 0 n ex ∧ e 1 = .p (I l) ∧ e 2 = .p (I h) ∧ e 3 = .p (I li) ∧ e 8 = .p (B wb) ∧ e 9 = .p (B wp) ∧
    RowA E 0 Hc b g d' ∧ d'.size = n ∧ Frm b H Hc ∧ Below ltInt l h d' ∧ (∀ R, PermIn l h d' R → SortedIn ltInt l h R → PermIn lo hi d R ∧ SortedIn ltInt lo hi R)) ?_ (hi - lo) _ _ ⟨lo, hi, lim, true, true, d, rfl, Nat.le_refl _, hlh, Nat.le_refl _, hlim, ?_⟩
  · rintro m e Hc ⟨l, h, li, wb, wp, d', rfl, hll, hlh2, hhh, hli, e0, e1, e2, e3, e8, e9, hrow, hsz, hfr, hbel, hfin⟩
    have q1 : (h : Int) - l = ((h - l : Nat) : Int) := by omega
    rcases Nat.lt_or_ge 12 (h - l) with h12 | h12
    · rcases Nat.eq_zero_or_pos li with rfl | hlip
      · simp -implicitDefEqProofs -dsimp (maxSteps := 1000000) (disch := first | omega | (simp only [wkLen]; omega) | decide +kernel) only [↓wkPre, ↓wkPre2, ↓wkE, wkPost, wkDef, wkF, simprocAttr, e0, e1, e2, e3, e8, e9, q1, show ((0 : Nat) : Int) = 0 from rfl]
        refine imp_call md_45 (wHeap b g n ex l h d' Hc hsz hrow (by omega) (by omega) (by omega) _ ?_)
        intro H' hr' hs' hf'
        obtain ⟨p1, p2⟩ := heapSort_holds (lt := ltInt) swo_ltInt d' l h (by omega) (by omega)
        obtain ⟨r1, r2⟩ := hfin _ p1 p2
        simp -implicitDefEqProofs -dsimp (maxSteps := 1000000) (disch := first | omega | (simp only [wkLen]; omega) | decide +kernel) only [↓wkPre, ↓wkPre2, ↓wkE, wkPost, wkDef, wkF, simprocAttr]
        exact hq _ _ hr' r1 r2 (hfr.trans hf')
      · have hz : ((li : Int) == 0) = false := by simp; omega
        simp -implicitDefEqProofs -dsimp (maxSteps := 1000000) (disch := first | omega | (simp only [wkLen]; omega) | decide +kernel) only [↓wkPre, ↓wkPre2, ↓evC_region_st [7], ↓evC_text_st [7], ↓evC_cond, ↓evC_block, ↓evC_stop [7], wkPost, wkDef, wkF, simprocAttr, e0, e1, e2, e3, e8, e9, q1, hz]
        refine stop_go ?_
        simp -implicitDefEqProofs -dsimp (maxSteps := 1000000) (disch := first | omega | (simp only [wkLen]; omega) | decide +kernel) only [↓wkPre, ↓wkPre2, ↓evC_region, ↓evC_text, ↓evC_cond_stop, ↓evC_block, wkPost, wkDef, wkF, simprocAttr, e0, e1, e2, e3, e8, e9, q1, hz]
        -- 3: breakPatterns
        refine stop_cut extMono (fun e' H' => ∃ (li' : Nat) (d1 : Array Int), li' ≤ 1000 ∧ e' 0 = .ref b g 0 n ex ∧ e' 1 = .p (I l) ∧ e' 2 = .p (I h) ∧ e' 3 = .p (I li') ∧ e' 8 = .p (B wb) ∧ e' 9 = .p (B wp) ∧ e' 10 = .p (I (h - l : Nat)) ∧
          RowA E 0 H' b g d1 ∧ PermIn l h d' d1 ∧ Frm b H H') ?_ ?_
        · cases wb with
          | true =>
            simp -implicitDefEqProofs -dsimp (maxSteps := 1000000) (disch := first | omega | (simp only [wkLen]; omega) | decide +kernel) only [↓wkPre, ↓wkPre2, ↓wkE, wkPost, wkDef, wkF, simprocAttr, e0, e1, e2, e3, e8, e9]
            exact ⟨li, d', hli, rfl, hrow, permIn_refl _ _ _, hfr⟩
          | false =>
            have q2 : (li : Int) - 1 = ((li - 1 : Nat) : Int) := by omega
            simp -implicitDefEqProofs -dsimp (maxSteps := 1000000) (disch := first | omega | (simp only [wkLen]; omega) | decide +kernel) only [↓wkPre, ↓wkPre2, ↓wkE, wkPost, wkDef, wkF, simprocAttr, e0, e1, e2, e3, e8, e9, q2]
            refine imp_call md_46 (wBrk b g n ex l h d' Hc hsz hrow (by omega) (by omega) (by omega) _ ?_)
            intro H' d1 hr' hp' hf'
            simp -implicitDefEqProofs -dsimp (maxSteps := 1000000) (disch := first | omega | (simp only [wkLen]; omega) | decide +kernel) only [↓wkPre, ↓wkPre2, ↓wkE, wkPost, wkDef, wkF, simprocAttr, e0, e1, e2, e3, e8, e9, q2]
            exact ⟨li - 1, d1, by omega, rfl, hr', hp', hfr.trans hf'⟩
        clear e0 e1 e2 e3 e8 e9 hlip hz hli hfr hrow
        rintro e H1 ⟨li', d1, hli, e0, e1, e2, e3, e8, e9, e10, hrow, hp1, hfr⟩
        have hs1 : d1.size = n := hp1.1.trans hsz
        simp -implicitDefEqProofs -dsimp (maxSteps := 1000000) (disch := first | omega | (simp only [wkLen]; omega) | decide +kernel) only [↓wkPre, ↓wkPre2, ↓wkE, wkPost, wkDef, wkF, simprocAttr, e0, e1, e2, e3, e8, e9, e10]
        refine imp_call md_47 (wPiv b g n ex l h d1 H1 hs1 hrow (by omega) (by omega) (by omega) _ ?_)
        intro H2 p hint hlp hph hrow2 hf2
        replace hfr := hfr.trans hf2
        simp -implicitDefEqProofs -dsimp (maxSteps := 1000000) (disch := first | omega | (simp only [wkLen]; omega) | decide +kernel) only [↓wkPre, ↓wkPre2, ↓evC_region, ↓evC_text, ↓evC_cond_stop, ↓evC_block, wkPost, wkDef, wkF, simprocAttr, e0, e1, e2, e3, e8, e9, e10]
        -- 5: reverseRange
        refine stop_cut extMono (fun e' H' => ∃ (p hint : _) (d2 : Array Int), l ≤ p ∧ p < h ∧ e' 0 = .ref b g 0 n ex ∧ e' 1 = .p (I l) ∧ e' 2 = .p (I h) ∧ e' 3 = .p (I li') ∧ e' 8 = .p (B wb) ∧ e' 9 = .p (B wp) ∧ e' 10 = .p (I (h - l : Nat)) ∧ e' 11 = .p (I (p : Nat)) ∧ e' 12 = .p (I (hint : Int)) ∧
          RowA E 0 H' b g d2 ∧ PermIn l h d' d2 ∧ Frm b H H') ?_ ?_
        · cases hc : (hint == 2)
          · simp -implicitDefEqProofs -dsimp (maxSteps := 1000000) (disch := first | omega | (simp only [wkLen]; omega) | decide +kernel) only [↓wkPre, ↓wkPre2, ↓wkE, wkPost, wkDef, wkF, simprocAttr, e0, e1, e2, e3, e8, e9, e10, hc]
            exact ⟨p, hint, d1, hlp, hph, rfl, rfl, hrow2, hp1, hfr⟩
          · have q3 : (h : Int) - 1 - ((p : Int) - l) = ((h - 1 - (p - l) : Nat) : Int) := by omega
            simp -implicitDefEqProofs -dsimp (maxSteps := 1000000) (disch := first | omega | (simp only [wkLen]; omega) | decide +kernel) only [↓wkPre, ↓wkPre2, ↓wkE, wkPost, wkDef, wkF, simprocAttr, e0, e1, e2, e3, e8, e9, e10, hc, q3]
            refine imp_call md_48 (wRev b g n ex l h d1 H2 hs1 hrow2 (by omega) (by omega) (by omega) _ ?_)
            intro H' hr' hf'
            simp -implicitDefEqProofs -dsimp (maxSteps := 1000000) (disch := first | omega | (simp only [wkLen]; omega) | decide +kernel) only [↓wkPre, ↓wkPre2, ↓wkE, wkPost, wkDef, wkF, simprocAttr, e0, e1, e2, e3, e8, e9, e10, q3]
            exact ⟨h - 1 - (p - l), 1, _, by omega, by omega, rfl, rfl, hr', permIn_trans _ _ _ _ _ hp1 (reverseRange_holds d1 l h (by omega) (by omega)), hfr.trans hf'⟩
        clear e0 e1 e2 e3 e8 e9 e10 hrow hrow2 hfr hf2 hlp hph p hint hp1 hs1 d1
        rintro e H3 ⟨p, hint, d2, hlp, hph, e0, e1, e2, e3, e8, e9, e10, e11, e12, hrow, hp2, hfr⟩
        have hs2 : d2.size = n := hp2.1.trans hsz
        -- 6: partialInsertionSort
        simp -implicitDefEqProofs -dsimp (maxSteps := 1000000) (disch := first | omega | (simp only [wkLen]; omega) | decide +kernel) only [↓wkPre, ↓wkPre2, ↓evC_region_st [15], ↓evC_text_st [15], ↓evC_cond, ↓evC_block, ↓evC_stop [15], wkPost, wkDef, wkF, simprocAttr, e0, e1, e2, e3, e8, e9, e10, e11, e12]
        refine stop_cut extMono (fun e' H' => ∃ c : Bool, e' 0 = .ref b g 0 n ex ∧ e' 1 = .p (I l) ∧ e' 2 = .p (I h) ∧ e' 3 = .p (I li') ∧ e' 8 = .p (B wb) ∧ e' 9 = .p (B wp) ∧ e' 10 = .p (I (h - l : Nat)) ∧ e' 11 = .p (I p) ∧ e' 68 = .p (B c) ∧ H' = H3) ?_ ?_
        · cases wb
          · simp -implicitDefEqProofs -dsimp (maxSteps := 1000000) (disch := first | omega | (simp only [wkLen]; omega) | decide +kernel) only [↓wkPre, ↓wkPre2, ↓wkE, wkPost, wkDef, wkF, simprocAttr, e0, e1, e2, e3, e8, e9, e10, e11, e12]
            exact ⟨false, rfl⟩
          · cases wp
            · simp -implicitDefEqProofs -dsimp (maxSteps := 1000000) (disch := first | omega | (simp only [wkLen]; omega) | decide +kernel) only [↓wkPre, ↓wkPre2, ↓wkE, wkPost, wkDef, wkF, simprocAttr, e0, e1, e2, e3, e8, e9, e10, e11, e12]
              exact ⟨false, rfl⟩
            · simp -implicitDefEqProofs -dsimp (maxSteps := 1000000) (disch := first | omega | (simp only [wkLen]; omega) | decide +kernel) only [↓wkPre, ↓wkPre2, ↓wkE, wkPost, wkDef, wkF, simprocAttr, e0, e1, e2, e3, e8, e9, e10, e11, e12]
              exact ⟨_, rfl⟩
        clear e0 e1 e2 e3 e8 e9 e10 e11 e12
        rintro e H' ⟨c, e0, e1, e2, e3, e8, e9, e10, e11, e68, rfl⟩
        simp -implicitDefEqProofs -dsimp (maxSteps := 1000000) (disch := first | omega | (simp only [wkLen]; omega) | decide +kernel) only [↓wkPre, ↓wkPre2, ↓evC_region, ↓evC_text, ↓evC_cond_stop, ↓evC_block, wkPost, wkDef, wkF, simprocAttr]
        refine stop_cutK extMono (fun e' H'' => e' 0 = .ref b g 0 n ex ∧ e' 1 = .p (I l) ∧ e' 2 = .p (I h) ∧ e' 3 = .p (I li') ∧ e' 8 = .p (B wb) ∧ e' 9 = .p (B wp) ∧ e' 10 = .p (I (h - l : Nat)) ∧ e' 11 = .p (I p) ∧ H'' = H') ?_ ?_
        · cases c
          · simp -implicitDefEqProofs -dsimp (maxSteps := 1000000) (disch := first | omega | (simp only [wkLen]; omega) | decide +kernel) only [↓wkPre, ↓wkPre2, ↓wkE, wkPost, wkDef, wkF, simprocAttr, e0, e1, e2, e3, e8, e9, e10, e11, e68, onNK_normal]
          · simp -implicitDefEqProofs -dsimp (maxSteps := 1000000) (disch := first | omega | (simp only [wkLen]; omega) | decide +kernel) only [↓wkPre, ↓wkPre2, ↓wkE, wkPost, wkDef, wkF, simprocAttr, e0, e1, e2, e3, e8, e9, e10, e11, e68, onNK_normal]
            refine imp_call md_49 (wPins b g n ex l h d2 H' hs2 hrow (by omega) (by omega) (by omega) _ ?_)
            intro r hr
            cases r
            · simp -implicitDefEqProofs -dsimp (maxSteps := 1000000) (disch := first | omega | (simp only [wkLen]; omega) | decide +kernel) only [↓wkPre, ↓wkPre2, ↓wkE, wkPost, wkDef, wkF, simprocAttr, e0, e1, e2, e3, e8, e9, e10, e11, e68, onNK_normal]
            · obtain ⟨r1, r2⟩ := hfin _ hp2 (hr rfl)
              simp -implicitDefEqProofs -dsimp (maxSteps := 1000000) (disch := first | omega | (simp only [wkLen]; omega) | decide +kernel) only [↓wkPre, ↓wkPre2, ↓wkE, wkPost, wkDef, wkF, simprocAttr, e0, e1, e2, e3, e8, e9, e10, e11, e68, ↓onNK_ret]
              exact hq _ _ hrow r1 r2 hfr
        clear e0 e1 e2 e3 e8 e9 e10 e11 e68
        rintro e H'' ⟨e0, e1, e2, e3, e8, e9, e10, e11, rfl⟩
        have hbel2 : Below ltInt l h d2 := Below.perm hbel (by omega) hp2
        have kb : H''[b]? = some (.arr true g 0 (encA E d2)) := hrow
        have hfin2 : ∀ R, PermIn l h d2 R → SortedIn ltInt l h R → PermIn lo hi d R ∧ SortedIn ltInt lo hi R := fun R h1 h2 => hfin R (permIn_trans _ _ _ _ _ hp2 h1) h2
        have q1 : (h : Int) - l = ((h - l : Nat) : Int) := by omega
        clear hfin hbel
        simp -implicitDefEqProofs -dsimp (maxSteps := 1000000) (disch := first | omega | (simp only [wkLen]; omega) | decide +kernel) only [↓wkPre, ↓wkPre2, ↓evC_region_st [17], ↓evC_text_st [17], ↓evC_cond, ↓evC_block, ↓evC_stop [17], wkPost, wkDef, wkF, simprocAttr]
        -- 7: partitionEqual
        refine stop_cut extMono (fun e' H' => ∃ c : Bool, (c = true → 0 < l ∧ ltInt d2[l - 1]! d2[p]! = false) ∧ e' 0 = .ref b g 0 n ex ∧ e' 1 = .p (I l) ∧ e' 2 = .p (I h) ∧ e' 3 = .p (I li') ∧ e' 8 = .p (B wb) ∧ e' 9 = .p (B wp) ∧ e' 10 = .p (I (h - l : Nat)) ∧ e' 11 = .p (I p) ∧ e' 87 = .p (B c) ∧ H' = H'') ?_ ?_
        · rcases Nat.eq_zero_or_pos l with h0 | h0
          · have e1' : e 1 = .p (I 0) := by rw [e1, h0]; rfl
            simp -implicitDefEqProofs -dsimp (maxSteps := 1000000) (disch := first | omega | (simp only [wkLen]; omega) | decide +kernel) only [↓wkPre, ↓wkPre2, ↓wkE, wkPost, wkDef, wkF, simprocAttr, e0, e1', e2, e3, e8, e9, e10, e11]
            exact ⟨false, fun h => (by cases h), by rw [h0]; rfl, rfl⟩
          · have q3 : (l : Int) - 1 = ((l - 1 : Nat) : Int) := by omega
            simp -implicitDefEqProofs -dsimp (maxSteps := 1000000) (disch := first | omega | (simp only [wkLen]; omega) | decide +kernel) only [↓wkPre, ↓wkPre2, ↓wkE, wkPost, wkDef, wkF, simprocAttr, e0, e1, e2, e3, e8, e9, e10, e11, kb, encA_get, q3]
            refine PS.app md_50 Try.func50 (pLess _ _) rfl ?_
            rintro _ rfl
            simp -implicitDefEqProofs -dsimp (maxSteps := 1000000) (disch := first | omega | (simp only [wkLen]; omega) | decide +kernel) only [↓wkPre, ↓wkPre2, ↓wkE, wkPost, wkDef, wkF, simprocAttr, e0, e1, e2, e3, e8, e9, e10, e11]
            refine ⟨!ltInt d2[l - 1]! d2[p]!, fun h => ⟨h0, by simpa using h⟩, rfl⟩
        clear e0 e1 e2 e3 e8 e9 e10 e11
        rintro e H4 ⟨c, hc, e0, e1, e2, e3, e8, e9, e10, e11, e87, rfl⟩
        cases c
        · -- 8: partition
          simp -implicitDefEqProofs -dsimp (maxSteps := 1000000) (disch := first | omega | (simp only [wkLen]; omega) | decide +kernel) only [↓wkPre, ↓wkPre2, ↓wkE, wkPost, wkDef, wkF, simprocAttr, e0, e1, e2, e3, e8, e9, e10, e11, e87]
          refine imp_call md_52 (wPart b g n ex l h p d2 H4 hs2 hrow (by omega) (by omega) (by omega) (by omega) _ ?_)
          intro H5 ap hrow5 hf5
          replace hfr := hfr.trans hf5
          obtain ⟨mid, ap', d4, hx⟩ : ∃ mid ap' d4, partition ltInt d2 l h p = (mid, ap', d4) := ⟨_, _, _, rfl⟩
          obtain ⟨m1, m2, hs4, hbl, hbr, hL, hR⟩ := round_part swo_ltInt (partition_holds ltInt) (by omega) (by omega) (by omega) hbel2 hx
          rw [hx] at hrow5 ⊢
          simp only at hrow5 ⊢
          have hs4' : d4.size = n := hs4.trans hs2
          have q4 : (mid : Int) - l = ((mid - l : Nat) : Int) := by omega
          have q5 : (h : Int) - mid = ((h - mid : Nat) : Int) := by omega
          rcases Nat.lt_or_ge (mid - l) (h - mid) with hlt | hge
          · simp -implicitDefEqProofs -dsimp (maxSteps := 1000000) (disch := first | omega | (simp only [wkLen]; omega) | decide +kernel) only [↓wkPre, ↓wkPre2, ↓wkE, wkPost, wkDef, wkF, simprocAttr, e0, e1, e2, e3, e8, e9, e10, e11, q4, q5]
            refine imp_call md_42 (ih (mid - l) (by omega) l mid li' d4 H5 (Nat.le_refl _) hs4' hrow5 (by omega) (by omega) (by omega) hbl hli _ ?_)
            intro H6 d6 hrow6 hp6 hso6 hf6
            obtain ⟨hb6, hfin6⟩ := hL d6 hp6 hso6
            simp -implicitDefEqProofs -dsimp (maxSteps := 1000000) (disch := first | omega | (simp only [wkLen]; omega) | decide +kernel) only [↓wkPre, ↓wkPre2, ↓wkE, wkPost, wkDef, wkF, simprocAttr, e0, e1, e2, e3, e8, e9, e10, e11, q4, q5]
            exact ⟨h - (mid + 1), by omega, mid + 1, h, li', _, ap, d6, rfl, by omega, by omega, by omega, hli, by push_cast; rfl, rfl, rfl, rfl, rfl, hrow6, hp6.1.trans hs4', hfr.trans hf6, hb6, fun R r1 r2 => by
              obtain ⟨x1, x2⟩ := hfin6 R r1 r2
              exact hfin2 R x1 x2⟩
          · have q6 : (mid : Int) + 1 = ((mid + 1 : Nat) : Int) := by omega
            simp -implicitDefEqProofs -dsimp (maxSteps := 1000000) (disch := first | omega | (simp only [wkLen]; omega) | decide +kernel) only [↓wkPre, ↓wkPre2, ↓wkE, wkPost, wkDef, wkF, simprocAttr, e0, e1, e2, e3, e8, e9, e10, e11, q4, q5, q6]
            refine imp_call md_42 (ih (h - (mid + 1)) (by omega) (mid + 1) h li' d4 H5 (Nat.le_refl _) hs4' hrow5 (by omega) (by omega) (by omega) hbr hli _ ?_)
            intro H6 d6 hrow6 hp6 hso6 hf6
            obtain ⟨hb6, hfin6⟩ := hR d6 hp6 hso6
            simp -implicitDefEqProofs -dsimp (maxSteps := 1000000) (disch := first | omega | (simp only [wkLen]; omega) | decide +kernel) only [↓wkPre, ↓wkPre2, ↓wkE, wkPost, wkDef, wkF, simprocAttr, e0, e1, e2, e3, e8, e9, e10, e11, q4, q5]
            exact ⟨mid - l, by omega, l, mid, li', _, ap, d6, rfl, by omega, by omega, by omega, hli, rfl, rfl, rfl, rfl, rfl, hrow6, hp6.1.trans hs4', hfr.trans hf6, hb6, fun R r1 r2 => by
              obtain ⟨x1, x2⟩ := hfin6 R r1 r2
              exact hfin2 R x1 x2⟩
        · obtain ⟨hl0, hnl⟩ := hc rfl
          simp -implicitDefEqProofs -dsimp (maxSteps := 1000000) (disch := first | omega | (simp only [wkLen]; omega) | decide +kernel) only [↓wkPre, ↓wkPre2, ↓wkE, wkPost, wkDef, wkF, simprocAttr, e0, e1, e2, e3, e8, e9, e10, e11, e87]
          refine imp_call md_51 (wPeq b g n ex l h p d2 H4 hs2 hrow (by omega) (by omega) (by omega) (by omega) _ ?_)
          intro H5 hrow5 hf5
          obtain ⟨mid, d4, hx⟩ : ∃ mid d4, partitionEqual ltInt d2 l h p = (mid, d4) := ⟨_, _, rfl⟩
          obtain ⟨m1, m2, hs4, hb4, hfin4⟩ := round_eq swo_ltInt (partitionEqual_holds ltInt) hl0 (by omega) (by omega) (by omega) hbel2 hnl hx
          rw [hx] at hrow5 ⊢
          simp only at hrow5 ⊢
          simp -implicitDefEqProofs -dsimp (maxSteps := 1000000) (disch := first | omega | (simp only [wkLen]; omega) | decide +kernel) only [↓wkPre, ↓wkPre2, ↓wkE, wkPost, wkDef, wkF, simprocAttr, e0, e1, e2, e3, e8, e9, e10, e11]
          exact ⟨h - mid, by omega, mid, h, li', wb, wp, d4, rfl, by omega, by omega, by omega, hli, rfl, rfl, rfl, rfl, rfl, hrow5, hs4.trans hs2, hfr.trans hf5, hb4, fun R r1 r2 => by
            obtain ⟨x1, x2⟩ := hfin4 R r1 r2
            exact hfin2 R x1 x2⟩
    · simp -implicitDefEqProofs -dsimp (maxSteps := 1000000) (disch := first | omega | (simp only [wkLen]; omega) | decide +kernel) only [↓wkPre, ↓wkPre2, ↓wkE, wkPost, wkDef, wkF, simprocAttr, e0, e1, e2, e3, e8, e9, q1]
      refine imp_call md_44 (wIns b g n ex l h d' Hc hsz hrow (by omega) (by omega) (by omega) _ ?_)
      intro H' hr' hf'
      obtain ⟨p1, p2⟩ := insertionSort_holds (lt := ltInt) swo_ltInt d' l h (by omega) (by omega)
      obtain ⟨r1, r2⟩ := hfin _ p1 p2
      simp -implicitDefEqProofs -dsimp (maxSteps := 1000000) (disch := first | omega | (simp only [wkLen]; omega) | decide +kernel) only [↓wkPre, ↓wkPre2, ↓wkE, wkPost, wkDef, wkF, simprocAttr]
      exact hq _ _ hr' r1 r2 (hfr.trans hf')
  · simp -implicitDefEqProofs -dsimp (maxSteps := 1000000) (disch := first | omega | (simp only [wkLen]; omega) | decide +kernel) only [↓wkPre, ↓wkPre2, ↓wkE, wkPost, wkDef, wkF, simprocAttr]
    exact ⟨hr, hn, Frm.refl _ _, hbe, fun R h1 h2 => ⟨h1, h2⟩⟩
theorem wSort (b g : Nat) (ex : Bool) (d : Array Int) (H : Heap) (hr : RowA E 0 H b g d) (hs : d.size < 50) (Q : AV → Heap → Prop)
    (hq : ∀ H' d', RowA E 0 H' b g d' → d'.toList = d.toList.mergeSort (fun x y => !ltInt y x) → Frm b H H' → Q (.p (.tup [])) H') : (W Cf okf).call 35 [.ref b g 0 d.size ex] H Q := by
  refine top_mk extMono Try.func35 body35 (by decide) rfl ?_
  simp only [c35, Try.f35, Option.getD_some]
  simp -implicitDefEqProofs -dsimp (maxSteps := 1000000) (disch := first | omega | (simp only [wkLen]; omega) | decide +kernel) only [↓wkPre, ↓wkPre2, ↓wkE, wkPost, wkDef, wkF, simprocAttr]
  refine PS.app md_43 Try.func43 (pLen d.size (by omega)) rfl ?_
  rintro _ rfl
  have hl : bitsLen d.size ≤ 1000 := by
    have := (bitsLen_le_iff d.size 10).2 (by omega)
    omega
  simp -implicitDefEqProofs -dsimp (maxSteps := 1000000) (disch := first | omega | (simp only [wkLen]; omega) | decide +kernel) only [↓wkPre, ↓wkPre2, ↓wkE, wkPost, wkDef, wkF, simprocAttr]
  refine imp_call md_42 (wPdq b g d.size ex d.size 0 d.size (bitsLen d.size) d H (by omega) rfl hr (by omega) (by omega) hs (.inl rfl) hl _ ?_)
  intro H' d' hr' hp hso hf
  simp -implicitDefEqProofs -dsimp (maxSteps := 1000000) (disch := first | omega | (simp only [wkLen]; omega) | decide +kernel) only [↓wkPre, ↓wkPre2, ↓wkE, wkPost, wkDef, wkF, simprocAttr]
  have h1 := hp.1
  refine hq H' d' hr' ?_ hf
  refine sorted_unique_holds swo_ltInt (fun x y h1 h2 => by simp [ltInt] at h1 h2; omega) d d' hp hso
theorem wSort0 (H : Heap) (Q : AV → Heap → Prop) (hq : Q (.p (.tup [])) H) : (W Cf okf).call 35 [.nsl] H Q := by
  refine top_mk extMono Try.func35 body35 (by decide) rfl ?_
  simp only [c35, Try.f35, Option.getD_some]
  simp -implicitDefEqProofs -dsimp (maxSteps := 1000000) (disch := first | omega | (simp only [wkLen]; omega) | decide +kernel) only [↓wkPre, ↓wkPre2, ↓wkE, wkPost, wkDef, wkF, simprocAttr]
  refine PS.app md_43 Try.func43 (pLen 0 (by omega)) rfl ?_
  rintro _ rfl
  simp -implicitDefEqProofs -dsimp (maxSteps := 1000000) (disch := first | omega | (simp only [wkLen]; omega) | decide +kernel) only [↓wkPre, ↓wkPre2, ↓wkE, wkPost, wkDef, wkF, simprocAttr]
  refine imp_app extMono md_42 Try.func42 body42 (by decide) rfl ?_
  simp only [c42, Try.f42, Option.getD_some]
  simp -implicitDefEqProofs -dsimp (maxSteps := 1000000) (disch := first | omega | (simp only [wkLen]; omega) | decide +kernel) only [↓wkPre, ↓wkPre2, ↓wkE, wkPost, wkDef, wkF, simprocAttr]
  refine loop_use extMono (fun m e Hc => m = 0 ∧ e 0 = .nsl ∧ e 1 = .p (I 0) ∧ e 2 = .p (I 0) ∧ Hc = H) ?_ 0 _ _ ⟨rfl, ?_⟩
  · rintro m e Hc ⟨rfl, e0, e1, e2, rfl⟩
    simp -implicitDefEqProofs -dsimp (maxSteps := 1000000) (disch := first | omega | (simp only [wkLen]; omega) | decide +kernel) only [↓wkPre, ↓wkPre2, ↓wkE, wkPost, wkDef, wkF, simprocAttr, e0, e1, e2]
    refine imp_app extMono md_44 Try.func44 body44 (by decide) rfl ?_
    simp only [c44, Try.f44, Option.getD_some]
    simp -implicitDefEqProofs -dsimp (maxSteps := 1000000) (disch := first | omega | (simp only [wkLen]; omega) | decide +kernel) only [↓wkPre, ↓wkPre2, ↓wkE, wkPost, wkDef, wkF, simprocAttr]
    refine loop_use extMono (fun m e Hd => m = 0 ∧ e 2 = .p (I 0) ∧ e 6 = .p (I 1) ∧ Hd = Hc) ?_ 0 _ _ ⟨rfl, ?_⟩
    · rintro m e Hd ⟨rfl, e2, e6, rfl⟩
      simp -implicitDefEqProofs -dsimp (maxSteps := 1000000) (disch := first | omega | (simp only [wkLen]; omega) | decide +kernel) only [↓wkPre, ↓wkPre2, ↓wkE, wkPost, wkDef, wkF, simprocAttr, e2, e6]
      exact hq
    · simp -implicitDefEqProofs -dsimp (maxSteps := 1000000) (disch := first | omega | (simp only [wkLen]; omega) | decide +kernel) only [↓wkPre, ↓wkPre2, ↓wkE, wkPost, wkDef, wkF, simprocAttr]
  · simp -implicitDefEqProofs -dsimp (maxSteps := 1000000) (disch := first | omega | (simp only [wkLen]; omega) | decide +kernel) only [↓wkPre, ↓wkPre2, ↓wkE, wkPost, wkDef, wkF, simprocAttr]
end Go.Ev.F28
end
