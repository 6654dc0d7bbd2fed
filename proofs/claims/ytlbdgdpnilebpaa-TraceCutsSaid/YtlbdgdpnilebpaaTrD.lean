/- A part of the proof: walks of the functions that the law calls. No condition. -/
import Derived.Test.YtlbdgdpnilebpaaTrC
set_option linter.all false
section
namespace Go.Ev.F35
open Go.Proofs Go.Ev
set_option maxRecDepth 100000
set_option linter.all false
def atS (m : Mo) (w : Nat) : Mi := (m.S[w]?).getD mi0
theorem Wfm.at {m : Mo} {k : Nat} (h : Wfm m k) : m.S[0]? = some (atS m 0) := by
  have h5 := h.n5
  unfold atS
  rw [List.getElem?_eq_getElem (by omega)]
  rfl
theorem wDo {H : Heap} {c : Fm} {m : Mo} {k : Nat} (h : FI H c m) (hk : k ≤ 500) (wf : Wfm m k) (o : Ao) (hn : inI o.n) (Q : AV → Heap → Prop)
    (hq : ∀ H' c' v, FI H' c' (doF m (atS m 0) 0 o).1 → Wfm (doF m (atS m 0) 0 o).1 (k + 1) → Kp c c' H H' → TS H' v 6 (rcs (doF m (atS m 0) 0 o).2.recs) → (doF m (atS m 0) 0 o).2.recs.length ≤ 1000 → Q (.agg [.p (I (doF m (atS m 0) 0 o).2.code), v, .p (I (doF m (atS m 0) 0 o).2.n)]) H') :
    (W Cf okf).call 32 [.vptr c.pp 0, .p (I (0 : Nat)), .p (aoP o)] H Q := by
  have hwat := wf.at
  have hbd := wf.bd hwat
  have hmw := wf.mem hwat
  exact w13 h wf.asc 0 hwat o (by omega) (by have := hmw.ls; omega) hmw.sv hmw.nd Q fun H' c' v h1 h2 h3 => hq H' c' v h1 (doF_wf wf hwat hn) h2 h3 (doF_an (by omega))
def entF (m : Mo) : Mo := ⟨m.M, m.S.set 0 (onMi (atS m 0))⟩
def levF (m : Mo) : Mo := ⟨m.M, m.S.set 0 mi0⟩
def evF (m : Mo) (v : Vt) : Mo := if v.a.code = 6 then entF m else (doF m (atS m 0) 0 v.o).1
def okF (m : Mo) (v : Vt) : Bool := if v.a.code = 6 then true else decide (toAg (doF m (atS m 0) 0 v.o).2 = v.a)
def playF : Mo → List Vt → Mo × Nat
  | m, [] => (m, 0)
  | m, v :: L => if okF m v = true then ((playF (evF m v) L).1, (playF (evF m v) L).2 + 1) else (evF m v, 0)
def repF : Mo → Int → List Tx → Int × Int
  | _, _, [] => (-1, -1)
  | m, i, t :: T => if (playF m t.evs).2 < t.evs.length then (i, (playF m t.evs).2) else repF (levF (playF m t.evs).1) (i + 1) T
def allF (m : Mo) (L : List Vt) : Mo := L.foldl evF m
def finF (m : Mo) (T : List Tx) : Mo := T.foldl (fun m t => levF (allF m t.evs)) m
def mo1 : Mo := ⟨[], [mi0]⟩
theorem evF_wf {m : Mo} {k : Nat} (h : Wfm m k) (v : Vt) (hn : inI v.o.n) : Wfm (evF m v) (k + 1) := by
  unfold evF
  split
  · exact (h.enter h.at).le (by omega)
  · exact doF_wf h h.at hn
theorem levF_wf {m : Mo} {k : Nat} (h : Wfm m k) : Wfm (levF m) k := h.leave (by omega)
theorem play_len : ∀ (L : List Vt) (m : Mo), (playF m L).2 ≤ L.length
  | [], _ => Nat.le_refl _
  | v :: L, m => by
    rw [playF]
    have := play_len L (evF m v)
    split
    · simp only [List.length_cons]; omega
    · exact Nat.zero_le _
theorem play_all : ∀ (L : List Vt) (m : Mo), (playF m L).2 = L.length → (playF m L).1 = allF m L
  | [], _, _ => rfl
  | v :: L, m, h => by
    rw [playF] at h ⊢
    split at h
    · rename_i hk
      rw [if_pos hk]
      exact play_all L (evF m v) (by simp only [List.length_cons] at h; omega)
    · simp at h
theorem all_wf : ∀ (L : List Vt) {m : Mo} {k : Nat}, Wfm m k → (∀ v ∈ L, inI v.o.n) → Wfm (allF m L) (k + L.length)
  | [], m, k, h, _ => h
  | v :: L, m, k, h, hn => by
    have := all_wf L (evF_wf h v (hn v List.mem_cons_self)) (fun x hx => hn x (List.mem_cons_of_mem _ hx))
    rw [List.length_cons, show k + (L.length + 1) = k + 1 + L.length by omega]
    exact this
theorem play_wf : ∀ (L : List Vt) {m : Mo} {k : Nat}, Wfm m k → (∀ v ∈ L, inI v.o.n) → Wfm (playF m L).1 (k + L.length)
  | [], m, k, h, _ => h
  | v :: L, m, k, h, hn => by
    have h1 := evF_wf h v (hn v List.mem_cons_self)
    have := play_wf L h1 (fun x hx => hn x (List.mem_cons_of_mem _ hx))
    rw [playF, List.length_cons, show k + (L.length + 1) = k + 1 + L.length by omega]
    split
    · exact this
    · exact h1.le (by omega)
theorem evF_snoc (m : Mo) (L : List Vt) (v : Vt) : allF m (L ++ [v]) = evF (allF m L) v := by simp [allF]
theorem drop_cons {α : Type} {L : List α} {i : Nat} (h : i < L.length) : L.drop i = L[i] :: L.drop (i + 1) := List.drop_eq_getElem_cons h
def totE (T : List Tx) : Nat := (T.map fun t => t.evs.length).sum
theorem totE_snoc (T : List Tx) (t : Tx) : totE (T ++ [t]) = totE T + t.evs.length := by simp [totE]
theorem totE_take (T : List Tx) {i : Nat} (h : i < T.length) : totE (T.take i) + T[i].evs.length ≤ totE T := by
  have h1 : totE T = totE (T.take (i + 1)) + totE (T.drop (i + 1)) := by
    unfold totE
    rw [← List.sum_append, ← List.map_append, List.take_append_drop]
  rw [List.take_succ_eq_append_getElem h, totE_snoc] at h1
  omega
theorem finF_snoc (m : Mo) (T : List Tx) (t : Tx) : finF m (T ++ [t]) = levF (allF (finF m T) t.evs) := by simp [finF]
theorem nn_vv (b o : Nat) : nonNil (.vptr b o) = some (.vptr b o) := rfl
set_option maxHeartbeats 2000000 in
theorem q19 (T : List Tx) (hT : T.length ≤ 1000) (he : totE T ≤ 400) (hn : ∀ t ∈ T, ∀ v ∈ t.evs, inI v.o.n) : PS Cf okf 19 [36] [.sl 4 (txs T)] (fun v => v = .sl 6 (rcs (finF mo1 T).M)) := by
  refine PS.mk extMono Try.func19 body19 (by decide) rfl ?_
  simp only [c19, Try.f19, Option.getD_some]
  have hl := txs_len T
  simp -implicitDefEqProofs -dsimp (maxSteps := 1000000) (disch := first | omega | (simp only [wkLen]; omega) | decide +kernel) only [↓wkPre, ↓wkPre2, ↓wkE, wkPost, wkDef, wkF, simprocAttr]
  refine imp_call md_30 (w8 _ _ ?_)
  intro H c hFI hft hfr hle
  have hI : FI H c mo1 := hFI 1
  clear hFI hft hfr hle
  simp -implicitDefEqProofs -dsimp (maxSteps := 1000000) (disch := first | omega | (simp only [wkLen]; omega) | decide +kernel) only [↓wkPre, ↓wkPre2, ↓wkE, wkPost, wkDef, wkF, simprocAttr, nn_vv, hl]
  refine loop_use extMono (fun m' e G => ∃ (i : Nat) (c : Fm), m' = T.length - i ∧ i ≤ T.length ∧ e 3 = .vptr c.pp 0 ∧ e 9 = .p (.sl 4 (txs T)) ∧ e 10 = .p (I T.length) ∧ e 11 = .p (I i) ∧ FI G c (finF mo1 (T.take i)) ∧ Wfm (finF mo1 (T.take i)) (totE (T.take i))) ?_ T.length _ _ ⟨0, c, rfl, by omega, ?_⟩
  · clear hI c H
    rintro m' e G ⟨i, c, rfl, hi, e3, e9, e10, e11, hI, wf⟩
    rcases Nat.lt_or_ge i T.length with hlt | hge
    · have gi := txs_get hlt
      have hni := hn _ (List.getElem_mem hlt)
      have htot := totE_take T hlt
      have hsn : finF mo1 (T.take (i + 1)) = levF (allF (finF mo1 (T.take i)) T[i].evs) := by
        rw [List.take_succ_eq_append_getElem hlt, finF_snoc]
      have htn : totE (T.take (i + 1)) = totE (T.take i) + T[i].evs.length := by
        rw [List.take_succ_eq_append_getElem hlt, totE_snoc]
      generalize finF mo1 (T.take i) = m at hI wf hsn
      generalize T[i] = t at gi hni htot hsn htn
      obtain ⟨twho, L, td, tp⟩ := t
      dsimp only at hni htot hsn htn
      have hLl := vts_len L
      simp -implicitDefEqProofs -dsimp (maxSteps := 1000000) (disch := first | omega | (simp only [wkLen]; omega) | decide +kernel) only [↓wkPre, ↓wkPre2, ↓wkE, wkPost, wkDef, wkF, simprocAttr, nn_vv, e3, e9, e10, e11, hl, gi, hLl]
      refine loop_use extMono (fun m' e G => ∃ (j : Nat) (c : Fm), m' = L.length - j ∧ j ≤ L.length ∧ e 3 = .vptr c.pp 0 ∧ e 9 = .p (.sl 4 (txs T)) ∧ e 10 = .p (I T.length) ∧ e 11 = .p (I i) ∧ e 16 = .p (.sl 16 (vts L)) ∧ e 17 = .p (I L.length) ∧ e 18 = .p (I j) ∧ FI G c (allF m (L.take j)) ∧ Wfm (allF m (L.take j)) (totE (T.take i) + j)) ?_ L.length _ _ ⟨0, c, rfl, by omega, ?_⟩
      · clear hI wf e3 e9 e10 e11 e c G
        rintro m' e G ⟨j, c, rfl, hj, e3, e9, e10, e11, e16, e17, e18, hI, wf⟩
        rcases Nat.lt_or_ge j L.length with hlj | hgj
        · have gj := vts_get hlj
          have hnj := hni _ (List.getElem_mem hlj)
          have hsj : allF m (L.take (j + 1)) = evF (allF m (L.take j)) L[j] := by rw [List.take_succ_eq_append_getElem hlj, evF_snoc]
          have wf1 := evF_wf wf L[j] hnj
          rw [← hsj] at wf1
          generalize allF m (L.take j) = mj at hI wf hsj
          generalize L[j] = v at gj hnj hsj
          have hI2 : FI (G ++ [.var true (.p (vtP v))]) c mj := hI.keep fun i hi => hs_app (hI.lt hi)
          unfold evF at hsj
          by_cases h6 : v.a.code = 6
          · rw [if_pos h6] at hsj
            simp -implicitDefEqProofs -dsimp (maxSteps := 1000000) (disch := first | omega | (simp only [wkLen]; omega) | decide +kernel) only [↓wkPre, ↓wkPre2, ↓wkE, wkPost, wkDef, wkF, simprocAttr, nn_vv, e3, e9, e10, e11, e16, e17, e18, gj, hLl, h6]
            refine imp_call md_31 (w19 hI2 0 wf.at _ ?_)
            intro H' c' r1 r2
            simp -implicitDefEqProofs -dsimp (maxSteps := 1000000) (disch := first | omega | (simp only [wkLen]; omega) | decide +kernel) only [↓wkPre, ↓wkPre2, ↓wkE, wkPost, wkDef, wkF, simprocAttr, nn_vv, e3, e9, e10, e11, e16, e17, e18]
            exact ⟨L.length - (j + 1), by omega, j + 1, c', rfl, by omega, by rw [r2.pp], by push_cast; rfl, by rw [hsj]; exact r1, by rw [← Nat.add_assoc]; exact wf1⟩
          · rw [if_neg h6] at hsj
            simp -implicitDefEqProofs -dsimp (maxSteps := 1000000) (disch := first | omega | (simp only [wkLen]; omega) | decide +kernel) only [↓wkPre, ↓wkPre2, ↓wkE, wkPost, wkDef, wkF, simprocAttr, nn_vv, e3, e9, e10, e11, e16, e17, e18, gj, hLl, h6]
            refine imp_call md_32 (wDo hI2 (by omega) wf v.o hnj _ ?_)
            intro H' c' v' r1 _ r2 _ _
            simp -implicitDefEqProofs -dsimp (maxSteps := 1000000) (disch := first | omega | (simp only [wkLen]; omega) | decide +kernel) only [↓wkPre, ↓wkPre2, ↓wkE, wkPost, wkDef, wkF, simprocAttr, nn_vv, e3, e9, e10, e11, e16, e17, e18]
            exact ⟨L.length - (j + 1), by omega, j + 1, c', rfl, by omega, by rw [r2.pp], by push_cast; rfl, by rw [hsj]; exact r1, by rw [← Nat.add_assoc]; exact wf1⟩
        · obtain rfl : j = L.length := by omega
          rw [List.take_length] at hI wf
          simp -implicitDefEqProofs -dsimp (maxSteps := 1000000) (disch := first | omega | (simp only [wkLen]; omega) | decide +kernel) only [↓wkPre, ↓wkPre2, ↓wkE, wkPost, wkDef, wkF, simprocAttr, nn_vv, e3, e9, e10, e11, e16, e17, e18]
          refine imp_call md_33 (w18 hI 0 _ ?_)
          intro H' c' r1 r2
          simp -implicitDefEqProofs -dsimp (maxSteps := 1000000) (disch := first | omega | (simp only [wkLen]; omega) | decide +kernel) only [↓wkPre, ↓wkPre2, ↓wkE, wkPost, wkDef, wkF, simprocAttr, nn_vv, e3, e9, e10, e11, e16, e17, e18]
          exact ⟨T.length - (i + 1), by omega, i + 1, c', rfl, by omega, by rw [r2.pp], by push_cast; rfl, by rw [hsn]; exact r1, by rw [hsn, htn]; exact levF_wf wf⟩
      · simp -implicitDefEqProofs -dsimp (maxSteps := 1000000) (disch := first | omega | (simp only [wkLen]; omega) | decide +kernel) only [↓wkPre, ↓wkPre2, ↓wkE, wkPost, wkDef, wkF, simprocAttr]
        exact ⟨e3, e9, e10, e11, hI.keep fun i hi => hs_app (hI.lt hi), wf⟩
    · obtain rfl : i = T.length := by omega
      rw [List.take_length] at hI wf
      simp -implicitDefEqProofs -dsimp (maxSteps := 1000000) (disch := first | omega | (simp only [wkLen]; omega) | decide +kernel) only [↓wkPre, ↓wkPre2, ↓wkE, wkPost, wkDef, wkF, simprocAttr, nn_vv, e3, e9, e10, e11]
      refine imp_call md_36 (w15 hI wf.asc (by have := wf.sz; omega) _ ?_)
      intro v H' r1 r2 r3 r4
      obtain ⟨vs1, vs2, vs3⟩ := own_shape r1
      simp -implicitDefEqProofs -dsimp (maxSteps := 1000000) (disch := first | omega | (simp only [wkLen]; omega) | decide +kernel) only [↓wkPre, ↓wkPre2, ↓wkE, wkPost, wkDef, wkF, simprocAttr, vs1, vs2, vs3]
      rw [frzR_o telem_36 r1]
      rfl
  · simp -implicitDefEqProofs -dsimp (maxSteps := 1000000) (disch := first | omega | (simp only [wkLen]; omega) | decide +kernel) only [↓wkPre, ↓wkPre2, ↓wkE, wkPost, wkDef, wkF, simprocAttr]
    exact ⟨hI, Wfm.new⟩
end Go.Ev.F35
end
section
namespace Go.Ev.F35
open Go.Proofs Go.Ev
set_option maxRecDepth 100000
set_option linter.all false
theorem frzN_agT {H : Heap} {v : AV} {K : List PV} (h : TS H v 6 K) (a s : PV) : frzN Try.prog H 4 38 (.agg [.p a, v, .p s]) = some (.agg [a, .sl 6 K, s]) := by
  simp [frzN, hleaf47, frzL, h.frz (n := 3) telem_36]
theorem rep_cons (m : Mo) (i : Int) {T : List Tx} {k : Nat} (h : k < T.length) : repF m i (T.drop k) = if (playF m T[k].evs).2 < T[k].evs.length then ((i, ((playF m T[k].evs).2 : Int)) : Int × Int) else repF (levF (playF m T[k].evs).1) (i + 1) (T.drop (k + 1)) := by
  rw [drop_cons h, repF]
theorem play_cons (m : Mo) {L : List Vt} {k : Nat} (h : k < L.length) : playF m (L.drop k) = if okF m L[k] = true then ((playF (evF m L[k]) (L.drop (k + 1))).1, (playF (evF m L[k]) (L.drop (k + 1))).2 + 1) else (evF m L[k], 0) := by
  rw [drop_cons h, playF]
set_option maxHeartbeats 2000000 in
theorem q15 (T : List Tx) (hT : T.length ≤ 1000) (he : totE T ≤ 400) (hn : ∀ t ∈ T, ∀ v ∈ t.evs, inI v.o.n) : PS Cf okf 15 [3, 3] [.sl 4 (txs T)] (fun v => v = .tup [I (repF mo1 0 T).1, I (repF mo1 0 T).2]) := by
  refine PS.mk extMono Try.func15 body15 (by decide) rfl ?_
  simp only [c15, Try.f15, Option.getD_some]
  have hl := txs_len T
  simp -implicitDefEqProofs -dsimp (maxSteps := 1000000) (disch := first | omega | (simp only [wkLen]; omega) | decide +kernel) only [↓wkPre, ↓wkPre2, ↓wkE, wkPost, wkDef, wkF, simprocAttr]
  refine imp_call md_30 (w8 _ _ ?_)
  intro H c hFI hft hfr hle
  have hI : FI H c mo1 := hFI 1
  clear hFI hft hfr hle
  simp -implicitDefEqProofs -dsimp (maxSteps := 1000000) (disch := first | omega | (simp only [wkLen]; omega) | decide +kernel) only [↓wkPre, ↓wkPre2, ↓wkE, wkPost, wkDef, wkF, simprocAttr, nn_vv, hl]
  refine loop_use extMono (fun m' e G => ∃ (i : Nat) (c : Fm) (m : Mo), m' = T.length - i ∧ i ≤ T.length ∧ e 4 = .vptr c.pp 0 ∧ e 11 = .p (.sl 4 (txs T)) ∧ e 12 = .p (I T.length) ∧ e 13 = .p (I i) ∧ FI G c m ∧ Wfm m (totE (T.take i)) ∧ repF mo1 0 T = repF m i (T.drop i)) ?_ T.length _ _ ⟨0, c, mo1, rfl, by omega, ?_⟩
  · clear hI c H
    rintro m' e G ⟨i, c, m, rfl, hi, e4, e11, e12, e13, hI, wf, hrep⟩
    rcases Nat.lt_or_ge i T.length with hlt | hge
    · have gi := txs_get hlt
      have hni := hn _ (List.getElem_mem hlt)
      have htot := totE_take T hlt
      have hrc := rep_cons m i hlt
      have htn : totE (T.take (i + 1)) = totE (T.take i) + T[i].evs.length := by
        rw [List.take_succ_eq_append_getElem hlt, totE_snoc]
      generalize T[i] = t at gi hni htot htn hrc
      obtain ⟨twho, L, td, tp⟩ := t
      dsimp only at hni htot htn hrc
      have hLl := vts_len L
      simp -implicitDefEqProofs -dsimp (maxSteps := 1000000) (disch := first | omega | (simp only [wkLen]; omega) | decide +kernel) only [↓wkPre, ↓wkPre2, ↓wkE, wkPost, wkDef, wkF, simprocAttr, nn_vv, e4, e11, e12, e13, hl, gi, hLl]
      refine loop_use extMono (fun m' e G => ∃ (j : Nat) (c : Fm) (mj : Mo), m' = L.length - j ∧ j ≤ L.length ∧ e 4 = .vptr c.pp 0 ∧ e 5 = .p (I i) ∧ e 11 = .p (.sl 4 (txs T)) ∧ e 12 = .p (I T.length) ∧ e 13 = .p (I i) ∧ e 19 = .p (.sl 16 (vts L)) ∧ e 20 = .p (I L.length) ∧ e 21 = .p (I j) ∧ FI G c mj ∧ Wfm mj (totE (T.take i) + j) ∧ (playF m L).1 = (playF mj (L.drop j)).1 ∧ (playF m L).2 = j + (playF mj (L.drop j)).2) ?_ L.length _ _ ⟨0, c, m, rfl, by omega, ?_⟩
      · clear hI wf e4 e11 e12 e13 e c G
        rintro m' e G ⟨j, c, mj, rfl, hj, e4, e5, e11, e12, e13, e19, e20, e21, hI, wf, hp1, hp2⟩
        rcases Nat.lt_or_ge j L.length with hlj | hgj
        · have gj := vts_get hlj
          have hnj := hni _ (List.getElem_mem hlj)
          have hpc := play_cons mj hlj
          have wf1 := evF_wf wf L[j] hnj
          generalize L[j] = v at gj hnj hpc wf1
          have hI2 : FI (G ++ [.var true (.p (vtP v))]) c mj := hI.keep fun i hi => hs_app (hI.lt hi)
          have hok : okF mj v = if v.a.code = 6 then true else decide (toAg (doF mj (atS mj 0) 0 v.o).2 = v.a) := rfl
          have hev : evF mj v = if v.a.code = 6 then entF mj else (doF mj (atS mj 0) 0 v.o).1 := rfl
          have nxt : ∀ (c' : Fm) (H' : Heap), okF mj v = true → FI H' c' (evF mj v) → c'.pp = c.pp → ∃ m', m' < L.length - j ∧ ∃ (j' : Nat) (c2 : Fm) (m2 : Mo), m' = L.length - j' ∧ j' ≤ L.length ∧ AV.vptr c.pp 0 = .vptr c2.pp 0 ∧ AV.p (PV.int IntKind.i64 (↑j + 1)) = AV.p (I j') ∧ FI H' c2 m2 ∧ Wfm m2 (totE (T.take i) + j') ∧ (playF m L).1 = (playF m2 (L.drop j')).1 ∧ (playF m L).2 = j' + (playF m2 (L.drop j')).2 :=
            fun c' H' h1 h2 h3 => ⟨L.length - (j + 1), by omega, j + 1, c', evF mj v, rfl, by omega, by rw [h3], by push_cast; rfl, h2, wf1, by rw [hp1, hpc, if_pos h1], by rw [hp2, hpc, if_pos h1]; dsimp only; omega⟩
          by_cases h6 : v.a.code = 6
          · rw [if_pos h6] at hok hev
            simp -implicitDefEqProofs -dsimp (maxSteps := 1000000) (disch := first | omega | (simp only [wkLen]; omega) | decide +kernel) only [↓wkPre, ↓wkPre2, ↓wkE, wkPost, wkDef, wkF, simprocAttr, nn_vv, e4, e5, e11, e12, e13, e19, e20, e21, gj, hLl, h6]
            refine imp_call md_31 (w19 hI2 0 wf.at _ ?_)
            intro H' c' r1 r2
            simp -implicitDefEqProofs -dsimp (maxSteps := 1000000) (disch := first | omega | (simp only [wkLen]; omega) | decide +kernel) only [↓wkPre, ↓wkPre2, ↓wkE, wkPost, wkDef, wkF, simprocAttr, nn_vv, e4, e5, e11, e12, e13, e19, e20, e21]
            exact nxt c' H' hok (by rw [hev]; exact r1) r2.pp
          · rw [if_neg h6] at hok hev
            simp -implicitDefEqProofs -dsimp (maxSteps := 1000000) (disch := first | omega | (simp only [wkLen]; omega) | decide +kernel) only [↓wkPre, ↓wkPre2, ↓wkE, wkPost, wkDef, wkF, simprocAttr, nn_vv, e4, e5, e11, e12, e13, e19, e20, e21, gj, hLl, h6]
            refine imp_call md_32 (wDo hI2 (by omega) wf v.o hnj _ ?_)
            intro H' c' v' r1 _ r2 r3 r4
            rw [← hev] at r1
            have hln : G.length < H'.length := by have := r2.ln; simp at this; omega
            have gn : H'[G.length]? = some (.var true (.p (vtP v))) := (r2.fr _ (by simp) (fun hm => by have := hI.lt hm; omega)).trans (by simp)
            obtain ⟨vs1, vs2, vs3⟩ := ts_shape r3
            have hr1 : FI (H' ++ [.var true (.agg [.p (I (doF mj (atS mj 0) 0 v.o).2.code), v', .p (I (doF mj (atS mj 0) 0 v.o).2.n)])]) c' (evF mj v) := r1.keep fun i hi => hs_app (r1.lt hi)
            have gn2 : ∀ y : Blk, (H' ++ [y])[G.length]? = some (.var true (.p (vtP v))) := fun y => (hs_app hln).trans gn
            have hts : TS (H' ++ [.var true (.agg [.p (I (doF mj (atS mj 0) 0 v.o).2.code), v', .p (I (doF mj (atS mj 0) 0 v.o).2.n)])]) v' 6 (rcs (doF mj (atS mj 0) 0 v.o).2.recs) := r3.keep fun b hb => hs_app (r3.lt hb)
            generalize (doF mj (atS mj 0) 0 v.o).2 = an at hok r4 hr1 hts ⊢
            simp -implicitDefEqProofs -dsimp (maxSteps := 1000000) (disch := first | omega | (simp only [wkLen]; omega) | decide +kernel) only [↓wkPre, ↓wkPre2, ↓wkE, wkPost, wkDef, wkF, simprocAttr, nn_vv, e4, e5, e11, e12, e13, e19, e20, e21, gn2, vs1, vs2, vs3]
            refine PS.app md_23 Try.func23 (pa := [agP (toAg an), agP v.a]) (q23 (toAg an) v.a (by simpa [toAg] using r4)) ?_ ?_
            · show frzL (frzN Try.prog (H' ++ [_]) 4) [_, _] [38, 38] = _
              simp only [frzL, List.headD_cons, List.tail_cons]
              rw [frzN_agT hts, frzN_p, ← an_ag]
              rfl
            rintro _ rfl
            cases hd : decide (toAg an = v.a) with
            | true =>
              simp -implicitDefEqProofs -dsimp (maxSteps := 1000000) (disch := first | omega | (simp only [wkLen]; omega) | decide +kernel) only [↓wkPre, ↓wkPre2, ↓wkE, wkPost, wkDef, wkF, simprocAttr, nn_vv, e4, e5, e11, e12, e13, e19, e20, e21]
              exact nxt c' _ (by rw [hok, hd]) hr1 r2.pp
            | false =>
              simp -implicitDefEqProofs -dsimp (maxSteps := 1000000) (disch := first | omega | (simp only [wkLen]; omega) | decide +kernel) only [↓wkPre, ↓wkPre2, ↓wkE, wkPost, wkDef, wkF, simprocAttr, nn_vv, e4, e5, e11, e12, e13, e19, e20, e21]
              have hp0 : (playF m L).2 = j := by rw [hp2, hpc, if_neg (by rw [hok, hd]; simp)]; rfl
              rw [hrep, hrc, if_pos (by omega), hp0]
        · obtain rfl : j = L.length := by omega
          rw [List.drop_length] at hp1 hp2
          have hnl : ¬ (playF m L).2 < L.length := by rw [hp2]; simp [playF]
          have hp1 : (playF m L).1 = mj := hp1
          rw [if_neg hnl] at hrc
          simp -implicitDefEqProofs -dsimp (maxSteps := 1000000) (disch := first | omega | (simp only [wkLen]; omega) | decide +kernel) only [↓wkPre, ↓wkPre2, ↓wkE, wkPost, wkDef, wkF, simprocAttr, nn_vv, e4, e5, e11, e12, e13, e19, e20, e21]
          refine imp_call md_33 (w18 hI 0 _ ?_)
          intro H' c' r1 r2
          simp -implicitDefEqProofs -dsimp (maxSteps := 1000000) (disch := first | omega | (simp only [wkLen]; omega) | decide +kernel) only [↓wkPre, ↓wkPre2, ↓wkE, wkPost, wkDef, wkF, simprocAttr, nn_vv, e4, e5, e11, e12, e13, e19, e20, e21]
          exact ⟨T.length - (i + 1), by omega, i + 1, c', levF mj, rfl, by omega, by rw [r2.pp], by push_cast; rfl, r1, by rw [htn]; exact levF_wf wf, by rw [hrep, hrc, hp1]; push_cast; rfl⟩
      · simp -implicitDefEqProofs -dsimp (maxSteps := 1000000) (disch := first | omega | (simp only [wkLen]; omega) | decide +kernel) only [↓wkPre, ↓wkPre2, ↓wkE, wkPost, wkDef, wkF, simprocAttr]
        exact ⟨e4, e11, e12, e13, hI.keep fun i hi => hs_app (hI.lt hi), wf⟩
    · obtain rfl : i = T.length := by omega
      rw [List.drop_length] at hrep
      simp -implicitDefEqProofs -dsimp (maxSteps := 1000000) (disch := first | omega | (simp only [wkLen]; omega) | decide +kernel) only [↓wkPre, ↓wkPre2, ↓wkE, wkPost, wkDef, wkF, simprocAttr, nn_vv, e4, e11, e12, e13]
      rw [hrep]
      rfl
  · simp -implicitDefEqProofs -dsimp (maxSteps := 1000000) (disch := first | omega | (simp only [wkLen]; omega) | decide +kernel) only [↓wkPre, ↓wkPre2, ↓wkE, wkPost, wkDef, wkF, simprocAttr]
    exact ⟨hI, Wfm.new⟩
end Go.Ev.F35
end
section
namespace Go.Ev.F35
open Go.Proofs Go.Ev
set_option maxRecDepth 100000
set_option linter.all false
def v1 : Vt := ⟨1, 0, 0, ⟨1, 5, 0, 0, [118], ⟨0, 0, 0, 0⟩, 0⟩, ⟨0, [], 0⟩⟩
def v2 : Vt := ⟨2, 0, 0, ⟨6, 0, 0, 0, [], ⟨0, 0, 0, 0⟩, 0⟩, ⟨10, [], 0⟩⟩
def v3 : Vt := ⟨2, 0, 0, ⟨2, 5, 0, 0, [], ⟨0, 0, 0, 0⟩, 0⟩, ⟨7, [], 0⟩⟩
def v4 : Vt := ⟨1, 0, 0, ⟨8, 0, 0, 0, [], ⟨0, 0, 0, 0⟩, 0⟩, ⟨0, [], 0⟩⟩
def v5 : Vt := ⟨2, 0, 1, ⟨2, 5, 0, 0, [], ⟨0, 0, 0, 0⟩, 0⟩, ⟨11, [], 0⟩⟩
def lw : List Vt := [v1, v2, v3, v4, v5]
def tx1 : Tx := ⟨1, [v1, v4], true, 3⟩
def tx2 : Tx := ⟨2, [v3, v5], false, 4⟩
theorem lwA : cutA lw = ([], [tx1, tx2]) := by rfl
theorem lwC : cutF lw = [tx1, tx2] := by
  unfold cutF sortT
  rw [lwA]
  simp
theorem lwM : commF [tx1, tx2] = [tx1] := by rfl
theorem lwR1 : repF mo1 0 [tx1] = (-1, -1) := by decide +kernel
theorem lwR2 : repF mo1 0 [tx2] = (0, 1) := by decide +kernel
theorem lwX : accF [tx1] = [⟨0, 5, true⟩] := by rfl
theorem lwF : (finF mo1 [tx1]).M.length = 1 := by decide +kernel
theorem lwCn : cntsF lw = [I 2, I 0, I 0, I 0, I 0, I 0, I 0, I 1, I 0, I 0, I 1, I 1, I 0, I 0, I 0] := by rfl
theorem lwN : cntF lw 11 = 1 := by decide +kernel
theorem lwT : triesF lw = 1 := by decide +kernel
abbrev vtA (v : Vt) : AV := .agg [.p (I v.who), .p (I v.at'), .p (I v.tr), .p (I v.o.kind), .p (U v.o.key), .p (u32 v.o.x), .p (u32 v.o.y), .p (.str v.o.val), .p (u32 v.o.w.x0), .p (u32 v.o.w.y0), .p (u32 v.o.w.x1), .p (u32 v.o.w.y1), .p (I v.o.n), .p (I v.a.code), .nsl, .p (I v.a.n)]
theorem frzA {H : Heap} {v : Vt} (h : v.a.recs = []) : frzN Try.prog H 4 40 (vtA v) = some (vtP v) := by
  simp [frzN, hleaf40, frzL, frzN_p, frzN_nsl, telem_36, h, rgs]
theorem elT22 : elT Try.prog 22 = 40 := by kernel_rfl
theorem frP5 (H : Heap) : frPs Try.prog (elT Try.prog 22) [(0, .agg [.p (.int .i64 1), .p (.int .i64 0), .p (.int .i64 0), .p (.int .i64 1), .p (.int .u64 5), .p (.int .u32 0), .p (.int .u32 0), .p (.str [118]), .p (.int .u32 0), .p (.int .u32 0), .p (.int .u32 0), .p (.int .u32 0), .p (.int .i64 0), .p (.int .i64 0), .nsl, .p (.int .i64 0)]), (1, .agg [.p (.int .i64 2), .p (.int .i64 0), .p (.int .i64 0), .p (.int .i64 6), .p (.int .u64 0), .p (.int .u32 0), .p (.int .u32 0), .p (.str []), .p (.int .u32 0), .p (.int .u32 0), .p (.int .u32 0), .p (.int .u32 0), .p (.int .i64 0), .p (.int .i64 10), .nsl, .p (.int .i64 0)]), (2, .agg [.p (.int .i64 2), .p (.int .i64 0), .p (.int .i64 0), .p (.int .i64 2), .p (.int .u64 5), .p (.int .u32 0), .p (.int .u32 0), .p (.str []), .p (.int .u32 0), .p (.int .u32 0), .p (.int .u32 0), .p (.int .u32 0), .p (.int .i64 0), .p (.int .i64 7), .nsl, .p (.int .i64 0)]), (3, .agg [.p (.int .i64 1), .p (.int .i64 0), .p (.int .i64 0), .p (.int .i64 8), .p (.int .u64 0), .p (.int .u32 0), .p (.int .u32 0), .p (.str []), .p (.int .u32 0), .p (.int .u32 0), .p (.int .u32 0), .p (.int .u32 0), .p (.int .i64 0), .p (.int .i64 0), .nsl, .p (.int .i64 0)]), (4, .agg [.p (.int .i64 2), .p (.int .i64 0), .p (.int .i64 1), .p (.int .i64 2), .p (.int .u64 5), .p (.int .u32 0), .p (.int .u32 0), .p (.str []), .p (.int .u32 0), .p (.int .u32 0), .p (.int .u32 0), .p (.int .u32 0), .p (.int .i64 0), .p (.int .i64 11), .nsl, .p (.int .i64 0)])] H = [(0, .p (vtP v1)), (1, .p (vtP v2)), (2, .p (vtP v3)), (3, .p (vtP v4)), (4, .p (vtP v5))] := by
  show frPs Try.prog (elT Try.prog 22) [(0, vtA v1), (1, vtA v2), (2, vtA v3), (3, vtA v4), (4, vtA v5)] H = _
  unfold frPs frV
  simp only [List.map_cons, List.map_nil, elT22, frzA (show v1.a.recs = [] from rfl), frzA (show v2.a.recs = [] from rfl), frzA (show v3.a.recs = [] from rfl), frzA (show v4.a.recs = [] from rfl), frzA (show v5.a.recs = [] from rfl)]
  rfl
theorem frH5 (H : Heap) : frH [(0, .agg [.p (.int .i64 1), .p (.int .i64 0), .p (.int .i64 0), .p (.int .i64 1), .p (.int .u64 5), .p (.int .u32 0), .p (.int .u32 0), .p (.str [118]), .p (.int .u32 0), .p (.int .u32 0), .p (.int .u32 0), .p (.int .u32 0), .p (.int .i64 0), .p (.int .i64 0), .nsl, .p (.int .i64 0)]), (1, .agg [.p (.int .i64 2), .p (.int .i64 0), .p (.int .i64 0), .p (.int .i64 6), .p (.int .u64 0), .p (.int .u32 0), .p (.int .u32 0), .p (.str []), .p (.int .u32 0), .p (.int .u32 0), .p (.int .u32 0), .p (.int .u32 0), .p (.int .i64 0), .p (.int .i64 10), .nsl, .p (.int .i64 0)]), (2, .agg [.p (.int .i64 2), .p (.int .i64 0), .p (.int .i64 0), .p (.int .i64 2), .p (.int .u64 5), .p (.int .u32 0), .p (.int .u32 0), .p (.str []), .p (.int .u32 0), .p (.int .u32 0), .p (.int .u32 0), .p (.int .u32 0), .p (.int .i64 0), .p (.int .i64 7), .nsl, .p (.int .i64 0)]), (3, .agg [.p (.int .i64 1), .p (.int .i64 0), .p (.int .i64 0), .p (.int .i64 8), .p (.int .u64 0), .p (.int .u32 0), .p (.int .u32 0), .p (.str []), .p (.int .u32 0), .p (.int .u32 0), .p (.int .u32 0), .p (.int .u32 0), .p (.int .i64 0), .p (.int .i64 0), .nsl, .p (.int .i64 0)]), (4, .agg [.p (.int .i64 2), .p (.int .i64 0), .p (.int .i64 1), .p (.int .i64 2), .p (.int .u64 5), .p (.int .u32 0), .p (.int .u32 0), .p (.str []), .p (.int .u32 0), .p (.int .u32 0), .p (.int .u32 0), .p (.int .u32 0), .p (.int .i64 0), .p (.int .i64 11), .nsl, .p (.int .i64 0)])] H = H := rfl
theorem vtAE (v : Vt) : vtA v = .agg [.p (I v.who), .p (I v.at'), .p (I v.tr), .p (I v.o.kind), .p (U v.o.key), .p (u32 v.o.x), .p (u32 v.o.y), .p (.str v.o.val), .p (u32 v.o.w.x0), .p (u32 v.o.w.y0), .p (u32 v.o.w.x1), .p (u32 v.o.w.y1), .p (I v.o.n), .p (I v.a.code), .nsl, .p (I v.a.n)] := rfl
def AW (G : Heap) : Prop := ∃ l, G[1]? = some (.arr l 0 16 (vts lw))
theorem AW.frzL {G : Heap} (h : AW G) : frzL (frzN Try.prog G 4) [.ref 1 0 0 5 false] [22] = some [.sl 16 (vts lw)] := by
  obtain ⟨l, h⟩ := h
  have : frzN Try.prog G 4 22 (.ref 1 0 0 5 false) = some (.sl 16 (vts lw)) := by
    rw [frzN_ref, h]
    rfl
  simp only [Go.Ev.frzL, List.headD_cons, List.tail_cons, this]
  rfl
theorem AW.aft {G : Heap} (h : AW G) (b : Bool) : AW (if b = true then G else freezeIds ([AV.ref 1 0 0 5 false].flatMap (ids 4)) G) := by
  split
  · exact h
  · obtain ⟨l, h⟩ := h
    refine ⟨false, ?_⟩
    show (freezeIds [1] G)[1]? = _
    simp only [freezeIds, h]
    exact hs_set (lt_of h)
theorem AW.app {G : Heap} (h : AW G) (x : Heap) : AW (G ++ x) := by
  obtain ⟨l, h⟩ := h
  exact ⟨l, (hs_app (lt_of h)).trans h⟩
theorem tx1n : ∀ t ∈ [tx1], ∀ v ∈ t.evs, inI v.o.n := by
  intro t ht v hv
  simp [tx1] at ht
  subst ht
  simp at hv
  rcases hv with rfl | rfl <;> (unfold inI; decide)
theorem tx2n : ∀ t ∈ [tx2], ∀ v ∈ t.evs, inI v.o.n := by
  intro t ht v hv
  simp [tx2] at ht
  subst ht
  simp at hv
  rcases hv with rfl | rfl <;> (unfold inI; decide)
set_option maxHeartbeats 2000000 in
theorem q7 : PS Cf okf 7 [4] [] (fun v => v = B true) := by
  refine PS.mk extMono Try.func7 body7 (by decide) rfl ?_
  simp only [c7, Try.f7, Option.getD_some, List.append_eq, List.cons_append, List.nil_append]
  simp -implicitDefEqProofs -dsimp (maxSteps := 1000000) (disch := first | omega | (simp only [wkLen]; omega) | decide +kernel) only [↓wkPre, ↓wkPre2, ↓evC_region_st [3], ↓evC_text_st [3], ↓evC_cond, ↓evC_block, ↓evC_stop [3], wkPost, wkDef, wkF, simprocAttr, z40, i40, frP5, frH5]
  refine stop_st (fun e G => e 2 = .ref 1 0 0 5 false ∧ AW G) ⟨rfl, true, rfl⟩ ?_
  rintro e G ⟨e2, hA⟩
  have f8 := q8 lw (by decide)
  rw [lwC] at f8
  refine stop_go ?_
  simp -implicitDefEqProofs -dsimp (maxSteps := 1000000) (disch := first | omega | (simp only [wkLen]; omega) | decide +kernel) only [↓wkPre, ↓wkPre2, ↓wkE, wkPost, wkDef, wkF, simprocAttr, e2]
  refine PS.app md_8 Try.func8 (pa := [.sl 16 (vts lw)]) f8 hA.frzL ?_
  rintro _ rfl
  have hA1 : AW (if (PV.sl 4 (txs [tx1, tx2])).flat then G else freezeIds ([AV.ref 1 0 0 5 false].flatMap (ids 4)) G) := hA.aft _
  generalize (if (PV.sl 4 (txs [tx1, tx2])).flat then G else freezeIds ([AV.ref 1 0 0 5 false].flatMap (ids 4)) G) = G1 at hA1 ⊢
  have hl2 : (txs [tx1, tx2]).length = 2 := rfl
  have hl1 : (txs [tx1]).length = 1 := rfl
  simp -implicitDefEqProofs -dsimp (maxSteps := 1000000) (disch := first | omega | (simp only [wkLen]; omega) | decide +kernel) only [↓wkPre, ↓wkPre2, ↓wkE, wkPost, wkDef, wkF, simprocAttr, e2, hl2]
  have f13 := q13 [tx1, tx2] (by decide)
  rw [lwM] at f13
  refine PS.app md_13 Try.func13 f13 rfl ?_
  rintro _ rfl
  simp -implicitDefEqProofs -dsimp (maxSteps := 1000000) (disch := first | omega | (simp only [wkLen]; omega) | decide +kernel) only [↓wkPre, ↓wkPre2, ↓wkE, wkPost, wkDef, wkF, simprocAttr, e2]
  have f15 := q15 [tx1] (by decide) (by decide) tx1n
  rw [lwR1] at f15
  refine PS.app md_15 Try.func15 f15 rfl ?_
  rintro _ rfl
  simp -implicitDefEqProofs -dsimp (maxSteps := 1000000) (disch := first | omega | (simp only [wkLen]; omega) | decide +kernel) only [↓wkPre, ↓wkPre2, ↓wkE, wkPost, wkDef, wkF, simprocAttr, e2]
  have f15b := q15 [tx2] (by decide) (by decide) tx2n
  rw [lwR2] at f15b
  refine PS.app md_15 Try.func15 (pa := [.sl 4 (txs [tx2])]) f15b rfl ?_
  rintro _ rfl
  simp -implicitDefEqProofs -dsimp (maxSteps := 1000000) (disch := first | omega | (simp only [wkLen]; omega) | decide +kernel) only [↓wkPre, ↓wkPre2, ↓wkE, wkPost, wkDef, wkF, simprocAttr, e2]
  have f21 := q21 [tx1] (by decide) (fun t ht => by
    simp at ht
    subst ht
    refine ⟨by decide, fun v hv => ?_⟩
    simp [tx1] at hv
    rcases hv with rfl | rfl <;> decide)
  rw [lwX] at f21
  refine PS.app md_21 Try.func21 f21 rfl ?_
  rintro _ rfl
  simp -implicitDefEqProofs -dsimp (maxSteps := 1000000) (disch := first | omega | (simp only [wkLen]; omega) | decide +kernel) only [↓wkPre, ↓wkPre2, ↓wkE, wkPost, wkDef, wkF, simprocAttr, e2]
  have f20 := q20 lw (by decide)
  rw [lwCn] at f20
  refine PS.app md_20 Try.func20 (pa := [.sl 16 (vts lw)]) f20 hA1.frzL ?_
  rintro _ rfl
  have hA2 := hA1.aft (PV.agg [I 2, I 0, I 0, I 0, I 0, I 0, I 0, I 1, I 0, I 0, I 1, I 1, I 0, I 0, I 0]).flat
  generalize (if (PV.agg [I 2, I 0, I 0, I 0, I 0, I 0, I 0, I 1, I 0, I 0, I 1, I 1, I 0, I 0, I 0]).flat = true then G1 else freezeIds ([AV.ref 1 0 0 5 false].flatMap (ids 4)) G1) = G2 at hA2 ⊢
  have hg0 : (txs [tx1, tx2])[0]? = some (.agg [I 1, .sl 16 (vts [v1, v4]), B true, I 3]) := rfl
  have hg1 : (txs [tx1, tx2])[1]? = some (.agg [I 2, .sl 16 (vts [v3, v5]), B false, I 4]) := rfl
  have hvl : (vts [v3, v5]).length = 2 := rfl
  have hal : (acs [⟨0, 5, true⟩]).length = 1 := rfl
  have ha0 : (acs [⟨0, 5, true⟩])[0]? = some (.agg [I 0, U 5, B true]) := rfl
  have hfl : (rcs (finF mo1 [tx1]).M).length = 1 := by rw [rcs_len]; exact lwF
  have hA3 := hA2.app [.var true (.p (PV.agg [I 2, I 0, I 0, I 0, I 0, I 0, I 0, I 1, I 0, I 0, I 1, I 1, I 0, I 0, I 0]))]
  have hcell : (G2 ++ [Blk.var true (.p (PV.agg [I 2, I 0, I 0, I 0, I 0, I 0, I 0, I 1, I 0, I 0, I 1, I 1, I 0, I 0, I 0]))])[G2.length]? = some (.var true (.p (PV.agg [I 2, I 0, I 0, I 0, I 0, I 0, I 0, I 1, I 0, I 0, I 1, I 1, I 0, I 0, I 0]))) := by simp
  simp -implicitDefEqProofs -dsimp (maxSteps := 1000000) (disch := first | omega | (simp only [wkLen]; omega) | decide +kernel) only [↓wkPre, ↓wkPre2, ↓wkE, wkPost, wkDef, wkF, simprocAttr, e2, hg0, hg1, hl1, hl2, hvl, hal, ha0]
  have f19 := q19 [tx1] (by decide) (by decide) tx1n
  refine PS.app md_19 Try.func19 f19 rfl ?_
  rintro _ rfl
  simp -implicitDefEqProofs -dsimp (maxSteps := 1000000) (disch := first | omega | (simp only [wkLen]; omega) | decide +kernel) only [↓wkPre, ↓wkPre2, ↓wkE, wkPost, wkDef, wkF, simprocAttr, e2, hfl, hcell]
  have f22 := q22 lw (by decide)
  rw [lwT] at f22
  refine PS.app md_22 Try.func22 (pa := [.sl 16 (vts lw)]) f22 hA3.frzL ?_
  rintro _ rfl
  obtain ⟨l3, h3⟩ := id hA3
  have hvw : (vts lw)[0]? = some (.agg [I 1, I 0, I 0, I 1, U 5, u32 0, u32 0, .str [118], u32 0, u32 0, u32 0, u32 0, I 0, I 0, .sl 6 [], I 0]) := rfl
  simp -implicitDefEqProofs -dsimp (maxSteps := 1000000) (disch := first | omega | (simp only [wkLen]; omega) | decide +kernel) only [↓wkPre, ↓wkPre2, ↓wkE, wkPost, wkDef, wkF, simprocAttr, e2, h3, hvw]
  have f23 := q23 ⟨0, [], 0⟩ ⟨0, [], 0⟩ (by decide)
  refine PS.app md_23 Try.func23 (pa := [agP ⟨0, [], 0⟩, agP ⟨0, [], 0⟩]) f23 ?_ ?_
  · show frzL (frzN Try.prog _ 4) [_, _] [38, 38] = _
    simp only [frzL, List.headD_cons, List.tail_cons]
    rw [frzN_p, frzN_agT (show TS _ .nsl 6 [] from .inl ⟨rfl, rfl⟩)]
    rfl
  rintro _ rfl
  simp -implicitDefEqProofs -dsimp (maxSteps := 1000000) (disch := first | omega | (simp only [wkLen]; omega) | decide +kernel) only [↓wkPre, ↓wkPre2, ↓wkE, wkPost, wkDef, wkF, simprocAttr]
  done
end Go.Ev.F35
end
