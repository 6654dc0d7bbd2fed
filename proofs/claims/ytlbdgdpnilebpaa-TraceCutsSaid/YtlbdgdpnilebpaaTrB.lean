/- A part of the proof: walks of the functions that the law calls. No condition. -/
import Derived.Test.YtlbdgdpnilebpaaTrA
set_option linter.all false
section
namespace Go.Ev.F35
open Go.Proofs Go.Ev
set_option maxRecDepth 100000
set_option linter.all false
def commF (T : List Tx) : List Tx := T.filter (·.done)
theorem comm_snoc (T : List Tx) (t : Tx) : commF (T ++ [t]) = commF T ++ (if t.done = true then [t] else []) := by
  unfold commF
  rw [List.filter_append]
  by_cases h : t.done = true <;> simp [h]
theorem hleaf44 : leafTs Try.prog 20 44 = [3, 22, 4, 3] := by kernel_rfl
theorem frz44 {H : Heap} {n : Nat} {v : AV} {K : List PV} (h : OwnS H v 16 K) (a b c : PV) : frzN Try.prog H (n + 1) 44 (.agg [.p a, v, .p b, .p c]) = some (.agg [a, .sl 16 K, b, c]) := by
  simp [frzN, hleaf44, frzL, frzN_p, frz_own (n := n) telem_22 h]
theorem clr44 {H : Heap} {b g off len : Nat} {ex : Bool} {xs : List PV} (hb : H[b]? = some (.arr true g 4 xs))
    (h1 : off + len ≤ xs.length) (h2 : len ≠ 0) : noRes (evClearS Try.prog 25 (.ref b g off len ex) H) = some (.p (.tup []), H.set b (.arr true g 4 (setR xs off (List.replicate len (.agg [I 0, .sl 16 [], B false, I 0]))))) := by
  have hf : frzN Try.prog H 4 44 (.agg [.p (.int .i64 0), .nsl, .p (.bool false), .p (.int .i64 0)]) = some (.agg [I 0, .sl 16 [], B false, I 0]) := frz44 (OwnS.nil _ _) _ _ _
  unfold evClearS noRes
  simp only [telem_25, tzero_44, Option.bind_some, hf]
  simp [ids, hb, h1, h2, PV.shape]
theorem w28 (T : List Tx) (hT : T.length ≤ 1000) (Q : AV → Heap → Prop) (hq : ∀ v H', OwnS H' v 4 (txs T) → Q v H') : (W Cf okf).call 28 [.p (.sl 4 (txs T))] [] Q := by
  refine top_mk extMono Try.func28 body28 (by decide) rfl ?_
  simp only [c28, Try.f28, Option.getD_some]
  have hl := txs_len T
  have gen : ∀ {k : AV → Heap → Prop} {tg : Tag k}, (∀ v' H', OwnS H' v' 4 (txs T) → k v' H') →
      oK2 (evAppend Try.prog 25 (.ref 0 0 0 0 false) (.p (.sl 4 (txs T))) [.arr true 0 4 []]) k tg := by
    intro k tg hk
    refine append_any (xs := []) telem_25 (ys := txs T) rfl (.inr ⟨0, 0, rfl, rfl⟩) ?_ ?_
    · rw [byt_44, hl]; simp; omega
    · intro v' H' ho hf hle hb
      exact hk v' H' (by simpa using ho)
  cases T with
  | nil =>
    simp -implicitDefEqProofs -dsimp (maxSteps := 1000000) (disch := first | omega | (simp only [wkLen]; omega) | decide +kernel) only [↓wkPre, ↓wkPre2, ↓wkE, wkPost, wkDef, wkF, simprocAttr, txs, List.map_nil]
    refine fun b => ?_
    cases b
    · simp -implicitDefEqProofs -dsimp (maxSteps := 1000000) (disch := first | omega | (simp only [wkLen]; omega) | decide +kernel) only [↓wkPre, ↓wkPre2, ↓wkE, wkPost, wkDef, wkF, simprocAttr]
      refine gen ?_
      intro v' H' h
      simp -implicitDefEqProofs -dsimp (maxSteps := 1000000) (disch := first | omega | (simp only [wkLen]; omega) | decide +kernel) only [↓wkPre, ↓wkPre2, ↓wkE, wkPost, wkDef, wkF, simprocAttr]
      exact hq _ _ h
    · simp -implicitDefEqProofs -dsimp (maxSteps := 1000000) (disch := first | omega | (simp only [wkLen]; omega) | decide +kernel) only [↓wkPre, ↓wkPre2, ↓wkE, wkPost, wkDef, wkF, simprocAttr]
      exact hq _ _ (OwnS.nil _ _)
  | cons t T =>
    simp -implicitDefEqProofs -dsimp (maxSteps := 1000000) (disch := first | omega | (simp only [wkLen]; omega) | decide +kernel) only [↓wkPre, ↓wkPre2, ↓wkE, wkPost, wkDef, wkF, simprocAttr, txs, List.map_cons]
    refine gen ?_
    intro v' H' h
    simp -implicitDefEqProofs -dsimp (maxSteps := 1000000) (disch := first | omega | (simp only [wkLen]; omega) | decide +kernel) only [↓wkPre, ↓wkPre2, ↓wkE, wkPost, wkDef, wkF, simprocAttr]
    exact hq _ _ h
theorem w29 (t : Tx) (H : Heap) (Q : AV → Heap → Prop) (hq : ∀ H', (∀ i, i < H.length → H'[i]? = H[i]?) → H.length ≤ H'.length → Q (.p (B (!t.done))) H') : (W Cf okf).call 29 [.p (txP t)] H Q := by
  refine top_mk extMono Try.func29 body29 (by decide) rfl ?_
  simp only [c29, Try.f29, Option.getD_some]
  simp -implicitDefEqProofs -dsimp (maxSteps := 1000000) (disch := first | omega | (simp only [wkLen]; omega) | decide +kernel) only [↓wkPre, ↓wkPre2, ↓wkE, wkPost, wkDef, wkF, simprocAttr]
  exact hq _ (fun i hi => hs_app hi) (by simp)
def ixT (L : List Tx) : Int := match L.findIdx? (fun t => !t.done) with | some i => i | none => -1
theorem w40 (L : List Tx) (hL : L.length ≤ 1000) (b g : Nat) (ex l : Bool) (H : Heap) (hb : H[b]? = some (.arr l g 4 (txs L))) (Q : AV → Heap → Prop)
    (hq : ∀ H', (∀ i, i < H.length → H'[i]? = H[i]?) → H.length ≤ H'.length → Q (.p (I (ixT L))) H') : (W Cf okf).call 40 [.ref b g 0 L.length ex, .p (.fn 29 [])] H Q := by
  refine top_mk extMono Try.func40 body40 (by decide) rfl ?_
  simp only [c40, Try.f40, Option.getD_some]
  have hblt := (List.getElem?_eq_some_iff.1 hb).1
  have hl := txs_len L
  simp -implicitDefEqProofs -dsimp (maxSteps := 1000000) (disch := first | omega | (simp only [wkLen]; omega) | decide +kernel) only [↓wkPre, ↓wkPre2, ↓wkE, wkPost, wkDef, wkF, simprocAttr]
  refine loop_use extMono (fun m' e Hc => ∃ (i : Nat), m' = L.length - i ∧ i ≤ L.length ∧ e 0 = .ref b g 0 L.length ex ∧ e 1 = .p (.fn 29 []) ∧ e 7 = .p (I L.length) ∧ e 8 = .p (I i) ∧ (∀ i, i < H.length → Hc[i]? = H[i]?) ∧ H.length ≤ Hc.length ∧ ∀ j (h : j < L.length), j < i → L[j].done = true) ?_ L.length _ _ ⟨0, rfl, by omega, ?_⟩
  · rintro m' e Hc ⟨i, rfl, hi, e0, e1, e7, e8, hfr, hlen, hno⟩
    rcases Nat.lt_or_ge i L.length with hlt | hge
    · have gi := txs_get hlt
      have kb := (hfr b hblt).trans hb
      simp -implicitDefEqProofs -dsimp (maxSteps := 1000000) (disch := first | omega | (simp only [wkLen]; omega) | decide +kernel) only [↓wkPre, ↓wkPre2, ↓wkE, wkPost, wkDef, wkF, simprocAttr, e0, e1, e7, e8, kb, gi, hl]
      refine imp_call md_29 (w29 L[i] Hc _ ?_)
      intro H' hfr' hlen'
      cases hh : L[i].done with
      | true =>
        simp -implicitDefEqProofs -dsimp (maxSteps := 1000000) (disch := first | omega | (simp only [wkLen]; omega) | decide +kernel) only [↓wkPre, ↓wkPre2, ↓wkE, wkPost, wkDef, wkF, simprocAttr, e0, e1, e7, e8, hh]
        refine ⟨L.length - (i + 1), by omega, i + 1, rfl, by omega, by push_cast; rfl, fun j hj => (hfr' j (by omega)).trans (hfr j hj), by omega, fun j h hj => ?_⟩
        by_cases hji : j = i
        · subst hji; exact hh
        · exact hno j h (by omega)
      | false =>
        simp -implicitDefEqProofs -dsimp (maxSteps := 1000000) (disch := first | omega | (simp only [wkLen]; omega) | decide +kernel) only [↓wkPre, ↓wkPre2, ↓wkE, wkPost, wkDef, wkF, simprocAttr, e0, e1, e7, e8, hh]
        have hF : ixT L = i := by
          unfold ixT
          rw [List.findIdx?_eq_some_iff_getElem.2 ⟨hlt, by simpa using hh, fun j hj => by simpa using hno j (by omega) hj⟩]
        rw [hF] at hq
        exact hq _ (fun j hj => (hfr' j (by omega)).trans (hfr j hj)) (by omega)
    · simp -implicitDefEqProofs -dsimp (maxSteps := 1000000) (disch := first | omega | (simp only [wkLen]; omega) | decide +kernel) only [↓wkPre, ↓wkPre2, ↓wkE, wkPost, wkDef, wkF, simprocAttr, e0, e1, e7, e8]
      have hF : ixT L = -1 := by
        unfold ixT
        rw [List.findIdx?_eq_none_iff.2 fun f hf => by
          obtain ⟨j, hj, e⟩ := List.mem_iff_getElem.1 hf
          have := hno j hj (by omega)
          rw [e] at this
          simpa using this]
      rw [hF] at hq
      exact hq _ hfr hlen
  · simp -implicitDefEqProofs -dsimp (maxSteps := 1000000) (disch := first | omega | (simp only [wkLen]; omega) | decide +kernel) only [↓wkPre, ↓wkPre2, ↓wkE, wkPost, wkDef, wkF, simprocAttr]
    exact ⟨fun _ _ => trivial, Nat.le_refl _, fun j h hj => by omega⟩
theorem w40n (H : Heap) (f : AV) (Q : AV → Heap → Prop) (hq : Q (.p (I (-1))) H) : (W Cf okf).call 40 [.nsl, f] H Q := by
  refine top_mk extMono Try.func40 body40 (by decide) rfl ?_
  simp only [c40, Try.f40, Option.getD_some]
  simp -implicitDefEqProofs -dsimp (maxSteps := 1000000) (disch := first | omega | (simp only [wkLen]; omega) | decide +kernel) only [↓wkPre, ↓wkPre2, ↓wkE, wkPost, wkDef, wkF, simprocAttr]
  refine loop_use extMono (fun m' e Hc => m' = 0 ∧ e 7 = .p (I 0) ∧ e 8 = .p (I 0) ∧ Hc = H) ?_ 0 _ _ ⟨rfl, ?_⟩
  · rintro m' e Hc ⟨rfl, e7, e8, rfl⟩
    simp -implicitDefEqProofs -dsimp (maxSteps := 1000000) (disch := first | omega | (simp only [wkLen]; omega) | decide +kernel) only [↓wkPre, ↓wkPre2, ↓wkE, wkPost, wkDef, wkF, simprocAttr, e7, e8]
    exact hq
  · simp -implicitDefEqProofs -dsimp (maxSteps := 1000000) (disch := first | omega | (simp only [wkLen]; omega) | decide +kernel) only [↓wkPre, ↓wkPre2, ↓wkE, wkPost, wkDef, wkF, simprocAttr]
theorem txs_set (D : List Tx) (i : Nat) (r : Tx) : (txs D).set i (txP r) = txs (D.set i r) := by simp [txs, List.map_set]
theorem txs_take (D : List Tx) (i : Nat) : (txs D).take i = txs (D.take i) := by simp [txs, List.map_take]
theorem comm_all {L : List Tx} (h : ∀ j (h : j < L.length), L[j].done = true) : commF L = L := by
  unfold commF
  rw [List.filter_eq_self.2]
  intro x hx
  obtain ⟨j, hj, rfl⟩ := List.mem_iff_getElem.1 hx
  exact h j hj
theorem w27 (L : List Tx) (hL : L.length ≤ 1000) (v : AV) (H : Heap) (hv : OwnS H v 4 (txs L)) (Q : AV → Heap → Prop)
    (hq : ∀ v' H', TS H' v' 4 (txs (commF L)) → Q v' H') : (W Cf okf).call 27 [v, .p (.fn 29 [])] H Q := by
  refine top_mk extMono Try.func27 body27 (by decide) rfl ?_
  simp only [c27, Try.f27, Option.getD_some]
  have hl := txs_len L
  rcases hv with ⟨rfl, hx⟩ | ⟨b, g, rfl, hb⟩
  · have : L = [] := by cases L with
      | nil => rfl
      | cons a l => simp [txs] at hx
    subst this
    simp -implicitDefEqProofs -dsimp (maxSteps := 1000000) (disch := first | omega | (simp only [wkLen]; omega) | decide +kernel) only [↓wkPre, ↓wkPre2, ↓wkE, wkPost, wkDef, wkF, simprocAttr]
    refine imp_call md_40 (w40n H _ _ ?_)
    simp -implicitDefEqProofs -dsimp (maxSteps := 1000000) (disch := first | omega | (simp only [wkLen]; omega) | decide +kernel) only [↓wkPre, ↓wkPre2, ↓wkE, wkPost, wkDef, wkF, simprocAttr]
    exact hq _ _ (.inl ⟨rfl, rfl⟩)
  · have hblt := (List.getElem?_eq_some_iff.1 hb).1
    simp -implicitDefEqProofs -dsimp (maxSteps := 1000000) (disch := first | omega | (simp only [wkLen]; omega) | decide +kernel) only [↓wkPre, ↓wkPre2, ↓wkE, wkPost, wkDef, wkF, simprocAttr]
    rw [hl]
    refine imp_call md_40 (w40 L hL b g false true H hb _ ?_)
    intro H1 hfr1 hle1
    unfold ixT
    cases hf : L.findIdx? (fun t => !t.done) with
    | none =>
      simp -implicitDefEqProofs -dsimp (maxSteps := 1000000) (disch := first | omega | (simp only [wkLen]; omega) | decide +kernel) only [↓wkPre, ↓wkPre2, ↓wkE, wkPost, wkDef, wkF, simprocAttr]
      have hall := comm_all (L := L) (fun j hj => by simpa using List.findIdx?_eq_none_iff.1 hf L[j] (List.getElem_mem hj))
      refine hq _ _ ?_
      rw [hall]
      exact .inr ⟨b, g, L.length, false, true, txs L, rfl, (hfr1 b hblt).trans hb, by omega, by rw [← hl, List.take_length], fun _ => rfl⟩
    | some i0 =>
      obtain ⟨hi0, hdel, hkeep⟩ := List.findIdx?_eq_some_iff_getElem.1 hf
      have hdel : L[i0].done = false := by simpa using hdel
      have e1 : commF (L.take i0) = L.take i0 := comm_all (fun j hj => by
        rw [List.getElem_take]
        simpa using hkeep j (by rw [List.length_take] at hj; omega))
      have hpre : L.take i0 = commF (L.take (i0 + 1)) := by
        have := comm_snoc (L.take i0) L[i0]
        rw [← List.take_succ_eq_append_getElem hi0, hdel, e1] at this
        simpa using this.symm
      have hne2 : ¬ (i0 : Int) = -1 := by omega
      simp -implicitDefEqProofs -dsimp (maxSteps := 1000000) (disch := first | omega | (simp only [wkLen]; omega) | decide +kernel) only [↓wkPre, ↓wkPre2, ↓wkE, wkPost, wkDef, wkF, simprocAttr, hne2]
      refine loop_use extMono (fun m' e Hc => ∃ (i j : Nat) (D : List Tx), m' = L.length - j ∧ i < j ∧ j ≤ L.length ∧ e 0 = .ref b g 0 L.length false ∧ e 1 = .p (.fn 29 []) ∧ e 5 = .p (I i) ∧ e 6 = .p (I j) ∧ D.length = L.length ∧ Hc[b]? = some (.arr true g 4 (txs D)) ∧
        D.take i = commF (L.take j) ∧ (∀ k, j ≤ k → D[k]? = L[k]?)) ?_ (L.length - (i0 + 1)) _ _ ⟨i0, i0 + 1, L, rfl, by omega, by omega, ?_⟩
      · rintro m' e Hc ⟨i, j, D, rfl, hij, hj, e0, e1, e5, e6, hDl, kb, hD1, hD2⟩
        have hdl := txs_len D
        have kblt := (List.getElem?_eq_some_iff.1 kb).1
        rcases Nat.lt_or_ge j L.length with hlt | hge
        · have gj : (txs D)[j]? = some (txP L[j]) := by
            have := hD2 j (Nat.le_refl _)
            simp [txs, this, hlt]
          have hs := comm_snoc (L.take j) L[j]
          rw [← List.take_succ_eq_append_getElem hlt] at hs
          simp -implicitDefEqProofs -dsimp (maxSteps := 1000000) (disch := first | omega | (simp only [wkLen]; omega) | decide +kernel) only [↓wkPre, ↓wkPre2, ↓wkE, wkPost, wkDef, wkF, simprocAttr, e0, e1, e5, e6, kb, gj, hdl, hDl]
          have hnew : ∀ x : Blk, (Hc ++ [x])[Hc.length]? = some x := fun x => by simp
          refine imp_call md_29 (w29 L[j] _ _ ?_)
          intro H2 hfr2 hle2
          simp only [List.length_append, List.length_cons, List.length_nil] at hfr2 hle2
          have k2b := (hfr2 b (by omega)).trans ((hs_app kblt).trans kb)
          have k2n := (hfr2 Hc.length (by omega)).trans (hnew _)
          cases hh : L[j].done with
          | true =>
            rw [hh, if_pos rfl] at hs
            have gi : (txs D)[i]? = some (txP D[i]!) := by simp [txs, show i < D.length by omega]
            have k2n' : H2[Hc.length]? = some (.var true (.p (.agg [I L[j].who, .sl 16 (vts L[j].evs), B true, I L[j].pos]))) := by rw [k2n, ← hh]
            have hst : ∀ (X : List PV), X.set i (.agg [I L[j].who, .sl 16 (vts L[j].evs), B true, I L[j].pos]) = X.set i (txP L[j]) := fun X => by rw [← hh]
            simp -implicitDefEqProofs -dsimp (maxSteps := 1000000) (disch := first | omega | (simp only [wkLen]; omega) | decide +kernel) only [↓wkPre, ↓wkPre2, ↓wkE, wkPost, wkDef, wkF, simprocAttr, e0, e1, e5, e6, hh, k2b, k2n', hdl, hDl, gi]
            refine ⟨L.length - (j + 1), by omega, i + 1, j + 1, D.set i L[j], rfl, by omega, by omega, by push_cast; rfl, by push_cast; rfl, by simpa using hDl, ?_, ?_, ?_⟩
            · rw [hst, txs_set]
            · rw [hs, ← hD1, List.take_succ_eq_append_getElem (by simp; omega)]
              simp [List.take_set_of_le]
            · intro k hk
              rw [List.getElem?_set_ne (by omega)]
              exact hD2 k (by omega)
          | false =>
            rw [hh] at hs
            simp -implicitDefEqProofs -dsimp (maxSteps := 1000000) (disch := first | omega | (simp only [wkLen]; omega) | decide +kernel) only [↓wkPre, ↓wkPre2, ↓wkE, wkPost, wkDef, wkF, simprocAttr, e0, e1, e5, e6, hh, k2b, k2n, hdl, hDl]
            refine ⟨L.length - (j + 1), by omega, i, j + 1, D, rfl, by omega, by omega, rfl, by push_cast; rfl, hDl, rfl, ?_, fun k hk => hD2 k (by omega)⟩
            rw [hD1, hs]; simp
        · obtain rfl : j = L.length := by omega
          have hcl := clr44 (off := i) (len := L.length - i) (ex := false) kb (by omega) (by omega)
          rw [setR_tail (by simp; omega), txs_take, hD1, List.take_length] at hcl
          have hil : (commF L).length = i := by
            have := congrArg List.length hD1
            rw [List.take_length, List.length_take] at this; omega
          simp -implicitDefEqProofs -dsimp (maxSteps := 1000000) (disch := first | omega | (simp only [wkLen]; omega) | decide +kernel) only [↓wkPre, ↓wkPre2, ↓wkE, wkPost, wkDef, wkF, simprocAttr, e0, e1, e5, e6, kb, hdl, hDl, hcl]
          rw [Nat.sub_zero]
          refine hq _ _ (.inr ⟨b, g, i, false, true, _, rfl, hs_set kblt, by simp [txs_len, hil], ?_, fun _ => rfl⟩)
          rw [List.take_append_of_le_length (by rw [txs_len]; omega), List.take_of_length_le (by rw [txs_len]; omega)]
      · simp -implicitDefEqProofs -dsimp (maxSteps := 1000000) (disch := first | omega | (simp only [wkLen]; omega) | decide +kernel) only [↓wkPre, ↓wkPre2, ↓wkE, wkPost, wkDef, wkF, simprocAttr]
        exact ⟨by push_cast; rfl, (hfr1 b hblt).trans hb, hpre, fun _ _ => trivial⟩
theorem q13 (L : List Tx) (hL : L.length ≤ 1000) : PS Cf okf 13 [25] [.sl 4 (txs L)] (fun v => v = .sl 4 (txs (commF L))) := by
  refine PS.mk extMono Try.func13 body13 (by decide) rfl ?_
  simp only [c13, Try.f13, Option.getD_some]
  simp -implicitDefEqProofs -dsimp (maxSteps := 1000000) (disch := first | omega | (simp only [wkLen]; omega) | decide +kernel) only [↓wkPre, ↓wkPre2, ↓wkE, wkPost, wkDef, wkF, simprocAttr]
  refine imp_call md_28 (w28 L hL _ ?_)
  intro v H hv
  obtain ⟨vs1, vs2, vs3⟩ := own_shape hv
  simp -implicitDefEqProofs -dsimp (maxSteps := 1000000) (disch := first | omega | (simp only [wkLen]; omega) | decide +kernel) only [↓wkPre, ↓wkPre2, ↓wkE, wkPost, wkDef, wkF, simprocAttr, vs1, vs2, vs3]
  refine imp_call md_27 (w27 L hL v H hv _ ?_)
  intro v' H' ht
  obtain ⟨us1, us2, us3⟩ := ts_shape ht
  simp -implicitDefEqProofs -dsimp (maxSteps := 1000000) (disch := first | omega | (simp only [wkLen]; omega) | decide +kernel) only [↓wkPre, ↓wkPre2, ↓wkE, wkPost, wkDef, wkF, simprocAttr, us1, us2, us3]
  have : frzR Try.prog H' [25] v' = some (.sl 4 (txs (commF L))) := by
    have h4 := ht.frz (n := 4) telem_25
    rcases id ht with ⟨rfl, _⟩ | ⟨b, g, n, ex, l, ys, rfl, _⟩
    · rw [frzR_nsl]; exact h4
    · rw [frzR_ref]; exact h4
  rw [this]
  rfl
end Go.Ev.F35
end
section
namespace Go.Ev.F35
open Go.Proofs Go.Ev
set_option maxRecDepth 100000
set_option linter.all false
/-- An open transaction and where it lies. -/
structure Od where
  q : Nat
  v : AV
  t : Tx
def Od.bs (x : Od) : List Nat := x.q :: x.v.blk.toList
def cft (mb : Nat) (X : List Od) : List Nat := mb :: X.flatMap Od.bs
abbrev odK (e : Int × Nat) : Int := e.1
abbrev odV (e : Int × Nat) : AV := .vptr e.2 0
def odE (X : List Od) : List (Int × Nat) := X.map fun x => (x.t.who, x.q)
abbrev odB (v : AV) (t : Tx) : Blk := .var true (.agg [.p (I t.who), v, .p (B t.done), .p (I t.pos)])
structure OdI (H : Heap) (x : Od) : Prop where
  hq : H[x.q]? = some (odB x.v x.t)
  hv : OwnS H x.v 16 (vts x.t.evs)
structure CI (H : Heap) (mb : Nat) (X : List Od) : Prop where
  hm : ∃ g E, H[mb]? = some (amB .i64 odK odV true g E) ∧ E.Perm (odE X)
  hx : ∀ x ∈ X, OdI H x
  nw : (X.map (·.t.who)).Nodup
  nf : (cft mb X).Nodup
theorem OdI.lt {H : Heap} {x : Od} (h : OdI H x) {i : Nat} (hi : i ∈ x.bs) : i < H.length := by
  unfold Od.bs at hi
  rcases List.mem_cons.1 hi with rfl | hi
  · exact lt_of h.hq
  · exact h.hv.lt _ (Option.mem_toList.1 hi)
theorem OdI.keep {H H' : Heap} {x : Od} (h : OdI H x) (k : ∀ i ∈ x.bs, H'[i]? = H[i]?) : OdI H' x :=
  ⟨(k _ (by simp [Od.bs])).trans h.hq, h.hv.keep fun b hb => k b (by simp [Od.bs, hb])⟩
theorem mem_cft {mb : Nat} {X : List Od} {x : Od} (hx : x ∈ X) {i : Nat} (hi : i ∈ x.bs) : i ∈ cft mb X := List.mem_cons_of_mem _ (List.mem_flatMap.2 ⟨x, hx, hi⟩)
theorem CI.lt {H : Heap} {mb : Nat} {X : List Od} (h : CI H mb X) {i : Nat} (hi : i ∈ cft mb X) : i < H.length := by
  rcases List.mem_cons.1 hi with rfl | hi
  · obtain ⟨g, E, h1, _⟩ := h.hm; exact lt_of h1
  · obtain ⟨x, hx, hi⟩ := List.mem_flatMap.1 hi
    exact (h.hx x hx).lt hi
theorem CI.keep {H H' : Heap} {mb : Nat} {X : List Od} (h : CI H mb X) (k : ∀ i ∈ cft mb X, H'[i]? = H[i]?) : CI H' mb X where
  hm := by obtain ⟨g, E, h1, h2⟩ := h.hm; exact ⟨g, E, (k _ (by simp [cft])).trans h1, h2⟩
  hx x hx := (h.hx x hx).keep fun i hi => k i (mem_cft hx hi)
  nw := h.nw
  nf := h.nf
theorem cft_perm {mb : Nat} {X Y : List Od} (hp : X.Perm Y) : (cft mb X).Perm (cft mb Y) := ((hp.flatMap_right Od.bs)).cons _
theorem CI.perm {H : Heap} {mb : Nat} {X Y : List Od} (h : CI H mb X) (hp : X.Perm Y) : CI H mb Y where
  hm := by obtain ⟨g, E, h1, h2⟩ := h.hm; exact ⟨g, E, h1, h2.trans (hp.map _)⟩
  hx x hx := h.hx x (hp.mem_iff.2 hx)
  nw := ((hp.map _).nodup_iff).1 h.nw
  nf := ((cft_perm hp).nodup_iff).1 h.nf
theorem CI.pick {H : Heap} {mb : Nat} {X : List Od} (h : CI H mb X) (who : Int) : who ∉ X.map (·.t.who) ∨ ∃ x R, x.t.who = who ∧ X.Perm (x :: R) ∧ CI H mb (x :: R) := by
  by_cases hw : who ∈ X.map (·.t.who)
  · right
    obtain ⟨x, hx, rfl⟩ := List.mem_map.1 hw
    obtain ⟨A, C, e⟩ := List.append_of_mem hx
    have hp : X.Perm (x :: (A ++ C)) := by rw [e]; exact List.perm_middle
    exact ⟨x, A ++ C, rfl, hp, h.perm hp⟩
  · exact .inl hw
theorem odE_keys (X : List Od) : (odE X).map odK = X.map (·.t.who) := by simp [odE]
theorem CI.ndE {H : Heap} {mb : Nat} {X : List Od} (h : CI H mb X) {E : List (Int × Nat)} (hE : E.Perm (odE X)) : (E.map odK).Nodup := by
  rw [(hE.map odK).nodup_iff, odE_keys]
  exact h.nw
theorem CI.memE {X : List Od} {E : List (Int × Nat)} (hE : E.Perm (odE X)) {who : Int} (hw : who ∉ X.map (·.t.who)) : who ∉ E.map odK := by
  rw [(hE.map odK).mem_iff, odE_keys]
  exact hw
theorem CI.hit {H : Heap} {mb : Nat} {x : Od} {R : List Od} (h : CI H mb (x :: R)) : evLook Try.prog 67 (.map mb) (.p (I x.t.who)) false H = some (.vptr x.q 0) := by
  obtain ⟨g, E, h1, h2⟩ := h.hm
  exact am_hit (P := Try.prog) tmap_67 tzero_68 h1 (h.ndE h2) (x := (x.t.who, x.q)) (h2.mem_iff.2 (by simp [odE])) false
theorem CI.miss {H : Heap} {mb : Nat} {X : List Od} (h : CI H mb X) {who : Int} (hw : who ∉ X.map (·.t.who)) : evLook Try.prog 67 (.map mb) (.p (I who)) false H = some (.p .nptr) := by
  obtain ⟨g, E, h1, h2⟩ := h.hm
  exact am_miss (P := Try.prog) tmap_67 tzero_68 h1 (CI.memE h2 hw) false
theorem cft_cons (mb : Nat) (x : Od) (R : List Od) : (cft mb (x :: R)).Perm (x.v.blk.toList ++ x.q :: cft mb R) := by
  rw [List.perm_iff_count]
  intro a
  simp only [cft, Od.bs, List.flatMap_cons, List.count_cons, List.count_append, List.cons_append]
  omega
/-- An open transaction changes where it lies. -/
theorem CI.upd {H H' : Heap} {mb : Nat} {x : Od} {R : List Od} (h : CI H mb (x :: R)) {v' : AV} {t' : Tx} (hw : t'.who = x.t.who)
    (hv : ∀ b, v'.blk = some b → x.v.blk = some b ∨ H.length ≤ b) (hx' : OdI H' ⟨x.q, v', t'⟩)
    (k : ∀ i, i < H.length → i ≠ x.q → x.v.blk ≠ some i → H'[i]? = H[i]?) : CI H' mb (⟨x.q, v', t'⟩ :: R) := by
  have hf := ((cft_cons mb x R).nodup_iff).1 h.nf
  have hmem := fun i => (cft_cons mb x R).mem_iff (a := i)
  obtain ⟨d1, d2, d3⟩ := List.nodup_append.1 hf
  obtain ⟨d4, d5⟩ := List.nodup_cons.1 d2
  have kf : ∀ i, i ∈ cft mb R → H'[i]? = H[i]? := by
    intro i hi
    refine k i (h.lt ((hmem i).2 (by simp [hi]))) (fun e => d4 (by rw [← e]; exact hi)) (fun e => d3 i (by simp [e]) i (by simp [hi]) rfl)
  refine ⟨?_, ?_, ?_, ?_⟩
  · obtain ⟨g, E, h1, h2⟩ := h.hm
    exact ⟨g, E, (kf _ (by simp [cft])).trans h1, by rw [show odE (⟨x.q, v', t'⟩ :: R) = odE (x :: R) by simp [odE, hw]]; exact h2⟩
  · intro y hy
    rcases List.mem_cons.1 hy with rfl | hy
    · exact hx'
    · exact (h.hx y (List.mem_cons_of_mem _ hy)).keep fun i hi => kf i (mem_cft hy hi)
  · have := h.nw
    rw [List.map_cons] at this ⊢
    rw [hw]
    exact this
  · rw [(cft_cons mb ⟨x.q, v', t'⟩ R).nodup_iff]
    refine List.nodup_append.2 ⟨nd_toList _, d2, fun a ha b hb e => ?_⟩
    subst e
    rcases hv a (by simpa using ha) with h1 | h1
    · exact d3 a (by simp [h1]) a hb rfl
    · have : a < H.length := h.lt ((hmem a).2 (List.mem_append_right _ hb))
      omega
theorem odE_out {x : Od} {R : List Od} (nd : ((x :: R).map (·.t.who)).Nodup) : (odE (x :: R)).filter (fun y => !(odK y == x.t.who)) = odE R := by
  have hn := (List.nodup_cons.1 nd).1
  unfold odE
  rw [List.map_cons, List.filter_cons, if_neg (by simp), List.filter_eq_self.2]
  intro y hy
  obtain ⟨z, hz, rfl⟩ := List.mem_map.1 hy
  have : ¬ z.t.who = x.t.who := fun e => hn (List.mem_map.2 ⟨z, hz, e⟩)
  simpa [odK] using this
theorem CI.del {H H1 : Heap} {mb : Nat} {x : Od} {R : List Od} (h : CI H mb (x :: R)) (k : ∀ i ∈ cft mb R, H1[i]? = H[i]?) : ∃ H', evDelete Try.prog 67 (.map mb) (.p (I x.t.who)) H1 = some H' ∧ CI H' mb R ∧ (∀ i, i ≠ mb → H'[i]? = H1[i]?) ∧ H'.length = H1.length := by
  obtain ⟨g, E, h1, h2⟩ := h.hm
  have h1' : H1[mb]? = some (amB .i64 odK odV true g E) := (k _ (by simp [cft])).trans h1
  obtain ⟨g', hd⟩ := am_del (P := Try.prog) tmap_67 h1' (h.ndE h2) x.t.who
  have hf := ((cft_cons mb x R).nodup_iff).1 h.nf
  obtain ⟨d1, d2, d3⟩ := List.nodup_append.1 hf
  obtain ⟨d4, d5⟩ := List.nodup_cons.1 d2
  have d6 := d5
  unfold cft at d6
  obtain ⟨e1, e2⟩ := List.nodup_cons.1 d6
  refine ⟨_, hd, ⟨⟨g', _, hs_set (lt_of h1'), ?_⟩, ?_, (List.nodup_cons.1 h.nw).2, d5⟩, fun i hi => hs_ne (Ne.symm hi), by simp⟩
  · rw [← odE_out h.nw]; exact h2.filter _
  · intro y hy
    refine (h.hx y (List.mem_cons_of_mem _ hy)).keep fun i hi => (hs_ne fun e => e1 ?_).trans (k i (mem_cft hy hi))
    rw [e]
    exact List.mem_flatMap.2 ⟨y, hy, hi⟩
theorem CI.ins {H : Heap} {mb : Nat} {X : List Od} (h : CI H mb X) {who : Int} (hw : who ∉ X.map (·.t.who)) : ∃ H', evMapUpdate Try.prog 67 (.map mb) (.p (I who)) (.vptr H.length 0) (H ++ [odB .nsl ⟨who, [], false, 0⟩]) = some H' ∧
    CI H' mb (⟨H.length, .nsl, ⟨who, [], false, 0⟩⟩ :: X) ∧ (∀ i, i < H.length → i ≠ mb → H'[i]? = H[i]?) ∧ H'.length = H.length + 1 := by
  have h1 : CI (H ++ [odB .nsl ⟨who, [], false, 0⟩]) mb X := h.keep fun i hi => hs_app (h.lt hi)
  obtain ⟨g, E, hb, h2⟩ := h1.hm
  obtain ⟨g', E', hu, h3⟩ := am_upd (P := Try.prog) tmap_67 hb (h1.ndE h2) (who, H.length)
  rw [show odK (who, H.length) = who from rfl, am_none (CI.memE h2 hw)] at h3
  have hmb : mb < H.length := h.lt (by simp [cft])
  have hnf := h.nf
  unfold cft at hnf
  obtain ⟨e1, e2⟩ := List.nodup_cons.1 hnf
  refine ⟨_, hu, ⟨⟨g', E', hs_set (lt_of hb), h3.trans (h2.cons _)⟩, ?_, List.nodup_cons.2 ⟨hw, h.nw⟩, ?_⟩, fun i hi hne => (hs_ne (Ne.symm hne)).trans (hs_app hi), by simp⟩
  · intro y hy
    rcases List.mem_cons.1 hy with rfl | hy
    · exact ⟨(hs_ne (by dsimp only; omega)).trans (by simp), OwnS.nil _ _⟩
    · refine (h1.hx y hy).keep fun i hi => hs_ne fun e => e1 ?_
      rw [e]
      exact List.mem_flatMap.2 ⟨y, hy, hi⟩
  · rw [(cft_cons mb ⟨H.length, .nsl, ⟨who, [], false, 0⟩⟩ X).nodup_iff]
    refine List.nodup_append.2 ⟨nd_toList _, List.nodup_cons.2 ⟨fun hm => by have := h.lt hm; dsimp only at this; omega, h.nf⟩, fun a ha => ?_⟩
    simp [AV.blk] at ha
/-- The open ones and the closed ones behind some events. -/
def opn (O : List Tx) (w : Int) : List Vt := match O.find? (·.who == w) with | some t => t.evs | none => []
def outO (O : List Tx) (w : Int) : List Tx := O.filter fun t => !(t.who == w)
def stpC (s : List Tx × List Tx) (i : Nat) (v : Vt) : List Tx × List Tx :=
  if bsdF v = true then s
  else if endsF v = true then (outO s.1 v.who, s.2 ++ [⟨v.who, opn s.1 v.who ++ [v], decide (v.o.kind = 8) && decide (v.a.code = 0), i⟩])
  else (⟨v.who, opn s.1 v.who ++ [v], false, i⟩ :: outO s.1 v.who, s.2)
def cutA (l : List Vt) : List Tx × List Tx := l.zipIdx.foldl (fun s x => stpC s x.2 x.1) ([], [])
theorem cutA_snoc (l : List Vt) (v : Vt) : cutA (l ++ [v]) = stpC (cutA l) l.length v := by
  unfold cutA
  rw [List.zipIdx_append, List.foldl_append]
  simp
/-- What the heap's open ones tell. -/
structure Tel (X : List Od) (O : List Tx) : Prop where
  hp : (X.map (·.t)).Perm O
  nd : (O.map (·.who)).Nodup
theorem opn_perm {X : List Od} {O : List Tx} (h : Tel X O) {x : Od} {R : List Od} (hp : X.Perm (x :: R)) : opn O x.t.who = x.t.evs ∧ ((R.map (·.t)).Perm (outO O x.t.who)) := by
  have h1 : (x.t :: R.map (·.t)).Perm O := ((hp.map (fun x : Od => x.t)).symm.trans h.hp)
  have hnd : ((x.t :: R.map (·.t)).map (·.who)).Nodup := ((h1.map (·.who)).nodup_iff).2 h.nd
  have hx : x.t ∈ O := h1.mem_iff.1 List.mem_cons_self
  refine ⟨?_, ?_⟩
  · unfold opn
    cases hf : O.find? (·.who == x.t.who) with
    | none =>
      have := List.find?_eq_none.1 hf x.t hx
      simp at this
    | some t =>
      have h2 := List.find?_some hf
      have h3 := List.mem_of_find?_eq_some hf
      have h4 := h1.mem_iff.2 h3
      rcases List.mem_cons.1 h4 with rfl | h4
      · rfl
      · rw [List.map_cons, List.nodup_cons] at hnd
        exact absurd (List.mem_map.2 ⟨t, h4, by simpa using h2⟩) hnd.1
  · have h2 := h1.filter fun t => !(t.who == x.t.who)
    unfold outO
    refine List.Perm.trans ?_ h2
    rw [List.map_cons, List.nodup_cons] at hnd
    rw [List.filter_cons, if_neg (by simp), List.filter_eq_self.2]
    intro t ht
    have : ¬ t.who = x.t.who := fun e => hnd.1 (List.mem_map.2 ⟨t, ht, e⟩)
    simpa using this
theorem opn_none {X : List Od} {O : List Tx} (h : Tel X O) {w : Int} (hw : w ∉ X.map (·.t.who)) : opn O w = [] ∧ outO O w = O := by
  have hwO : w ∉ O.map (·.who) := fun hm => hw (by
    have := ((h.hp.map (·.who)).mem_iff (a := w)).2 hm
    rwa [List.map_map] at this)
  refine ⟨?_, ?_⟩
  · unfold opn
    cases hf : O.find? (·.who == w) with
    | none => rfl
    | some t =>
      have h2 := List.find?_some hf
      exact absurd (List.mem_map.2 ⟨t, List.mem_of_find?_eq_some hf, by simpa using h2⟩) hwO
  · unfold outO
    rw [List.filter_eq_self.2]
    intro t ht
    have : ¬ t.who = w := fun e => hwO (List.mem_map.2 ⟨t, ht, e⟩)
    simpa using this
theorem outO_nd {O : List Tx} (h : (O.map (·.who)).Nodup) (w : Int) : ((outO O w).map (·.who)).Nodup ∧ w ∉ (outO O w).map (·.who) := by
  refine ⟨h.sublist (List.filter_sublist.map _), fun hm => ?_⟩
  obtain ⟨t, ht, e⟩ := List.mem_map.1 hm
  have := (List.mem_filter.1 ht).2
  simp [e] at this
structure CutOk (l : List Vt) (s : List Tx × List Tx) : Prop where
  o1 : ∀ t ∈ s.1, t.done = false ∧ t.evs.length ≤ l.length ∧ ∀ v ∈ t.evs, v ∈ l
  o2 : ∀ t ∈ s.2, t.evs.length ≤ l.length ∧ ∀ v ∈ t.evs, v ∈ l
  ln : s.1.length + s.2.length ≤ l.length
  nd : (s.1.map (·.who)).Nodup
theorem opn_ok {l : List Vt} {s : List Tx × List Tx} (h : CutOk l s) (w : Int) : (opn s.1 w).length ≤ l.length ∧ ∀ v ∈ opn s.1 w, v ∈ l := by
  unfold opn
  cases hf : s.1.find? (·.who == w) with
  | none => exact ⟨Nat.zero_le _, fun v hv => by cases hv⟩
  | some t => exact (h.o1 t (List.mem_of_find?_eq_some hf)).2
theorem outO_len (O : List Tx) (w : Int) : (outO O w).length ≤ O.length := List.length_filter_le _ _
theorem cut_ok_step {l : List Vt} {s : List Tx × List Tx} (h : CutOk l s) (v : Vt) (i : Nat) : CutOk (l ++ [v]) (stpC s i v) := by
  have hm : ∀ x, x ∈ l → x ∈ l ++ [v] := fun x hx => List.mem_append_left _ hx
  have hl : (l ++ [v]).length = l.length + 1 := by simp
  obtain ⟨p1, p2⟩ := opn_ok h v.who
  have q1 : (opn s.1 v.who ++ [v]).length ≤ (l ++ [v]).length ∧ ∀ x ∈ opn s.1 v.who ++ [v], x ∈ l ++ [v] := by
    refine ⟨by simp; omega, fun x hx => ?_⟩
    rcases List.mem_append.1 hx with h1 | h1
    · exact hm x (p2 x h1)
    · exact List.mem_append_right _ h1
  have o1 : ∀ t ∈ s.1, t.done = false ∧ t.evs.length ≤ (l ++ [v]).length ∧ ∀ x ∈ t.evs, x ∈ l ++ [v] := fun t ht => ⟨(h.o1 t ht).1, by have := (h.o1 t ht).2.1; omega, fun x hx => hm x ((h.o1 t ht).2.2 x hx)⟩
  have o2 : ∀ t ∈ s.2, t.evs.length ≤ (l ++ [v]).length ∧ ∀ x ∈ t.evs, x ∈ l ++ [v] := fun t ht => ⟨by have := (h.o2 t ht).1; omega, fun x hx => hm x ((h.o2 t ht).2 x hx)⟩
  have hln := h.ln
  have ho := outO_len s.1 v.who
  obtain ⟨n1, n2⟩ := outO_nd h.nd v.who
  unfold stpC
  split
  · exact ⟨o1, o2, by omega, h.nd⟩
  split
  · refine ⟨fun t ht => o1 t (List.mem_filter.1 ht).1, fun t ht => ?_, by simp; omega, n1⟩
    rcases List.mem_append.1 ht with h1 | h1
    · exact o2 t h1
    · rw [List.mem_singleton.1 h1]; exact q1
  · refine ⟨fun t ht => ?_, o2, by simp only [List.length_cons]; omega, List.nodup_cons.2 ⟨n2, n1⟩⟩
    rcases List.mem_cons.1 ht with rfl | h1
    · exact ⟨rfl, q1⟩
    · exact o1 t (List.mem_filter.1 h1).1
theorem cut_ok (l : List Vt) : ∀ i, i ≤ l.length → CutOk (l.take i) (cutA (l.take i))
  | 0, _ => ⟨fun t ht => (by cases ht), fun t ht => (by cases ht), Nat.le_refl _, List.nodup_nil⟩
  | i + 1, hi => by
    rw [List.take_succ_eq_append_getElem (by omega), cutA_snoc]
    exact cut_ok_step (cut_ok l i (by omega)) _ _
end Go.Ev.F35
end
