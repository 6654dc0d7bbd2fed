/- A part of the proof: walks of the functions that the law calls. No condition. -/
import Derived.Test.YtlbdgdpnilebpaaRefB
set_option linter.all false
section
namespace Go.Ev.F35
open Go.Proofs Go.Ev
set_option maxRecDepth 100000
set_option linter.all false
def doF (m : Mo) (t : Mi) (who : Nat) (o : Ao) : Mo × An :=
  if o.kind < 1 ∨ 9 < o.kind then (m, ⟨1, [], 0⟩)
  else if t.on = false ∧ 6 ≤ o.kind then (m, ⟨10, [], 0⟩)
  else if 6 ≤ o.kind then (⟨(turnF m.M (onMi t) o).1, m.S.set who (turnF m.M (onMi t) o).2.1⟩, (turnF m.M (onMi t) o).2.2)
  else if o.kind = 1 ∨ o.kind = 3 then (⟨m.M, m.S.set who (changeF (onMi t) (viewF m.M t.L) o).1⟩, (changeF (onMi t) (viewF m.M t.L) o).2)
  else (⟨m.M, m.S.set who (onMi t)⟩, asksF (viewF m.M t.L) o)
theorem frzR_do {H : Heap} {v w : AV} {K : List PV} {x : PV} (h : OwnS H v 3 K) (a : PV) (hx : frzN Try.prog H 4 38 w = some x) : frzR Try.prog H [48, 38] (.tup [.agg [.p a, v], w]) = some (.tup [.agg [a, .sl 3 K], x]) := by
  show (frzL (frzN Try.prog H 4) [.agg [.p a, v], w] [48, 38]).map PV.tup = _
  simp only [frzL, List.headD_cons, List.tail_cons]
  rw [frzN_mo h, hx]
  rfl
theorem hN (H : Heap) (x y : Blk) {j : Nat} (h : j < H.length) : ((H ++ [x]).set H.length y)[j]? = H[j]? := (hs_ne (by omega)).trans (hs_app h)
theorem hNn (H : Heap) (x y : Blk) : ((H ++ [x]).set H.length y)[H.length]? = some y := hs_set (by simp)
abbrev z30 : Blk := .var true (.agg [.nsl, .nsl])
abbrev z47 : Blk := .var true (.agg [.p (I 0), .nsl, .p (I 0)])
def DoS (M : List Rc) (S : List Mi) (t : Mi) (who : Nat) (o : Ao) (bb g : Nat) (e : Env) (H : Heap) : Prop :=
  e 1 = .p (I who) ∧ e 3 = .vptr 0 0 ∧ e 5 = .vptr 1 0 ∧ e 6 = .vptr 2 0 ∧ e 7 = .vptr 3 0 ∧ e 8 = .vptr 4 0 ∧ e 9 = .vptr 5 0 ∧
  H[0]? = some (.var true (.p (moP ⟨M, S⟩))) ∧ H[1]? = some (.var true (.p (aoP o))) ∧ H[2]? = some z30 ∧ H[3]? = some z47 ∧ H[4]? = some (.var true (.p (miP t))) ∧
  H[5]? = some (.var true (.agg [.p (rcsP M), .ref bb g 0 S.length false])) ∧ H[bb]? = some (.arr true g 3 (mis S))
set_option maxHeartbeats 2000000 in
theorem p28 (m : Mo) (who : Nat) (o : Ao) (hw : who < m.S.length) (hlS : m.S.length ≤ 100) (hM : m.M.length + m.S[who].L.length ≤ 1000) (hS : m.S[who].S.length ≤ 1000) (hm : ∀ s ∈ m.S[who].S, s.2 ≤ m.S[who].L.length) (nd : (m.S[who].S.map (·.1)).Nodup) : PS Cf okf 34 [48, 38] [moP m, I who, aoP o] (fun v => v = .tup [moP (doF m m.S[who] who o).1, anP (doF m m.S[who] who o).2]) := by
  refine PS.mk extMono Try.func34 body34 (by decide) rfl ?_
  simp only [c34, Try.f34, Option.getD_some]
  obtain ⟨M, S⟩ := m
  obtain ⟨ok, key, x, y, val, w, n⟩ := o
  dsimp only at hw hlS hM hS hm nd
  have hl := mis_len S
  have gi := mis_get hw
  have hset := fun t => mis_set S who t
  generalize hT : S[who] = t at gi hM hS hm nd
  obtain ⟨on, L, Sv⟩ := t
  dsimp only at hM hS hm nd
  unfold doF
  dsimp only
  by_cases h1 : ok < 1
  · rw [if_pos (.inl h1)]
    simp -implicitDefEqProofs -dsimp (maxSteps := 1000000) (disch := first | omega | (simp only [wkLen]; omega) | decide +kernel) only [↓wkPre, ↓wkPre2, ↓wkE, wkPost, wkDef, wkF, simprocAttr, hl, gi, h1]
    rw [frzN_an0]
    rfl
  · by_cases h9 : 9 < ok
    · rw [if_pos (.inr h9)]
      simp -implicitDefEqProofs -dsimp (maxSteps := 1000000) (disch := first | omega | (simp only [wkLen]; omega) | decide +kernel) only [↓wkPre, ↓wkPre2, ↓wkE, wkPost, wkDef, wkF, simprocAttr, hl, gi, h1, h9]
      rw [frzN_an0]
      rfl
    · rw [if_neg (fun h => h.elim h1 h9)]
      by_cases h10 : on = false ∧ 6 ≤ ok
      · rw [if_pos h10]
        obtain ⟨rfl, h6⟩ := h10
        simp -implicitDefEqProofs -dsimp (maxSteps := 1000000) (disch := first | omega | (simp only [wkLen]; omega) | decide +kernel) only [↓wkPre, ↓wkPre2, ↓wkE, wkPost, wkDef, wkF, simprocAttr, hl, gi, h1, h9, h6]
        rw [frzN_an0]
        rfl
      · rw [if_neg h10]
        have hr5 : on = true ∨ (on = false ∧ ¬ 6 ≤ ok) := by cases on <;> simp_all
        have ap : ∀ {X : Tr} {k : AV → Heap → Prop} {tg : Tag k}, (∀ bb g H, 6 ≤ bb → H[0]? = some (.var true (.p (moP ⟨M, S⟩))) → H[1]? = some (.var true (.p (aoP ⟨ok, key, x, y, val, w, n⟩))) → H[2]? = some z30 → H[3]? = some z47 → H[4]? = some (.var true (.p (miP ⟨on, L, Sv⟩))) →
            H[5]? = some (.var true (.agg [.p (rcsP M), .nsl])) → H[bb]? = some (.arr true g 3 (mis S)) → k (.ref bb g 0 S.length false) H) →
            oK2 (evAppend Try.prog 46 .nsl (.p (.sl 3 (mis S))) [.var true (.p (moP ⟨M, S⟩)), .var true (.p (aoP ⟨ok, key, x, y, val, w, n⟩)), z30, z47, .var true (.p (miP ⟨on, L, Sv⟩)), .var true (.agg [.p (rcsP M), .nsl])]) k tg := by
          intro X k tg hk
          refine append_any telem_46 (ys := mis S) (xs := []) rfl (OwnS.nil _ _) (by rw [byt_79, hl]; simp; omega) ?_
          intro v H hown hfr hle hb
          rw [List.nil_append] at hown
          simp only [List.length_cons, List.length_nil] at hfr hle
          have hf := fun (j : Nat) (hj : j < 6) => hfr j (by omega) (by simp [AV.blk])
          rcases hown with ⟨rfl, hx⟩ | ⟨bb, g, rfl, hbk⟩
          · rw [hx] at hl; simp at hl; omega
          · have hbb : 6 ≤ bb := by
              rcases Nat.lt_or_ge bb 6 with h | h
              · have := hb bb rfl (by simp; omega); simp [AV.blk] at this
              · exact h
            rw [hl]
            exact hk bb g H hbb (hf 0 (by omega)) (hf 1 (by omega)) (hf 2 (by omega)) (hf 3 (by omega)) (hf 4 (by omega)) (hf 5 (by omega)) hbk
        rcases hr5 with rfl | ⟨rfl, h6⟩
        · simp -implicitDefEqProofs -dsimp (maxSteps := 1000000) (disch := first | omega | (simp only [wkLen]; omega) | decide +kernel) only [↓wkPre, ↓wkPre2, ↓wkE, wkPost, wkDef, wkF, simprocAttr, hl, gi, h1, h9]
          refine ap (X := W Cf okf) ?_
          intro bb g H hbb q0 q1 q2 q3 q4 q5 qb
          simp -implicitDefEqProofs -dsimp (maxSteps := 1000000) (disch := first | omega | (simp only [wkLen]; omega) | decide +kernel) only [↓wkPre, ↓wkPre2, ↓evC_region_st [8], ↓evC_text_st [8], ↓evC_cond, ↓evC_block, ↓evC_stop [8], wkPost, wkDef, wkF, simprocAttr, q0, q1, q2, q3, q4, q5, qb]
          have hH := (List.getElem?_eq_some_iff.1 q5).1
          refine stop_st (DoS M S ⟨true, L, Sv⟩ who ⟨ok, key, x, y, val, w, n⟩ bb g) ⟨rfl, rfl, rfl, rfl, rfl, rfl, rfl, (hs_ne (by omega)).trans q0, (hs_ne (by omega)).trans q1, (hs_ne (by omega)).trans q2, (hs_ne (by omega)).trans q3, (hs_ne (by omega)).trans q4, hs_set hH, (hs_ne (by omega)).trans qb⟩ ?_
          clear q0 q1 q2 q3 q4 q5 qb hH H
          rintro e H ⟨e1, e3, e5, e6, e7, e8, e9, q0, q1, q2, q3, q4, q5, qb⟩
          have hH := (List.getElem?_eq_some_iff.1 q5).1
          refine stop_go ?_
          simp -implicitDefEqProofs -dsimp (maxSteps := 1000000) (disch := first | omega | (simp only [wkLen]; omega) | decide +kernel) only [↓wkPre, ↓wkPre2, ↓evC_region_st [9], ↓evC_text_st [9], ↓evC_cond, ↓evC_block, ↓evC_stop [9], wkPost, wkDef, wkF, simprocAttr, e1, e3, e5, e6, e7, e8, e9, q0, q1, q2, q3, q4, q5, qb]
          refine stop_st (DoS M S ⟨true, L, Sv⟩ who ⟨ok, key, x, y, val, w, n⟩ bb g) ⟨e1, e3, e5, e6, e7, e8, e9, (hs_ne (by omega)).trans q0, (hs_ne (by omega)).trans q1, (hs_ne (by omega)).trans q2, (hs_ne (by omega)).trans q3, hs_set (by omega), (hs_ne (by omega)).trans q5, (hs_ne (by omega)).trans qb⟩ ?_
          clear q0 q1 q2 q3 q4 q5 qb hH e1 e3 e5 e6 e7 e8 e9 H e
          rintro e H ⟨e1, e3, e5, e6, e7, e8, e9, q0, q1, q2, q3, q4, q5, qb⟩
          have hH := (List.getElem?_eq_some_iff.1 q5).1
          have hB := (List.getElem?_eq_some_iff.1 qb).1
          refine stop_go ?_
          simp -implicitDefEqProofs -dsimp (maxSteps := 1000000) (disch := first | omega | (simp only [wkLen]; omega) | decide +kernel) only [↓wkPre, ↓wkPre2, ↓evC_region_st [10], ↓evC_text_st [10], ↓evC_cond, ↓evC_block, ↓evC_stop [10], wkPost, wkDef, wkF, simprocAttr, e1, e3, e5, e6, e7, e8, e9, q0, q1, q2, q3, q4, q5, qb]
          refine stop_st (fun e' H' => DoS M S ⟨true, L, Sv⟩ who ⟨ok, key, x, y, val, w, n⟩ bb g e' H' ∧ ∃ q, 6 ≤ q ∧ q ≠ bb ∧ e' 10 = .vptr q 0 ∧ H'[q]? = some z47) ⟨⟨e1, e3, e5, e6, e7, e8, e9, (hs_app (by omega)).trans q0, (hs_app (by omega)).trans q1, (hs_app (by omega)).trans q2, (hs_app (by omega)).trans q3, (hs_app (by omega)).trans q4, (hs_app (by omega)).trans q5, (hs_app hB).trans qb⟩, H.length, by omega, by omega, rfl, by simp⟩ ?_
          clear q0 q1 q2 q3 q4 q5 qb hH e1 e3 e5 e6 e7 e8 e9 hB H e
          rintro e H ⟨⟨e1, e3, e5, e6, e7, e8, e9, q0, q1, q2, q3, q4, q5, qb⟩, q, hq6, hqb, e10, qq⟩
          have hH := (List.getElem?_eq_some_iff.1 q5).1
          have hB := (List.getElem?_eq_some_iff.1 qb).1
          have hQ := (List.getElem?_eq_some_iff.1 qq).1
          refine stop_go ?_
          have hvl := viewF_len M L
          have h35 := p35 M L hM
          simp -implicitDefEqProofs -dsimp (maxSteps := 1000000) (disch := first | omega | (simp only [wkLen]; omega) | decide +kernel) only [↓wkPre, ↓wkPre2, ↓evC_region_st [11], ↓evC_text_st [11], ↓evC_cond, ↓evC_block, ↓evC_stop [11], wkPost, wkDef, wkF, simprocAttr, e1, e3, e5, e6, e7, e8, e9, e10, q0, q1, q2, q3, q4, q5, qb, qq]
          refine PS.app md_46 Try.func46 h35 rfl ?_
          rintro _ rfl
          generalize hV : viewF M L = V at *
          simp -implicitDefEqProofs -dsimp (maxSteps := 1000000) (disch := first | omega | (simp only [wkLen]; omega) | decide +kernel) only [↓wkPre, ↓wkPre2, ↓evC_region_st [11], ↓evC_text_st [11], ↓evC_cond, ↓evC_block, ↓evC_stop [11], wkPost, wkDef, wkF, simprocAttr, e1, e3, e5, e6, e7, e8, e9, e10, q0, q1, q2, q3, q4, q5, qb, qq]
          refine stop_st (fun e' H' => DoS M S ⟨true, L, Sv⟩ who ⟨ok, key, x, y, val, w, n⟩ bb g e' H' ∧ e' 10 = .vptr q 0 ∧ e' 11 = .p (rcsP V) ∧ H'[q]? = some z47) ⟨⟨e1, e3, e5, e6, e7, e8, e9, q0, q1, q2, q3, q4, q5, qb⟩, e10, rfl, qq⟩ ?_
          clear q0 q1 q2 q3 q4 q5 qb hH e1 e3 e5 e6 e7 e8 e9 e10 hB hQ qq H e
          rintro e H ⟨⟨e1, e3, e5, e6, e7, e8, e9, q0, q1, q2, q3, q4, q5, qb⟩, e10, e11, qq⟩
          have hH := (List.getElem?_eq_some_iff.1 q5).1
          have hB := (List.getElem?_eq_some_iff.1 qb).1
          have hQ := (List.getElem?_eq_some_iff.1 qq).1
          show stopK _ _ _ _ _ _
          by_cases h6 : 6 ≤ ok
          · rw [if_pos h6]
            have h37 := p37 ⟨M, S⟩ ⟨true, L, Sv⟩ ⟨ok, key, x, y, val, w, n⟩ hM hS hm nd h6 (by dsimp only; omega)
            refine stop_go ?_
            simp -implicitDefEqProofs -dsimp (maxSteps := 1000000) (disch := first | omega | (simp only [wkLen]; omega) | decide +kernel) only [↓wkPre, ↓wkPre2, ↓evC_region_st [13], ↓evC_text_st [13], ↓evC_cond, ↓evC_block, ↓evC_stop [13], wkPost, wkDef, wkF, simprocAttr, e1, e3, e5, e6, e7, e8, e9, e10, q0, q1, q2, q3, q4, q5, qb, qq, h6]
            refine PS.app md_47 Try.func47 h37 rfl ?_
            rintro _ rfl
            show _
            generalize hR : turnF M ⟨true, L, Sv⟩ ⟨ok, key, x, y, val, w, n⟩ = R
            obtain ⟨M', t', a'⟩ := R
            dsimp only
            simp -implicitDefEqProofs -dsimp (maxSteps := 1000000) (disch := first | omega | (simp only [wkLen]; omega) | decide +kernel) only [↓wkPre, ↓wkPre2, ↓evC_region_st [13], ↓evC_text_st [13], ↓evC_cond, ↓evC_block, ↓evC_stop [13], wkPost, wkDef, wkF, simprocAttr, e1, e3, e5, e6, e7, e8, e9, e10, q0, q1, q2, q3, q4, q5, qb, qq, h6]
            refine stop_st (fun e' H' => DoS M S ⟨true, L, Sv⟩ who ⟨ok, key, x, y, val, w, n⟩ bb g e' H' ∧ e' 10 = .vptr q 0 ∧ H'[q]? = some z47 ∧ e' 12 = .p (rcsP M') ∧ ∃ r s, 6 ≤ r ∧ 6 ≤ s ∧ r ≠ q ∧ s ≠ q ∧ r ≠ bb ∧ s ≠ bb ∧ r ≠ s ∧ e' 13 = .vptr r 0 ∧ e' 14 = .vptr s 0 ∧ H'[r]? = some (.var true (.p (miP t'))) ∧ H'[s]? = some (.var true (.p (anP a')))) ⟨⟨e1, e3, e5, e6, e7, e8, e9, (hs_app (by omega)).trans q0, (hs_app (by omega)).trans q1, (hs_app (by omega)).trans q2, (hs_app (by omega)).trans q3, (hs_app (by omega)).trans q4, (hs_app (by omega)).trans q5, (hs_app hB).trans qb⟩, e10, (hs_app hQ).trans qq, rfl, H.length, H.length + 1, by omega, by omega, by omega, by omega, by omega, by omega, by omega, rfl, rfl, by simp, by simp⟩ ?_
            clear q0 q1 q2 q3 q4 q5 qb hH e1 e3 e5 e6 e7 e8 e9 e10 hB hQ qq e11 H e
            rintro e H ⟨⟨e1, e3, e5, e6, e7, e8, e9, q0, q1, q2, q3, q4, q5, qb⟩, e10, qq, e12, r, s, hr, hs, n1, n2, n3, n4, n5, e13, e14, qr, qs⟩
            have hH := (List.getElem?_eq_some_iff.1 q5).1
            have hB := (List.getElem?_eq_some_iff.1 qb).1
            have hQ := (List.getElem?_eq_some_iff.1 qq).1
            have f1 : ∀ x : Blk, (H.set 5 x)[r]? = some (.var true (.p (miP t'))) := fun x => (hs_ne (by omega)).trans qr
            have f2 : ∀ x : Blk, (H.set 5 x)[4]? = some (.var true (.p (miP ⟨true, L, Sv⟩))) := fun x => (hs_ne (by omega)).trans q4
            have f3 : ∀ x y : Blk, ((H.set 5 x).set 4 y)[s]? = some (.var true (.p (anP a'))) := fun x y => (hs_ne (by omega)).trans ((hs_ne (by omega)).trans qs)
            have f4 : ∀ x y : Blk, ((H.set 5 x).set 4 y)[q]? = some z47 := fun x y => (hs_ne (by omega)).trans ((hs_ne (by omega)).trans qq)
            have f5 : ∀ (x y z : Blk) (j : Nat), j ≠ 5 → j ≠ 4 → j ≠ q → (((H.set 5 x).set 4 y).set q z)[j]? = H[j]? := fun x y z j h1 h2 h3 => (hs_ne (Ne.symm h3)).trans ((hs_ne (Ne.symm h2)).trans (hs_ne (Ne.symm h1)))
            refine stop_go ?_
            simp -implicitDefEqProofs -dsimp (maxSteps := 1000000) (disch := first | omega | (simp only [wkLen]; omega) | decide +kernel) only [↓wkPre, ↓wkPre2, ↓evC_region_st [21], ↓evC_text_st [21], ↓evC_cond, ↓evC_block, ↓evC_stop [21], wkPost, wkDef, wkF, simprocAttr, e1, e3, e5, e6, e7, e8, e9, e10, e12, e13, e14, q0, q1, q2, q3, q4, q5, qb, qq, qr, qs, f1, f2, f3, f4]
            refine stop_st (fun e' H' => e' 1 = .p (I who) ∧ e' 6 = .vptr 2 0 ∧ e' 7 = .vptr 3 0 ∧ e' 8 = .vptr 4 0 ∧ e' 9 = .vptr 5 0 ∧ e' 10 = .vptr q 0 ∧ H'[2]? = some z30 ∧ H'[3]? = some z47 ∧ H'[4]? = some (.var true (.p (miP t'))) ∧ H'[5]? = some (.var true (.agg [.p (rcsP M'), .ref bb g 0 S.length false])) ∧ H'[bb]? = some (.arr true g 3 (mis S)) ∧ H'[q]? = some (.var true (.p (anP a')))) ⟨e1, e6, e7, e8, e9, e10, (f5 _ _ _ 2 (by omega) (by omega) (by omega)).trans q2, (f5 _ _ _ 3 (by omega) (by omega) (by omega)).trans q3, (hs_ne (by omega)).trans (hs_set (by simp; omega)), (hs_ne (by omega)).trans ((hs_ne (by omega)).trans (hs_set (by omega))), (f5 _ _ _ bb (by omega) (by omega) (by omega)).trans qb, hs_set (by simp; omega)⟩ ?_
            clear q0 q1 q2 q3 q4 q5 qb hH e1 e3 e5 e6 e7 e8 e9 e10 hB hQ qq e12 e13 e14 qr qs f1 f2 f3 f4 f5 H e
            rintro e H ⟨e1, e6, e7, e8, e9, e10, q2, q3, q4, q5, qb, qq⟩
            have hH := (List.getElem?_eq_some_iff.1 q5).1
            have hB := (List.getElem?_eq_some_iff.1 qb).1
            refine stop_go ?_
            simp -implicitDefEqProofs -dsimp (maxSteps := 1000000) (disch := first | omega | (simp only [wkLen]; omega) | decide +kernel) only [↓wkPre, ↓wkPre2, ↓evC_region_st [22], ↓evC_text_st [22], ↓evC_cond, ↓evC_block, ↓evC_stop [22], wkPost, wkDef, wkF, simprocAttr, e1, e6, e7, e8, e9, e10, q2, q3, q4, q5, qb, qq, hl, gi]
            rw [hset]
            refine stop_st (fun e' H' => e' 6 = .vptr 2 0 ∧ e' 7 = .vptr 3 0 ∧ e' 9 = .vptr 5 0 ∧ e' 10 = .vptr q 0 ∧ H'[2]? = some z30 ∧ H'[3]? = some z47 ∧ H'[5]? = some (.var true (.agg [.p (rcsP M'), .ref bb g 0 S.length false])) ∧ H'[bb]? = some (.arr true g 3 (mis (S.set who t'))) ∧ H'[q]? = some (.var true (.p (anP a')))) ⟨e6, e7, e9, e10, (hs_ne (by omega)).trans q2, (hs_ne (by omega)).trans q3, (hs_ne (by omega)).trans q5, hs_set hB, (hs_ne (by omega)).trans qq⟩ ?_
            clear q2 q3 q4 q5 qb hH e1 e6 e7 e8 e9 e10 hB qq H e
            rintro e H ⟨e6, e7, e9, e10, q2, q3, q5, qb, qq⟩
            have hH := (List.getElem?_eq_some_iff.1 q5).1
            have z2 : ∀ x : Blk, (H.set 2 x)[2]? = some x := fun x => hs_set (by omega)
            have z3 : ∀ x : Blk, (H.set 2 x)[3]? = some z47 := fun x => (hs_ne (by omega)).trans q3
            have zq : ∀ x : Blk, (H.set 2 x)[q]? = some (.var true (.p (anP a'))) := fun x => (hs_ne (by omega)).trans qq
            have y2 : ∀ x y : Blk, ((H.set 2 x).set 3 y)[2]? = some x := fun x y => (hs_ne (by omega)).trans (z2 x)
            have y3 : ∀ x y : Blk, ((H.set 2 x).set 3 y)[3]? = some y := fun x y => hs_set (by simp; omega)
            have yb : ∀ x y : Blk, ((H.set 2 x).set 3 y)[bb]? = some (.arr true g 3 (mis (S.set who t'))) := fun x y => (hs_ne (by omega)).trans ((hs_ne (by omega)).trans qb)
            refine stop_pl pl_34_22 (by kernel_rfl) (by decide +kernel) ?_
            simp only [pl_34_22]
            simp -implicitDefEqProofs -dsimp (maxSteps := 1000000) (disch := first | omega | (simp only [wkLen]; omega) | decide +kernel) only [↓wkPre, ↓wkPre2, ↓wkE, wkPost, wkDef, wkF, simprocAttr, e6, e7, e9, e10, q2, q3, q5, qb, qq, z2, z3, zq, y2, y3]
            rw [frzN_mo (own3_at (yb _ _) (by rw [mis_len]; simp))]
            have hE : turnF M (onMi ⟨true, L, Sv⟩) ⟨ok, key, x, y, val, w, n⟩ = (M', t', a') := hR
            rw [hE]
            first | done | rfl
          · rw [if_neg h6]
            by_cases h13 : ok = 1 ∨ ok = 3
            · rw [if_pos h13]
              have h38 := p38 ⟨true, L, Sv⟩ V ⟨ok, key, x, y, val, w, n⟩ (by omega) (by dsimp only; omega)
              rcases h13 with rfl | rfl
              · refine stop_go ?_
                simp -implicitDefEqProofs -dsimp (maxSteps := 1000000) (disch := first | omega | (simp only [wkLen]; omega) | decide +kernel) only [↓wkPre, ↓wkPre2, ↓evC_region_st [18], ↓evC_text_st [18], ↓evC_cond, ↓evC_block, ↓evC_stop [18], wkPost, wkDef, wkF, simprocAttr, e1, e3, e5, e6, e7, e8, e9, e10, q0, q1, q2, q3, q4, q5, qb, qq, h6, e11]
                refine PS.app md_48 Try.func48 h38 rfl ?_
                rintro _ rfl
                generalize hR : changeF ⟨true, L, Sv⟩ V ⟨1, key, x, y, val, w, n⟩ = R
                obtain ⟨t', a'⟩ := R
                dsimp only
                simp -implicitDefEqProofs -dsimp (maxSteps := 1000000) (disch := first | omega | (simp only [wkLen]; omega) | decide +kernel) only [↓wkPre, ↓wkPre2, ↓evC_region_st [18], ↓evC_text_st [18], ↓evC_cond, ↓evC_block, ↓evC_stop [18], wkPost, wkDef, wkF, simprocAttr, e1, e3, e5, e6, e7, e8, e9, e10, q0, q1, q2, q3, q4, q5, qb, qq, h6, e11]
                refine stop_st (fun e' H' => DoS M S ⟨true, L, Sv⟩ who ⟨1, key, x, y, val, w, n⟩ bb g e' H' ∧ e' 10 = .vptr q 0 ∧ H'[q]? = some z47 ∧ ∃ r s, 6 ≤ r ∧ 6 ≤ s ∧ r ≠ q ∧ s ≠ q ∧ r ≠ bb ∧ s ≠ bb ∧ r ≠ s ∧ e' 15 = .vptr r 0 ∧ e' 16 = .vptr s 0 ∧ H'[r]? = some (.var true (.p (miP t'))) ∧ H'[s]? = some (.var true (.p (anP a')))) ⟨⟨e1, e3, e5, e6, e7, e8, e9, (hs_app (by omega)).trans q0, (hs_app (by omega)).trans q1, (hs_app (by omega)).trans q2, (hs_app (by omega)).trans q3, (hs_app (by omega)).trans q4, (hs_app (by omega)).trans q5, (hs_app hB).trans qb⟩, e10, (hs_app hQ).trans qq, H.length, H.length + 1, by omega, by omega, by omega, by omega, by omega, by omega, by omega, rfl, rfl, by simp, by simp⟩ ?_
                clear q0 q1 q2 q3 q4 q5 qb hH e1 e3 e5 e6 e7 e8 e9 e10 hB hQ qq e11 H e
                rintro e H ⟨⟨e1, e3, e5, e6, e7, e8, e9, q0, q1, q2, q3, q4, q5, qb⟩, e10, qq, r, s, hr, hs, n1, n2, n3, n4, n5, e15, e16, qr, qs⟩
                have hH := (List.getElem?_eq_some_iff.1 q5).1
                have hB := (List.getElem?_eq_some_iff.1 qb).1
                have hQ := (List.getElem?_eq_some_iff.1 qq).1
                have f3 : ∀ y : Blk, (H.set 4 y)[s]? = some (.var true (.p (anP a'))) := fun y => (hs_ne (by omega)).trans qs
                have f4 : ∀ y : Blk, (H.set 4 y)[q]? = some z47 := fun y => (hs_ne (by omega)).trans qq
                have f5 : ∀ (y z : Blk) (j : Nat), j ≠ 4 → j ≠ q → ((H.set 4 y).set q z)[j]? = H[j]? := fun y z j h2 h3 => (hs_ne (Ne.symm h3)).trans (hs_ne (Ne.symm h2))
                refine stop_go ?_
                simp -implicitDefEqProofs -dsimp (maxSteps := 1000000) (disch := first | omega | (simp only [wkLen]; omega) | decide +kernel) only [↓wkPre, ↓wkPre2, ↓evC_region_st [21], ↓evC_text_st [21], ↓evC_cond, ↓evC_block, ↓evC_stop [21], wkPost, wkDef, wkF, simprocAttr, e1, e3, e5, e6, e7, e8, e9, e10, e15, e16, q0, q1, q2, q3, q4, q5, qb, qq, qr, qs, f3, f4]
                refine stop_st (fun e' H' => e' 1 = .p (I who) ∧ e' 6 = .vptr 2 0 ∧ e' 7 = .vptr 3 0 ∧ e' 8 = .vptr 4 0 ∧ e' 9 = .vptr 5 0 ∧ e' 10 = .vptr q 0 ∧ H'[2]? = some z30 ∧ H'[3]? = some z47 ∧ H'[4]? = some (.var true (.p (miP t'))) ∧ H'[5]? = some (.var true (.agg [.p (rcsP M), .ref bb g 0 S.length false])) ∧ H'[bb]? = some (.arr true g 3 (mis S)) ∧ H'[q]? = some (.var true (.p (anP a')))) ⟨e1, e6, e7, e8, e9, e10, (f5 _ _ 2 (by omega) (by omega)).trans q2, (f5 _ _ 3 (by omega) (by omega)).trans q3, (hs_ne (by omega)).trans (hs_set (by omega)), (f5 _ _ 5 (by omega) (by omega)).trans q5, (f5 _ _ bb (by omega) (by omega)).trans qb, hs_set (by simp; omega)⟩ ?_
                clear q0 q1 q2 q3 q4 q5 qb hH e1 e3 e5 e6 e7 e8 e9 e10 hB hQ qq e15 e16 qr qs f3 f4 f5 H e
                rintro e H ⟨e1, e6, e7, e8, e9, e10, q2, q3, q4, q5, qb, qq⟩
                have hH := (List.getElem?_eq_some_iff.1 q5).1
                have hB := (List.getElem?_eq_some_iff.1 qb).1
                refine stop_go ?_
                simp -implicitDefEqProofs -dsimp (maxSteps := 1000000) (disch := first | omega | (simp only [wkLen]; omega) | decide +kernel) only [↓wkPre, ↓wkPre2, ↓evC_region_st [22], ↓evC_text_st [22], ↓evC_cond, ↓evC_block, ↓evC_stop [22], wkPost, wkDef, wkF, simprocAttr, e1, e6, e7, e8, e9, e10, q2, q3, q4, q5, qb, qq, hl, gi]
                rw [hset]
                refine stop_st (fun e' H' => e' 6 = .vptr 2 0 ∧ e' 7 = .vptr 3 0 ∧ e' 9 = .vptr 5 0 ∧ e' 10 = .vptr q 0 ∧ H'[2]? = some z30 ∧ H'[3]? = some z47 ∧ H'[5]? = some (.var true (.agg [.p (rcsP M), .ref bb g 0 S.length false])) ∧ H'[bb]? = some (.arr true g 3 (mis (S.set who t'))) ∧ H'[q]? = some (.var true (.p (anP a')))) ⟨e6, e7, e9, e10, (hs_ne (by omega)).trans q2, (hs_ne (by omega)).trans q3, (hs_ne (by omega)).trans q5, hs_set hB, (hs_ne (by omega)).trans qq⟩ ?_
                clear q2 q3 q4 q5 qb hH e1 e6 e7 e8 e9 e10 hB qq H e
                rintro e H ⟨e6, e7, e9, e10, q2, q3, q5, qb, qq⟩
                have hH := (List.getElem?_eq_some_iff.1 q5).1
                have z2 : ∀ x : Blk, (H.set 2 x)[2]? = some x := fun x => hs_set (by omega)
                have z3 : ∀ x : Blk, (H.set 2 x)[3]? = some z47 := fun x => (hs_ne (by omega)).trans q3
                have zq : ∀ x : Blk, (H.set 2 x)[q]? = some (.var true (.p (anP a'))) := fun x => (hs_ne (by omega)).trans qq
                have y2 : ∀ x y : Blk, ((H.set 2 x).set 3 y)[2]? = some x := fun x y => (hs_ne (by omega)).trans (z2 x)
                have y3 : ∀ x y : Blk, ((H.set 2 x).set 3 y)[3]? = some y := fun x y => hs_set (by simp; omega)
                have yb : ∀ x y : Blk, ((H.set 2 x).set 3 y)[bb]? = some (.arr true g 3 (mis (S.set who t'))) := fun x y => (hs_ne (by omega)).trans ((hs_ne (by omega)).trans qb)
                refine stop_pl pl_34_22 (by kernel_rfl) (by decide +kernel) ?_
                simp only [pl_34_22]
                simp -implicitDefEqProofs -dsimp (maxSteps := 1000000) (disch := first | omega | (simp only [wkLen]; omega) | decide +kernel) only [↓wkPre, ↓wkPre2, ↓wkE, wkPost, wkDef, wkF, simprocAttr, e6, e7, e9, e10, q2, q3, q5, qb, qq, z2, z3, zq, y2, y3]
                rw [frzN_mo (own3_at (yb _ _) (by rw [mis_len]; simp))]
                have hE : changeF (onMi ⟨true, L, Sv⟩) V ⟨1, key, x, y, val, w, n⟩ = (t', a') := hR
                rw [hE]
                first | done | rfl
              · refine stop_go ?_
                simp -implicitDefEqProofs -dsimp (maxSteps := 1000000) (disch := first | omega | (simp only [wkLen]; omega) | decide +kernel) only [↓wkPre, ↓wkPre2, ↓evC_region_st [18], ↓evC_text_st [18], ↓evC_cond, ↓evC_block, ↓evC_stop [18], wkPost, wkDef, wkF, simprocAttr, e1, e3, e5, e6, e7, e8, e9, e10, q0, q1, q2, q3, q4, q5, qb, qq, h6, e11]
                refine PS.app md_48 Try.func48 h38 rfl ?_
                rintro _ rfl
                generalize hR : changeF ⟨true, L, Sv⟩ V ⟨3, key, x, y, val, w, n⟩ = R
                obtain ⟨t', a'⟩ := R
                dsimp only
                simp -implicitDefEqProofs -dsimp (maxSteps := 1000000) (disch := first | omega | (simp only [wkLen]; omega) | decide +kernel) only [↓wkPre, ↓wkPre2, ↓evC_region_st [18], ↓evC_text_st [18], ↓evC_cond, ↓evC_block, ↓evC_stop [18], wkPost, wkDef, wkF, simprocAttr, e1, e3, e5, e6, e7, e8, e9, e10, q0, q1, q2, q3, q4, q5, qb, qq, h6, e11]
                refine stop_st (fun e' H' => DoS M S ⟨true, L, Sv⟩ who ⟨3, key, x, y, val, w, n⟩ bb g e' H' ∧ e' 10 = .vptr q 0 ∧ H'[q]? = some z47 ∧ ∃ r s, 6 ≤ r ∧ 6 ≤ s ∧ r ≠ q ∧ s ≠ q ∧ r ≠ bb ∧ s ≠ bb ∧ r ≠ s ∧ e' 15 = .vptr r 0 ∧ e' 16 = .vptr s 0 ∧ H'[r]? = some (.var true (.p (miP t'))) ∧ H'[s]? = some (.var true (.p (anP a')))) ⟨⟨e1, e3, e5, e6, e7, e8, e9, (hs_app (by omega)).trans q0, (hs_app (by omega)).trans q1, (hs_app (by omega)).trans q2, (hs_app (by omega)).trans q3, (hs_app (by omega)).trans q4, (hs_app (by omega)).trans q5, (hs_app hB).trans qb⟩, e10, (hs_app hQ).trans qq, H.length, H.length + 1, by omega, by omega, by omega, by omega, by omega, by omega, by omega, rfl, rfl, by simp, by simp⟩ ?_
                clear q0 q1 q2 q3 q4 q5 qb hH e1 e3 e5 e6 e7 e8 e9 e10 hB hQ qq e11 H e
                rintro e H ⟨⟨e1, e3, e5, e6, e7, e8, e9, q0, q1, q2, q3, q4, q5, qb⟩, e10, qq, r, s, hr, hs, n1, n2, n3, n4, n5, e15, e16, qr, qs⟩
                have hH := (List.getElem?_eq_some_iff.1 q5).1
                have hB := (List.getElem?_eq_some_iff.1 qb).1
                have hQ := (List.getElem?_eq_some_iff.1 qq).1
                have f3 : ∀ y : Blk, (H.set 4 y)[s]? = some (.var true (.p (anP a'))) := fun y => (hs_ne (by omega)).trans qs
                have f4 : ∀ y : Blk, (H.set 4 y)[q]? = some z47 := fun y => (hs_ne (by omega)).trans qq
                have f5 : ∀ (y z : Blk) (j : Nat), j ≠ 4 → j ≠ q → ((H.set 4 y).set q z)[j]? = H[j]? := fun y z j h2 h3 => (hs_ne (Ne.symm h3)).trans (hs_ne (Ne.symm h2))
                refine stop_go ?_
                simp -implicitDefEqProofs -dsimp (maxSteps := 1000000) (disch := first | omega | (simp only [wkLen]; omega) | decide +kernel) only [↓wkPre, ↓wkPre2, ↓evC_region_st [21], ↓evC_text_st [21], ↓evC_cond, ↓evC_block, ↓evC_stop [21], wkPost, wkDef, wkF, simprocAttr, e1, e3, e5, e6, e7, e8, e9, e10, e15, e16, q0, q1, q2, q3, q4, q5, qb, qq, qr, qs, f3, f4]
                refine stop_st (fun e' H' => e' 1 = .p (I who) ∧ e' 6 = .vptr 2 0 ∧ e' 7 = .vptr 3 0 ∧ e' 8 = .vptr 4 0 ∧ e' 9 = .vptr 5 0 ∧ e' 10 = .vptr q 0 ∧ H'[2]? = some z30 ∧ H'[3]? = some z47 ∧ H'[4]? = some (.var true (.p (miP t'))) ∧ H'[5]? = some (.var true (.agg [.p (rcsP M), .ref bb g 0 S.length false])) ∧ H'[bb]? = some (.arr true g 3 (mis S)) ∧ H'[q]? = some (.var true (.p (anP a')))) ⟨e1, e6, e7, e8, e9, e10, (f5 _ _ 2 (by omega) (by omega)).trans q2, (f5 _ _ 3 (by omega) (by omega)).trans q3, (hs_ne (by omega)).trans (hs_set (by omega)), (f5 _ _ 5 (by omega) (by omega)).trans q5, (f5 _ _ bb (by omega) (by omega)).trans qb, hs_set (by simp; omega)⟩ ?_
                clear q0 q1 q2 q3 q4 q5 qb hH e1 e3 e5 e6 e7 e8 e9 e10 hB hQ qq e15 e16 qr qs f3 f4 f5 H e
                rintro e H ⟨e1, e6, e7, e8, e9, e10, q2, q3, q4, q5, qb, qq⟩
                have hH := (List.getElem?_eq_some_iff.1 q5).1
                have hB := (List.getElem?_eq_some_iff.1 qb).1
                refine stop_go ?_
                simp -implicitDefEqProofs -dsimp (maxSteps := 1000000) (disch := first | omega | (simp only [wkLen]; omega) | decide +kernel) only [↓wkPre, ↓wkPre2, ↓evC_region_st [22], ↓evC_text_st [22], ↓evC_cond, ↓evC_block, ↓evC_stop [22], wkPost, wkDef, wkF, simprocAttr, e1, e6, e7, e8, e9, e10, q2, q3, q4, q5, qb, qq, hl, gi]
                rw [hset]
                refine stop_st (fun e' H' => e' 6 = .vptr 2 0 ∧ e' 7 = .vptr 3 0 ∧ e' 9 = .vptr 5 0 ∧ e' 10 = .vptr q 0 ∧ H'[2]? = some z30 ∧ H'[3]? = some z47 ∧ H'[5]? = some (.var true (.agg [.p (rcsP M), .ref bb g 0 S.length false])) ∧ H'[bb]? = some (.arr true g 3 (mis (S.set who t'))) ∧ H'[q]? = some (.var true (.p (anP a')))) ⟨e6, e7, e9, e10, (hs_ne (by omega)).trans q2, (hs_ne (by omega)).trans q3, (hs_ne (by omega)).trans q5, hs_set hB, (hs_ne (by omega)).trans qq⟩ ?_
                clear q2 q3 q4 q5 qb hH e1 e6 e7 e8 e9 e10 hB qq H e
                rintro e H ⟨e6, e7, e9, e10, q2, q3, q5, qb, qq⟩
                have hH := (List.getElem?_eq_some_iff.1 q5).1
                have z2 : ∀ x : Blk, (H.set 2 x)[2]? = some x := fun x => hs_set (by omega)
                have z3 : ∀ x : Blk, (H.set 2 x)[3]? = some z47 := fun x => (hs_ne (by omega)).trans q3
                have zq : ∀ x : Blk, (H.set 2 x)[q]? = some (.var true (.p (anP a'))) := fun x => (hs_ne (by omega)).trans qq
                have y2 : ∀ x y : Blk, ((H.set 2 x).set 3 y)[2]? = some x := fun x y => (hs_ne (by omega)).trans (z2 x)
                have y3 : ∀ x y : Blk, ((H.set 2 x).set 3 y)[3]? = some y := fun x y => hs_set (by simp; omega)
                have yb : ∀ x y : Blk, ((H.set 2 x).set 3 y)[bb]? = some (.arr true g 3 (mis (S.set who t'))) := fun x y => (hs_ne (by omega)).trans ((hs_ne (by omega)).trans qb)
                refine stop_pl pl_34_22 (by kernel_rfl) (by decide +kernel) ?_
                simp only [pl_34_22]
                simp -implicitDefEqProofs -dsimp (maxSteps := 1000000) (disch := first | omega | (simp only [wkLen]; omega) | decide +kernel) only [↓wkPre, ↓wkPre2, ↓wkE, wkPost, wkDef, wkF, simprocAttr, e6, e7, e9, e10, q2, q3, q5, qb, qq, z2, z3, zq, y2, y3]
                rw [frzN_mo (own3_at (yb _ _) (by rw [mis_len]; simp))]
                have hE : changeF (onMi ⟨true, L, Sv⟩) V ⟨3, key, x, y, val, w, n⟩ = (t', a') := hR
                rw [hE]
                first | done | rfl
            · rw [if_neg h13]
              have h39 := p39 V ⟨ok, key, x, y, val, w, n⟩ (by omega)
              have h131 : ¬ ok = 1 := fun h => h13 (.inl h)
              have h133 : ¬ ok = 3 := fun h => h13 (.inr h)
              refine stop_go ?_
              simp -implicitDefEqProofs -dsimp (maxSteps := 1000000) (disch := first | omega | (simp only [wkLen]; omega) | decide +kernel) only [↓wkPre, ↓wkPre2, ↓evC_region_st [21], ↓evC_text_st [21], ↓evC_cond, ↓evC_block, ↓evC_stop [21], wkPost, wkDef, wkF, simprocAttr, e1, e3, e5, e6, e7, e8, e9, e10, q0, q1, q2, q3, q4, q5, qb, qq, h6, e11, h131, h133]
              refine PS.app md_49 Try.func49 h39 rfl ?_
              rintro _ rfl
              generalize hR : asksF V ⟨ok, key, x, y, val, w, n⟩ = a'
              simp -implicitDefEqProofs -dsimp (maxSteps := 1000000) (disch := first | omega | (simp only [wkLen]; omega) | decide +kernel) only [↓wkPre, ↓wkPre2, ↓evC_region_st [21], ↓evC_text_st [21], ↓evC_cond, ↓evC_block, ↓evC_stop [21], wkPost, wkDef, wkF, simprocAttr, e1, e3, e5, e6, e7, e8, e9, e10, q0, q1, q2, q3, q4, q5, qb, qq, h6, e11, h131, h133]
              refine stop_st (fun e' H' => e' 1 = .p (I who) ∧ e' 6 = .vptr 2 0 ∧ e' 7 = .vptr 3 0 ∧ e' 8 = .vptr 4 0 ∧ e' 9 = .vptr 5 0 ∧ e' 10 = .vptr q 0 ∧ H'[2]? = some z30 ∧ H'[3]? = some z47 ∧ H'[4]? = some (.var true (.p (miP ⟨true, L, Sv⟩))) ∧ H'[5]? = some (.var true (.agg [.p (rcsP M), .ref bb g 0 S.length false])) ∧ H'[bb]? = some (.arr true g 3 (mis S)) ∧ H'[q]? = some (.var true (.p (anP a')))) ⟨e1, e6, e7, e8, e9, e10, (hs_ne (by omega)).trans q2, (hs_ne (by omega)).trans q3, (hs_ne (by omega)).trans q4, (hs_ne (by omega)).trans q5, (hs_ne (by omega)).trans qb, hs_set (by omega)⟩ ?_
              clear q0 q1 q2 q3 q4 q5 qb hH e1 e3 e5 e6 e7 e8 e9 e10 hB hQ qq e11 H e
              rintro e H ⟨e1, e6, e7, e8, e9, e10, q2, q3, q4, q5, qb, qq⟩
              have hH := (List.getElem?_eq_some_iff.1 q5).1
              have hB := (List.getElem?_eq_some_iff.1 qb).1
              refine stop_go ?_
              simp -implicitDefEqProofs -dsimp (maxSteps := 1000000) (disch := first | omega | (simp only [wkLen]; omega) | decide +kernel) only [↓wkPre, ↓wkPre2, ↓evC_region_st [22], ↓evC_text_st [22], ↓evC_cond, ↓evC_block, ↓evC_stop [22], wkPost, wkDef, wkF, simprocAttr, e1, e6, e7, e8, e9, e10, q2, q3, q4, q5, qb, qq, hl, gi]
              rw [hset]
              refine stop_st (fun e' H' => e' 6 = .vptr 2 0 ∧ e' 7 = .vptr 3 0 ∧ e' 9 = .vptr 5 0 ∧ e' 10 = .vptr q 0 ∧ H'[2]? = some z30 ∧ H'[3]? = some z47 ∧ H'[5]? = some (.var true (.agg [.p (rcsP M), .ref bb g 0 S.length false])) ∧ H'[bb]? = some (.arr true g 3 (mis (S.set who ⟨true, L, Sv⟩))) ∧ H'[q]? = some (.var true (.p (anP a')))) ⟨e6, e7, e9, e10, (hs_ne (by omega)).trans q2, (hs_ne (by omega)).trans q3, (hs_ne (by omega)).trans q5, hs_set hB, (hs_ne (by omega)).trans qq⟩ ?_
              clear q2 q3 q4 q5 qb hH e1 e6 e7 e8 e9 e10 hB qq H e
              rintro e H ⟨e6, e7, e9, e10, q2, q3, q5, qb, qq⟩
              have hH := (List.getElem?_eq_some_iff.1 q5).1
              have z2 : ∀ x : Blk, (H.set 2 x)[2]? = some x := fun x => hs_set (by omega)
              have z3 : ∀ x : Blk, (H.set 2 x)[3]? = some z47 := fun x => (hs_ne (by omega)).trans q3
              have zq : ∀ x : Blk, (H.set 2 x)[q]? = some (.var true (.p (anP a'))) := fun x => (hs_ne (by omega)).trans qq
              have y2 : ∀ x y : Blk, ((H.set 2 x).set 3 y)[2]? = some x := fun x y => (hs_ne (by omega)).trans (z2 x)
              have y3 : ∀ x y : Blk, ((H.set 2 x).set 3 y)[3]? = some y := fun x y => hs_set (by simp; omega)
              have yb : ∀ x y : Blk, ((H.set 2 x).set 3 y)[bb]? = some (.arr true g 3 (mis (S.set who ⟨true, L, Sv⟩))) := fun x y => (hs_ne (by omega)).trans ((hs_ne (by omega)).trans qb)
              refine stop_pl pl_34_22 (by kernel_rfl) (by decide +kernel) ?_
              simp only [pl_34_22]
              simp -implicitDefEqProofs -dsimp (maxSteps := 1000000) (disch := first | omega | (simp only [wkLen]; omega) | decide +kernel) only [↓wkPre, ↓wkPre2, ↓wkE, wkPost, wkDef, wkF, simprocAttr, e6, e7, e9, e10, q2, q3, q5, qb, qq, z2, z3, zq, y2, y3]
              rw [frzN_mo (own3_at (yb _ _) (by rw [mis_len]; simp))]
              first | done | rfl
        · simp -implicitDefEqProofs -dsimp (maxSteps := 1000000) (disch := first | omega | (simp only [wkLen]; omega) | decide +kernel) only [↓wkPre, ↓wkPre2, ↓wkE, wkPost, wkDef, wkF, simprocAttr, hl, gi, h1, h9, h6]
          refine ap (X := W Cf okf) ?_
          intro bb g H hbb q0 q1 q2 q3 q4 q5 qb
          simp -implicitDefEqProofs -dsimp (maxSteps := 1000000) (disch := first | omega | (simp only [wkLen]; omega) | decide +kernel) only [↓wkPre, ↓wkPre2, ↓evC_region_st [8], ↓evC_text_st [8], ↓evC_cond, ↓evC_block, ↓evC_stop [8], wkPost, wkDef, wkF, simprocAttr, h6, q0, q1, q2, q3, q4, q5, qb]
          have hH := (List.getElem?_eq_some_iff.1 q5).1
          refine stop_st (DoS M S ⟨false, L, Sv⟩ who ⟨ok, key, x, y, val, w, n⟩ bb g) ⟨rfl, rfl, rfl, rfl, rfl, rfl, rfl, (hs_ne (by omega)).trans q0, (hs_ne (by omega)).trans q1, (hs_ne (by omega)).trans q2, (hs_ne (by omega)).trans q3, (hs_ne (by omega)).trans q4, hs_set hH, (hs_ne (by omega)).trans qb⟩ ?_
          clear q0 q1 q2 q3 q4 q5 qb hH H
          rintro e H ⟨e1, e3, e5, e6, e7, e8, e9, q0, q1, q2, q3, q4, q5, qb⟩
          have hH := (List.getElem?_eq_some_iff.1 q5).1
          refine stop_go ?_
          simp -implicitDefEqProofs -dsimp (maxSteps := 1000000) (disch := first | omega | (simp only [wkLen]; omega) | decide +kernel) only [↓wkPre, ↓wkPre2, ↓evC_region_st [9], ↓evC_text_st [9], ↓evC_cond, ↓evC_block, ↓evC_stop [9], wkPost, wkDef, wkF, simprocAttr, e1, e3, e5, e6, e7, e8, e9, q0, q1, q2, q3, q4, q5, qb]
          refine stop_st (DoS M S ⟨true, L, Sv⟩ who ⟨ok, key, x, y, val, w, n⟩ bb g) ⟨e1, e3, e5, e6, e7, e8, e9, (hs_ne (by omega)).trans q0, (hs_ne (by omega)).trans q1, (hs_ne (by omega)).trans q2, (hs_ne (by omega)).trans q3, hs_set (by omega), (hs_ne (by omega)).trans q5, (hs_ne (by omega)).trans qb⟩ ?_
          clear q0 q1 q2 q3 q4 q5 qb hH e1 e3 e5 e6 e7 e8 e9 H e
          rintro e H ⟨e1, e3, e5, e6, e7, e8, e9, q0, q1, q2, q3, q4, q5, qb⟩
          have hH := (List.getElem?_eq_some_iff.1 q5).1
          have hB := (List.getElem?_eq_some_iff.1 qb).1
          refine stop_go ?_
          simp -implicitDefEqProofs -dsimp (maxSteps := 1000000) (disch := first | omega | (simp only [wkLen]; omega) | decide +kernel) only [↓wkPre, ↓wkPre2, ↓evC_region_st [10], ↓evC_text_st [10], ↓evC_cond, ↓evC_block, ↓evC_stop [10], wkPost, wkDef, wkF, simprocAttr, e1, e3, e5, e6, e7, e8, e9, q0, q1, q2, q3, q4, q5, qb]
          refine stop_st (fun e' H' => DoS M S ⟨true, L, Sv⟩ who ⟨ok, key, x, y, val, w, n⟩ bb g e' H' ∧ ∃ q, 6 ≤ q ∧ q ≠ bb ∧ e' 10 = .vptr q 0 ∧ H'[q]? = some z47) ⟨⟨e1, e3, e5, e6, e7, e8, e9, (hs_app (by omega)).trans q0, (hs_app (by omega)).trans q1, (hs_app (by omega)).trans q2, (hs_app (by omega)).trans q3, (hs_app (by omega)).trans q4, (hs_app (by omega)).trans q5, (hs_app hB).trans qb⟩, H.length, by omega, by omega, rfl, by simp⟩ ?_
          clear q0 q1 q2 q3 q4 q5 qb hH e1 e3 e5 e6 e7 e8 e9 hB H e
          rintro e H ⟨⟨e1, e3, e5, e6, e7, e8, e9, q0, q1, q2, q3, q4, q5, qb⟩, q, hq6, hqb, e10, qq⟩
          have hH := (List.getElem?_eq_some_iff.1 q5).1
          have hB := (List.getElem?_eq_some_iff.1 qb).1
          have hQ := (List.getElem?_eq_some_iff.1 qq).1
          refine stop_go ?_
          have hvl := viewF_len M L
          have h35 := p35 M L hM
          simp -implicitDefEqProofs -dsimp (maxSteps := 1000000) (disch := first | omega | (simp only [wkLen]; omega) | decide +kernel) only [↓wkPre, ↓wkPre2, ↓evC_region_st [11], ↓evC_text_st [11], ↓evC_cond, ↓evC_block, ↓evC_stop [11], wkPost, wkDef, wkF, simprocAttr, e1, e3, e5, e6, e7, e8, e9, e10, q0, q1, q2, q3, q4, q5, qb, qq]
          refine PS.app md_46 Try.func46 h35 rfl ?_
          rintro _ rfl
          generalize hV : viewF M L = V at *
          simp -implicitDefEqProofs -dsimp (maxSteps := 1000000) (disch := first | omega | (simp only [wkLen]; omega) | decide +kernel) only [↓wkPre, ↓wkPre2, ↓evC_region_st [11], ↓evC_text_st [11], ↓evC_cond, ↓evC_block, ↓evC_stop [11], wkPost, wkDef, wkF, simprocAttr, e1, e3, e5, e6, e7, e8, e9, e10, q0, q1, q2, q3, q4, q5, qb, qq]
          refine stop_st (fun e' H' => DoS M S ⟨true, L, Sv⟩ who ⟨ok, key, x, y, val, w, n⟩ bb g e' H' ∧ e' 10 = .vptr q 0 ∧ e' 11 = .p (rcsP V) ∧ H'[q]? = some z47) ⟨⟨e1, e3, e5, e6, e7, e8, e9, q0, q1, q2, q3, q4, q5, qb⟩, e10, rfl, qq⟩ ?_
          clear q0 q1 q2 q3 q4 q5 qb hH e1 e3 e5 e6 e7 e8 e9 e10 hB hQ qq H e
          rintro e H ⟨⟨e1, e3, e5, e6, e7, e8, e9, q0, q1, q2, q3, q4, q5, qb⟩, e10, e11, qq⟩
          have hH := (List.getElem?_eq_some_iff.1 q5).1
          have hB := (List.getElem?_eq_some_iff.1 qb).1
          have hQ := (List.getElem?_eq_some_iff.1 qq).1
          show stopK _ _ _ _ _ _
          · rw [if_neg h6]
            by_cases h13 : ok = 1 ∨ ok = 3
            · rw [if_pos h13]
              have h38 := p38 ⟨true, L, Sv⟩ V ⟨ok, key, x, y, val, w, n⟩ (by omega) (by dsimp only; omega)
              rcases h13 with rfl | rfl
              · refine stop_go ?_
                simp -implicitDefEqProofs -dsimp (maxSteps := 1000000) (disch := first | omega | (simp only [wkLen]; omega) | decide +kernel) only [↓wkPre, ↓wkPre2, ↓evC_region_st [18], ↓evC_text_st [18], ↓evC_cond, ↓evC_block, ↓evC_stop [18], wkPost, wkDef, wkF, simprocAttr, e1, e3, e5, e6, e7, e8, e9, e10, q0, q1, q2, q3, q4, q5, qb, qq, h6, e11]
                refine PS.app md_48 Try.func48 h38 rfl ?_
                rintro _ rfl
                generalize hR : changeF ⟨true, L, Sv⟩ V ⟨1, key, x, y, val, w, n⟩ = R
                obtain ⟨t', a'⟩ := R
                dsimp only
                simp -implicitDefEqProofs -dsimp (maxSteps := 1000000) (disch := first | omega | (simp only [wkLen]; omega) | decide +kernel) only [↓wkPre, ↓wkPre2, ↓evC_region_st [18], ↓evC_text_st [18], ↓evC_cond, ↓evC_block, ↓evC_stop [18], wkPost, wkDef, wkF, simprocAttr, e1, e3, e5, e6, e7, e8, e9, e10, q0, q1, q2, q3, q4, q5, qb, qq, h6, e11]
                refine stop_st (fun e' H' => DoS M S ⟨true, L, Sv⟩ who ⟨1, key, x, y, val, w, n⟩ bb g e' H' ∧ e' 10 = .vptr q 0 ∧ H'[q]? = some z47 ∧ ∃ r s, 6 ≤ r ∧ 6 ≤ s ∧ r ≠ q ∧ s ≠ q ∧ r ≠ bb ∧ s ≠ bb ∧ r ≠ s ∧ e' 15 = .vptr r 0 ∧ e' 16 = .vptr s 0 ∧ H'[r]? = some (.var true (.p (miP t'))) ∧ H'[s]? = some (.var true (.p (anP a')))) ⟨⟨e1, e3, e5, e6, e7, e8, e9, (hs_app (by omega)).trans q0, (hs_app (by omega)).trans q1, (hs_app (by omega)).trans q2, (hs_app (by omega)).trans q3, (hs_app (by omega)).trans q4, (hs_app (by omega)).trans q5, (hs_app hB).trans qb⟩, e10, (hs_app hQ).trans qq, H.length, H.length + 1, by omega, by omega, by omega, by omega, by omega, by omega, by omega, rfl, rfl, by simp, by simp⟩ ?_
                clear q0 q1 q2 q3 q4 q5 qb hH e1 e3 e5 e6 e7 e8 e9 e10 hB hQ qq e11 H e
                rintro e H ⟨⟨e1, e3, e5, e6, e7, e8, e9, q0, q1, q2, q3, q4, q5, qb⟩, e10, qq, r, s, hr, hs, n1, n2, n3, n4, n5, e15, e16, qr, qs⟩
                have hH := (List.getElem?_eq_some_iff.1 q5).1
                have hB := (List.getElem?_eq_some_iff.1 qb).1
                have hQ := (List.getElem?_eq_some_iff.1 qq).1
                have f3 : ∀ y : Blk, (H.set 4 y)[s]? = some (.var true (.p (anP a'))) := fun y => (hs_ne (by omega)).trans qs
                have f4 : ∀ y : Blk, (H.set 4 y)[q]? = some z47 := fun y => (hs_ne (by omega)).trans qq
                have f5 : ∀ (y z : Blk) (j : Nat), j ≠ 4 → j ≠ q → ((H.set 4 y).set q z)[j]? = H[j]? := fun y z j h2 h3 => (hs_ne (Ne.symm h3)).trans (hs_ne (Ne.symm h2))
                refine stop_go ?_
                simp -implicitDefEqProofs -dsimp (maxSteps := 1000000) (disch := first | omega | (simp only [wkLen]; omega) | decide +kernel) only [↓wkPre, ↓wkPre2, ↓evC_region_st [21], ↓evC_text_st [21], ↓evC_cond, ↓evC_block, ↓evC_stop [21], wkPost, wkDef, wkF, simprocAttr, e1, e3, e5, e6, e7, e8, e9, e10, e15, e16, q0, q1, q2, q3, q4, q5, qb, qq, qr, qs, f3, f4]
                refine stop_st (fun e' H' => e' 1 = .p (I who) ∧ e' 6 = .vptr 2 0 ∧ e' 7 = .vptr 3 0 ∧ e' 8 = .vptr 4 0 ∧ e' 9 = .vptr 5 0 ∧ e' 10 = .vptr q 0 ∧ H'[2]? = some z30 ∧ H'[3]? = some z47 ∧ H'[4]? = some (.var true (.p (miP t'))) ∧ H'[5]? = some (.var true (.agg [.p (rcsP M), .ref bb g 0 S.length false])) ∧ H'[bb]? = some (.arr true g 3 (mis S)) ∧ H'[q]? = some (.var true (.p (anP a')))) ⟨e1, e6, e7, e8, e9, e10, (f5 _ _ 2 (by omega) (by omega)).trans q2, (f5 _ _ 3 (by omega) (by omega)).trans q3, (hs_ne (by omega)).trans (hs_set (by omega)), (f5 _ _ 5 (by omega) (by omega)).trans q5, (f5 _ _ bb (by omega) (by omega)).trans qb, hs_set (by simp; omega)⟩ ?_
                clear q0 q1 q2 q3 q4 q5 qb hH e1 e3 e5 e6 e7 e8 e9 e10 hB hQ qq e15 e16 qr qs f3 f4 f5 H e
                rintro e H ⟨e1, e6, e7, e8, e9, e10, q2, q3, q4, q5, qb, qq⟩
                have hH := (List.getElem?_eq_some_iff.1 q5).1
                have hB := (List.getElem?_eq_some_iff.1 qb).1
                refine stop_go ?_
                simp -implicitDefEqProofs -dsimp (maxSteps := 1000000) (disch := first | omega | (simp only [wkLen]; omega) | decide +kernel) only [↓wkPre, ↓wkPre2, ↓evC_region_st [22], ↓evC_text_st [22], ↓evC_cond, ↓evC_block, ↓evC_stop [22], wkPost, wkDef, wkF, simprocAttr, e1, e6, e7, e8, e9, e10, q2, q3, q4, q5, qb, qq, hl, gi]
                rw [hset]
                refine stop_st (fun e' H' => e' 6 = .vptr 2 0 ∧ e' 7 = .vptr 3 0 ∧ e' 9 = .vptr 5 0 ∧ e' 10 = .vptr q 0 ∧ H'[2]? = some z30 ∧ H'[3]? = some z47 ∧ H'[5]? = some (.var true (.agg [.p (rcsP M), .ref bb g 0 S.length false])) ∧ H'[bb]? = some (.arr true g 3 (mis (S.set who t'))) ∧ H'[q]? = some (.var true (.p (anP a')))) ⟨e6, e7, e9, e10, (hs_ne (by omega)).trans q2, (hs_ne (by omega)).trans q3, (hs_ne (by omega)).trans q5, hs_set hB, (hs_ne (by omega)).trans qq⟩ ?_
                clear q2 q3 q4 q5 qb hH e1 e6 e7 e8 e9 e10 hB qq H e
                rintro e H ⟨e6, e7, e9, e10, q2, q3, q5, qb, qq⟩
                have hH := (List.getElem?_eq_some_iff.1 q5).1
                have z2 : ∀ x : Blk, (H.set 2 x)[2]? = some x := fun x => hs_set (by omega)
                have z3 : ∀ x : Blk, (H.set 2 x)[3]? = some z47 := fun x => (hs_ne (by omega)).trans q3
                have zq : ∀ x : Blk, (H.set 2 x)[q]? = some (.var true (.p (anP a'))) := fun x => (hs_ne (by omega)).trans qq
                have y2 : ∀ x y : Blk, ((H.set 2 x).set 3 y)[2]? = some x := fun x y => (hs_ne (by omega)).trans (z2 x)
                have y3 : ∀ x y : Blk, ((H.set 2 x).set 3 y)[3]? = some y := fun x y => hs_set (by simp; omega)
                have yb : ∀ x y : Blk, ((H.set 2 x).set 3 y)[bb]? = some (.arr true g 3 (mis (S.set who t'))) := fun x y => (hs_ne (by omega)).trans ((hs_ne (by omega)).trans qb)
                refine stop_pl pl_34_22 (by kernel_rfl) (by decide +kernel) ?_
                simp only [pl_34_22]
                simp -implicitDefEqProofs -dsimp (maxSteps := 1000000) (disch := first | omega | (simp only [wkLen]; omega) | decide +kernel) only [↓wkPre, ↓wkPre2, ↓wkE, wkPost, wkDef, wkF, simprocAttr, e6, e7, e9, e10, q2, q3, q5, qb, qq, z2, z3, zq, y2, y3]
                rw [frzN_mo (own3_at (yb _ _) (by rw [mis_len]; simp))]
                have hE : changeF (onMi ⟨false, L, Sv⟩) V ⟨1, key, x, y, val, w, n⟩ = (t', a') := hR
                rw [hE]
                first | done | rfl
              · refine stop_go ?_
                simp -implicitDefEqProofs -dsimp (maxSteps := 1000000) (disch := first | omega | (simp only [wkLen]; omega) | decide +kernel) only [↓wkPre, ↓wkPre2, ↓evC_region_st [18], ↓evC_text_st [18], ↓evC_cond, ↓evC_block, ↓evC_stop [18], wkPost, wkDef, wkF, simprocAttr, e1, e3, e5, e6, e7, e8, e9, e10, q0, q1, q2, q3, q4, q5, qb, qq, h6, e11]
                refine PS.app md_48 Try.func48 h38 rfl ?_
                rintro _ rfl
                generalize hR : changeF ⟨true, L, Sv⟩ V ⟨3, key, x, y, val, w, n⟩ = R
                obtain ⟨t', a'⟩ := R
                dsimp only
                simp -implicitDefEqProofs -dsimp (maxSteps := 1000000) (disch := first | omega | (simp only [wkLen]; omega) | decide +kernel) only [↓wkPre, ↓wkPre2, ↓evC_region_st [18], ↓evC_text_st [18], ↓evC_cond, ↓evC_block, ↓evC_stop [18], wkPost, wkDef, wkF, simprocAttr, e1, e3, e5, e6, e7, e8, e9, e10, q0, q1, q2, q3, q4, q5, qb, qq, h6, e11]
                refine stop_st (fun e' H' => DoS M S ⟨true, L, Sv⟩ who ⟨3, key, x, y, val, w, n⟩ bb g e' H' ∧ e' 10 = .vptr q 0 ∧ H'[q]? = some z47 ∧ ∃ r s, 6 ≤ r ∧ 6 ≤ s ∧ r ≠ q ∧ s ≠ q ∧ r ≠ bb ∧ s ≠ bb ∧ r ≠ s ∧ e' 15 = .vptr r 0 ∧ e' 16 = .vptr s 0 ∧ H'[r]? = some (.var true (.p (miP t'))) ∧ H'[s]? = some (.var true (.p (anP a')))) ⟨⟨e1, e3, e5, e6, e7, e8, e9, (hs_app (by omega)).trans q0, (hs_app (by omega)).trans q1, (hs_app (by omega)).trans q2, (hs_app (by omega)).trans q3, (hs_app (by omega)).trans q4, (hs_app (by omega)).trans q5, (hs_app hB).trans qb⟩, e10, (hs_app hQ).trans qq, H.length, H.length + 1, by omega, by omega, by omega, by omega, by omega, by omega, by omega, rfl, rfl, by simp, by simp⟩ ?_
                clear q0 q1 q2 q3 q4 q5 qb hH e1 e3 e5 e6 e7 e8 e9 e10 hB hQ qq e11 H e
                rintro e H ⟨⟨e1, e3, e5, e6, e7, e8, e9, q0, q1, q2, q3, q4, q5, qb⟩, e10, qq, r, s, hr, hs, n1, n2, n3, n4, n5, e15, e16, qr, qs⟩
                have hH := (List.getElem?_eq_some_iff.1 q5).1
                have hB := (List.getElem?_eq_some_iff.1 qb).1
                have hQ := (List.getElem?_eq_some_iff.1 qq).1
                have f3 : ∀ y : Blk, (H.set 4 y)[s]? = some (.var true (.p (anP a'))) := fun y => (hs_ne (by omega)).trans qs
                have f4 : ∀ y : Blk, (H.set 4 y)[q]? = some z47 := fun y => (hs_ne (by omega)).trans qq
                have f5 : ∀ (y z : Blk) (j : Nat), j ≠ 4 → j ≠ q → ((H.set 4 y).set q z)[j]? = H[j]? := fun y z j h2 h3 => (hs_ne (Ne.symm h3)).trans (hs_ne (Ne.symm h2))
                refine stop_go ?_
                simp -implicitDefEqProofs -dsimp (maxSteps := 1000000) (disch := first | omega | (simp only [wkLen]; omega) | decide +kernel) only [↓wkPre, ↓wkPre2, ↓evC_region_st [21], ↓evC_text_st [21], ↓evC_cond, ↓evC_block, ↓evC_stop [21], wkPost, wkDef, wkF, simprocAttr, e1, e3, e5, e6, e7, e8, e9, e10, e15, e16, q0, q1, q2, q3, q4, q5, qb, qq, qr, qs, f3, f4]
                refine stop_st (fun e' H' => e' 1 = .p (I who) ∧ e' 6 = .vptr 2 0 ∧ e' 7 = .vptr 3 0 ∧ e' 8 = .vptr 4 0 ∧ e' 9 = .vptr 5 0 ∧ e' 10 = .vptr q 0 ∧ H'[2]? = some z30 ∧ H'[3]? = some z47 ∧ H'[4]? = some (.var true (.p (miP t'))) ∧ H'[5]? = some (.var true (.agg [.p (rcsP M), .ref bb g 0 S.length false])) ∧ H'[bb]? = some (.arr true g 3 (mis S)) ∧ H'[q]? = some (.var true (.p (anP a')))) ⟨e1, e6, e7, e8, e9, e10, (f5 _ _ 2 (by omega) (by omega)).trans q2, (f5 _ _ 3 (by omega) (by omega)).trans q3, (hs_ne (by omega)).trans (hs_set (by omega)), (f5 _ _ 5 (by omega) (by omega)).trans q5, (f5 _ _ bb (by omega) (by omega)).trans qb, hs_set (by simp; omega)⟩ ?_
                clear q0 q1 q2 q3 q4 q5 qb hH e1 e3 e5 e6 e7 e8 e9 e10 hB hQ qq e15 e16 qr qs f3 f4 f5 H e
                rintro e H ⟨e1, e6, e7, e8, e9, e10, q2, q3, q4, q5, qb, qq⟩
                have hH := (List.getElem?_eq_some_iff.1 q5).1
                have hB := (List.getElem?_eq_some_iff.1 qb).1
                refine stop_go ?_
                simp -implicitDefEqProofs -dsimp (maxSteps := 1000000) (disch := first | omega | (simp only [wkLen]; omega) | decide +kernel) only [↓wkPre, ↓wkPre2, ↓evC_region_st [22], ↓evC_text_st [22], ↓evC_cond, ↓evC_block, ↓evC_stop [22], wkPost, wkDef, wkF, simprocAttr, e1, e6, e7, e8, e9, e10, q2, q3, q4, q5, qb, qq, hl, gi]
                rw [hset]
                refine stop_st (fun e' H' => e' 6 = .vptr 2 0 ∧ e' 7 = .vptr 3 0 ∧ e' 9 = .vptr 5 0 ∧ e' 10 = .vptr q 0 ∧ H'[2]? = some z30 ∧ H'[3]? = some z47 ∧ H'[5]? = some (.var true (.agg [.p (rcsP M), .ref bb g 0 S.length false])) ∧ H'[bb]? = some (.arr true g 3 (mis (S.set who t'))) ∧ H'[q]? = some (.var true (.p (anP a')))) ⟨e6, e7, e9, e10, (hs_ne (by omega)).trans q2, (hs_ne (by omega)).trans q3, (hs_ne (by omega)).trans q5, hs_set hB, (hs_ne (by omega)).trans qq⟩ ?_
                clear q2 q3 q4 q5 qb hH e1 e6 e7 e8 e9 e10 hB qq H e
                rintro e H ⟨e6, e7, e9, e10, q2, q3, q5, qb, qq⟩
                have hH := (List.getElem?_eq_some_iff.1 q5).1
                have z2 : ∀ x : Blk, (H.set 2 x)[2]? = some x := fun x => hs_set (by omega)
                have z3 : ∀ x : Blk, (H.set 2 x)[3]? = some z47 := fun x => (hs_ne (by omega)).trans q3
                have zq : ∀ x : Blk, (H.set 2 x)[q]? = some (.var true (.p (anP a'))) := fun x => (hs_ne (by omega)).trans qq
                have y2 : ∀ x y : Blk, ((H.set 2 x).set 3 y)[2]? = some x := fun x y => (hs_ne (by omega)).trans (z2 x)
                have y3 : ∀ x y : Blk, ((H.set 2 x).set 3 y)[3]? = some y := fun x y => hs_set (by simp; omega)
                have yb : ∀ x y : Blk, ((H.set 2 x).set 3 y)[bb]? = some (.arr true g 3 (mis (S.set who t'))) := fun x y => (hs_ne (by omega)).trans ((hs_ne (by omega)).trans qb)
                refine stop_pl pl_34_22 (by kernel_rfl) (by decide +kernel) ?_
                simp only [pl_34_22]
                simp -implicitDefEqProofs -dsimp (maxSteps := 1000000) (disch := first | omega | (simp only [wkLen]; omega) | decide +kernel) only [↓wkPre, ↓wkPre2, ↓wkE, wkPost, wkDef, wkF, simprocAttr, e6, e7, e9, e10, q2, q3, q5, qb, qq, z2, z3, zq, y2, y3]
                rw [frzN_mo (own3_at (yb _ _) (by rw [mis_len]; simp))]
                have hE : changeF (onMi ⟨false, L, Sv⟩) V ⟨3, key, x, y, val, w, n⟩ = (t', a') := hR
                rw [hE]
                first | done | rfl
            · rw [if_neg h13]
              have h39 := p39 V ⟨ok, key, x, y, val, w, n⟩ (by omega)
              have h131 : ¬ ok = 1 := fun h => h13 (.inl h)
              have h133 : ¬ ok = 3 := fun h => h13 (.inr h)
              refine stop_go ?_
              simp -implicitDefEqProofs -dsimp (maxSteps := 1000000) (disch := first | omega | (simp only [wkLen]; omega) | decide +kernel) only [↓wkPre, ↓wkPre2, ↓evC_region_st [21], ↓evC_text_st [21], ↓evC_cond, ↓evC_block, ↓evC_stop [21], wkPost, wkDef, wkF, simprocAttr, e1, e3, e5, e6, e7, e8, e9, e10, q0, q1, q2, q3, q4, q5, qb, qq, h6, e11, h131, h133]
              refine PS.app md_49 Try.func49 h39 rfl ?_
              rintro _ rfl
              generalize hR : asksF V ⟨ok, key, x, y, val, w, n⟩ = a'
              simp -implicitDefEqProofs -dsimp (maxSteps := 1000000) (disch := first | omega | (simp only [wkLen]; omega) | decide +kernel) only [↓wkPre, ↓wkPre2, ↓evC_region_st [21], ↓evC_text_st [21], ↓evC_cond, ↓evC_block, ↓evC_stop [21], wkPost, wkDef, wkF, simprocAttr, e1, e3, e5, e6, e7, e8, e9, e10, q0, q1, q2, q3, q4, q5, qb, qq, h6, e11, h131, h133]
              refine stop_st (fun e' H' => e' 1 = .p (I who) ∧ e' 6 = .vptr 2 0 ∧ e' 7 = .vptr 3 0 ∧ e' 8 = .vptr 4 0 ∧ e' 9 = .vptr 5 0 ∧ e' 10 = .vptr q 0 ∧ H'[2]? = some z30 ∧ H'[3]? = some z47 ∧ H'[4]? = some (.var true (.p (miP ⟨true, L, Sv⟩))) ∧ H'[5]? = some (.var true (.agg [.p (rcsP M), .ref bb g 0 S.length false])) ∧ H'[bb]? = some (.arr true g 3 (mis S)) ∧ H'[q]? = some (.var true (.p (anP a')))) ⟨e1, e6, e7, e8, e9, e10, (hs_ne (by omega)).trans q2, (hs_ne (by omega)).trans q3, (hs_ne (by omega)).trans q4, (hs_ne (by omega)).trans q5, (hs_ne (by omega)).trans qb, hs_set (by omega)⟩ ?_
              clear q0 q1 q2 q3 q4 q5 qb hH e1 e3 e5 e6 e7 e8 e9 e10 hB hQ qq e11 H e
              rintro e H ⟨e1, e6, e7, e8, e9, e10, q2, q3, q4, q5, qb, qq⟩
              have hH := (List.getElem?_eq_some_iff.1 q5).1
              have hB := (List.getElem?_eq_some_iff.1 qb).1
              refine stop_go ?_
              simp -implicitDefEqProofs -dsimp (maxSteps := 1000000) (disch := first | omega | (simp only [wkLen]; omega) | decide +kernel) only [↓wkPre, ↓wkPre2, ↓evC_region_st [22], ↓evC_text_st [22], ↓evC_cond, ↓evC_block, ↓evC_stop [22], wkPost, wkDef, wkF, simprocAttr, e1, e6, e7, e8, e9, e10, q2, q3, q4, q5, qb, qq, hl, gi]
              rw [hset]
              refine stop_st (fun e' H' => e' 6 = .vptr 2 0 ∧ e' 7 = .vptr 3 0 ∧ e' 9 = .vptr 5 0 ∧ e' 10 = .vptr q 0 ∧ H'[2]? = some z30 ∧ H'[3]? = some z47 ∧ H'[5]? = some (.var true (.agg [.p (rcsP M), .ref bb g 0 S.length false])) ∧ H'[bb]? = some (.arr true g 3 (mis (S.set who ⟨true, L, Sv⟩))) ∧ H'[q]? = some (.var true (.p (anP a')))) ⟨e6, e7, e9, e10, (hs_ne (by omega)).trans q2, (hs_ne (by omega)).trans q3, (hs_ne (by omega)).trans q5, hs_set hB, (hs_ne (by omega)).trans qq⟩ ?_
              clear q2 q3 q4 q5 qb hH e1 e6 e7 e8 e9 e10 hB qq H e
              rintro e H ⟨e6, e7, e9, e10, q2, q3, q5, qb, qq⟩
              have hH := (List.getElem?_eq_some_iff.1 q5).1
              have z2 : ∀ x : Blk, (H.set 2 x)[2]? = some x := fun x => hs_set (by omega)
              have z3 : ∀ x : Blk, (H.set 2 x)[3]? = some z47 := fun x => (hs_ne (by omega)).trans q3
              have zq : ∀ x : Blk, (H.set 2 x)[q]? = some (.var true (.p (anP a'))) := fun x => (hs_ne (by omega)).trans qq
              have y2 : ∀ x y : Blk, ((H.set 2 x).set 3 y)[2]? = some x := fun x y => (hs_ne (by omega)).trans (z2 x)
              have y3 : ∀ x y : Blk, ((H.set 2 x).set 3 y)[3]? = some y := fun x y => hs_set (by simp; omega)
              have yb : ∀ x y : Blk, ((H.set 2 x).set 3 y)[bb]? = some (.arr true g 3 (mis (S.set who ⟨true, L, Sv⟩))) := fun x y => (hs_ne (by omega)).trans ((hs_ne (by omega)).trans qb)
              refine stop_pl pl_34_22 (by kernel_rfl) (by decide +kernel) ?_
              simp only [pl_34_22]
              simp -implicitDefEqProofs -dsimp (maxSteps := 1000000) (disch := first | omega | (simp only [wkLen]; omega) | decide +kernel) only [↓wkPre, ↓wkPre2, ↓wkE, wkPost, wkDef, wkF, simprocAttr, e6, e7, e9, e10, q2, q3, q5, qb, qq, z2, z3, zq, y2, y3]
              rw [frzN_mo (own3_at (yb _ _) (by rw [mis_len]; simp))]
              first | done | rfl
end Go.Ev.F35
end
