/- A part of the proof: walks of the functions that the law calls. No condition. -/
import Derived.Test.YtafkblkenoelhaaFlE
set_option linter.all false
section
namespace Go.Ev.F34
open Go.Proofs Go.Ev
set_option maxRecDepth 100000
set_option linter.all false
theorem two {H H' : Heap} {c c' d : Fm} {m2 : Mo} (hk : Kp c c' H H') (h2 : FI H d m2) (dj : ∀ i ∈ c.foot, i ∉ d.foot) : FI H' d m2 ∧ (∀ i ∈ c'.foot, i ∉ d.foot) :=
  ⟨h2.keep fun i hi => hk.fr i (h2.lt hi) (fun hm => dj i hm hi), fun i hi hd => (hk.ft i hi).elim (fun h => dj i h hd) (fun h => by have := h2.lt hd; omega)⟩
theorem wDo {H : Heap} {c : Fm} {m : Mo} {k : Nat} (h : FI H c m) (hk : k ≤ 500) (wf : Wfm m k) (who : Nat) (hw : who < 5) (o : Ao) (hn : inI o.n) (Q : AV → Heap → Prop)
    (hq : ∀ H' c' v, FI H' c' (doF m (atS m who) who o).1 → Wfm (doF m (atS m who) who o).1 (k + 1) → Kp c c' H H' → TS H' v 6 (rcs (doF m (atS m who) who o).2.recs) → Q (.agg [.p (I (doF m (atS m who) who o).2.code), v, .p (I (doF m (atS m who) who o).2.n)]) H') :
    (W Cf okf).call 13 [.vptr c.pp 0, .p (I who), .p (aoP o)] H Q := by
  have hwat := wf.at hw
  have hbd := wf.bd hwat
  have hmw := wf.mem hwat
  exact w13 h wf.asc who hwat o (by omega) (by have := hmw.ls; omega) hmw.sv hmw.nd Q fun H' c' v h1 h2 h3 => hq H' c' v h1 (doF_wf wf hwat hn) h2 h3
theorem wDo' {H : Heap} {c : Fm} {m : Mo} {k : Nat} (h : FI H c m) (hk : k ≤ 500) (wf : Wfm m k) (who : Nat) (hw : who < 5) (o : Ao) (hn : inI o.n) {m' : Mo} {an : An} (hD : doF m (atS m who) who o = (m', an)) (Q : AV → Heap → Prop)
    (hq : ∀ H' c' v, FI H' c' m' → Wfm m' (k + 1) → Kp c c' H H' → v.shape = 0 ∧ v.isU = false ∧ v.stor = true → Q (.agg [.p (I an.code), v, .p (I an.n)]) H') :
    (W Cf okf).call 13 [.vptr c.pp 0, .p (I who), .p (aoP o)] H Q := by
  refine wDo h hk wf who hw o hn Q ?_
  rw [hD]
  exact fun H' c' v h1 h2 h3 h4 => hq H' c' v h1 h2 h3 (ts_shape h4)
/-- An answer's cell. -/
def Ce (G : Heap) (b : Nat) (code n : Int) : Prop := ∃ v, G[b]? = some (.var true (.agg [.p (I code), v, .p (I n)])) ∧ v.isU = false
theorem Ce.keep {G G' : Heap} {c c' : Fm} {b : Nat} {code n : Int} (h : Ce G b code n) (hb : b ∉ c.foot) (hk : Kp c c' G G') : Ce G' b code n ∧ b ∉ c'.foot := by
  obtain ⟨v, h1, h2⟩ := h
  exact ⟨⟨v, (hk.fr b (lt_of h1) hb).trans h1, h2⟩, fun hm => (hk.ft b hm).elim hb (fun h => by have := lt_of h1; omega)⟩
def r0 : Rc := ⟨5, 0, 0, [118]⟩
def m0 : Mo := ⟨[], List.replicate 5 mi0⟩
def w1 : Wr := ⟨true, r0⟩
def m1 : Mo := ⟨[], [mi0, ⟨true, [w1], []⟩, mi0, mi0, mi0]⟩
def m2 : Mo := ⟨[], [mi0, ⟨true, [w1], []⟩, ⟨true, [], []⟩, mi0, mi0]⟩
def m3 : Mo := ⟨[], [mi0, ⟨true, [w1], [(7, 1)]⟩, ⟨true, [], []⟩, mi0, mi0]⟩
def m4 : Mo := ⟨[], [mi0, ⟨true, [w1, ⟨false, r0⟩], [(7, 1)]⟩, ⟨true, [], []⟩, mi0, mi0]⟩
def m5 : Mo := ⟨[], [mi0, ⟨true, [w1], [(7, 1)]⟩, ⟨true, [], []⟩, mi0, mi0]⟩
def m6 : Mo := ⟨[r0], [mi0, mi0, ⟨true, [], []⟩, mi0, mi0]⟩
def m7 : Mo := ⟨[r0], [mi0, mi0, ⟨true, [], []⟩, mi0, mi0]⟩
def m8 : Mo := ⟨[r0], [mi0, mi0, ⟨true, [], []⟩, mi0, mi0]⟩
def m9 : Mo := ⟨[r0], [mi0, mi0, mi0, mi0, mi0]⟩
def m10 : Mo := ⟨[r0], [mi0, mi0, mi0, mi0, ⟨true, [], []⟩]⟩
theorem dw4 : doF m0 (atS m0 1) 1 ⟨1, 5, 0, 0, [118], ⟨0, 0, 0, 0⟩, 0⟩ = (m1, ⟨0, [], 0⟩) := by rfl
theorem dw5 : doF m1 (atS m1 2) 2 ⟨2, 5, 0, 0, [], ⟨0, 0, 0, 0⟩, 0⟩ = (m2, ⟨7, [], 0⟩) := by rfl
theorem dw6 : doF m2 (atS m2 1) 1 ⟨6, 0, 0, 0, [], ⟨0, 0, 0, 0⟩, 7⟩ = (m3, ⟨0, [], 0⟩) := by rfl
theorem dw7 : doF m3 (atS m3 1) 1 ⟨3, 5, 0, 0, [], ⟨0, 0, 0, 0⟩, 0⟩ = (m4, ⟨0, [r0], 1⟩) := by rfl
theorem dw8 : doF m4 (atS m4 1) 1 ⟨7, 0, 0, 0, [], ⟨0, 0, 0, 0⟩, 7⟩ = (m5, ⟨0, [], 0⟩) := by rfl
theorem dw10 : doF m5 (atS m5 1) 1 ⟨8, 0, 0, 0, [], ⟨0, 0, 0, 0⟩, 0⟩ = (m6, ⟨0, [], 0⟩) := by rfl
theorem dw11 : doF m6 (atS m6 2) 2 ⟨5, 0, 0, 0, [], ⟨0, 0, 9, 9⟩, 0⟩ = (m7, ⟨0, [], 1⟩) := by rfl
theorem dw12 : doF m7 (atS m7 3) 3 ⟨8, 0, 0, 0, [], ⟨0, 0, 0, 0⟩, 0⟩ = (m8, ⟨10, [], 0⟩) := by rfl
set_option maxHeartbeats 4000000 in
theorem p7 : PS Cf okf 7 [4] [] (fun v => v = B true) := by
  refine PS.mk extMono Try.func7 body7 (by decide) rfl ?_
  simp only [c7, Try.f7, Option.getD_some, List.append_eq, List.cons_append, List.nil_append]
  simp -implicitDefEqProofs -dsimp (maxSteps := 1000000) (disch := first | omega | (simp only [wkLen]; omega) | decide +kernel) only [↓wkPre, ↓wkPre2, ↓wkE, wkPost, wkDef, wkF, simprocAttr]
  refine imp_call md_8 (w8 _ _ ?_)
  intro H c hFI i1 i2 i3
  have hI : FI H c m0 := hFI 5
  have wf : Wfm m0 0 := Wfm.new
  have hi7 : inI 7 := by unfold inI; omega
  have hi0 : inI 0 := by unfold inI; omega
  clear hFI i1 i2 i3
  simp -implicitDefEqProofs -dsimp (maxSteps := 1000000) (disch := first | omega | (simp only [wkLen]; omega) | decide +kernel) only [↓wkPre, ↓wkPre2, ↓evC_region_st [4], ↓evC_text_st [4], ↓evC_cond, ↓evC_block, ↓evC_stop [4], wkPost, wkDef, wkF, simprocAttr, nn_v]
  refine stop_st (fun e G => ∃ c : Fm, e 1 = .vptr c.pp 0 ∧ FI G c m0 ∧ Wfm m0 0) ⟨c, rfl, hI, wf⟩ ?_
  clear wf hI c H
  rintro e G ⟨c, e1, hI, wf⟩
  refine stop_go ?_
  simp -implicitDefEqProofs -dsimp (maxSteps := 1000000) (disch := first | omega | (simp only [wkLen]; omega) | decide +kernel) only [↓wkPre, ↓wkPre2, ↓wkE, wkPost, wkDef, wkF, simprocAttr, nn_v, e1]
  refine imp_call md_13 (wDo' hI (by omega) wf 1 (by omega) ⟨1, 5, 0, 0, [118], ⟨0, 0, 0, 0⟩, 0⟩ hi0 dw4 _ ?_)
  intro G' c' v hI' wf' hk hv
  obtain ⟨vs1, vs2, vs3⟩ := hv
  simp -implicitDefEqProofs -dsimp (maxSteps := 1000000) (disch := first | omega | (simp only [wkLen]; omega) | decide +kernel) only [↓wkPre, ↓wkPre2, ↓evC_region_st [5], ↓evC_text_st [5], ↓evC_cond, ↓evC_block, ↓evC_stop [5], wkPost, wkDef, wkF, simprocAttr, nn_v, e1, vs1, vs2, vs3]
  refine stop_st (fun e G => ∃ c : Fm, e 1 = .vptr c.pp 0 ∧ FI G c m1 ∧ Wfm m1 1 ∧ (∃ b : Nat, e 2 = .vptr b 0 ∧ Ce G b 0 0 ∧ b ∉ c.foot)) ⟨c', by rw [hk.pp]; exact e1, hI'.keep fun i hi => hs_app (hI'.lt hi), wf', ⟨G'.length, rfl, ⟨v, by simp, vs2⟩, fun hm => by have := hI'.lt hm; omega⟩⟩ ?_
  clear e1 hI wf hI' wf' hk vs1 vs2 vs3 e
  clear v c c' G G'
  rintro e G ⟨c, e1, hI, wf, ⟨b2, e2, q2, n2⟩⟩
  refine stop_go ?_
  simp -implicitDefEqProofs -dsimp (maxSteps := 1000000) (disch := first | omega | (simp only [wkLen]; omega) | decide +kernel) only [↓wkPre, ↓wkPre2, ↓wkE, wkPost, wkDef, wkF, simprocAttr, nn_v, e1, e2]
  refine imp_call md_13 (wDo' hI (by omega) wf 2 (by omega) ⟨2, 5, 0, 0, [], ⟨0, 0, 0, 0⟩, 0⟩ hi0 dw5 _ ?_)
  intro G' c' v hI' wf' hk hv
  obtain ⟨vs1, vs2, vs3⟩ := hv
  have z2 := q2.keep n2 hk
  simp -implicitDefEqProofs -dsimp (maxSteps := 1000000) (disch := first | omega | (simp only [wkLen]; omega) | decide +kernel) only [↓wkPre, ↓wkPre2, ↓evC_region_st [6], ↓evC_text_st [6], ↓evC_cond, ↓evC_block, ↓evC_stop [6], wkPost, wkDef, wkF, simprocAttr, nn_v, e1, e2, vs1, vs2, vs3]
  refine stop_st (fun e G => ∃ c : Fm, e 1 = .vptr c.pp 0 ∧ FI G c m2 ∧ Wfm m2 2 ∧ (∃ b : Nat, e 2 = .vptr b 0 ∧ Ce G b 0 0 ∧ b ∉ c.foot) ∧ (∃ b : Nat, e 3 = .vptr b 0 ∧ Ce G b 7 0 ∧ b ∉ c.foot)) ⟨c', by rw [hk.pp]; exact e1, hI'.keep fun i hi => hs_app (hI'.lt hi), wf', ⟨b2, e2, by obtain ⟨v, h1, h2⟩ := z2.1; exact ⟨v, (hs_app (lt_of h1)).trans h1, h2⟩, z2.2⟩, ⟨G'.length, rfl, ⟨v, by simp, vs2⟩, fun hm => by have := hI'.lt hm; omega⟩⟩ ?_
  clear e1 e2 hI wf hI' wf' hk vs1 vs2 vs3 q2 n2 z2 e
  clear v c c' G G'
  rintro e G ⟨c, e1, hI, wf, ⟨b2, e2, q2, n2⟩, ⟨b3, e3, q3, n3⟩⟩
  refine stop_go ?_
  simp -implicitDefEqProofs -dsimp (maxSteps := 1000000) (disch := first | omega | (simp only [wkLen]; omega) | decide +kernel) only [↓wkPre, ↓wkPre2, ↓wkE, wkPost, wkDef, wkF, simprocAttr, nn_v, e1, e2, e3]
  refine imp_call md_13 (wDo' hI (by omega) wf 1 (by omega) ⟨6, 0, 0, 0, [], ⟨0, 0, 0, 0⟩, 7⟩ hi7 dw6 _ ?_)
  intro G' c' v hI' wf' hk hv
  obtain ⟨vs1, vs2, vs3⟩ := hv
  have z2 := q2.keep n2 hk
  have z3 := q3.keep n3 hk
  simp -implicitDefEqProofs -dsimp (maxSteps := 1000000) (disch := first | omega | (simp only [wkLen]; omega) | decide +kernel) only [↓wkPre, ↓wkPre2, ↓evC_region_st [7], ↓evC_text_st [7], ↓evC_cond, ↓evC_block, ↓evC_stop [7], wkPost, wkDef, wkF, simprocAttr, nn_v, e1, e2, e3, vs1, vs2, vs3]
  refine stop_st (fun e G => ∃ c : Fm, e 1 = .vptr c.pp 0 ∧ FI G c m3 ∧ Wfm m3 3 ∧ (∃ b : Nat, e 2 = .vptr b 0 ∧ Ce G b 0 0 ∧ b ∉ c.foot) ∧ (∃ b : Nat, e 3 = .vptr b 0 ∧ Ce G b 7 0 ∧ b ∉ c.foot)) ⟨c', by rw [hk.pp]; exact e1, hI', wf', ⟨b2, e2, z2.1, z2.2⟩, ⟨b3, e3, z3.1, z3.2⟩⟩ ?_
  clear e1 e2 e3 hI wf hI' wf' hk vs1 vs2 vs3 q2 n2 z2 q3 n3 z3 e
  clear v c c' G G'
  rintro e G ⟨c, e1, hI, wf, ⟨b2, e2, q2, n2⟩, ⟨b3, e3, q3, n3⟩⟩
  refine stop_go ?_
  simp -implicitDefEqProofs -dsimp (maxSteps := 1000000) (disch := first | omega | (simp only [wkLen]; omega) | decide +kernel) only [↓wkPre, ↓wkPre2, ↓wkE, wkPost, wkDef, wkF, simprocAttr, nn_v, e1, e2, e3]
  refine imp_call md_13 (wDo' hI (by omega) wf 1 (by omega) ⟨3, 5, 0, 0, [], ⟨0, 0, 0, 0⟩, 0⟩ hi0 dw7 _ ?_)
  intro G' c' v hI' wf' hk hv
  obtain ⟨vs1, vs2, vs3⟩ := hv
  have z2 := q2.keep n2 hk
  have z3 := q3.keep n3 hk
  simp -implicitDefEqProofs -dsimp (maxSteps := 1000000) (disch := first | omega | (simp only [wkLen]; omega) | decide +kernel) only [↓wkPre, ↓wkPre2, ↓evC_region_st [8], ↓evC_text_st [8], ↓evC_cond, ↓evC_block, ↓evC_stop [8], wkPost, wkDef, wkF, simprocAttr, nn_v, e1, e2, e3, vs1, vs2, vs3]
  refine stop_st (fun e G => ∃ c : Fm, e 1 = .vptr c.pp 0 ∧ FI G c m4 ∧ Wfm m4 4 ∧ (∃ b : Nat, e 2 = .vptr b 0 ∧ Ce G b 0 0 ∧ b ∉ c.foot) ∧ (∃ b : Nat, e 3 = .vptr b 0 ∧ Ce G b 7 0 ∧ b ∉ c.foot) ∧ (∃ b : Nat, e 4 = .vptr b 0 ∧ Ce G b 0 1 ∧ b ∉ c.foot)) ⟨c', by rw [hk.pp]; exact e1, hI'.keep fun i hi => hs_app (hI'.lt hi), wf', ⟨b2, e2, by obtain ⟨v, h1, h2⟩ := z2.1; exact ⟨v, (hs_app (lt_of h1)).trans h1, h2⟩, z2.2⟩, ⟨b3, e3, by obtain ⟨v, h1, h2⟩ := z3.1; exact ⟨v, (hs_app (lt_of h1)).trans h1, h2⟩, z3.2⟩, ⟨G'.length, rfl, ⟨v, by simp, vs2⟩, fun hm => by have := hI'.lt hm; omega⟩⟩ ?_
  clear e1 e2 e3 hI wf hI' wf' hk vs1 vs2 vs3 q2 n2 z2 q3 n3 z3 e
  clear v c c' G G'
  rintro e G ⟨c, e1, hI, wf, ⟨b2, e2, q2, n2⟩, ⟨b3, e3, q3, n3⟩, ⟨b4, e4, q4, n4⟩⟩
  refine stop_go ?_
  simp -implicitDefEqProofs -dsimp (maxSteps := 1000000) (disch := first | omega | (simp only [wkLen]; omega) | decide +kernel) only [↓wkPre, ↓wkPre2, ↓wkE, wkPost, wkDef, wkF, simprocAttr, nn_v, e1, e2, e3, e4]
  refine imp_call md_13 (wDo' hI (by omega) wf 1 (by omega) ⟨7, 0, 0, 0, [], ⟨0, 0, 0, 0⟩, 7⟩ hi7 dw8 _ ?_)
  intro G' c' v hI' wf' hk hv
  obtain ⟨vs1, vs2, vs3⟩ := hv
  have z2 := q2.keep n2 hk
  have z3 := q3.keep n3 hk
  have z4 := q4.keep n4 hk
  simp -implicitDefEqProofs -dsimp (maxSteps := 1000000) (disch := first | omega | (simp only [wkLen]; omega) | decide +kernel) only [↓wkPre, ↓wkPre2, ↓evC_region_st [9], ↓evC_text_st [9], ↓evC_cond, ↓evC_block, ↓evC_stop [9], wkPost, wkDef, wkF, simprocAttr, nn_v, e1, e2, e3, e4, vs1, vs2, vs3]
  refine stop_st (fun e G => ∃ c : Fm, e 1 = .vptr c.pp 0 ∧ FI G c m5 ∧ Wfm m5 5 ∧ (∃ b : Nat, e 2 = .vptr b 0 ∧ Ce G b 0 0 ∧ b ∉ c.foot) ∧ (∃ b : Nat, e 3 = .vptr b 0 ∧ Ce G b 7 0 ∧ b ∉ c.foot) ∧ (∃ b : Nat, e 4 = .vptr b 0 ∧ Ce G b 0 1 ∧ b ∉ c.foot) ∧ (∃ b : Nat, e 5 = .vptr b 0 ∧ Ce G b 0 0 ∧ b ∉ c.foot)) ⟨c', by rw [hk.pp]; exact e1, hI'.keep fun i hi => hs_app (hI'.lt hi), wf', ⟨b2, e2, by obtain ⟨v, h1, h2⟩ := z2.1; exact ⟨v, (hs_app (lt_of h1)).trans h1, h2⟩, z2.2⟩, ⟨b3, e3, by obtain ⟨v, h1, h2⟩ := z3.1; exact ⟨v, (hs_app (lt_of h1)).trans h1, h2⟩, z3.2⟩, ⟨b4, e4, by obtain ⟨v, h1, h2⟩ := z4.1; exact ⟨v, (hs_app (lt_of h1)).trans h1, h2⟩, z4.2⟩, ⟨G'.length, rfl, ⟨v, by simp, vs2⟩, fun hm => by have := hI'.lt hm; omega⟩⟩ ?_
  clear e1 e2 e3 e4 hI wf hI' wf' hk vs1 vs2 vs3 q2 n2 z2 q3 n3 z3 q4 n4 z4 e
  clear v c c' G G'
  rintro e G ⟨c, e1, hI, wf, ⟨b2, e2, q2, n2⟩, ⟨b3, e3, q3, n3⟩, ⟨b4, e4, q4, n4⟩, ⟨b5, e5, q5, n5⟩⟩
  refine stop_go ?_
  simp -implicitDefEqProofs -dsimp (maxSteps := 1000000) (disch := first | omega | (simp only [wkLen]; omega) | decide +kernel) only [↓wkPre, ↓wkPre2, ↓wkE, wkPost, wkDef, wkF, simprocAttr, nn_v, e1, e2, e3, e4, e5]
  refine imp_call md_10 (w10 hI (fun x hx => by have := sumL_get (hI.r1 x hx); have := wf.sz; dsimp only at *; omega) _ ?_)
  intro G' d hJ hft hfr hln
  have hKt : Kp c c G G' := ⟨fun i hi _ => hfr i hi, fun i hi => .inl hi, hln, rfl⟩
  have hI' := hI.keep fun i hi => hfr i (hI.lt hi)
  have hdd : ∀ i ∈ c.foot, i ∉ d.foot := fun i hi hm => by have := hI.lt hi; have := hft i hm; omega
  have z2 := q2.keep n2 hKt
  have y2 : b2 ∉ d.foot := fun hm => by obtain ⟨v, h1, _⟩ := q2; have := lt_of h1; have := hft _ hm; omega
  have z3 := q3.keep n3 hKt
  have y3 : b3 ∉ d.foot := fun hm => by obtain ⟨v, h1, _⟩ := q3; have := lt_of h1; have := hft _ hm; omega
  have z4 := q4.keep n4 hKt
  have y4 : b4 ∉ d.foot := fun hm => by obtain ⟨v, h1, _⟩ := q4; have := lt_of h1; have := hft _ hm; omega
  have z5 := q5.keep n5 hKt
  have y5 : b5 ∉ d.foot := fun hm => by obtain ⟨v, h1, _⟩ := q5; have := lt_of h1; have := hft _ hm; omega
  simp -implicitDefEqProofs -dsimp (maxSteps := 1000000) (disch := first | omega | (simp only [wkLen]; omega) | decide +kernel) only [↓wkPre, ↓wkPre2, ↓evC_region_st [10], ↓evC_text_st [10], ↓evC_cond, ↓evC_block, ↓evC_stop [10], wkPost, wkDef, wkF, simprocAttr, nn_v, e1, e2, e3, e4, e5]
  refine stop_st (fun e G => ∃ c : Fm, e 1 = .vptr c.pp 0 ∧ FI G c m5 ∧ Wfm m5 5 ∧ (∃ d : Fm, e 6 = .vptr d.pp 0 ∧ FI G d m5 ∧ (∀ i ∈ c.foot, i ∉ d.foot) ∧ (∃ b : Nat, e 2 = .vptr b 0 ∧ Ce G b 0 0 ∧ b ∉ c.foot ∧ b ∉ d.foot) ∧ (∃ b : Nat, e 3 = .vptr b 0 ∧ Ce G b 7 0 ∧ b ∉ c.foot ∧ b ∉ d.foot) ∧ (∃ b : Nat, e 4 = .vptr b 0 ∧ Ce G b 0 1 ∧ b ∉ c.foot ∧ b ∉ d.foot) ∧ (∃ b : Nat, e 5 = .vptr b 0 ∧ Ce G b 0 0 ∧ b ∉ c.foot ∧ b ∉ d.foot))) ⟨c, e1, hI', wf, d, rfl, hJ, hdd, ⟨b2, e2, z2.1, z2.2, y2⟩, ⟨b3, e3, z3.1, z3.2, y3⟩, ⟨b4, e4, z4.1, z4.2, y4⟩, ⟨b5, e5, z5.1, z5.2, y5⟩⟩ ?_
  clear e1 e2 e3 e4 e5 hI wf hI' hJ hft hfr hln hKt hdd q2 n2 z2 y2 q3 n3 z3 y3 q4 n4 z4 y4 q5 n5 z5 y5 e
  clear d c G G'
  rintro e G ⟨c, e1, hI, wf, d, e6, hJ, dj, ⟨b2, e2, q2, n2, o2⟩, ⟨b3, e3, q3, n3, o3⟩, ⟨b4, e4, q4, n4, o4⟩, ⟨b5, e5, q5, n5, o5⟩⟩
  refine stop_go ?_
  simp -implicitDefEqProofs -dsimp (maxSteps := 1000000) (disch := first | omega | (simp only [wkLen]; omega) | decide +kernel) only [↓wkPre, ↓wkPre2, ↓wkE, wkPost, wkDef, wkF, simprocAttr, nn_v, e1, e6, e2, e3, e4, e5]
  refine imp_call md_13 (wDo' hI (by omega) wf 1 (by omega) ⟨8, 0, 0, 0, [], ⟨0, 0, 0, 0⟩, 0⟩ hi0 dw10 _ ?_)
  intro G' c' v hI' wf' hk hv
  obtain ⟨vs1, vs2, vs3⟩ := hv
  obtain ⟨hJ', dj'⟩ := two hk hJ dj
  have z2 := q2.keep n2 hk
  have z3 := q3.keep n3 hk
  have z4 := q4.keep n4 hk
  have z5 := q5.keep n5 hk
  simp -implicitDefEqProofs -dsimp (maxSteps := 1000000) (disch := first | omega | (simp only [wkLen]; omega) | decide +kernel) only [↓wkPre, ↓wkPre2, ↓evC_region_st [11], ↓evC_text_st [11], ↓evC_cond, ↓evC_block, ↓evC_stop [11], wkPost, wkDef, wkF, simprocAttr, nn_v, e1, e6, e2, e3, e4, e5, vs1, vs2, vs3]
  refine stop_st (fun e G => ∃ c : Fm, e 1 = .vptr c.pp 0 ∧ FI G c m6 ∧ Wfm m6 6 ∧ (∃ d : Fm, e 6 = .vptr d.pp 0 ∧ FI G d m5 ∧ (∀ i ∈ c.foot, i ∉ d.foot) ∧ (∃ b : Nat, e 2 = .vptr b 0 ∧ Ce G b 0 0 ∧ b ∉ c.foot ∧ b ∉ d.foot) ∧ (∃ b : Nat, e 3 = .vptr b 0 ∧ Ce G b 7 0 ∧ b ∉ c.foot ∧ b ∉ d.foot) ∧ (∃ b : Nat, e 4 = .vptr b 0 ∧ Ce G b 0 1 ∧ b ∉ c.foot ∧ b ∉ d.foot) ∧ (∃ b : Nat, e 5 = .vptr b 0 ∧ Ce G b 0 0 ∧ b ∉ c.foot ∧ b ∉ d.foot) ∧ (∃ b : Nat, e 7 = .vptr b 0 ∧ Ce G b 0 0 ∧ b ∉ c.foot ∧ b ∉ d.foot))) ⟨c', by rw [hk.pp]; exact e1, hI'.keep fun i hi => hs_app (hI'.lt hi), wf', d, e6, hJ'.keep fun i hi => hs_app (hJ'.lt hi), dj', ⟨b2, e2, by obtain ⟨v, h1, h2⟩ := z2.1; exact ⟨v, (hs_app (lt_of h1)).trans h1, h2⟩, z2.2, o2⟩, ⟨b3, e3, by obtain ⟨v, h1, h2⟩ := z3.1; exact ⟨v, (hs_app (lt_of h1)).trans h1, h2⟩, z3.2, o3⟩, ⟨b4, e4, by obtain ⟨v, h1, h2⟩ := z4.1; exact ⟨v, (hs_app (lt_of h1)).trans h1, h2⟩, z4.2, o4⟩, ⟨b5, e5, by obtain ⟨v, h1, h2⟩ := z5.1; exact ⟨v, (hs_app (lt_of h1)).trans h1, h2⟩, z5.2, o5⟩, ⟨G'.length, rfl, ⟨v, by simp, vs2⟩, fun hm => by have := hI'.lt hm; omega, fun hm => by have := hJ'.lt hm; omega⟩⟩ ?_
  clear e1 e6 e2 e3 e4 e5 hI wf hI' wf' hk vs1 vs2 vs3 hJ dj hJ' dj' q2 n2 z2 o2 q3 n3 z3 o3 q4 n4 z4 o4 q5 n5 z5 o5 e
  clear v c c' G G' d
  rintro e G ⟨c, e1, hI, wf, d, e6, hJ, dj, ⟨b2, e2, q2, n2, o2⟩, ⟨b3, e3, q3, n3, o3⟩, ⟨b4, e4, q4, n4, o4⟩, ⟨b5, e5, q5, n5, o5⟩, ⟨b7, e7, q7, n7, o7⟩⟩
  refine stop_go ?_
  simp -implicitDefEqProofs -dsimp (maxSteps := 1000000) (disch := first | omega | (simp only [wkLen]; omega) | decide +kernel) only [↓wkPre, ↓wkPre2, ↓wkE, wkPost, wkDef, wkF, simprocAttr, nn_v, e1, e6, e2, e3, e4, e5, e7]
  refine imp_call md_13 (wDo' hI (by omega) wf 2 (by omega) ⟨5, 0, 0, 0, [], ⟨0, 0, 9, 9⟩, 0⟩ hi0 dw11 _ ?_)
  intro G' c' v hI' wf' hk hv
  obtain ⟨vs1, vs2, vs3⟩ := hv
  obtain ⟨hJ', dj'⟩ := two hk hJ dj
  have z2 := q2.keep n2 hk
  have z3 := q3.keep n3 hk
  have z4 := q4.keep n4 hk
  have z5 := q5.keep n5 hk
  have z7 := q7.keep n7 hk
  simp -implicitDefEqProofs -dsimp (maxSteps := 1000000) (disch := first | omega | (simp only [wkLen]; omega) | decide +kernel) only [↓wkPre, ↓wkPre2, ↓evC_region_st [12], ↓evC_text_st [12], ↓evC_cond, ↓evC_block, ↓evC_stop [12], wkPost, wkDef, wkF, simprocAttr, nn_v, e1, e6, e2, e3, e4, e5, e7, vs1, vs2, vs3]
  refine stop_st (fun e G => ∃ c : Fm, e 1 = .vptr c.pp 0 ∧ FI G c m7 ∧ Wfm m7 7 ∧ (∃ d : Fm, e 6 = .vptr d.pp 0 ∧ FI G d m5 ∧ (∀ i ∈ c.foot, i ∉ d.foot) ∧ (∃ b : Nat, e 2 = .vptr b 0 ∧ Ce G b 0 0 ∧ b ∉ c.foot ∧ b ∉ d.foot) ∧ (∃ b : Nat, e 3 = .vptr b 0 ∧ Ce G b 7 0 ∧ b ∉ c.foot ∧ b ∉ d.foot) ∧ (∃ b : Nat, e 4 = .vptr b 0 ∧ Ce G b 0 1 ∧ b ∉ c.foot ∧ b ∉ d.foot) ∧ (∃ b : Nat, e 5 = .vptr b 0 ∧ Ce G b 0 0 ∧ b ∉ c.foot ∧ b ∉ d.foot) ∧ (∃ b : Nat, e 7 = .vptr b 0 ∧ Ce G b 0 0 ∧ b ∉ c.foot ∧ b ∉ d.foot) ∧ (∃ b : Nat, e 8 = .vptr b 0 ∧ Ce G b 0 1 ∧ b ∉ c.foot ∧ b ∉ d.foot))) ⟨c', by rw [hk.pp]; exact e1, hI'.keep fun i hi => hs_app (hI'.lt hi), wf', d, e6, hJ'.keep fun i hi => hs_app (hJ'.lt hi), dj', ⟨b2, e2, by obtain ⟨v, h1, h2⟩ := z2.1; exact ⟨v, (hs_app (lt_of h1)).trans h1, h2⟩, z2.2, o2⟩, ⟨b3, e3, by obtain ⟨v, h1, h2⟩ := z3.1; exact ⟨v, (hs_app (lt_of h1)).trans h1, h2⟩, z3.2, o3⟩, ⟨b4, e4, by obtain ⟨v, h1, h2⟩ := z4.1; exact ⟨v, (hs_app (lt_of h1)).trans h1, h2⟩, z4.2, o4⟩, ⟨b5, e5, by obtain ⟨v, h1, h2⟩ := z5.1; exact ⟨v, (hs_app (lt_of h1)).trans h1, h2⟩, z5.2, o5⟩, ⟨b7, e7, by obtain ⟨v, h1, h2⟩ := z7.1; exact ⟨v, (hs_app (lt_of h1)).trans h1, h2⟩, z7.2, o7⟩, ⟨G'.length, rfl, ⟨v, by simp, vs2⟩, fun hm => by have := hI'.lt hm; omega, fun hm => by have := hJ'.lt hm; omega⟩⟩ ?_
  clear e1 e6 e2 e3 e4 e5 e7 hI wf hI' wf' hk vs1 vs2 vs3 hJ dj hJ' dj' q2 n2 z2 o2 q3 n3 z3 o3 q4 n4 z4 o4 q5 n5 z5 o5 q7 n7 z7 o7 e
  clear v c c' G G' d
  rintro e G ⟨c, e1, hI, wf, d, e6, hJ, dj, ⟨b2, e2, q2, n2, o2⟩, ⟨b3, e3, q3, n3, o3⟩, ⟨b4, e4, q4, n4, o4⟩, ⟨b5, e5, q5, n5, o5⟩, ⟨b7, e7, q7, n7, o7⟩, ⟨b8, e8, q8, n8, o8⟩⟩
  refine stop_go ?_
  simp -implicitDefEqProofs -dsimp (maxSteps := 1000000) (disch := first | omega | (simp only [wkLen]; omega) | decide +kernel) only [↓wkPre, ↓wkPre2, ↓wkE, wkPost, wkDef, wkF, simprocAttr, nn_v, e1, e6, e2, e3, e4, e5, e7, e8]
  refine imp_call md_13 (wDo' hI (by omega) wf 3 (by omega) ⟨8, 0, 0, 0, [], ⟨0, 0, 0, 0⟩, 0⟩ hi0 dw12 _ ?_)
  intro G' c' v hI' wf' hk hv
  obtain ⟨vs1, vs2, vs3⟩ := hv
  obtain ⟨hJ', dj'⟩ := two hk hJ dj
  have z2 := q2.keep n2 hk
  have z3 := q3.keep n3 hk
  have z4 := q4.keep n4 hk
  have z5 := q5.keep n5 hk
  have z7 := q7.keep n7 hk
  have z8 := q8.keep n8 hk
  simp -implicitDefEqProofs -dsimp (maxSteps := 1000000) (disch := first | omega | (simp only [wkLen]; omega) | decide +kernel) only [↓wkPre, ↓wkPre2, ↓evC_region_st [13], ↓evC_text_st [13], ↓evC_cond, ↓evC_block, ↓evC_stop [13], wkPost, wkDef, wkF, simprocAttr, nn_v, e1, e6, e2, e3, e4, e5, e7, e8, vs1, vs2, vs3]
  refine stop_st (fun e G => ∃ c : Fm, e 1 = .vptr c.pp 0 ∧ FI G c m8 ∧ Wfm m8 8 ∧ (∃ d : Fm, e 6 = .vptr d.pp 0 ∧ FI G d m5 ∧ (∀ i ∈ c.foot, i ∉ d.foot) ∧ (∃ b : Nat, e 2 = .vptr b 0 ∧ Ce G b 0 0 ∧ b ∉ c.foot ∧ b ∉ d.foot) ∧ (∃ b : Nat, e 3 = .vptr b 0 ∧ Ce G b 7 0 ∧ b ∉ c.foot ∧ b ∉ d.foot) ∧ (∃ b : Nat, e 4 = .vptr b 0 ∧ Ce G b 0 1 ∧ b ∉ c.foot ∧ b ∉ d.foot) ∧ (∃ b : Nat, e 5 = .vptr b 0 ∧ Ce G b 0 0 ∧ b ∉ c.foot ∧ b ∉ d.foot) ∧ (∃ b : Nat, e 7 = .vptr b 0 ∧ Ce G b 0 0 ∧ b ∉ c.foot ∧ b ∉ d.foot) ∧ (∃ b : Nat, e 8 = .vptr b 0 ∧ Ce G b 0 1 ∧ b ∉ c.foot ∧ b ∉ d.foot) ∧ (∃ b : Nat, e 9 = .vptr b 0 ∧ Ce G b 10 0 ∧ b ∉ c.foot ∧ b ∉ d.foot))) ⟨c', by rw [hk.pp]; exact e1, hI'.keep fun i hi => hs_app (hI'.lt hi), wf', d, e6, hJ'.keep fun i hi => hs_app (hJ'.lt hi), dj', ⟨b2, e2, by obtain ⟨v, h1, h2⟩ := z2.1; exact ⟨v, (hs_app (lt_of h1)).trans h1, h2⟩, z2.2, o2⟩, ⟨b3, e3, by obtain ⟨v, h1, h2⟩ := z3.1; exact ⟨v, (hs_app (lt_of h1)).trans h1, h2⟩, z3.2, o3⟩, ⟨b4, e4, by obtain ⟨v, h1, h2⟩ := z4.1; exact ⟨v, (hs_app (lt_of h1)).trans h1, h2⟩, z4.2, o4⟩, ⟨b5, e5, by obtain ⟨v, h1, h2⟩ := z5.1; exact ⟨v, (hs_app (lt_of h1)).trans h1, h2⟩, z5.2, o5⟩, ⟨b7, e7, by obtain ⟨v, h1, h2⟩ := z7.1; exact ⟨v, (hs_app (lt_of h1)).trans h1, h2⟩, z7.2, o7⟩, ⟨b8, e8, by obtain ⟨v, h1, h2⟩ := z8.1; exact ⟨v, (hs_app (lt_of h1)).trans h1, h2⟩, z8.2, o8⟩, ⟨G'.length, rfl, ⟨v, by simp, vs2⟩, fun hm => by have := hI'.lt hm; omega, fun hm => by have := hJ'.lt hm; omega⟩⟩ ?_
  clear e1 e6 e2 e3 e4 e5 e7 e8 hI wf hI' wf' hk vs1 vs2 vs3 hJ dj hJ' dj' q2 n2 z2 o2 q3 n3 z3 o3 q4 n4 z4 o4 q5 n5 z5 o5 q7 n7 z7 o7 q8 n8 z8 o8 e
  clear v c c' G G' d
  rintro e G ⟨c, e1, hI, wf, d, e6, hJ, dj, ⟨b2, e2, q2, n2, o2⟩, ⟨b3, e3, q3, n3, o3⟩, ⟨b4, e4, q4, n4, o4⟩, ⟨b5, e5, q5, n5, o5⟩, ⟨b7, e7, q7, n7, o7⟩, ⟨b8, e8, q8, n8, o8⟩, ⟨b9, e9, q9, n9, o9⟩⟩
  refine stop_go ?_
  simp -implicitDefEqProofs -dsimp (maxSteps := 1000000) (disch := first | omega | (simp only [wkLen]; omega) | decide +kernel) only [↓wkPre, ↓wkPre2, ↓wkE, wkPost, wkDef, wkF, simprocAttr, nn_v, e1, e6, e2, e3, e4, e5, e7, e8, e9]
  refine imp_call md_20 (w20 hJ _ ?_)
  intro G1 d1 hJ1 k1
  obtain ⟨hI1, dj1⟩ := two k1 hI (fun i hi hm => dj i hm hi)
  have z2 := q2.keep o2 k1
  have z3 := q3.keep o3 k1
  have z4 := q4.keep o4 k1
  have z5 := q5.keep o5 k1
  have z7 := q7.keep o7 k1
  have z8 := q8.keep o8 k1
  have z9 := q9.keep o9 k1
  simp -implicitDefEqProofs -dsimp (maxSteps := 1000000) (disch := first | omega | (simp only [wkLen]; omega) | decide +kernel) only [↓wkPre, ↓wkPre2, ↓wkE, wkPost, wkDef, wkF, simprocAttr, nn_v, e1, e6, e2, e3, e4, e5, e7, e8, e9]
  refine imp_call md_18 (w18 hI1 2 _ ?_)
  intro G2 c2 hI2 k2
  obtain ⟨hJ2, dj2⟩ := two k2 hJ1 (fun i hi hm => dj1 i hm hi)
  have hI2 : FI G2 c2 m9 := hI2
  have y2 := z2.1.keep n2 k2
  have y3 := z3.1.keep n3 k2
  have y4 := z4.1.keep n4 k2
  have y5 := z5.1.keep n5 k2
  have y7 := z7.1.keep n7 k2
  have y8 := z8.1.keep n8 k2
  have y9 := z9.1.keep n9 k2
  have e1' : e 1 = .vptr c2.pp 0 := by rw [k2.pp]; exact e1
  simp -implicitDefEqProofs -dsimp (maxSteps := 1000000) (disch := first | omega | (simp only [wkLen]; omega) | decide +kernel) only [↓wkPre, ↓wkPre2, ↓wkE, wkPost, wkDef, wkF, simprocAttr, nn_v, e1, e6, e2, e3, e4, e5, e7, e8, e9]
  rw [show AV.vptr c.pp 0 = .vptr c2.pp 0 by rw [k2.pp]]
  refine imp_call md_19 (w19 hI2 4 (t := mi0) rfl _ ?_)
  intro G3 c3 hI3 k3
  have hI3 : FI G3 c3 m10 := hI3
  obtain ⟨hJ3, dj3⟩ := two k3 hJ2 dj2
  have x2 := y2.1.keep y2.2 k3
  have x3 := y3.1.keep y3.2 k3
  have x4 := y4.1.keep y4.2 k3
  have x5 := y5.1.keep y5.2 k3
  have x7 := y7.1.keep y7.2 k3
  have x8 := y8.1.keep y8.2 k3
  have x9 := y9.1.keep y9.2 k3
  obtain ⟨v2, g2, u2⟩ := x2.1
  obtain ⟨v3, g3, u3⟩ := x3.1
  obtain ⟨v4, g4, u4⟩ := x4.1
  obtain ⟨v5, g5, u5⟩ := x5.1
  obtain ⟨v7, g7, u7⟩ := x7.1
  obtain ⟨v8, g8, u8⟩ := x8.1
  obtain ⟨v9, g9, u9⟩ := x9.1
  have hpc : c.pp = c3.pp := by rw [k3.pp, k2.pp]
  have hpd : d.pp = d1.pp := k1.pp.symm
  have wf10 : Asc m10.M := by unfold Asc m10; simp
  have hall : m10.M.length = 1 := rfl
  rw [hpc] at e1
  rw [hpd] at e6
  simp -implicitDefEqProofs -dsimp (maxSteps := 1000000) (disch := first | omega | (simp only [wkLen]; omega) | decide +kernel) only [↓wkPre, ↓wkPre2, ↓wkE, wkPost, wkDef, wkF, simprocAttr, nn_v, e1, e6, e2, e3, e4, e5, e7, e8, e9, g2, u2, g3, u3, g4, u4, g5, u5, g7, u7, g8, u8, g9, u9]
  refine imp_call md_15 (w15 hI3 wf10 (by decide) _ ?_)
  intro va G4 a1 a2 a3 a4
  obtain ⟨hJ4, dj4⟩ := two a3 hJ3 dj3
  have hl10 : (rcs m10.M).length = 1 := rfl
  have hl5 : (rcs m5.M).length = 0 := rfl
  have hlv : (rcs (viewF m10.M [])).length = 1 := rfl
  have hmi : mi0.on = false := rfl
  rcases a1 with ⟨_, hx⟩ | ⟨ab, ag, rfl, _⟩
  · exact absurd hx (by simp [rcs, m10])
  simp -implicitDefEqProofs -dsimp (maxSteps := 1000000) (disch := first | omega | (simp only [wkLen]; omega) | decide +kernel) only [↓wkPre, ↓wkPre2, ↓wkE, wkPost, wkDef, wkF, simprocAttr, nn_v, e1, e6, e2, e3, e4, e5, e7, e8, e9, hl10]
  refine imp_call md_15 (w15 hJ4 (List.Pairwise.nil) (Nat.zero_le _) _ ?_)
  intro vb G5 b1 b2' b3' b4'
  obtain ⟨hI5, dj5⟩ := two b3' a2 (fun i hi hm => dj4 i hm hi)
  rcases b1 with ⟨rfl, _⟩ | ⟨bb, bg, rfl, _⟩
  all_goals
    simp -implicitDefEqProofs -dsimp (maxSteps := 1000000) (disch := first | omega | (simp only [wkLen]; omega) | decide +kernel) only [↓wkPre, ↓wkPre2, ↓wkE, wkPost, wkDef, wkF, simprocAttr, nn_v, e1, e6, e2, e3, e4, e5, e7, e8, e9, hl5]
    refine imp_call md_21 (w21 b2' 1 (t := mi0) rfl _ ?_)
    simp -implicitDefEqProofs -dsimp (maxSteps := 1000000) (disch := first | omega | (simp only [wkLen]; omega) | decide +kernel) only [↓wkPre, ↓wkPre2, ↓wkE, wkPost, wkDef, wkF, simprocAttr, nn_v, e1, e6, e2, e3, e4, e5, e7, e8, e9, hmi]
    refine imp_call md_21 (w21 hI5 2 (t := mi0) rfl _ ?_)
    simp -implicitDefEqProofs -dsimp (maxSteps := 1000000) (disch := first | omega | (simp only [wkLen]; omega) | decide +kernel) only [↓wkPre, ↓wkPre2, ↓wkE, wkPost, wkDef, wkF, simprocAttr, nn_v, e1, e6, e2, e3, e4, e5, e7, e8, e9, hmi]
    refine imp_call md_21 (w21 hI5 4 (t := ⟨true, [], []⟩) rfl _ ?_)
    simp -implicitDefEqProofs -dsimp (maxSteps := 1000000) (disch := first | omega | (simp only [wkLen]; omega) | decide +kernel) only [↓wkPre, ↓wkPre2, ↓wkE, wkPost, wkDef, wkF, simprocAttr, nn_v, e1, e6, e2, e3, e4, e5, e7, e8, e9]
    refine imp_call md_16 (w16 hI5 wf10 4 (t := ⟨true, [], []⟩) rfl (by decide) _ ?_)
    intro vc G6 c1 _ _ _ _
    rcases c1 with ⟨_, hx⟩ | ⟨cb, cg, rfl, _⟩
    · exact absurd hx (by simp [rcs, viewF, m10])
    simp -implicitDefEqProofs -dsimp (maxSteps := 1000000) (disch := first | omega | (simp only [wkLen]; omega) | decide +kernel) only [↓wkPre, ↓wkPre2, ↓wkE, wkPost, wkDef, wkF, simprocAttr, nn_v, e1, e6, e2, e3, e4, e5, e7, e8, e9, hlv]
end Go.Ev.F34
end
