/- A part of the proof: walks of the functions that the law calls. No condition. -/
import Derived.Test.YtafkblkenoelhaaWorks
set_option linter.all false
section
namespace Go.Ev.F34
open Go.Proofs Go.Ev
set_option maxRecDepth 100000
set_option linter.all false
abbrev moB (r : Mo) : Blk := .var true (.p (moP r))
/-- Two maps and the cells of what they should be. -/
structure LI (G : Heap) (c d : Fm) (m mt r rt : Mo) (a b : Nat) : Prop where
  hI : FI G c m
  hJ : FI G d mt
  dj : ∀ i ∈ c.foot, i ∉ d.foot
  ga : G[a]? = some (moB r)
  gb : G[b]? = some (moB rt)
  ab : a ≠ b
  na : a ∉ c.foot
  nb : b ∉ c.foot
  oa : a ∉ d.foot
  ob : b ∉ d.foot
theorem LI.ext {G G' : Heap} {c d : Fm} {m mt r rt : Mo} {a b : Nat} (h : LI G c d m mt r rt a b) (k : ∀ i, i < G.length → G'[i]? = G[i]?) : LI G' c d m mt r rt a b :=
  ⟨h.hI.keep fun i hi => k i (h.hI.lt hi), h.hJ.keep fun i hi => k i (h.hJ.lt hi), h.dj, (k _ (lt_of h.ga)).trans h.ga, (k _ (lt_of h.gb)).trans h.gb, h.ab, h.na, h.nb, h.oa, h.ob⟩
theorem Kp.out {c c' : Fm} {G G' : Heap} (hk : Kp c c' G G') {a : Nat} {x : Blk} (ha : G[a]? = some x) (hn : a ∉ c.foot) : G'[a]? = some x ∧ a ∉ c'.foot :=
  ⟨(hk.fr a (lt_of ha) hn).trans ha, fun hm => (hk.ft a hm).elim hn (fun h => by have := lt_of ha; omega)⟩
theorem LI.kp {G G' : Heap} {c c' d : Fm} {m m' mt r rt : Mo} {a b : Nat} (h : LI G c d m mt r rt a b) (hk : Kp c c' G G') (hF : FI G' c' m') : LI G' c' d m' mt r rt a b := by
  obtain ⟨h1, h2⟩ := two hk h.hJ h.dj
  obtain ⟨h3, h4⟩ := hk.out h.ga h.na
  obtain ⟨h5, h6⟩ := hk.out h.gb h.nb
  exact ⟨hF, h1, h2, h3, h5, h.ab, h4, h6, h.oa, h.ob⟩
theorem LI.seta {G : Heap} {c d : Fm} {m mt r rt : Mo} {a b : Nat} (h : LI G c d m mt r rt a b) (r' : Mo) : LI (G.set a (moB r')) c d m mt r' rt a b :=
  ⟨h.hI.keep fun i hi => hs_ne fun e => h.na (by rw [e]; exact hi), h.hJ.keep fun i hi => hs_ne fun e => h.oa (by rw [e]; exact hi), h.dj, hs_set (lt_of h.ga), (hs_ne h.ab).trans h.gb, h.ab, h.na, h.nb, h.oa, h.ob⟩
theorem LI.setb {G : Heap} {c d : Fm} {m mt r rt : Mo} {a b : Nat} (h : LI G c d m mt r rt a b) (r' : Mo) : LI (G.set b (moB r')) c d m mt r r' a b :=
  ⟨h.hI.keep fun i hi => hs_ne fun e => h.nb (by rw [e]; exact hi), h.hJ.keep fun i hi => hs_ne fun e => h.ob (by rw [e]; exact hi), h.dj, (hs_ne h.ab.symm).trans h.ga, hs_set (lt_of h.gb), h.ab, h.na, h.nb, h.oa, h.ob⟩
theorem LI.twin {G G' : Heap} {c d d' : Fm} {m mt r rt : Mo} {a b : Nat} (h : LI G c d m mt r rt a b) (hJ : FI G' d' m) (hft : ∀ i ∈ d'.foot, G.length ≤ i) (k : ∀ i, i < G.length → G'[i]? = G[i]?) : LI G' c d' m m r rt a b :=
  ⟨h.hI.keep fun i hi => k i (h.hI.lt hi), hJ, fun i hi hm => by have := h.hI.lt hi; have := hft i hm; omega, (k _ (lt_of h.ga)).trans h.ga, (k _ (lt_of h.gb)).trans h.gb, h.ab, h.na, h.nb,
    fun hm => by have := lt_of h.ga; have := hft _ hm; omega, fun hm => by have := lt_of h.gb; have := hft _ hm; omega⟩
theorem FI.xl {H : Heap} {c : Fm} {m : Mo} (h : FI H c m) {k : Nat} (wf : Wfm m k) (hk : k ≤ 500) : ∀ x ∈ c.X, x.L.length ≤ 1000 := fun x hx => by
  have := wf.bd (h.r1 x hx)
  dsimp only at this
  omega
theorem light_len {l : List St} (h : lightF l = true) : l.length ≤ 80 := by
  unfold lightF at h
  simp at h
  exact h.1
/-- What the loop of FlatDoes keeps. -/
def L3 (l : List St) (at' : Int) (i : Nat) (e : Env) (G : Heap) : Prop :=
  ∃ c d m mt a b, e 0 = .p (.sl 12 (sts l)) ∧ e 1 = .p (I at') ∧ e 5 = .vptr c.pp 0 ∧ e 6 = .vptr a 0 ∧ e 7 = .vptr d.pp 0 ∧ e 8 = .vptr b 0 ∧ LI G c d m mt m mt a b ∧ Wfm m i ∧ Wfm mt 100
set_option maxHeartbeats 4000000 in
theorem law3 (l : List St) (at' : Int) (hw : ∀ s ∈ l, s.who < 256 ∧ inI s.o.n) : (W Cf okf).call 3 [.p (.sl 12 (sts l)), .p (I at')] [] fun v _ => v = .p (.bool true) := by
  refine top_mk extMono Try.func3 body3 (by decide) rfl ?_
  simp only [c3, Try.f3, Option.getD_some]
  have hl := sts_len l
  simp -implicitDefEqProofs -dsimp (maxSteps := 1000000) (disch := first | omega | (simp only [wkLen]; omega) | decide +kernel) only [↓wkPre, ↓wkPre2, ↓wkE, wkPost, wkDef, wkF, simprocAttr]
  refine PS.app md_6 Try.func6 (p6 l) rfl ?_
  rintro _ rfl
  cases hlight : lightF l with
  | false =>
    simp -implicitDefEqProofs -dsimp (maxSteps := 1000000) (disch := first | omega | (simp only [wkLen]; omega) | decide +kernel) only [↓wkPre, ↓wkPre2, ↓wkE, wkPost, wkDef, wkF, simprocAttr]
    refine PS.app md_7 Try.func7 p7 rfl ?_
    rintro _ rfl
    simp -implicitDefEqProofs -dsimp (maxSteps := 1000000) (disch := first | omega | (simp only [wkLen]; omega) | decide +kernel) only [↓wkPre, ↓wkPre2, ↓wkE, wkPost, wkDef, wkF, simprocAttr]
  | true =>
    have hln := light_len hlight
    simp -implicitDefEqProofs -dsimp (maxSteps := 1000000) (disch := first | omega | (simp only [wkLen]; omega) | decide +kernel) only [↓wkPre, ↓wkPre2, ↓wkE, wkPost, wkDef, wkF, simprocAttr]
    refine imp_call md_8 (w8 _ _ ?_)
    intro H c hFI hft hfr hle
    have hI : FI H c m0 := hFI 5
    clear hFI hft hfr hle
    simp -implicitDefEqProofs -dsimp (maxSteps := 1000000) (disch := first | omega | (simp only [wkLen]; omega) | decide +kernel) only [↓wkPre, ↓wkPre2, ↓wkE, wkPost, wkDef, wkF, simprocAttr, nn_v]
    refine PS.app md_9 Try.func9 (p9 5 (by omega)) rfl ?_
    rintro _ rfl
    have hI1 : FI (H ++ [moB m0]) c m0 := hI.keep fun i hi => hs_app (hI.lt hi)
    have hsp : AV.p (moP ⟨[], List.replicate 5 mi0⟩) = .p (moP m0) := rfl
    rw [hsp]
    simp -implicitDefEqProofs -dsimp (maxSteps := 1000000) (disch := first | omega | (simp only [wkLen]; omega) | decide +kernel) only [↓wkPre, ↓wkPre2, ↓wkE, wkPost, wkDef, wkF, simprocAttr, nn_v]
    refine imp_call md_10 (w10 hI1 (hI1.xl Wfm.new (by omega)) _ ?_)
    intro G d hJ hft hfr hle
    have hgl : H.length + 1 ≤ G.length := by simpa using hle
    have ga : G[H.length]? = some (moB m0) := (hfr _ (by simp)).trans (by simp)
    have hII : FI G c m0 := hI1.keep fun i hi => hfr i (hI1.lt hi)
    simp -implicitDefEqProofs -dsimp (maxSteps := 1000000) (disch := first | omega | (simp only [wkLen]; omega) | decide +kernel) only [↓wkPre, ↓wkPre2, ↓evC_region_st [9], ↓evC_text_st [9], ↓evC_cond, ↓evC_block, ↓evC_stop [9], wkPost, wkDef, wkF, simprocAttr, nn_v, ga]
    refine stop_st (fun e G => L3 l at' 0 e G) ⟨c, d, m0, m0, H.length, G.length, rfl, rfl, rfl, rfl, rfl, rfl, ⟨hII.keep fun i hi => hs_app (hII.lt hi), hJ.keep fun i hi => hs_app (hJ.lt hi), ?_, (hs_app (by omega)).trans ga, by simp, by omega, ?_, ?_, ?_, ?_⟩, Wfm.new, Wfm.new.le (by omega)⟩ ?_
    · intro i hi hm
      have := hI1.lt hi
      have := hft i hm
      omega
    · intro hm; have := hI.lt hm; omega
    · intro hm; have := hII.lt hm; omega
    · intro hm; have := hft _ hm; simp at this; omega
    · intro hm; have := hJ.lt hm; omega
    clear hI hI1 hII hJ hft hfr hle hgl ga c d G H
    rintro e G hL
    refine stop_go ?_
    have hL0 := hL
    obtain ⟨c, d, m, mt, a, b, e0, e1, e5, e6, e7, e8, hLI, wf, wft⟩ := hL
    simp -implicitDefEqProofs -dsimp (maxSteps := 1000000) (disch := first | omega | (simp only [wkLen]; omega) | decide +kernel) only [↓wkPre, ↓wkPre2, ↓wkE, wkPost, wkDef, wkF, simprocAttr, nn_v, e0, e1, e5, e6, e7, e8]
    refine loop_use extMono (fun m' e Hc => ∃ (i : Nat), m' = l.length - i ∧ i ≤ l.length ∧ e 10 = .p (I i) ∧ L3 l at' i e Hc) ?_ l.length _ _ ⟨0, rfl, by omega, ?_⟩
    · clear hL0 hLI wf wft e0 e1 e5 e6 e7 e8 e G c d m mt a b
      rintro m' e G ⟨i, rfl, hi, e10, c, d, m, mt, a, b, e0, e1, e5, e6, e7, e8, hLI, wf, wft⟩
      rcases Nat.lt_or_ge i l.length with hlt | hge
      · have gi := sts_get hlt
        have hwi := hw _ (List.getElem_mem hlt)
        simp -implicitDefEqProofs -dsimp (maxSteps := 1000000) (disch := first | omega | (simp only [wkLen]; omega) | decide +kernel) only [↓wkPre, ↓wkPre2, ↓evC_region_st [13], ↓evC_text_st [13], ↓evC_cond, ↓evC_block, ↓evC_stop [13], wkPost, wkDef, wkF, simprocAttr, nn_v, e0, e1, e5, e6, e7, e8, e10, hl]
        refine stop_go ?_
        simp -implicitDefEqProofs -dsimp (maxSteps := 1000000) (disch := first | omega | (simp only [wkLen]; omega) | decide +kernel) only [↓wkPre, ↓wkPre2, ↓evC_region, ↓evC_text, ↓evC_cond_stop, ↓evC_block, wkPost, wkDef, wkF, simprocAttr, nn_v, e0, e1, e5, e6, e7, e8, e10, hl]
        refine stop_cutK extMono (fun e' G' => e' 10 = .p (I i) ∧ L3 l at' i e' G') ?_ ?_
        · by_cases hat : (i : Int) = at'
          · simp -implicitDefEqProofs -dsimp (maxSteps := 1000000) (disch := first | omega | (simp only [wkLen]; omega) | decide +kernel) only [↓wkPre, ↓wkPre2, ↓wkE, wkPost, wkDef, wkF, simprocAttr, nn_v, e0, e1, e5, e6, e7, e8, e10, hat, onNK_normal]
            refine imp_call md_10 (w10 hLI.hI (hLI.hI.xl wf (by omega)) _ ?_)
            intro G' d' hJ hft hfr hle
            have h2 := hLI.twin hJ hft hfr
            have ga := h2.ga
            have gb := h2.gb
            simp -implicitDefEqProofs -dsimp (maxSteps := 1000000) (disch := first | omega | (simp only [wkLen]; omega) | decide +kernel) only [↓wkPre, ↓wkPre2, ↓wkE, wkPost, wkDef, wkF, simprocAttr, nn_v, e0, e1, e5, e6, e7, e8, e10, ga, gb, onNK_normal]
            exact ⟨c, d', m, m, a, b, e0, e1, e5, e6, rfl, e8, h2.setb m, wf, wf.le (by omega)⟩
          · simp -implicitDefEqProofs -dsimp (maxSteps := 1000000) (disch := first | omega | (simp only [wkLen]; omega) | decide +kernel) only [↓wkPre, ↓wkPre2, ↓wkE, wkPost, wkDef, wkF, simprocAttr, nn_v, e0, e1, e5, e6, e7, e8, e10, hat, onNK_normal]
            exact ⟨c, d, m, mt, a, b, e0, e1, e5, e6, e7, e8, hLI, wf, wft⟩
        clear hLI wf wft e0 e1 e5 e6 e7 e8 e10 e G c d m mt a b
        rintro e G ⟨e10, c, d, m, mt, a, b, e0, e1, e5, e6, e7, e8, hLI, wf, wft⟩
        have ga := hLI.ga
        have gb := hLI.gb
        simp -implicitDefEqProofs -dsimp (maxSteps := 1000000) (disch := first | omega | (simp only [wkLen]; omega) | decide +kernel) only [↓wkPre, ↓wkPre2, ↓wkE, wkPost, wkDef, wkF, simprocAttr, nn_v, e0, e1, e5, e6, e7, e8, e10, hl, gi, ga, gb]
        refine imp_call md_11 (w11 hLI.hI (by omega) wf _ hwi.1 _ ?_)
        intro G1 c1 hI1 k1
        have hL1 := hLI.kp k1 hI1
        have wf1 := stpF_wf wf l[i] hwi.2
        generalize stpF m l[i] = m1 at hI1 hL1 wf1 ⊢
        have ga1 := hL1.ga
        have hL2 := hL1.seta m1
        have ga2 := hL2.ga
        have e5' : AV.vptr c.pp 0 = .vptr c1.pp 0 := by rw [k1.pp]
        rw [e5'] at e5
        simp -implicitDefEqProofs -dsimp (maxSteps := 1000000) (disch := first | omega | (simp only [wkLen]; omega) | decide +kernel) only [↓wkPre, ↓wkPre2, ↓wkE, wkPost, wkDef, wkF, simprocAttr, nn_v, e0, e1, e5, e6, e7, e8, e10, hl, gi, ga1, ga2]
        rw [e5']
        refine imp_call md_12 (w12 hL2.hI (by omega) wf1 _ ?_)
        intro G2 hI2 k2
        have hL3 := hL2.kp k2 hI2
        simp -implicitDefEqProofs -dsimp (maxSteps := 1000000) (disch := first | omega | (simp only [wkLen]; omega) | decide +kernel) only [↓wkPre, ↓wkPre2, ↓wkE, wkPost, wkDef, wkF, simprocAttr, nn_v, e0, e1, e5, e6, e7, e8, e10]
        exact ⟨l.length - (i + 1), by omega, i + 1, rfl, by omega, by push_cast; rfl, c1, d, m1, mt, a, b, e0, e1, e5, e6, e7, e8, hL3, wf1, wft⟩
      · obtain rfl : i = l.length := by omega
        have gb := hLI.gb
        simp -implicitDefEqProofs -dsimp (maxSteps := 1000000) (disch := first | omega | (simp only [wkLen]; omega) | decide +kernel) only [↓wkPre, ↓wkPre2, ↓wkE, wkPost, wkDef, wkF, simprocAttr, nn_v, e0, e1, e5, e6, e7, e8, e10, hl, gb]
        refine imp_call md_12 (w12 hLI.hJ (by omega) wft _ ?_)
        intro G2 hI2 k2
        simp -implicitDefEqProofs -dsimp (maxSteps := 1000000) (disch := first | omega | (simp only [wkLen]; omega) | decide +kernel) only [↓wkPre, ↓wkPre2, ↓wkE, wkPost, wkDef, wkF, simprocAttr, nn_v, e0, e1, e5, e6, e7, e8, e10]
        refine PS.app md_7 Try.func7 p7 rfl ?_
        rintro _ rfl
        simp -implicitDefEqProofs -dsimp (maxSteps := 1000000) (disch := first | omega | (simp only [wkLen]; omega) | decide +kernel) only [↓wkPre, ↓wkPre2, ↓wkE, wkPost, wkDef, wkF, simprocAttr]
    · simp -implicitDefEqProofs -dsimp (maxSteps := 1000000) (disch := first | omega | (simp only [wkLen]; omega) | decide +kernel) only [↓wkPre, ↓wkPre2, ↓wkE, wkPost, wkDef, wkF, simprocAttr]
      exact ⟨c, d, m, mt, a, b, e0, e1, e5, e6, e7, e8, hLI, wf, wft⟩
end Go.Ev.F34
end
section
namespace Go.Ev.F34
open Go.Proofs Go.Ev
set_option maxRecDepth 100000
set_option linter.all false
abbrev aoT : List Ty := [.int .i64, .int .u64, .int .u32, .int .u32, .str, .int .u32, .int .u32, .int .u32, .int .u32, .int .i64]
theorem ao_cells {xs : List PV} (h : Tyds aoT xs) : ∃ o : Ao, inI o.n ∧ xs = [I o.kind, U o.key, u32 o.x, u32 o.y, .str o.val, u32 o.w.x0, u32 o.w.y0, u32 o.w.x1, u32 o.w.y1, I o.n] := by
  simp only [aoT, Tyds, Tyd] at h
  obtain ⟨_, r1, rfl, ⟨k, rfl, _⟩, _, r2, rfl, ⟨key, rfl, _⟩, _, r3, rfl, ⟨x, rfl, _⟩, _, r4, rfl, ⟨y, rfl, _⟩, _, r5, rfl, ⟨v, rfl, _⟩, _, r6, rfl, ⟨x0, rfl, _⟩, _, r7, rfl, ⟨y0, rfl, _⟩, _, r8, rfl, ⟨x1, rfl, _⟩, _, r9, rfl, ⟨y1, rfl, _⟩, _, r10, rfl, ⟨n, rfl, hn⟩, rfl⟩ := h
  exact ⟨⟨k, key, x, y, v, ⟨x0, y0, x1, y1⟩, n⟩, hn, rfl⟩
theorem tyds_cons (t : Ty) (ts : List Ty) (xs : List PV) : Tyds (t :: ts) xs ↔ ∃ x r, xs = x :: r ∧ Tyd t x ∧ Tyds ts r := by simp only [Tyds]
theorem sts_list : ∀ {xs : List PV}, (∀ y ∈ xs, y.shape = 12 ∧ Tyds (.int .i64 :: .int .u8 :: aoT) y.cells) → ∃ l : List St, (∀ s ∈ l, s.who < 256 ∧ inI s.o.n) ∧ xs = sts l
  | [], _ => ⟨[], fun s h => (by cases h), rfl⟩
  | y :: ys, h => by
    obtain ⟨l, hl, rfl⟩ := sts_list (xs := ys) fun z hz => h z (by simp [hz])
    obtain ⟨h0, h1⟩ := h y (by simp)
    rw [tyds_cons] at h1
    simp only [tyds_cons (.int .u8)] at h1
    simp only [Tyd] at h1
    obtain ⟨_, r1, hc, ⟨k, rfl, _⟩, _, r2, rfl, ⟨w, rfl, hw1, hw2⟩, h2⟩ := h1
    obtain ⟨o, ho, rfl⟩ := ao_cells h2
    have hw1 : 0 ≤ w := hw1
    have hw2 : w ≤ 255 := hw2
    refine ⟨⟨k, w.toNat, o⟩ :: l, ?_, ?_⟩
    · intro s hs
      rcases List.mem_cons.1 hs with rfl | hs
      · exact ⟨by dsimp only; omega, ho⟩
      · exact hl s hs
    · have hwe : w = ((w.toNat : Nat) : Int) := by omega
      cases y with
      | agg xs =>
        simp only [PV.cells] at hc
        subst hc
        show _ = stP ⟨k, w.toNat, o⟩ :: sts l
        rw [stP, ← hwe]
      | _ => simp [PV.shape] at h0
theorem aos_list : ∀ {xs : List PV}, (∀ y ∈ xs, y.shape = 10 ∧ Tyds aoT y.cells) → ∃ l : List Ao, (∀ o ∈ l, inI o.n) ∧ xs = aos l
  | [], _ => ⟨[], fun s h => (by cases h), rfl⟩
  | y :: ys, h => by
    obtain ⟨l, hl, rfl⟩ := aos_list (xs := ys) fun z hz => h z (by simp [hz])
    obtain ⟨h0, h1⟩ := h y (by simp)
    obtain ⟨o, ho, hc⟩ := ao_cells h1
    refine ⟨o :: l, ?_, ?_⟩
    · intro s hs
      rcases List.mem_cons.1 hs with rfl | hs
      · exact ho
      · exact hl s hs
    · cases y with
      | agg xs =>
        simp only [PV.cells] at hc
        subst hc
        rfl
      | _ => simp [PV.shape] at h0
theorem lawFlatDoes : ∀ xs, Tyas [(0, [Ty.sl 12 (.int .i64 :: .int .u8 :: aoT)]), (0, [Ty.int .i64])] xs → (W Cf okf).call 3 (xs.map AV.p) [] fun v _ => v = .p (.bool true) := by
  intro xs h
  simp only [Tyas] at h
  obtain ⟨x1, r1, rfl, h1, x2, r2, rfl, h2, rfl⟩ := h
  have h1 := Tya_one h1
  have h2 := Tya_one h2
  simp only [Tyd] at h1 h2
  obtain ⟨ys, rfl, _, h6⟩ := h1
  obtain ⟨n1, rfl, _⟩ := h2
  obtain ⟨l, hl, rfl⟩ := sts_list h6
  exact law3 l n1 hl
end Go.Ev.F34
end
