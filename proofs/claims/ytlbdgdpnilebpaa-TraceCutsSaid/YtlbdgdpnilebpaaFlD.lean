/- A part of the proof: walks of the functions that the law calls. No condition. -/
import Derived.Test.YtlbdgdpnilebpaaFlC
set_option linter.all false
section
namespace Go.Ev.F35
open Go.Proofs Go.Ev
set_option maxRecDepth 100000
set_option linter.all false
theorem Kp.cong {c c2 c' : Fm} {H H' : Heap} (e : ∀ i, i ∈ c2.foot ↔ i ∈ c.foot) (hp : c2.pp = c.pp) (h : Kp c2 c' H H') : Kp c c' H H' :=
  ⟨fun i hi hn => h.fr i hi (fun hm => hn ((e i).1 hm)), fun i hi => (h.ft i hi).imp (e i).1 id, h.ln, h.pp.trans hp⟩
theorem turnF_ans (M : List Rc) (t : Mi) (o : Ao) : (turnF M t o).2.2.recs = [] ∧ (turnF M t o).2.2.n = 0 := by
  unfold turnF
  split
  · exact ⟨rfl, rfl⟩
  split
  · cases getS t.S o.n <;> exact ⟨rfl, rfl⟩
  split
  · exact ⟨rfl, rfl⟩
  split <;> exact ⟨rfl, rfl⟩
/-- What the heap holds when 'Do' has its cells. -/
def D0 (H : Heap) (pp who a b : Nat) (o : Ao) (e : Env) (G : Heap) : Prop :=
  e 0 = .vptr pp 0 ∧ e 1 = .p (I who) ∧ e 5 = .vptr a 0 ∧ e 6 = .vptr b 0 ∧ H.length ≤ a ∧ H.length ≤ b ∧ a ≠ b ∧ a < G.length ∧ b < G.length ∧ G[a]? = some (.var true (.p (aoP o))) ∧ G[b]? = some z47 ∧
  (∀ i, i < H.length → G[i]? = H[i]?) ∧ H.length ≤ G.length
/-- .. when it has somebody's side. -/
def D9 (G : Heap) (c : Fm) (m : Mo) (who a b : Nat) (t : Mi) (o : Ao) (e : Env) (G1 : Heap) : Prop :=
  e 0 = .vptr c.pp 0 ∧ e 1 = .p (I who) ∧ e 5 = .vptr a 0 ∧ e 6 = .vptr b 0 ∧ (t.on = true ∨ o.kind < 6) ∧ ∃ x R, x.who = who ∧ x.L = t.L ∧ x.S = t.S ∧ e 7 = .vptr x.q 0 ∧
    FI G1 ⟨c.pp, c.bs, c.bm, x :: R⟩ ⟨m.M, m.S.set who (onMi t)⟩ ∧ Kp c ⟨c.pp, c.bs, c.bm, x :: R⟩ G G1
set_option maxHeartbeats 4000000 in
theorem w13 {H : Heap} {c : Fm} {m : Mo} (h : FI H c m) (ha : Asc m.M) (who : Nat) {t : Mi} (ht : m.S[who]? = some t) (o : Ao) (hM : m.M.length + t.L.length ≤ 900) (hS : t.S.length ≤ 1000)
    (hm : ∀ s ∈ t.S, inI s.1 ∧ s.2 ≤ t.L.length) (nd : (t.S.map (·.1)).Nodup) (Q : AV → Heap → Prop)
    (hq : ∀ H' c' v, FI H' c' (doF m t who o).1 → Kp c c' H H' → TS H' v 6 (rcs (doF m t who o).2.recs) → Q (.agg [.p (I (doF m t who o).2.code), v, .p (I (doF m t who o).2.n)]) H') :
    (W Cf okf).call 32 [.vptr c.pp 0, .p (I who), .p (aoP o)] H Q := by
  refine top_mk extMono Try.func32 body32 (by decide) rfl ?_
  simp only [c32, Try.f32, Option.getD_some]
  have hw : who < m.S.length := (List.getElem?_eq_some_iff.1 ht).1
  simp -implicitDefEqProofs -dsimp (maxSteps := 1000000) (disch := first | omega | (simp only [wkLen]; omega) | decide +kernel) only [↓wkPre, ↓wkPre2, ↓evC_region_st [1], ↓evC_text_st [1], ↓evC_cond, ↓evC_block, ↓evC_stop [1], wkPost, wkDef, wkF, simprocAttr]
  refine stop_st (fun e G => ∃ a b, D0 H c.pp who a b o e G) ⟨H.length, H.length + 1, rfl, rfl, rfl, rfl, by omega, by omega, by omega, by simp, by simp, by simp, by simp, fun i hi => hs_app hi, by simp⟩ ?_
  rintro e G ⟨a, b, e0, e1, e5, e6, ha1, hb1, hab, hal, hbl, ga, gb, k0, l0⟩
  have hf : ∀ i ∈ c.foot, i < H.length := fun i hi => h.lt hi
  have hG : FI G c m := h.keep fun i hi => k0 i (hf i hi)
  have haf : a ∉ c.foot := fun hm => by have := hf a hm; omega
  have hbf : b ∉ c.foot := fun hm => by have := hf b hm; omega
  have fin : ∀ {G3 : Heap} {c' : Fm} {m' : Mo} (kp : Kp c c' G G3) (h3 : FI G3 c' m'), G3[b]? = some z47 ∧ (∀ y : Blk, (G3.set b y)[b]? = some y) ∧ ∀ y, FI (G3.set b y) c' m' ∧ Kp c c' H (G3.set b y) :=
    fun kp h3 => ⟨(kp.fr b hbl hbf).trans gb, fun y => hs_set (by have := kp.ln; omega), fun y => FI.fin hf k0 l0 kp h3 hb1 hbl y⟩
  have tsn : ∀ (G : Heap), TS G .nsl 6 (rcs []) := fun G => .inl ⟨rfl, rfl⟩
  have gp := hG.hp
  obtain ⟨ok, key, ox, oy, val, w, n⟩ := o
  refine stop_go ?_
  by_cases hk1 : ok < 1
  · obtain ⟨f1, f2, f3⟩ := fin (Kp.refl _ _) hG
    have hD : doF m t who ⟨ok, key, ox, oy, val, w, n⟩ = (m, ⟨1, [], 0⟩) := by unfold doF; rw [if_pos (.inl hk1)]
    rw [hD] at hq
    simp -implicitDefEqProofs -dsimp (maxSteps := 1000000) (disch := first | omega | (simp only [wkLen]; omega) | decide +kernel) only [↓wkPre, ↓wkPre2, ↓wkE, wkPost, wkDef, wkF, simprocAttr, nn_v, e0, e1, e5, e6, ga, hk1, f1, f2]
    exact hq _ _ _ (f3 _).1 (f3 _).2 (tsn _)
  · by_cases hk9 : 9 < ok
    · obtain ⟨f1, f2, f3⟩ := fin (Kp.refl _ _) hG
      have hD : doF m t who ⟨ok, key, ox, oy, val, w, n⟩ = (m, ⟨1, [], 0⟩) := by unfold doF; rw [if_pos (.inr hk9)]
      rw [hD] at hq
      simp -implicitDefEqProofs -dsimp (maxSteps := 1000000) (disch := first | omega | (simp only [wkLen]; omega) | decide +kernel) only [↓wkPre, ↓wkPre2, ↓wkE, wkPost, wkDef, wkF, simprocAttr, nn_v, e0, e1, e5, e6, ga, hk1, hk9, f1, f2]
      exact hq _ _ _ (f3 _).1 (f3 _).2 (tsn _)
    · have hk1' : ¬ (ok < 1 ∨ 9 < ok) := fun h => h.elim hk1 hk9
      obtain ⟨z, bz, hlk, hz, hzi⟩ : ∃ (z : AV) (bz : Bool), evLook Try.prog 88 (.map c.bs) (.p (I who)) false G = some z ∧
          ((bz = true ∧ z = .p .nptr ∧ who ∉ c.X.map (·.who) ∧ t = mi0) ∨ (bz = false ∧ ∃ x R, z = .vptr x.q 0 ∧ x.who = who ∧ c.X.Perm (x :: R) ∧ FI G ⟨c.pp, c.bs, c.bm, x :: R⟩ m ∧ t = ⟨true, x.L, x.S⟩)) ∧ z.isU = false := by
        rcases hG.pick who with hwX | ⟨x, R, hxw, hpm, h2⟩
        · exact ⟨_, true, hG.miss hwX, .inl ⟨rfl, rfl, hwX, h.r2 who t ht hwX⟩, rfl⟩
        · subst hxw
          have h3 := h2.r1 x List.mem_cons_self
          rw [ht] at h3
          exact ⟨_, false, h2.hit, .inr ⟨rfl, x, R, rfl, rfl, hpm, h2, Option.some.inj h3⟩, rfl⟩
      simp -implicitDefEqProofs -dsimp (maxSteps := 1000000) (disch := first | omega | (simp only [wkLen]; omega) | decide +kernel) only [↓wkPre, ↓wkPre2, ↓evC_region_st [4], ↓evC_text_st [4], ↓evC_cond, ↓evC_block, ↓evC_stop [4], wkPost, wkDef, wkF, simprocAttr, nn_v, e0, e1, e5, e6, ga, gp, hk1, hk9, hlk, hzi]
      refine stop_cutK extMono (fun e' G' => G = G' ∧ e' 0 = .vptr c.pp 0 ∧ e' 1 = .p (I who) ∧ e' 5 = .vptr a 0 ∧ e' 6 = .vptr b 0 ∧ e' 7 = z ∧ e' 28 = .p (B bz)) ?_ ?_
      · rcases hz with ⟨rfl, rfl, _⟩ | ⟨rfl, x, R, rfl, _⟩
        · simp -implicitDefEqProofs -dsimp (maxSteps := 1000000) (disch := first | omega | (simp only [wkLen]; omega) | decide +kernel) only [↓wkPre, ↓wkPre2, ↓wkE, wkPost, wkDef, wkF, simprocAttr, e0, e1, e5, e6, onNK_normal]
        · simp -implicitDefEqProofs -dsimp (maxSteps := 1000000) (disch := first | omega | (simp only [wkLen]; omega) | decide +kernel) only [↓wkPre, ↓wkPre2, ↓wkE, wkPost, wkDef, wkF, simprocAttr, e0, e1, e5, e6, onNK_normal]
      clear e0 e1 e5 e6 e
      rintro e' _ ⟨rfl, e0, e1, e5, e6, e7, e28⟩
      simp -implicitDefEqProofs -dsimp (maxSteps := 1000000) (disch := first | omega | (simp only [wkLen]; omega) | decide +kernel) only [↓wkPre, ↓wkPre2, ↓evC_region, ↓evC_text, ↓evC_cond_stop, ↓evC_block, wkPost, wkDef, wkF, simprocAttr]
      refine stop_cutK extMono (D9 G c m who a b t ⟨ok, key, ox, oy, val, w, n⟩) ?_ ?_
      · rcases hz with ⟨rfl, rfl, hwX, ht0⟩ | ⟨rfl, x, R, rfl, hxw, hpm, h2, htt⟩
        · subst ht0
          by_cases h6 : 6 ≤ ok
          · obtain ⟨f1, f2, f3⟩ := fin (Kp.refl _ _) hG
            have hD : doF m mi0 who ⟨ok, key, ox, oy, val, w, n⟩ = (m, ⟨10, [], 0⟩) := by unfold doF; rw [if_neg hk1', if_pos ⟨rfl, h6⟩]
            rw [hD] at hq
            simp -implicitDefEqProofs -dsimp (maxSteps := 1000000) (disch := first | omega | (simp only [wkLen]; omega) | decide +kernel) only [↓wkPre, ↓wkPre2, ↓wkE, wkPost, wkDef, wkF, simprocAttr, nn_v, e0, e1, e5, e6, e7, e28, ga, h6, f1, f2, ↓onNK_ret]
            exact hq _ _ _ (f3 _).1 (f3 _).2 (tsn _)
          · obtain ⟨G1, hu, h3, h4⟩ := hG.come hwX hw
            have gp2 : ∀ x y : Blk, (G ++ [x, y])[c.pp]? = some (.var true (.agg [.map c.bm, .map c.bs])) := fun x y => (hs_app (lt_of gp)).trans gp
            simp -implicitDefEqProofs -dsimp (maxSteps := 1000000) (disch := first | omega | (simp only [wkLen]; omega) | decide +kernel) only [↓wkPre, ↓wkPre2, ↓wkE, wkPost, wkDef, wkF, simprocAttr, nn_v, e0, e1, e5, e6, e7, e28, ga, h6, gp2, hu, onNK_normal]
            exact ⟨e0, e1, e5, e6, .inr (by dsimp only; omega), _, _, rfl, rfl, rfl, rfl, h3, h4⟩
        · subst htt hxw
          simp -implicitDefEqProofs -dsimp (maxSteps := 1000000) (disch := first | omega | (simp only [wkLen]; omega) | decide +kernel) only [↓wkPre, ↓wkPre2, ↓wkE, wkPost, wkDef, wkF, simprocAttr, nn_v, e0, e1, e5, e6, e7, e28, ga, onNK_normal]
          refine ⟨e0, e1, e5, e6, .inl rfl, x, R, rfl, rfl, rfl, e7, ?_, Kp.of_perm hpm (Kp.refl _ _)⟩
          rw [show onMi ⟨true, x.L, x.S⟩ = ⟨true, x.L, x.S⟩ from rfl, set_same (h2.r1 x List.mem_cons_self)]
          exact h2
      clear e0 e1 e5 e6 e7 e28 e'
      rintro e G1 ⟨e0, e1, e5, e6, hon, x, R, hxw, hxL, hxS, e7, hI, hK⟩
      subst hxw
      have hon' : onMi t = ⟨true, x.L, x.S⟩ := by unfold onMi; rw [hxL, hxS]
      have ga1 := (hK.fr a hal haf).trans ga
      have gp1 := hI.hp
      have hl1 := hK.ln
      have hiw : (m.S.set x.who (onMi t))[x.who]? = some (onMi t) := List.getElem?_set_self hw
      have hT2 : ¬ (t.on = false ∧ 6 ≤ ok) := fun h => by
        rcases hon with h1 | h1
        · rw [h1] at h; cases h.1
        · dsimp only at h1; omega
      show stopK _ _ _ _ _ _
      by_cases h6 : 6 ≤ ok
      · have hD : doF m t x.who ⟨ok, key, ox, oy, val, w, n⟩ = (⟨(turnF m.M ⟨true, x.L, x.S⟩ ⟨ok, key, ox, oy, val, w, n⟩).1, m.S.set x.who (turnF m.M ⟨true, x.L, x.S⟩ ⟨ok, key, ox, oy, val, w, n⟩).2.1⟩, (turnF m.M ⟨true, x.L, x.S⟩ ⟨ok, key, ox, oy, val, w, n⟩).2.2) := by
          unfold doF; rw [if_neg hk1', if_neg hT2, if_pos h6, hon']
        have htn : (turnF m.M ⟨true, x.L, x.S⟩ ⟨ok, key, ox, oy, val, w, n⟩).2.2.recs = [] ∧ (turnF m.M ⟨true, x.L, x.S⟩ ⟨ok, key, ox, oy, val, w, n⟩).2.2.n = 0 := turnF_ans _ _ _
        rw [hD] at hq
        dsimp only at hq
        rw [htn.1, htn.2] at hq
        refine stop_go ?_
        simp -implicitDefEqProofs -dsimp (maxSteps := 1000000) (disch := first | omega | (simp only [wkLen]; omega) | decide +kernel) only [↓wkPre, ↓wkPre2, ↓wkE, wkPost, wkDef, wkF, simprocAttr, nn_v, e0, e1, e5, e6, e7, ga1, h6]
        refine imp_call md_41 (w30 hI ha _ h6 (by dsimp only; omega) (by dsimp only; omega) (by rw [hxL]; omega) (by rw [hxS]; exact hS) (by rw [hxS, hxL]; exact hm) (by rw [hxS]; exact nd) _ ?_)
        intro G3 c' d1 d2
        obtain ⟨f1, f2, f3⟩ := fin (hK.trans d2) d1
        dsimp only at d1 f3
        rw [List.set_set] at f3
        simp -implicitDefEqProofs -dsimp (maxSteps := 1000000) (disch := first | omega | (simp only [wkLen]; omega) | decide +kernel) only [↓wkPre, ↓wkPre2, ↓wkE, wkPost, wkDef, wkF, simprocAttr, nn_v, e0, e1, e5, e6, e7, f1, f2]
        exact hq _ _ _ (f3 _).1 (f3 _).2 (tsn _)
      · have hE0 := viewF_len m.M t.L
        have haV : Asc (viewF m.M t.L) := ha.view _
        refine stop_go ?_
        simp -implicitDefEqProofs -dsimp (maxSteps := 1000000) (disch := first | omega | (simp only [wkLen]; omega) | decide +kernel) only [↓wkPre, ↓wkPre2, ↓wkE, wkPost, wkDef, wkF, simprocAttr, nn_v, e0, e1, e5, e6, e7, ga1, h6]
        refine imp_call md_42 (w31 hI ha x.who hiw (by show t.L.length ≤ 1000; omega) _ ?_)
        intro G2 g E hb2 hE hfr2 hln2
        have hE : E.Perm (viewF m.M t.L) := hE
        have hlV : (viewF m.M t.L).length ≤ 900 := by omega
        have hD : doF m t x.who ⟨ok, key, ox, oy, val, w, n⟩ = if ok = 1 ∨ ok = 3 then (⟨m.M, m.S.set x.who (changeF (onMi t) (viewF m.M t.L) ⟨ok, key, ox, oy, val, w, n⟩).1⟩, (changeF (onMi t) (viewF m.M t.L) ⟨ok, key, ox, oy, val, w, n⟩).2)
            else (⟨m.M, m.S.set x.who (onMi t)⟩, asksF (viewF m.M t.L) ⟨ok, key, ox, oy, val, w, n⟩) := by
          unfold doF; rw [if_neg hk1', if_neg hT2, if_neg h6]
        rw [hD] at hq
        clear hD
        generalize viewF m.M t.L = V at hE haV hlV hq
        have hkI : Kp c ⟨c.pp, c.bs, c.bm, x :: R⟩ G G2 := hK.trans ⟨fun i hi _ => hfr2 i hi, fun i hi => .inl hi, by omega, rfl⟩
        have hI2 : FI G2 ⟨c.pp, c.bs, c.bm, x :: R⟩ ⟨m.M, m.S.set x.who (onMi t)⟩ := hI.keep fun i hi => hfr2 i (hI.lt hi)
        have hbE := hb2
        rw [← rcB_am] at hbE
        obtain ⟨r, th, hlk2, hlook⟩ : ∃ (r : Rc) (th : Bool), evLook Try.prog 87 (.map G1.length) (.p (U key)) true G2 = some (mkTup [.p (rcP r), .p (B th)]) ∧ look V key = if th = true then some r else none := by
          cases hlk : look V key with
          | some r =>
            obtain ⟨q1, rfl⟩ := look_some hlk
            exact ⟨r, true, am_hit (P := Try.prog) (val := rcV) tmap_87 tzero_64 hbE (kU_nd hE haV) (hE.mem_iff.2 q1) true, rfl⟩
          | none =>
            have q1 := look_none hlk
            exact ⟨⟨0, 0, 0, []⟩, false, am_miss (P := Try.prog) (val := rcV) tmap_87 tzero_64 hbE (fun hm => q1 (((hE.map (·.key)).mem_iff).1 hm)) true, rfl⟩
        have ga2 := (hfr2 a (by omega)).trans ga1
        simp -implicitDefEqProofs -dsimp (maxSteps := 1000000) (disch := first | omega | (simp only [wkLen]; omega) | decide +kernel) only [↓wkPre, ↓wkPre2, ↓evC_region_st [13], ↓evC_text_st [13], ↓evC_cond, ↓evC_block, ↓evC_stop [13], wkPost, wkDef, wkF, simprocAttr, nn_v, e0, e1, e5, e6, e7, ga2, hlk2]
        refine stop_st (fun e G3 => e 5 = .vptr a 0 ∧ e 6 = .vptr b 0 ∧ e 7 = .vptr x.q 0 ∧ e 8 = .map G1.length ∧ e 9 = .vptr G2.length 0 ∧ e 10 = .p (B th) ∧ (∀ i, i < G2.length → G3[i]? = G2[i]?) ∧ G2.length < G3.length ∧ G3[G2.length]? = some (.var true (.p (rcP r)))) ⟨e5, e6, e7, rfl, rfl, rfl, fun i hi => hs_app hi, by simp, by simp⟩ ?_
        clear e0 e1 e5 e6 e7 e
        rintro e G3 ⟨e5, e6, e7, e8, e9, e10, hfr3, hln3, gf⟩
        have hI3 : FI G3 ⟨c.pp, c.bs, c.bm, x :: R⟩ ⟨m.M, m.S.set x.who (onMi t)⟩ := hI2.keep fun i hi => hfr3 i (hI2.lt hi)
        have hK3 : Kp c ⟨c.pp, c.bs, c.bm, x :: R⟩ G G3 := hkI.trans ⟨fun i hi _ => hfr3 i hi, fun i hi => .inl hi, by omega, rfl⟩
        have ga3 := (hfr3 a (by omega)).trans ga2
        have gb3 := (hfr3 _ hln2).trans hb2
        have hx3 := hI3.hx x List.mem_cons_self
        have gq3 := hx3.hq
        have gqf := lt_of gq3
        obtain ⟨z1, z2, z3⟩ := fin hK3 hI3
        have hnd := hI3.nf
        unfold Fm.foot at hnd
        rw [List.flatMap_cons] at hnd
        replace hnd := (List.nodup_append.1 (List.nodup_cons.1 (List.nodup_cons.1 (List.nodup_cons.1 hnd).2).2).2).1
        unfold Sd.bs at hnd
        have hqqs : x.q ≠ x.qs := fun e => (List.nodup_cons.1 hnd).1 (by simp [e])
        have hqv : ∀ i, x.v.blk = some i → x.q ≠ i ∧ x.qs ≠ i := fun i hi => by
          have h1 := (List.nodup_cons.1 hnd).1
          have h2 := (List.nodup_cons.1 (List.nodup_cons.1 hnd).2).1
          rw [hi] at h1 h2
          simp at h1 h2
          exact ⟨h1.2, h2⟩
        have hfq : x.q ≠ G2.length := by have := hI2.lt (mem_foot (c := ⟨c.pp, c.bs, c.bm, x :: R⟩) List.mem_cons_self (show x.q ∈ x.bs by simp [Sd.bs])); omega
        -- what a longer list leaves
        have put : ∀ (w' : Wr) (v' : AV) (H4 G4 : Heap), OwnS H4 v' 8 (wfs x.L ++ [wfP w']) → (∀ i, i < G3.length → x.v.blk ≠ some i → H4[i]? = G3[i]?) → G3.length ≤ H4.length → (∀ i, v'.blk = some i → i < G3.length → x.v.blk = some i) → G4 = H4.set x.q (.var true (.agg [v', .map x.qs])) →
            ∃ c', FI G4 c' ⟨m.M, m.S.set x.who (writeF (onMi t) w')⟩ ∧ Kp c c' G G4 ∧ G3.length ≤ G4.length ∧ G4[G2.length]? = some (.var true (.p (rcP r))) := by
          rintro w' v' H4 _ q1 q2 q3 q4 rfl
          have hvl := fun i hi => hI3.lt (mem_foot (c := ⟨c.pp, c.bs, c.bm, x :: R⟩) List.mem_cons_self (show i ∈ x.bs from by unfold Sd.bs; simp only [List.mem_cons, Option.mem_toList]; exact .inr (.inr hi)))
          have hqlt : x.q < H4.length := by omega
          have hv'q : v'.blk ≠ some x.q := fun e => (hqv _ (q4 _ e gqf)).1 rfl
          obtain ⟨gs, ES, gqs, hES⟩ := hx3.hs
          have hup := hI3.upd (H' := H4.set x.q (.var true (.agg [v', .map x.qs]))) (v' := v') (L' := x.L ++ [w']) (S' := x.S) (fun i hi => by
              rcases Nat.lt_or_ge i G3.length with h1 | h1
              · exact .inl (q4 i hi h1)
              · exact .inr h1)
            ⟨hs_set hqlt, .inl (by rw [wfs_snoc]; exact q1.set hv'q), gs, ES, (hs_ne hqqs).trans ((q2 _ (lt_of gqs) (fun e => (hqv _ e).2 rfl)).trans gqs), hES⟩
            (fun i hi h1 h2 h3 => (hs_ne (Ne.symm h1)).trans (q2 i hi h3)) (by simpa using q3)
          refine ⟨_, ?_, hK3.trans hup.2, by simpa using q3, ?_⟩
          · have := hup.1
            dsimp only at this
            rw [List.set_set] at this
            rw [show writeF (onMi t) w' = ⟨true, x.L ++ [w'], x.S⟩ by rw [hon']; rfl]
            exact this
          · rw [hs_ne hfq]
            refine (q2 _ hln3 fun e => ?_).trans gf
            have := hI2.lt (mem_foot (c := ⟨c.pp, c.bs, c.bm, x :: R⟩) List.mem_cons_self (show G2.length ∈ x.bs from by unfold Sd.bs; simp only [List.mem_cons, Option.mem_toList]; exact .inr (.inr e)))
            omega
        have put4 : ∀ (G4 : Heap), (∀ i, i < G3.length → G4[i]? = G3[i]?) → G3.length ≤ G4.length → ∀ (w' : Wr) (v' : AV) (H4 G5 : Heap), OwnS H4 v' 8 (wfs x.L ++ [wfP w']) → (∀ i, i < G4.length → x.v.blk ≠ some i → H4[i]? = G4[i]?) → G4.length ≤ H4.length → (∀ i, v'.blk = some i → i < G4.length → x.v.blk = some i) → G5 = H4.set x.q (.var true (.agg [v', .map x.qs])) →
            ∃ c', FI G5 c' ⟨m.M, m.S.set x.who (writeF (onMi t) w')⟩ ∧ Kp c c' G G5 ∧ G4.length ≤ G5.length ∧ G5[G2.length]? = some (.var true (.p (rcP r))) := by
          rintro G4 k4 l4 w' v' H4 G5 q1 q2 q3 q4 rfl
          obtain ⟨c', p1, p2, p3, p4⟩ := put w' v' H4 _ q1 (fun i hi hn => (q2 i (by omega) hn).trans (k4 i hi)) (by omega) (fun i hi hlt => q4 i hi (by omega)) rfl
          exact ⟨c', p1, p2, by simpa using q3, p4⟩
        show stopK _ _ _ _ _ _
        refine stop_go ?_
        have hcase : ok = 1 ∨ ok = 2 ∨ ok = 3 ∨ ok = 4 ∨ ok = 5 := by omega
        have hvt := hx3.hv
        rcases hcase with rfl | rfl | rfl | rfl | rfl
        · rw [if_pos (.inl rfl)] at hq
          unfold changeF at hq
          rw [if_pos rfl] at hq
          dsimp only at hq
          rw [hlook] at hq
          cases th with
          | true =>
            simp -implicitDefEqProofs -dsimp (maxSteps := 1000000) (disch := first | omega | (simp only [wkLen]; omega) | decide +kernel) only [↓wkPre, ↓wkPre2, ↓wkE, wkPost, wkDef, wkF, simprocAttr, nn_v, e5, e6, e7, e8, e9, e10, ga3, z1, z2]
            exact hq _ _ _ (z3 _).1 (z3 _).2 (tsn _)
          | false =>
            have hvl := val
            by_cases h15 : 15 < val.length
            · rw [if_neg (by simp)] at hq
              dsimp only at hq
              rw [if_pos h15] at hq
              simp -implicitDefEqProofs -dsimp (maxSteps := 1000000) (disch := first | omega | (simp only [wkLen]; omega) | decide +kernel) only [↓wkPre, ↓wkPre2, ↓wkE, wkPost, wkDef, wkF, simprocAttr, nn_v, e5, e6, e7, e8, e9, e10, ga3, z1, z2, h15]
              exact hq _ _ _ (z3 _).1 (z3 _).2 (tsn _)
            · rw [if_neg (by simp)] at hq
              dsimp only at hq
              rw [if_neg h15] at hq
              simp -implicitDefEqProofs -dsimp (maxSteps := 1000000) (disch := first | omega | (simp only [wkLen]; omega) | decide +kernel) only [↓wkPre, ↓wkPre2, ↓evC_region_st [19], ↓evC_text_st [19], ↓evC_cond, ↓evC_block, ↓evC_stop [19], wkPost, wkDef, wkF, simprocAttr, nn_v, e5, e6, e7, e8, e9, e10, ga3, h15]
              refine stop_pl pl_32_19 (by kernel_rfl) (by decide +kernel) ?_
              simp only [pl_32_19]
              simp -implicitDefEqProofs -dsimp (maxSteps := 1000000) (disch := first | omega | (simp only [wkLen]; omega) | decide +kernel) only [↓wkPre, ↓wkPre2, ↓wkE, wkPost, wkDef, wkF, simprocAttr, nn_v, e5, e6, e7, e8, e9, e10, ga3, gq3]
              refine AS.append telem_93 (ys := [wfP ⟨true, ⟨key, ox, oy, val⟩⟩]) (elems_new rfl rfl) (by simp) (hvt.app _) ?_ ?_
              · rw [byt_100, wfs_len, hxL]; simp; omega
              intro v' H4 q1 q2 q3 q4
              simp only [List.length_append, List.length_cons, List.length_nil] at q2 q3 q4
              rcases id q1 with ⟨rfl, hnil⟩ | ⟨vb, vg, rfl, _⟩
              · simp at hnil
              have h4q : H4[x.q]? = some (.var true (.agg [x.v, .map x.qs])) := (q2 _ (by omega) (fun e => (hqv _ e).1 rfl)).trans ((hs_app gqf).trans gq3)
              obtain ⟨c', p1, p2, p3, p4⟩ := put ⟨true, ⟨key, ox, oy, val⟩⟩ _ H4 _ q1 (fun i hi hn => (q2 i (by omega) hn).trans (hs_app hi)) (by omega) (fun i hi hlt => q4 i hi (by omega)) rfl
              rw [show ∀ z : PV, (wfs x.L ++ [z]).length = (wfs x.L).length + 1 from fun z => by simp] at p1 p2
              obtain ⟨f1, f2, f3⟩ := fin p2 p1
              simp -implicitDefEqProofs -dsimp (maxSteps := 1000000) (disch := first | omega | (simp only [wkLen]; omega) | decide +kernel) only [↓wkPre, ↓wkPre2, ↓wkE, wkPost, wkDef, wkF, simprocAttr, nn_v, e5, e6, e7, e8, e9, e10, h4q, f1, f2]
              exact hq _ _ _ (f3 _).1 (f3 _).2 (tsn _)
        · rw [if_neg (by decide)] at hq
          unfold asksF at hq
          rw [if_pos rfl] at hq
          dsimp only at hq
          rw [hlook] at hq
          cases th with
          | false =>
            simp -implicitDefEqProofs -dsimp (maxSteps := 1000000) (disch := first | omega | (simp only [wkLen]; omega) | decide +kernel) only [↓wkPre, ↓wkPre2, ↓wkE, wkPost, wkDef, wkF, simprocAttr, nn_v, e5, e6, e7, e8, e9, e10, ga3, z1, z2]
            exact hq _ _ _ (z3 _).1 (z3 _).2 (tsn _)
          | true =>
            simp -implicitDefEqProofs -dsimp (maxSteps := 1000000) (disch := first | omega | (simp only [wkLen]; omega) | decide +kernel) only [↓wkPre, ↓wkPre2, ↓evC_region_st [29], ↓evC_text_st [29], ↓evC_cond, ↓evC_block, ↓evC_stop [29], wkPost, wkDef, wkF, simprocAttr, nn_v, e5, e6, e7, e8, e9, e10, ga3, z1, z2]
            refine stop_st (fun e' G4 => e' 6 = .vptr b 0 ∧ e' 9 = .vptr G2.length 0 ∧ G3 = G4) ⟨e6, e9, rfl⟩ ?_
            clear e5 e6 e7 e8 e9 e10 e
            rintro e _ ⟨e6, e9, rfl⟩
            have hI4 : FI (G3 ++ [.arr true 0 6 [rcP r]]) ⟨c.pp, c.bs, c.bm, x :: R⟩ ⟨m.M, m.S.set x.who (onMi t)⟩ := hI3.keep fun i hi => hs_app (hI3.lt hi)
            have hK4 : Kp c ⟨c.pp, c.bs, c.bm, x :: R⟩ G (G3 ++ [.arr true 0 6 [rcP r]]) := hK3.trans ⟨fun i hi _ => hs_app hi, fun i hi => .inl hi, by simp, rfl⟩
            obtain ⟨f1, f2, f3⟩ := fin hK4 hI4
            have hbl3 : b < G3.length := by omega
            refine stop_go ?_
            simp -implicitDefEqProofs -dsimp (maxSteps := 1000000) (disch := first | omega | (simp only [wkLen]; omega) | decide +kernel) only [↓wkPre, ↓wkPre2, ↓wkE, wkPost, wkDef, wkF, simprocAttr, nn_v, e6, e9, gf, f1, f2, z1]
            have hset : ∀ y z : Blk, G3.set b y ++ [z] = (G3 ++ [z]).set b y := fun y z => (List.set_append_left b y hbl3).symm
            rw [hset]
            exact hq _ _ _ (f3 _).1 (f3 _).2 (.inr ⟨G3.length, 0, 1, false, true, [rcP r], rfl, (hs_ne (by omega)).trans (by simp), by simp, by simp [rcs], fun _ => rfl⟩)
        · rw [if_pos (.inr rfl)] at hq
          unfold changeF at hq
          rw [if_neg (show ¬ (3 : Int) = 1 by decide)] at hq
          dsimp only at hq
          rw [hlook] at hq
          cases th with
          | false =>
            simp -implicitDefEqProofs -dsimp (maxSteps := 1000000) (disch := first | omega | (simp only [wkLen]; omega) | decide +kernel) only [↓wkPre, ↓wkPre2, ↓wkE, wkPost, wkDef, wkF, simprocAttr, nn_v, e5, e6, e7, e8, e9, e10, ga3, z1, z2]
            exact hq _ _ _ (z3 _).1 (z3 _).2 (tsn _)
          | true =>
            rw [if_pos rfl] at hq
            dsimp only at hq
            rw [show (onMi t).L = x.L from hxL.symm] at hq
            simp -implicitDefEqProofs -dsimp (maxSteps := 1000000) (disch := first | omega | (simp only [wkLen]; omega) | decide +kernel) only [↓wkPre, ↓wkPre2, ↓wkE, wkPost, wkDef, wkF, simprocAttr, nn_v, e5, e6, e7, e8, e9, e10, ga3]
            refine imp_call md_43 (w32 hx3 (by rw [hxL]; omega) _ ?_)
            intro G4 k4 l4
            have hI4 : FI G4 ⟨c.pp, c.bs, c.bm, x :: R⟩ ⟨m.M, m.S.set x.who (onMi t)⟩ := hI3.keep fun i hi => k4 i (hI3.lt hi)
            have hK4 : Kp c ⟨c.pp, c.bs, c.bm, x :: R⟩ G G4 := hK3.trans ⟨fun i hi _ => k4 i hi, fun i hi => .inl hi, l4, rfl⟩
            have ga4 := (k4 a (by omega)).trans ga3
            obtain ⟨y1, y2, y3⟩ := fin hK4 hI4
            by_cases h16 : 16 ≤ delsF x.L
            · rw [if_pos h16] at hq
              have h16' : (16 : Int) ≤ (delsF x.L : Int) := by omega
              simp -implicitDefEqProofs -dsimp (maxSteps := 1000000) (disch := first | omega | (simp only [wkLen]; omega) | decide +kernel) only [↓wkPre, ↓wkPre2, ↓wkE, wkPost, wkDef, wkF, simprocAttr, nn_v, e5, e6, e7, e8, e9, e10, ga4, y1, y2, h16']
              exact hq _ _ _ (y3 _).1 (y3 _).2 (tsn _)
            · rw [if_neg h16] at hq
              have h16' : ¬ (16 : Int) ≤ (delsF x.L : Int) := by omega
              have gq4 := (k4 _ gqf).trans gq3
              have gf4 := (k4 _ hln3).trans gf
              have hvt4 := (hI4.hx x List.mem_cons_self).hv
              have hrk : key = r.key := (look_some hlook).2.symm
              subst hrk
              simp -implicitDefEqProofs -dsimp (maxSteps := 1000000) (disch := first | omega | (simp only [wkLen]; omega) | decide +kernel) only [↓wkPre, ↓wkPre2, ↓evC_region_st [28], ↓evC_text_st [28], ↓evC_cond, ↓evC_block, ↓evC_stop [28], wkPost, wkDef, wkF, simprocAttr, nn_v, e5, e6, e7, e8, e9, e10, ga4, h16']
              refine stop_pl pl_32_28 (by kernel_rfl) (by decide +kernel) ?_
              simp only [pl_32_28]
              simp -implicitDefEqProofs -dsimp (maxSteps := 1000000) (disch := first | omega | (simp only [wkLen]; omega) | decide +kernel) only [↓wkPre, ↓wkPre2, ↓wkE, wkPost, wkDef, wkF, simprocAttr, nn_v, e5, e6, e7, e8, e9, e10, ga4, gq4, gf4]
              refine AS.append telem_93 (ys := [wfP ⟨false, r⟩]) (elems_new rfl rfl) (by simp) (hvt4.app _) ?_ ?_
              · rw [byt_100, wfs_len, hxL]; simp; omega
              intro v' H4 q1 q2 q3 q4
              simp only [List.length_append, List.length_cons, List.length_nil] at q2 q3 q4
              rcases id q1 with ⟨rfl, hnil⟩ | ⟨vb, vg, rfl, _⟩
              · simp at hnil
              have h4q : H4[x.q]? = some (.var true (.agg [x.v, .map x.qs])) := (q2 _ (by omega) (fun e => (hqv _ e).1 rfl)).trans ((hs_app (lt_of gq4)).trans gq4)
              obtain ⟨c', p1, p2, p3, p4⟩ := put4 G4 k4 l4 ⟨false, r⟩ _ H4 _ q1 (fun i hi hn => (q2 i (by omega) hn).trans (hs_app hi)) (by omega) (fun i hi hlt => q4 i hi (by omega)) rfl
              rw [show ∀ z : PV, (wfs x.L ++ [z]).length = (wfs x.L).length + 1 from fun z => by simp] at p1 p2 p3 p4
              have f4 : ∀ y : Blk, (H4.set x.q y)[G2.length]? = some (.var true (.p (rcP r))) := fun y => (hs_ne hfq).trans ((hs_ne hfq).symm.trans p4)
              simp -implicitDefEqProofs -dsimp (maxSteps := 1000000) (disch := first | omega | (simp only [wkLen]; omega) | decide +kernel) only [↓wkPre, ↓wkPre2, ↓evC_region_st [29], ↓evC_text_st [29], ↓evC_cond, ↓evC_block, ↓evC_stop [29], wkPost, wkDef, wkF, simprocAttr, nn_v, e5, e6, e7, e8, e9, e10, h4q]
              refine stop_st (fun e' G5 => e' 6 = .vptr b 0 ∧ e' 9 = .vptr G2.length 0 ∧ FI G5 c' ⟨m.M, m.S.set x.who (writeF (onMi t) ⟨false, r⟩)⟩ ∧ Kp c c' G G5 ∧ G4.length ≤ G5.length ∧ G5[G2.length]? = some (.var true (.p (rcP r)))) ⟨e6, e9, p1, p2, p3, p4⟩ ?_
              clear e5 e6 e7 e8 e9 e10 e p1 p2 p3 p4 f4 h4q
              rintro e G5 ⟨e6, e9, p1, p2, p3, p4⟩
              have hI5 : FI (G5 ++ [.arr true 0 6 [rcP r]]) c' ⟨m.M, m.S.set x.who (writeF (onMi t) ⟨false, r⟩)⟩ := p1.keep fun i hi => hs_app (p1.lt hi)
              have hK5 : Kp c c' G (G5 ++ [.arr true 0 6 [rcP r]]) := p2.trans ⟨fun i hi _ => hs_app hi, fun i hi => .inl hi, by simp, rfl⟩
              obtain ⟨f1, f2, f3⟩ := fin hK5 hI5
              obtain ⟨z1, z2, z3⟩ := fin p2 p1
              have hbl5 : b < G5.length := by omega
              refine stop_go ?_
              simp -implicitDefEqProofs -dsimp (maxSteps := 1000000) (disch := first | omega | (simp only [wkLen]; omega) | decide +kernel) only [↓wkPre, ↓wkPre2, ↓wkE, wkPost, wkDef, wkF, simprocAttr, nn_v, e6, e9, p4, f1, f2, z1]
              have hset : ∀ y z : Blk, G5.set b y ++ [z] = (G5 ++ [z]).set b y := fun y z => (List.set_append_left b y hbl5).symm
              rw [hset]
              exact hq _ _ _ (f3 _).1 (f3 _).2 (.inr ⟨G5.length, 0, 1, false, true, [rcP r], rfl, (hs_ne (by omega)).trans (by simp), by simp, by simp [rcs], fun _ => rfl⟩)
        · rw [if_neg (show ¬ ((4 : Int) = 1 ∨ (4 : Int) = 3) by decide)] at hq
          unfold asksF at hq
          rw [if_neg (show ¬ (4 : Int) = 2 by decide), if_pos rfl] at hq
          dsimp only at hq
          simp -implicitDefEqProofs -dsimp (maxSteps := 1000000) (disch := first | omega | (simp only [wkLen]; omega) | decide +kernel) only [↓wkPre, ↓wkPre2, ↓evC_region_st [30], ↓evC_text_st [30], ↓evC_cond, ↓evC_block, ↓evC_stop [30], wkPost, wkDef, wkF, simprocAttr, nn_v, e5, e6, e7, e8, e9, e10, ga3]
          refine stop_pl pl_32_30 (by kernel_rfl) (by decide +kernel) ?_
          simp only [pl_32_30]
          simp -implicitDefEqProofs -dsimp (maxSteps := 1000000) (disch := first | omega | (simp only [wkLen]; omega) | decide +kernel) only [↓wkPre, ↓wkPre2, ↓wkE, wkPost, wkDef, wkF, simprocAttr, nn_v, e5, e6, e7, e8, e9, e10, ga3]
          refine own34 gb3 hE (by omega) haV ?_
          intro v H4 q1 q2 q3 q4 q5
          have ga4 := (q2 a (by omega) (by omega)).trans ga3
          obtain ⟨vs1, vs2, vs3⟩ := own_shape q1
          simp -implicitDefEqProofs -dsimp (maxSteps := 1000000) (disch := first | omega | (simp only [wkLen]; omega) | decide +kernel) only [↓wkPre, ↓wkPre2, ↓wkE, wkPost, wkDef, wkF, simprocAttr, nn_v, e5, e6, e7, e8, e9, e10, ga3, ga4, vs1, vs2, vs3]
          refine imp_call md_44 (w33 w V (by omega) v H4 q1 _ ?_)
          intro v' G5 r1 r2 r3 r4
          have kk : ∀ i, i < G3.length → i ≠ G1.length → G5[i]? = G3[i]? := fun i hi hne => (r3 i (by omega) (fun e => by have := q4 i e; omega)).trans (q2 i hi hne)
          have hI5 : FI G5 ⟨c.pp, c.bs, c.bm, x :: R⟩ ⟨m.M, m.S.set x.who (onMi t)⟩ := hI3.keep fun i hi => by have := hI.lt hi; exact kk i (by omega) (by omega)
          have hK5 : Kp c ⟨c.pp, c.bs, c.bm, x :: R⟩ G G5 := ⟨fun i hi hn => (kk i (by omega) (by omega)).trans (hK3.fr i hi hn), hK3.ft, by omega, hK3.pp⟩
          have ga5 := (kk a (by omega) (by omega)).trans ga3
          obtain ⟨f1, f2, f3⟩ := fin hK5 hI5
          have hts : ∀ y : Blk, TS (G5.set b y) v' 6 (rcs (inF V w)) := fun y => r1.keep fun i hi => hs_ne fun e => by have := q4 i (r2 i hi); omega
          rcases id r1 with ⟨rfl, hnil⟩ | ⟨b', g', k', ex', l', ys', rfl, hb', hle', htk, _⟩
          · have hl0 : (inF V w).length = 0 := by rw [← rcs_len, hnil]; rfl
            rw [hl0] at hq
            simp -implicitDefEqProofs -dsimp (maxSteps := 1000000) (disch := first | omega | (simp only [wkLen]; omega) | decide +kernel) only [↓wkPre, ↓wkPre2, ↓wkE, wkPost, wkDef, wkF, simprocAttr, nn_v, e5, e6, e7, e8, e9, e10, ga5, f1, f2]
            exact hq _ _ _ (f3 _).1 (f3 _).2 (hts _)
          · have hl0 : (inF V w).length = k' := by rw [← rcs_len, htk, List.length_take]; omega
            rw [hl0] at hq
            simp -implicitDefEqProofs -dsimp (maxSteps := 1000000) (disch := first | omega | (simp only [wkLen]; omega) | decide +kernel) only [↓wkPre, ↓wkPre2, ↓wkE, wkPost, wkDef, wkF, simprocAttr, nn_v, e5, e6, e7, e8, e9, e10, ga5, f1, f2]
            exact hq _ _ _ (f3 _).1 (f3 _).2 (hts _)
        · rw [if_neg (show ¬ ((5 : Int) = 1 ∨ (5 : Int) = 3) by decide)] at hq
          unfold asksF at hq
          rw [if_neg (show ¬ (5 : Int) = 2 by decide), if_neg (show ¬ (5 : Int) = 4 by decide)] at hq
          dsimp only at hq
          simp -implicitDefEqProofs -dsimp (maxSteps := 1000000) (disch := first | omega | (simp only [wkLen]; omega) | decide +kernel) only [↓wkPre, ↓wkPre2, ↓evC_region_st [30], ↓evC_text_st [30], ↓evC_cond, ↓evC_block, ↓evC_stop [30], wkPost, wkDef, wkF, simprocAttr, nn_v, e5, e6, e7, e8, e9, e10, ga3]
          refine stop_pl pl_32_30 (by kernel_rfl) (by decide +kernel) ?_
          simp only [pl_32_30]
          simp -implicitDefEqProofs -dsimp (maxSteps := 1000000) (disch := first | omega | (simp only [wkLen]; omega) | decide +kernel) only [↓wkPre, ↓wkPre2, ↓wkE, wkPost, wkDef, wkF, simprocAttr, nn_v, e5, e6, e7, e8, e9, e10, ga3]
          refine own34 gb3 hE (by omega) haV ?_
          intro v H4 q1 q2 q3 q4 q5
          have ga4 := (q2 a (by omega) (by omega)).trans ga3
          obtain ⟨vs1, vs2, vs3⟩ := own_shape q1
          simp -implicitDefEqProofs -dsimp (maxSteps := 1000000) (disch := first | omega | (simp only [wkLen]; omega) | decide +kernel) only [↓wkPre, ↓wkPre2, ↓wkE, wkPost, wkDef, wkF, simprocAttr, nn_v, e5, e6, e7, e8, e9, e10, ga3, ga4, vs1, vs2, vs3]
          refine imp_call md_44 (w33 w V (by omega) v H4 q1 _ ?_)
          intro v' G5 r1 r2 r3 r4
          have kk : ∀ i, i < G3.length → i ≠ G1.length → G5[i]? = G3[i]? := fun i hi hne => (r3 i (by omega) (fun e => by have := q4 i e; omega)).trans (q2 i hi hne)
          have hI5 : FI G5 ⟨c.pp, c.bs, c.bm, x :: R⟩ ⟨m.M, m.S.set x.who (onMi t)⟩ := hI3.keep fun i hi => by have := hI.lt hi; exact kk i (by omega) (by omega)
          have hK5 : Kp c ⟨c.pp, c.bs, c.bm, x :: R⟩ G G5 := ⟨fun i hi hn => (kk i (by omega) (by omega)).trans (hK3.fr i hi hn), hK3.ft, by omega, hK3.pp⟩
          have ga5 := (kk a (by omega) (by omega)).trans ga3
          obtain ⟨f1, f2, f3⟩ := fin hK5 hI5
          have hts : ∀ y : Blk, TS (G5.set b y) v' 6 (rcs (inF V w)) := fun y => r1.keep fun i hi => hs_ne fun e => by have := q4 i (r2 i hi); omega
          rcases id r1 with ⟨rfl, hnil⟩ | ⟨b', g', k', ex', l', ys', rfl, hb', hle', htk, _⟩
          · have hl0 : (inF V w).length = 0 := by rw [← rcs_len, hnil]; rfl
            rw [hl0] at hq
            simp -implicitDefEqProofs -dsimp (maxSteps := 1000000) (disch := first | omega | (simp only [wkLen]; omega) | decide +kernel) only [↓wkPre, ↓wkPre2, ↓wkE, wkPost, wkDef, wkF, simprocAttr, nn_v, e5, e6, e7, e8, e9, e10, ga5, f1, f2]
            exact hq _ _ _ (f3 _).1 (f3 _).2 (tsn _)
          · have hl0 : (inF V w).length = k' := by rw [← rcs_len, htk, List.length_take]; omega
            rw [hl0] at hq
            simp -implicitDefEqProofs -dsimp (maxSteps := 1000000) (disch := first | omega | (simp only [wkLen]; omega) | decide +kernel) only [↓wkPre, ↓wkPre2, ↓wkE, wkPost, wkDef, wkF, simprocAttr, nn_v, e5, e6, e7, e8, e9, e10, ga5, f1, f2]
            exact hq _ _ _ (f3 _).1 (f3 _).2 (tsn _)
end Go.Ev.F35
end
