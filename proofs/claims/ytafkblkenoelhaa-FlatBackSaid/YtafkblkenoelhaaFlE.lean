/- A part of the proof: walks of the functions that the law calls. No condition. -/
import Derived.Test.YtafkblkenoelhaaFlD
set_option linter.all false
section
namespace Go.Ev.F34
open Go.Proofs Go.Ev
set_option maxRecDepth 100000
set_option linter.all false
theorem sd_of {H : Heap} {c : Fm} {m : Mo} (h : FI H c m) {E : List (Nat × Nat)} (hE : E.Perm (xsE c.X)) {e : Nat × Nat} (he : e ∈ E) : ∃ x ∈ c.X, e = (x.who, x.q) := by
  have := hE.mem_iff.1 he
  obtain ⟨x, hx, rfl⟩ := List.mem_map.1 this
  exact ⟨x, hx, rfl⟩
theorem opt_ext {α : Type} {A B : List α} (h : ∀ i : Nat, A[i]? = B[i]?) : A = B := List.ext_getElem? h
set_option maxHeartbeats 4000000 in
theorem w10 {H : Heap} {c : Fm} {m : Mo} (h : FI H c m) (hL : ∀ x ∈ c.X, x.L.length ≤ 1000) (Q : AV → Heap → Prop)
    (hq : ∀ H' c2, FI H' c2 m → (∀ i ∈ c2.foot, H.length ≤ i) → (∀ i, i < H.length → H'[i]? = H[i]?) → H.length ≤ H'.length → Q (.vptr c2.pp 0) H') : (W Cf okf).call 10 [.vptr c.pp 0] H Q := by
  refine top_mk extMono Try.func10 body10 (by decide) rfl ?_
  simp only [c10, Try.f10, Option.getD_some]
  have hp := h.hp
  obtain ⟨lm, gm, E0, hbm, hE0⟩ := h.hm
  simp -implicitDefEqProofs -dsimp (maxSteps := 1000000) (disch := first | omega | (simp only [wkLen]; omega) | decide +kernel) only [↓wkPre, ↓wkPre2, ↓wkE, wkPost, wkDef, wkF, simprocAttr, nn_v, hp]
  refine ext_call md_22 ⟨c.bm, lm, gm, _, _, rfl, hbm, ?_⟩
  simp -implicitDefEqProofs -dsimp (maxSteps := 1000000) (disch := first | omega | (simp only [wkLen]; omega) | decide +kernel) only [↓wkPre, ↓wkPre2, ↓evC_region_st [2], ↓evC_text_st [2], ↓evC_cond, ↓evC_block, ↓evC_stop [2], wkPost, wkDef, wkF, simprocAttr]
  refine stop_st (fun e G => e 0 = .vptr c.pp 0 ∧ e 3 = .vptr (H.length + 2) 0 ∧ FI G ⟨H.length + 2, H.length + 1, H.length, []⟩ ⟨m.M, List.replicate m.S.length mi0⟩ ∧ (∀ i, i < H.length → G[i]? = H[i]?) ∧ G.length = H.length + 3) ⟨rfl, rfl, ?_, fun i hi => hs_app hi, by simp⟩ ?_
  · have g3 : ∀ (x y z : Blk), (H ++ [x, y, z])[H.length]? = some x ∧ (H ++ [x, y, z])[H.length + 1]? = some y ∧ (H ++ [x, y, z])[H.length + 2]? = some z := by
      intro x y z
      refine ⟨?_, ?_, ?_⟩
      · rw [List.getElem?_append_right (by omega)]; simp
      · rw [List.getElem?_append_right (by omega), show H.length + 1 - H.length = 1 by omega]; simp
      · rw [List.getElem?_append_right (by omega), show H.length + 2 - H.length = 2 by omega]; simp
    refine ⟨(g3 _ _ _).2.2, ⟨true, 0, E0, (g3 _ _ _).1, hE0⟩, ⟨0, [], (g3 _ _ _).2.1, List.Perm.refl _⟩, fun x hx => (by cases hx), List.nodup_nil, ?_, fun x hx => (by cases hx), ?_⟩
    · simp [Fm.foot]
    · intro i t h _
      dsimp only at h
      rw [List.getElem?_replicate] at h
      split at h
      · exact (Option.some.inj h).symm
      · cases h
  rintro e G ⟨e0, e3, hF, hfr0, hlG⟩
  have hG : FI G c m := h.keep fun i hi => hfr0 i (h.lt hi)
  have hp1 := hG.hp
  obtain ⟨gs, E, hbs, hE⟩ := hG.hs
  have hbl : c.bs < H.length := h.lt (by simp [Fm.foot])
  refine stop_go ?_
  simp -implicitDefEqProofs -dsimp (maxSteps := 1000000) (disch := first | omega | (simp only [wkLen]; omega) | decide +kernel) only [↓wkPre, ↓wkPre2, ↓wkE, wkPost, wkDef, wkF, simprocAttr, nn_v, e0, hp1]
  rw [show evRange Try.prog 58 (.map c.bs) G = some (.it G.length, G ++ [.mit c.bs gs (0 :: List.range E.length)]) by unfold evRange; simp [tmap_58, hbs, amB, kI]]
  simp -implicitDefEqProofs -dsimp (maxSteps := 1000000) (disch := first | omega | (simp only [wkLen]; omega) | decide +kernel) only [↓wkPre, ↓wkPre2, ↓wkE, wkPost, wkDef, wkF, simprocAttr]
  refine loop_use extMono (fun m' e Hc => ∃ (todo : List Nat) (ld : Nat) (Y : List Sd) (S2 : List Mi), m' = todo.length ∧ e 3 = .vptr (H.length + 2) 0 ∧ e 18 = .it G.length ∧ G.length < Hc.length ∧ (∀ i, i < H.length → Hc[i]? = H[i]?) ∧ Hc[G.length]? = some (.mit c.bs gs (ld :: todo)) ∧
    (∀ j ∈ todo, j < E.length) ∧ (Y.map (·.who) ++ todo.map (fun j => E[j]!.1)).Perm (E.map (·.1)) ∧ FI Hc ⟨H.length + 2, H.length + 1, H.length, Y⟩ ⟨m.M, S2⟩ ∧ S2.length = m.S.length ∧ (∀ y ∈ Y, m.S[y.who]? = some ⟨true, y.L, y.S⟩) ∧
    (∀ i, i ∈ Fm.foot ⟨H.length + 2, H.length + 1, H.length, Y⟩ → H.length ≤ i ∧ i ≠ G.length)) ?_ E.length _ _ ⟨List.range E.length, 0, [], List.replicate m.S.length mi0, by simp, ?_⟩
  · rintro m' e Hc ⟨todo, ld, Y, S2, rfl, e3, e18, hcl, hfr, hit, htd, hperm, hF2, hS2, hY, hft⟩
    have hbs1 : Hc[c.bs]? = some (.map true gs (kI .i64 (E.map sdK)) (E.map sdV)) := (hfr _ hbl).trans ((hfr0 _ hbl).symm.trans hbs)
    simp -implicitDefEqProofs -dsimp (maxSteps := 1000000) (disch := first | omega | (simp only [wkLen]; omega) | decide +kernel) only [↓wkPre, ↓wkPre2, ↓wkE, wkPost, wkDef, wkF, simprocAttr, e18]
    rw [show iterOf Hc G.length = some (kI .i64 (E.map sdK), E.map sdV, todo, fun l => Hc.set G.length (.mit c.bs gs l)) by unfold iterOf; simp [hit, hbs1], oK_some]
    refine ⟨fun hn => ?_, fun j hj => ?_⟩
    · simp only at hn
      subst hn
      simp only [List.map_nil, List.append_nil] at hperm
      simp -implicitDefEqProofs -dsimp (maxSteps := 1000000) (disch := first | omega | (simp only [wkLen]; omega) | decide +kernel) only [↓wkPre, ↓wkPre2, ↓wkE, wkPost, wkDef, wkF, simprocAttr, e3]
      have hSe : S2 = m.S := by
        refine opt_ext fun i => ?_
        by_cases hi : i ∈ Y.map (·.who)
        · obtain ⟨y, hy, rfl⟩ := List.mem_map.1 hi
          rw [hY y hy]
          exact hF2.r1 y hy
        · by_cases hi2 : i < m.S.length
          · obtain ⟨t1, ht1⟩ : ∃ t, S2[i]? = some t := ⟨_, List.getElem?_eq_getElem (by omega)⟩
            obtain ⟨t2, ht2⟩ : ∃ t, m.S[i]? = some t := ⟨_, List.getElem?_eq_getElem hi2⟩
            rw [ht1, ht2, hF2.r2 i t1 ht1 hi, h.r2 i t2 ht2 fun hm => hi ?_]
            refine hperm.mem_iff.2 ?_
            have := (hE.map (·.1)).mem_iff (a := i)
            rw [this, xsE, List.map_map]
            exact hm
          · rw [List.getElem?_eq_none (by omega), List.getElem?_eq_none (by omega)]
      subst hSe
      exact hq Hc _ hF2 (fun i hi => (hft i hi).1) hfr (by omega)
    · simp only at hj
      have hjM := htd j hj
      obtain ⟨x, hx, hxe⟩ := sd_of hG hE (List.getElem_mem hjM)
      have hE1 : E[j]! = (x.who, x.q) := by simpa [hjM] using hxe
      have hg1 : (kI .i64 (E.map sdK))[j]? = some (I x.who) := by simp [kI, hjM, hxe, sdK]
      have hg2 : (E.map sdV)[j]? = some (.vptr x.q 0) := by simp [hjM, hxe, sdV]
      simp only [hg1, oK_some, hg2]
      have hkey : entOf (Hc.set G.length (.mit c.bs gs ((j + 1) :: todo.erase j))) G.length = some (I x.who, .vptr x.q 0) := by
        unfold entOf
        rw [hs_set hcl]
        simp only [hs_ne (show G.length ≠ c.bs by omega), hbs1, hg1, hg2, if_true, Option.bind_some, Option.map_some]
      have hxf : ∀ i ∈ x.bs, i < H.length := fun i hi => h.lt (mem_foot hx hi)
      have hxH : SdI H x := h.hx x hx
      simp -implicitDefEqProofs -dsimp (maxSteps := 1000000) (disch := first | omega | (simp only [wkLen]; omega) | decide +kernel) only [↓wkPre, ↓wkPre2, ↓evC_region_st [5], ↓evC_text_st [5], ↓evC_cond, ↓evC_block, ↓evC_stop [5], wkPost, wkDef, wkF, simprocAttr, e3, e18, hkey]
      refine stop_st (fun e G1 => e 3 = .vptr (H.length + 2) 0 ∧ e 18 = .it G.length ∧ e 4 = .p (I x.who) ∧ e 5 = .vptr x.q 0 ∧ (∀ i, i ≠ G.length → G1[i]? = Hc[i]?) ∧ G1[G.length]? = some (.mit c.bs gs ((j + 1) :: todo.erase j)) ∧ G1.length = Hc.length) ⟨e3, e18, rfl, rfl, fun i hi => hs_ne (Ne.symm hi), hs_set hcl, by simp⟩ ?_
      clear e3 e18 e
      rintro e G1 ⟨e3, e18, e4, e5, hfr1, hit1, hln1⟩
      have hF3 : FI G1 ⟨H.length + 2, H.length + 1, H.length, Y⟩ ⟨m.M, S2⟩ := hF2.keep fun i hi => hfr1 i (hft i hi).2
      have hx1 : SdI G1 x := hxH.keep fun i hi => by have := hxf i hi; exact (hfr1 i (by omega)).trans (hfr i this)
      have gq := hx1.hq
      have gp := hF3.hp
      dsimp only at gp
      refine stop_pl pl_10_5 (by kernel_rfl) (by decide +kernel) ?_
      simp only [pl_10_5]
      simp -implicitDefEqProofs -dsimp (maxSteps := 1000000) (disch := first | omega | (simp only [wkLen]; omega) | decide +kernel) only [↓wkPre, ↓wkPre2, ↓wkE, wkPost, wkDef, wkF, simprocAttr, nn_v, e3, e4, e5, gq, gp]
      refine imp_call md_23 (w23 hx1.hv (by rw [wfs_len]; exact hL x hx) _ ?_)
      intro v' G2 q1 q2 q3 q4
      have gq2 := (q2 _ (lt_of gq)).trans gq
      have gp2 := (q2 _ (lt_of gp)).trans gp
      obtain ⟨gS, ES, gqs, hES⟩ := hx1.hs
      have gqs2 := (q2 _ (lt_of gqs)).trans gqs
      simp -implicitDefEqProofs -dsimp (maxSteps := 1000000) (disch := first | omega | (simp only [wkLen]; omega) | decide +kernel) only [↓wkPre, ↓wkPre2, ↓wkE, wkPost, wkDef, wkF, simprocAttr, nn_v, e3, e4, e5, gq2, gp2]
      refine ext_call md_24 ⟨x.qs, true, gS, _, _, rfl, gqs2, ?_⟩
      have hjE : E[j]!.1 ∈ todo.map (fun j => E[j]!.1) := List.mem_map.2 ⟨j, hj, rfl⟩
      have hEnd : (E.map (·.1)).Nodup := by
        rw [(hE.map (·.1)).nodup_iff, xsE, List.map_map]
        exact h.nw
      have hnY : x.who ∉ Y.map (·.who) := fun hm => by
        have h1 := (List.nodup_append.1 ((hperm.nodup_iff).2 hEnd)).2.2 x.who hm x.who (by rw [hE1] at hjE; exact hjE)
        exact h1 rfl
      have hxr := h.r1 x hx
      have hwlt : x.who < S2.length := by rw [hS2]; exact (List.getElem?_eq_some_iff.1 hxr).1
      have g2a : ∀ y z : Blk, (G2 ++ [y, z])[G2.length]? = some y ∧ (G2 ++ [y, z])[G2.length + 1]? = some z := by
        intro y z
        refine ⟨?_, ?_⟩
        · rw [List.getElem?_append_right (by omega)]; simp
        · rw [List.getElem?_append_right (by omega), show G2.length + 1 - G2.length = 1 by omega]; simp
      have gp3 : ∀ y : Blk, (G2 ++ [y])[H.length + 2]? = some (.var true (.agg [.map H.length, .map (H.length + 1)])) := fun y => (hs_app (lt_of gp2)).trans gp2
      have gp4 : ∀ y z : Blk, (G2 ++ [y, z])[H.length + 2]? = some (.var true (.agg [.map H.length, .map (H.length + 1)])) := fun y z => (hs_app (lt_of gp2)).trans gp2
      have gq3 : ∀ y : Blk, (G2 ++ [y])[x.q]? = some (.var true (.agg [x.v, .map x.qs])) := fun y => (hs_app (lt_of gq2)).trans gq2
      obtain ⟨H', hu, r1, r2⟩ := hF3.ins (x := ⟨x.who, G2.length + 1, G2.length, v', x.L, x.S⟩) hnY hwlt (H1 := G2 ++ [.map true 0 (mdK ES) (mdV ES), .var true (.agg [v', .map G2.length])])
        (fun i hi => (hs_app (by omega)).trans (q2 i hi)) (by simp; omega)
        ⟨(g2a _ _).2, .inl (q1.app _), 0, ES, (g2a _ _).1, hES⟩
        (fun i hi => by
          unfold Sd.bs at hi
          simp only [List.mem_cons, Option.mem_toList] at hi
          rcases hi with rfl | rfl | hi
          · omega
          · omega
          · have := q3 i hi; omega)
        (by
          unfold Sd.bs
          have hvl : ∀ i, v'.blk = some i → i < G2.length := fun i hi => q1.lt i hi
          refine List.nodup_cons.2 ⟨?_, List.nodup_cons.2 ⟨?_, nd_toList _⟩⟩
          · simp only [List.mem_cons, Option.mem_toList, not_or]
            exact ⟨by omega, fun e => by have := hvl _ e; omega⟩
          · simp only [Option.mem_toList]
            exact fun e => by have := hvl _ e; omega)
      dsimp only at hu r1
      have last : ∃ m2, m2 < todo.length ∧ ∃ (todo' : List Nat) (ld' : Nat) (Y' : List Sd) (S2' : List Mi), m2 = todo'.length ∧ G.length < H'.length ∧ (∀ i, i < H.length → H'[i]? = H[i]?) ∧ H'[G.length]? = some (.mit c.bs gs (ld' :: todo')) ∧
          (∀ j ∈ todo', j < E.length) ∧ (Y'.map (·.who) ++ todo'.map (fun j => E[j]!.1)).Perm (E.map (·.1)) ∧ FI H' ⟨H.length + 2, H.length + 1, H.length, Y'⟩ ⟨m.M, S2'⟩ ∧ S2'.length = m.S.length ∧ (∀ y ∈ Y', m.S[y.who]? = some ⟨true, y.L, y.S⟩) ∧
          (∀ i, i ∈ Fm.foot ⟨H.length + 2, H.length + 1, H.length, Y'⟩ → H.length ≤ i ∧ i ≠ G.length) := by
        have hnf : ∀ i, i < H.length ∨ i = G.length → i ∉ Fm.foot ⟨H.length + 2, H.length + 1, H.length, Y⟩ := fun i hi hm => by have := hft i hm; omega
        have hp := (List.perm_cons_erase hj).symm
        refine ⟨(todo.erase j).length, by rw [List.length_erase_of_mem hj]; have := List.length_pos_of_mem hj; omega, todo.erase j, j + 1, _ :: Y, _, rfl, by have := r2.ln; omega, fun i hi => (r2.fr i (by omega) (hnf i (.inl hi))).trans ((hfr1 i (by omega)).trans (hfr i hi)), (r2.fr _ (by omega) (hnf _ (.inr rfl))).trans hit1, fun i hi => htd i (List.mem_of_mem_erase hi), ?_, r1, by simpa using hS2, ?_, ?_⟩
        · refine List.Perm.trans ?_ hperm
          have h1 := hp.map (fun j => E[j]!.1)
          rw [List.map_cons, hE1] at h1
          rw [List.map_cons, List.cons_append]
          exact (List.perm_middle.symm).trans (List.Perm.append_left _ h1)
        · intro y hy
          rcases List.mem_cons.1 hy with rfl | hy
          · exact hxr
          · exact hY y hy
        · intro i hi
          rcases r2.ft i hi with h1 | h1
          · exact hft i h1
          · omega
      rcases id q1 with ⟨rfl, hnil⟩ | ⟨vb, vg, rfl, _⟩
      · simp -implicitDefEqProofs -dsimp (maxSteps := 1000000) (disch := first | omega | (simp only [wkLen]; omega) | decide +kernel) only [↓wkPre, ↓wkPre2, ↓wkE, wkPost, wkDef, wkF, simprocAttr, nn_v, e3, e4, e5, e18, gq3, gp3, gp4, hu]
        exact last
      · simp -implicitDefEqProofs -dsimp (maxSteps := 1000000) (disch := first | omega | (simp only [wkLen]; omega) | decide +kernel) only [↓wkPre, ↓wkPre2, ↓wkE, wkPost, wkDef, wkF, simprocAttr, nn_v, e3, e4, e5, e18, gq3, gp3, gp4, hu]
        exact last
  · simp -implicitDefEqProofs -dsimp (maxSteps := 1000000) (disch := first | omega | (simp only [wkLen]; omega) | decide +kernel) only [↓wkPre, ↓wkPre2, ↓wkE, wkPost, wkDef, wkF, simprocAttr]
    refine ⟨e3, by omega, fun i hi => (hs_app (by omega)).trans (hfr0 i hi), fun j hj => by simpa using hj, ?_, hF.keep fun i hi => hs_app (by simp [Fm.foot] at hi; omega), by simp, fun y hy => (by cases hy), fun i hi => by simp [Fm.foot] at hi; omega⟩
    have : (List.range E.length).map (fun j => E[j]!.1) = E.map (·.1) := by
      apply List.ext_getElem (by simp)
      intro i h1 h2
      simp at h1
      simp [h1]
    rw [this]
end Go.Ev.F34
end
section
namespace Go.Ev.F34
open Go.Proofs Go.Ev
set_option maxRecDepth 100000
set_option linter.all false
structure MiW (t : Mi) (k : Nat) : Prop where
  sv : ∀ s ∈ t.S, inI s.1 ∧ s.2 ≤ t.L.length
  nd : (t.S.map (·.1)).Nodup
  ls : t.S.length ≤ k
  off : t.on = false → t = mi0
theorem MiW.mi0 (k : Nat) : MiW mi0 k := ⟨fun s h => (by cases h), List.nodup_nil, Nat.zero_le _, fun _ => rfl⟩
theorem MiW.on {t : Mi} {k : Nat} (h : MiW t k) : MiW (onMi t) k := ⟨h.sv, h.nd, h.ls, fun h => by cases h⟩
theorem MiW.le {t : Mi} {k k' : Nat} (h : MiW t k) (hk : k ≤ k') : MiW t k' := ⟨h.sv, h.nd, Nat.le_trans h.ls hk, h.off⟩
def sumL (S : List Mi) : Nat := (S.map fun t => t.L.length).sum
structure Wfm (m : Mo) (k : Nat) : Prop where
  asc : Asc m.M
  n5 : m.S.length = 5
  sz : m.M.length + sumL m.S ≤ k
  si : ∀ t ∈ m.S, MiW t k
theorem sumL_set {S : List Mi} {i : Nat} {t : Mi} (h : S[i]? = some t) (t' : Mi) : sumL (S.set i t') + t.L.length = sumL S + t'.L.length := by
  unfold sumL
  induction S generalizing i with
  | nil => simp at h
  | cons x S ih =>
    cases i with
    | zero =>
      simp only [List.getElem?_cons_zero, Option.some.injEq] at h
      subst h
      simp only [List.set_cons_zero, List.map_cons, List.sum_cons]
      omega
    | succ i =>
      simp only [List.getElem?_cons_succ] at h
      have := ih h
      simp only [List.set_cons_succ, List.map_cons, List.sum_cons]
      omega
theorem sumL_get {S : List Mi} {i : Nat} {t : Mi} (h : S[i]? = some t) : t.L.length ≤ sumL S := by
  have := sumL_set h mi0
  simp only [mi0, List.length_nil] at this
  omega
theorem sumL_rep (n : Nat) : sumL (List.replicate n mi0) = 0 := by
  unfold sumL
  induction n with
  | zero => rfl
  | succ n ih => rw [List.replicate_succ, List.map_cons, List.sum_cons, ih]; rfl
theorem Wfm.le {m : Mo} {k k' : Nat} (h : Wfm m k) (hk : k ≤ k') : Wfm m k' := ⟨h.asc, h.n5, Nat.le_trans h.sz hk, fun t ht => (h.si t ht).le hk⟩
theorem Wfm.put {m : Mo} {k who : Nat} {t t' : Mi} {M' : List Rc} (h : Wfm m k) (ht : m.S[who]? = some t) (ha : Asc M') (hl : M'.length + t'.L.length ≤ m.M.length + t.L.length + 1) (hw : MiW t' (k + 1)) : Wfm ⟨M', m.S.set who t'⟩ (k + 1) where
  asc := ha
  n5 := by simpa using h.n5
  sz := by
    have h1 := sumL_set ht t'
    have h2 := h.sz
    show M'.length + sumL (m.S.set who t') ≤ k + 1
    omega
  si x hx := by
    rcases List.mem_or_eq_of_mem_set hx with h1 | rfl
    · exact (h.si x h1).le (by omega)
    · exact hw
theorem Wfm.put0 {m : Mo} {k who : Nat} {t t' : Mi} (h : Wfm m k) (ht : m.S[who]? = some t) (hl : t'.L.length ≤ t.L.length) (hw : MiW t' k) : Wfm ⟨m.M, m.S.set who t'⟩ k where
  asc := h.asc
  n5 := by simpa using h.n5
  sz := by
    have h1 := sumL_set ht t'
    have h2 := h.sz
    show m.M.length + sumL (m.S.set who t') ≤ k
    omega
  si x hx := by
    rcases List.mem_or_eq_of_mem_set hx with h1 | rfl
    · exact h.si x h1
    · exact hw
theorem Wfm.new : Wfm ⟨[], List.replicate 5 mi0⟩ 0 := ⟨List.Pairwise.nil, rfl, Nat.le_refl _, fun t ht => by rw [List.eq_of_mem_replicate ht]; exact MiW.mi0 _⟩
theorem Wfm.leave {m : Mo} {k who : Nat} (h : Wfm m k) (hw : who < 5) : Wfm ⟨m.M, m.S.set who mi0⟩ k :=
  h.put0 (List.getElem?_eq_getElem (by rw [h.n5]; exact hw)) (Nat.zero_le _) (MiW.mi0 _)
theorem Wfm.mem {m : Mo} {k who : Nat} {t : Mi} (h : Wfm m k) (ht : m.S[who]? = some t) : MiW t k := h.si t (List.mem_of_getElem? ht)
theorem Wfm.enter {m : Mo} {k who : Nat} {t : Mi} (h : Wfm m k) (ht : m.S[who]? = some t) : Wfm ⟨m.M, m.S.set who (onMi t)⟩ k := h.put0 ht (Nat.le_refl _) (h.mem ht).on
theorem Wfm.crash {m : Mo} {k : Nat} (h : Wfm m k) : Wfm ⟨m.M, List.replicate m.S.length mi0⟩ k where
  asc := h.asc
  n5 := by simpa using h.n5
  sz := by
    have := h.sz
    show m.M.length + sumL (List.replicate _ mi0) ≤ k
    rw [sumL_rep]; omega
  si t ht := by rw [List.eq_of_mem_replicate ht]; exact MiW.mi0 _
theorem putS_w {S : List Sv} {n : Int} {L : Nat} {k : Nat} (h1 : ∀ s ∈ S, inI s.1 ∧ s.2 ≤ L) (h2 : (S.map (·.1)).Nodup) (h3 : S.length ≤ k) (hn : inI n) :
    (∀ s ∈ putS S n L, inI s.1 ∧ s.2 ≤ L) ∧ ((putS S n L).map (·.1)).Nodup ∧ (putS S n L).length ≤ k + 1 := by
  unfold putS
  refine ⟨fun s hs => ?_, ?_, ?_⟩
  · rcases List.mem_append.1 hs with h | h
    · exact h1 s (List.mem_filter.1 h).1
    · rw [List.mem_singleton.1 h]; exact ⟨hn, Nat.le_refl _⟩
  · rw [List.map_append]
    refine List.nodup_append.2 ⟨h2.sublist (List.filter_sublist.map _), by simp, fun a ha b hb e => ?_⟩
    obtain ⟨s, hs, rfl⟩ := List.mem_map.1 ha
    have := (List.mem_filter.1 hs).2
    simp at hb
    subst hb
    simp [e] at this
  · rw [List.length_append]
    have := List.length_filter_le (fun s : Sv => !(s.1 == n)) S
    simp only [List.length_cons, List.length_nil]
    omega
theorem turnF_w {m : Mo} {k : Nat} {t : Mi} {o : Ao} (ha : Asc m.M) (h : MiW t k) (hon : t.on = true) (hn : inI o.n) :
    Asc (turnF m.M t o).1 ∧ (turnF m.M t o).1.length + (turnF m.M t o).2.1.L.length ≤ m.M.length + t.L.length + 1 ∧ MiW (turnF m.M t o).2.1 (k + 1) := by
  unfold turnF
  split
  · obtain ⟨h1, h2, h3⟩ := putS_w (L := t.L.length) (n := o.n) h.sv h.nd h.ls hn
    exact ⟨ha, by dsimp only; omega, h1, h2, h3, fun h => by rw [hon] at h; cases h⟩
  split
  · cases hg : getS t.S o.n with
    | none => exact ⟨ha, by dsimp only; omega, h.le (by omega)⟩
    | some j =>
      have hj := (h.sv _ (getS_mem hg)).2
      dsimp only at hj
      refine ⟨ha, by simp only [List.length_take]; omega, fun s hs => ?_, ?_, ?_, fun h => by rw [hon] at h; cases h⟩
      · have h1 := List.mem_filter.1 hs
        have h2 : s.2 ≤ j := by simpa using h1.2
        refine ⟨(h.sv s h1.1).1, ?_⟩
        dsimp only
        rw [List.length_take]; omega
      · exact h.nd.sublist (List.filter_sublist.map _)
      · have := List.length_filter_le (fun s : Sv => decide (s.2 ≤ j)) t.S
        have := h.ls
        show (List.filter _ _).length ≤ _
        omega
  split
  · have := viewF_len m.M t.L
    exact ⟨ha.view _, by dsimp only [mi0, List.length_nil]; omega, MiW.mi0 _⟩
  split
  · exact ⟨ha, by dsimp only [mi0, List.length_nil]; omega, MiW.mi0 _⟩
  · exact ⟨ha, by dsimp only; omega, h.le (by omega)⟩
theorem writeF_w {k : Nat} {t : Mi} (h : MiW t k) (w : Wr) : MiW (writeF t w) (k + 1) ∧ (writeF t w).L.length = t.L.length + 1 := by
  refine ⟨⟨fun s hs => ?_, h.nd, by have := h.ls; show t.S.length ≤ _; omega, fun h => by cases h⟩, by simp [writeF]⟩
  have := h.sv s hs
  refine ⟨this.1, ?_⟩
  show s.2 ≤ (t.L ++ [w]).length
  rw [List.length_append]; omega
theorem changeF_w {k : Nat} {t : Mi} (h : MiW t k) (V : List Rc) (o : Ao) : MiW (changeF t V o).1 (k + 1) ∧ (changeF t V o).1.L.length ≤ t.L.length + 1 := by
  have h0 : MiW t (k + 1) ∧ t.L.length ≤ t.L.length + 1 := ⟨h.le (by omega), by omega⟩
  have hw := fun w => writeF_w h w
  unfold changeF
  split
  · cases look V o.key with
    | some r => exact h0
    | none =>
      dsimp only
      split
      · exact h0
      · exact ⟨(hw _).1, Nat.le_of_eq (hw _).2⟩
  · cases look V o.key with
    | none => exact h0
    | some r =>
      dsimp only
      split
      · exact h0
      · exact ⟨(hw _).1, Nat.le_of_eq (hw _).2⟩
theorem doF_wf {m : Mo} {k who : Nat} {t : Mi} {o : Ao} (h : Wfm m k) (ht : m.S[who]? = some t) (hn : inI o.n) : Wfm (doF m t who o).1 (k + 1) := by
  have hmi := (h.mem ht).on
  unfold doF
  split
  · exact h.le (by omega)
  split
  · exact h.le (by omega)
  split
  · obtain ⟨h1, h2, h3⟩ := turnF_w (o := o) h.asc hmi rfl hn
    exact h.put ht h1 h2 h3
  split
  · obtain ⟨h1, h2⟩ := changeF_w hmi (viewF m.M t.L) o
    exact h.put ht h.asc (by have : (onMi t).L.length = t.L.length := rfl; omega) h1
  · exact h.put ht h.asc (by show _ + t.L.length ≤ _; omega) (hmi.le (by omega))
theorem inF_len' (L : List Rc) (w : Re) : (inF L w).length ≤ L.length := List.length_filter_le _ _
theorem doF_an {m : Mo} {who : Nat} {t : Mi} {o : Ao} (hl : m.M.length + t.L.length ≤ 900) : (doF m t who o).2.recs.length ≤ 1000 := by
  have hv := viewF_len m.M t.L
  unfold doF
  split
  · exact Nat.zero_le _
  split
  · exact Nat.zero_le _
  split
  · dsimp only; rw [(turnF_ans m.M (onMi t) o).1]; exact Nat.zero_le _
  split
  · dsimp only
    unfold changeF
    split
    · cases look (viewF m.M t.L) o.key with
      | some r => exact Nat.zero_le _
      | none => dsimp only; split <;> exact Nat.zero_le _
    · cases look (viewF m.M t.L) o.key with
      | none => exact Nat.zero_le _
      | some r => dsimp only; split <;> simp
  · dsimp only
    unfold asksF
    split
    · cases look (viewF m.M t.L) o.key <;> simp
    split
    · have := inF_len' (viewF m.M t.L) o.w
      dsimp only; omega
    · exact Nat.zero_le _
theorem Wfm.bd {m : Mo} {k who : Nat} {t : Mi} (h : Wfm m k) (ht : m.S[who]? = some t) : m.M.length + t.L.length ≤ k := by
  have := sumL_get ht
  have := h.sz
  omega
end Go.Ev.F34
end
section
namespace Go.Ev.F34
open Go.Proofs Go.Ev
set_option maxRecDepth 100000
set_option linter.all false
structure St where
  kind : Int
  who : Nat
  o : Ao
abbrev stP (s : St) : PV := .agg [I s.kind, .int .u8 s.who, I s.o.kind, U s.o.key, u32 s.o.x, u32 s.o.y, .str s.o.val, u32 s.o.w.x0, u32 s.o.w.y0, u32 s.o.w.x1, u32 s.o.w.y1, I s.o.n]
def sts (l : List St) : List PV := l.map stP
theorem sts_len (l : List St) : (sts l).length = l.length := by simp [sts]
theorem sts_get {l : List St} {i : Nat} (h : i < l.length) : (sts l)[i]? = some (stP l[i]) := by simp [sts, h]
def aos (l : List Ao) : List PV := l.map aoP
theorem aos_len (l : List Ao) : (aos l).length = l.length := by simp [aos]
theorem aos_get {l : List Ao} {i : Nat} (h : i < l.length) : (aos l)[i]? = some (aoP l[i]) := by simp [aos, h]
def atS (m : Mo) (w : Nat) : Mi := (m.S[w]?).getD mi0
theorem Wfm.at {m : Mo} {k w : Nat} (h : Wfm m k) (hw : w < 5) : m.S[w]? = some (atS m w) := by
  have h5 := h.n5
  unfold atS
  rw [List.getElem?_eq_getElem (by omega)]
  rfl
def stpF (m : Mo) (s : St) : Mo :=
  if s.kind = 1 then ⟨m.M, m.S.set (s.who % 5) mi0⟩
  else if s.kind = 2 then ⟨m.M, m.S.set (s.who % 5) (onMi (atS m (s.who % 5)))⟩
  else if s.kind = 3 then ⟨m.M, List.replicate m.S.length mi0⟩
  else (doF m (atS m (s.who % 5)) (s.who % 5) s.o).1
theorem stpF_wf {m : Mo} {k : Nat} (h : Wfm m k) (s : St) (hn : inI s.o.n) : Wfm (stpF m s) (k + 1) := by
  have h5 : s.who % 5 < 5 := Nat.mod_lt _ (by omega)
  unfold stpF
  split
  · exact (h.leave h5).le (by omega)
  split
  · exact (h.enter (h.at h5)).le (by omega)
  split
  · exact h.crash.le (by omega)
  · exact doF_wf h (h.at h5) hn
theorem frzN_anT {H : Heap} {v : AV} {K : List PV} (h : TS H v 6 K) (a s : PV) : frzN Try.prog H 4 47 (.agg [.p a, v, .p s]) = some (.agg [a, .sl 6 K, s]) := by
  simp [frzN, hleaf47, frzL, h.frz (n := 3) telem_27]
/-- What the heap holds when 'step' has its cells. -/
def T0 (H : Heap) (pp a b d : Nat) (m : Mo) (s : St) (e : Env) (G : Heap) : Prop :=
  e 0 = .vptr pp 0 ∧ e 4 = .vptr a 0 ∧ e 5 = .vptr b 0 ∧ e 6 = .vptr d 0 ∧ e 8 = .p (I (s.who % 5 : Nat)) ∧ H.length ≤ a ∧ H.length ≤ b ∧ H.length ≤ d ∧ a < G.length ∧ b < G.length ∧ d < G.length ∧ G[a]? = some (.var true (.p (moP m))) ∧ G[b]? = some (.var true (.p (stP s))) ∧ G[d]? = some z30 ∧
  (∀ i, i < H.length → G[i]? = H[i]?) ∧ H.length ≤ G.length
set_option maxHeartbeats 4000000 in
theorem w11 {H : Heap} {c : Fm} {m : Mo} (h : FI H c m) {k : Nat} (hk : k ≤ 500) (wf : Wfm m k) (s : St) (hs : s.who < 256) (Q : AV → Heap → Prop)
    (hq : ∀ H' c', FI H' c' (stpF m s) → Kp c c' H H' → Q (.p (.tup [moP (stpF m s), B true])) H') :
    (W Cf okf).call 11 [.vptr c.pp 0, .p (moP m), .p (stP s)] H Q := by
  refine top_mk extMono Try.func11 body11 (by decide) rfl ?_
  simp only [c11, Try.f11, Option.getD_some]
  have h5 : s.who % 5 < 5 := Nat.mod_lt _ (by omega)
  have hrem : Int.tmod (s.who : Int) 5 = ((s.who % 5 : Nat) : Int) := by rw [Int.tmod_eq_emod_of_nonneg (by omega)]; rfl
  have hwat := wf.at h5
  obtain ⟨hwl, hwe⟩ := List.getElem?_eq_some_iff.1 hwat
  have hbd := wf.bd hwat
  have hmw := wf.mem hwat
  have hn5 := wf.n5
  have hwr : IntKind.i64.wrap (s.who : Int) = s.who := wrap_i64 (by omega) (by omega)
  simp -implicitDefEqProofs -dsimp (maxSteps := 1000000) (disch := first | omega | (simp only [wkLen]; omega) | decide +kernel) only [↓wkPre, ↓wkPre2, ↓evC_region_st [2], ↓evC_text_st [2], ↓evC_cond, ↓evC_block, ↓evC_stop [2], wkPost, wkDef, wkF, simprocAttr, hwr, hrem]
  refine stop_st (fun e G => ∃ a b d, T0 H c.pp a b d m s e G) ⟨H.length, H.length + 1, H.length + 2, rfl, rfl, rfl, rfl, rfl, by omega, by omega, by omega, by simp, by simp, by simp, by simp, ?_, ?_, fun i hi => hs_app hi, by simp⟩ ?_
  · rw [List.getElem?_append_right (by omega), show H.length + 1 - H.length = 1 by omega]; rfl
  · rw [List.getElem?_append_right (by omega), show H.length + 2 - H.length = 2 by omega]; rfl
  rintro e G ⟨a, b, d, e0, e4, e5, e6, e8, ha, hb, hd, hal, hbl, hdl, ga, gb, gd, k0, l0⟩
  have hf : ∀ i ∈ c.foot, i < H.length := fun i hi => h.lt hi
  have hG : FI G c m := h.keep fun i hi => k0 i (hf i hi)
  have hnf : ∀ i, H.length ≤ i → i ∉ c.foot := fun i hi hm => by have := hf i hm; omega
  have fin : ∀ {G3 : Heap} {c' : Fm} {m' : Mo} (kp : Kp c c' G G3) (h3 : FI G3 c' m'), G3[a]? = some (.var true (.p (moP m))) ∧ G3[b]? = some (.var true (.p (stP s))) ∧ G3[d]? = some z30 ∧ (∀ y : Blk, (G3.set d y)[d]? = some y) ∧ ∀ y, FI (G3.set d y) c' m' ∧ Kp c c' H (G3.set d y) :=
    fun kp h3 => ⟨(kp.fr a hal (hnf a ha)).trans ga, (kp.fr b hbl (hnf b hb)).trans gb, (kp.fr d hdl (hnf d hd)).trans gd, fun y => hs_set (by have := kp.ln; omega), fun y => FI.fin hf k0 l0 kp h3 hd hdl y⟩
  obtain ⟨kind, who, o⟩ := s
  dsimp only at hs h5 hrem hwat hwl hwe hbd hmw hwr e8 gb
  refine stop_go ?_
  by_cases k1 : kind = 1
  · have hD : stpF m ⟨kind, who, o⟩ = ⟨m.M, m.S.set (who % 5) mi0⟩ := by unfold stpF; rw [if_pos k1]
    rw [hD] at hq
    simp -implicitDefEqProofs -dsimp (maxSteps := 1000000) (disch := first | omega | (simp only [wkLen]; omega) | decide +kernel) only [↓wkPre, ↓wkPre2, ↓wkE, wkPost, wkDef, wkF, simprocAttr, nn_v, e0, e4, e5, e6, e8, gb, k1]
    refine imp_call md_18 (w18 hG (who % 5) _ ?_)
    intro G3 c' h1 h2
    obtain ⟨f1, f2, f3, f4, f5⟩ := fin h2 h1
    simp -implicitDefEqProofs -dsimp (maxSteps := 1000000) (disch := first | omega | (simp only [wkLen]; omega) | decide +kernel) only [↓wkPre, ↓wkPre2, ↓wkE, wkPost, wkDef, wkF, simprocAttr, nn_v, e0, e4, e5, e6, e8, f1]
    refine PS.app md_25 Try.func25 (p25 m (who % 5) hwl (by omega)) rfl ?_
    rintro _ rfl
    simp -implicitDefEqProofs -dsimp (maxSteps := 1000000) (disch := first | omega | (simp only [wkLen]; omega) | decide +kernel) only [↓wkPre, ↓wkPre2, ↓wkE, wkPost, wkDef, wkF, simprocAttr, nn_v, e0, e4, e5, e6, e8, f3, f4]
    exact hq _ _ (f5 _).1 (f5 _).2
  by_cases k2 : kind = 2
  · have hD : stpF m ⟨kind, who, o⟩ = ⟨m.M, m.S.set (who % 5) (onMi (atS m (who % 5)))⟩ := by unfold stpF; rw [if_neg k1, if_pos k2]
    rw [hD] at hq
    simp -implicitDefEqProofs -dsimp (maxSteps := 1000000) (disch := first | omega | (simp only [wkLen]; omega) | decide +kernel) only [↓wkPre, ↓wkPre2, ↓wkE, wkPost, wkDef, wkF, simprocAttr, nn_v, e0, e4, e5, e6, e8, gb, k1, k2]
    refine imp_call md_19 (w19 hG (who % 5) hwat _ ?_)
    intro G3 c' h1 h2
    obtain ⟨f1, f2, f3, f4, f5⟩ := fin h2 h1
    simp -implicitDefEqProofs -dsimp (maxSteps := 1000000) (disch := first | omega | (simp only [wkLen]; omega) | decide +kernel) only [↓wkPre, ↓wkPre2, ↓wkE, wkPost, wkDef, wkF, simprocAttr, nn_v, e0, e4, e5, e6, e8, f1]
    have h26 := p26 m (who % 5) hwl (by omega)
    rw [hwe] at h26
    refine PS.app md_26 Try.func26 h26 rfl ?_
    rintro _ rfl
    simp -implicitDefEqProofs -dsimp (maxSteps := 1000000) (disch := first | omega | (simp only [wkLen]; omega) | decide +kernel) only [↓wkPre, ↓wkPre2, ↓wkE, wkPost, wkDef, wkF, simprocAttr, nn_v, e0, e4, e5, e6, e8, f3, f4]
    exact hq _ _ (f5 _).1 (f5 _).2
  by_cases k3 : kind = 3
  · have hD : stpF m ⟨kind, who, o⟩ = ⟨m.M, List.replicate m.S.length mi0⟩ := by unfold stpF; rw [if_neg k1, if_neg k2, if_pos k3]
    rw [hD] at hq
    simp -implicitDefEqProofs -dsimp (maxSteps := 1000000) (disch := first | omega | (simp only [wkLen]; omega) | decide +kernel) only [↓wkPre, ↓wkPre2, ↓wkE, wkPost, wkDef, wkF, simprocAttr, nn_v, e0, e4, e5, e6, e8, gb, k1, k2, k3]
    refine imp_call md_20 (w20 hG _ ?_)
    intro G3 c' h1 h2
    obtain ⟨f1, f2, f3, f4, f5⟩ := fin h2 h1
    simp -implicitDefEqProofs -dsimp (maxSteps := 1000000) (disch := first | omega | (simp only [wkLen]; omega) | decide +kernel) only [↓wkPre, ↓wkPre2, ↓wkE, wkPost, wkDef, wkF, simprocAttr, nn_v, e0, e4, e5, e6, e8, f1]
    refine PS.app md_27 Try.func27 (p27 m (by omega)) rfl ?_
    rintro _ rfl
    simp -implicitDefEqProofs -dsimp (maxSteps := 1000000) (disch := first | omega | (simp only [wkLen]; omega) | decide +kernel) only [↓wkPre, ↓wkPre2, ↓wkE, wkPost, wkDef, wkF, simprocAttr, nn_v, e0, e4, e5, e6, e8, f3, f4]
    exact hq _ _ (f5 _).1 (f5 _).2
  have hD : stpF m ⟨kind, who, o⟩ = (doF m (atS m (who % 5)) (who % 5) o).1 := by unfold stpF; rw [if_neg k1, if_neg k2, if_neg k3]
  rw [hD] at hq
  have h28 := p28 m (who % 5) o hwl (by omega) (by rw [hwe]; omega) (by rw [hwe]; have := hmw.ls; omega) (by rw [hwe]; exact fun s hs => (hmw.sv s hs).2) (by rw [hwe]; exact hmw.nd)
  rw [hwe] at h28
  have han := doF_an (m := m) (who := who % 5) (t := atS m (who % 5)) (o := o) (by omega)
  simp -implicitDefEqProofs -dsimp (maxSteps := 1000000) (disch := first | omega | (simp only [wkLen]; omega) | decide +kernel) only [↓wkPre, ↓wkPre2, ↓wkE, wkPost, wkDef, wkF, simprocAttr, nn_v, e0, e4, e5, e6, e8, ga, gb, k1, k2, k3]
  refine PS.app md_28 Try.func28 h28 rfl ?_
  rintro _ rfl
  have h13 := fun (G1 : Heap) (hG1 : FI G1 c m) Q => w13 hG1 wf.asc (who % 5) hwat o (by omega) (by have := hmw.ls; omega) hmw.sv hmw.nd Q
  generalize doF m (atS m (who % 5)) (who % 5) o = R at hq han h13 ⊢
  obtain ⟨m', an⟩ := R
  dsimp only at hq han h13 ⊢
  simp -implicitDefEqProofs -dsimp (maxSteps := 1000000) (disch := first | omega | (simp only [wkLen]; omega) | decide +kernel) only [↓wkPre, ↓wkPre2, ↓evC_region_st [13], ↓evC_text_st [13], ↓evC_cond, ↓evC_block, ↓evC_stop [13], wkPost, wkDef, wkF, simprocAttr, nn_v, e0, e4, e5, e6, e8]
  refine stop_st (fun e G1 => ∃ x y, e 0 = .vptr c.pp 0 ∧ e 5 = .vptr b 0 ∧ e 6 = .vptr d 0 ∧ e 8 = .p (I (who % 5 : Nat)) ∧ e 9 = .vptr x 0 ∧ e 10 = .vptr y 0 ∧ G.length ≤ x ∧ G.length ≤ y ∧ x < G1.length ∧ y < G1.length ∧ G1[x]? = some (.var true (.p (moP m'))) ∧ G1[y]? = some (.var true (.p (anP an))) ∧ (∀ i, i < G.length → G1[i]? = G[i]?) ∧ G.length ≤ G1.length)
    ⟨G.length, G.length + 1, e0, e5, e6, e8, rfl, rfl, by omega, by omega, by simp, by simp, by simp, ?_, fun i hi => hs_app hi, by simp⟩ ?_
  · rw [List.getElem?_append_right (by omega), show G.length + 1 - G.length = 1 by omega]; rfl
  clear e0 e4 e5 e6 e8 e
  rintro e G1 ⟨x, y, e0, e5, e6, e8, e9, e10, hx, hy, hxl, hyl, gx, gy, k1', l1⟩
  have hG1 : FI G1 c m := hG.keep fun i hi => k1' i (hG.lt hi)
  have gb1 := (k1' b hbl).trans gb
  refine stop_pl pl_11_13 (by kernel_rfl) (by decide +kernel) ?_
  simp only [pl_11_13]
  simp -implicitDefEqProofs -dsimp (maxSteps := 1000000) (disch := first | omega | (simp only [wkLen]; omega) | decide +kernel) only [↓wkPre, ↓wkPre2, ↓wkE, wkPost, wkDef, wkF, simprocAttr, nn_v, e0, e5, e6, e8, e9, e10, gb1, gx, gy]
  refine imp_call md_13 (h13 G1 hG1 _ ?_)
  intro G3 c' v q1 q2 q3
  have gx3 := (q2.fr x hxl (hnf x (by omega))).trans gx
  have gy3 := (q2.fr y hyl (hnf y (by omega))).trans gy
  have hK : Kp c c' G G3 := Kp.trans ⟨fun i hi _ => k1' i hi, fun i hi => .inl hi, l1, rfl⟩ q2
  obtain ⟨f1, f2, f3, f4, f5⟩ := fin hK q1
  simp -implicitDefEqProofs -dsimp (maxSteps := 1000000) (disch := first | omega | (simp only [wkLen]; omega) | decide +kernel) only [↓wkPre, ↓wkPre2, ↓wkE, wkPost, wkDef, wkF, simprocAttr, nn_v, e0, e5, e6, e8, e9, e10, gx3, gy3]
  refine PS.app md_29 Try.func29 (pa := [anP an, anP an]) (p29 an han) ?_ ?_
  · show frzL (frzN Try.prog G3 4) [_, _] [47, 47] = _
    simp only [frzL, List.headD_cons, List.tail_cons]
    rw [frzN_anT q3]
    rfl
  rintro _ rfl
  simp -implicitDefEqProofs -dsimp (maxSteps := 1000000) (disch := first | omega | (simp only [wkLen]; omega) | decide +kernel) only [↓wkPre, ↓wkPre2, ↓wkE, wkPost, wkDef, wkF, simprocAttr, nn_v, e0, e5, e6, e8, e9, e10, gx3, gy3, f3, f4]
  exact hq _ _ (f5 _).1 (f5 _).2
end Go.Ev.F34
end
section
namespace Go.Ev.F34
open Go.Proofs Go.Ev
set_option maxRecDepth 100000
set_option linter.all false
def lightF (l : List St) : Bool := decide (l.length ≤ 80) && l.all fun s => decide (s.o.val.length ≤ 100)
theorem p6 (l : List St) : PS Cf okf 6 [4] [.sl 12 (sts l)] (fun v => v = B (lightF l)) := by
  refine PS.mk extMono Try.func6 body6 (by decide) rfl ?_
  simp only [c6, Try.f6, Option.getD_some]
  have hl := sts_len l
  unfold lightF
  by_cases h80 : 80 < l.length
  · rw [show decide (l.length ≤ 80) = false by simpa using h80, Bool.false_and]
    have h80' : (80 : Int) < (l.length : Int) := by omega
    simp -implicitDefEqProofs -dsimp (maxSteps := 1000000) (disch := first | omega | (simp only [wkLen]; omega) | decide +kernel) only [↓wkPre, ↓wkPre2, ↓wkE, wkPost, wkDef, wkF, simprocAttr, hl, h80']
    done
  · rw [show decide (l.length ≤ 80) = true by simp; omega, Bool.true_and]
    have h80' : ¬ (80 : Int) < (l.length : Int) := by omega
    simp -implicitDefEqProofs -dsimp (maxSteps := 1000000) (disch := first | omega | (simp only [wkLen]; omega) | decide +kernel) only [↓wkPre, ↓wkPre2, ↓wkE, wkPost, wkDef, wkF, simprocAttr, hl, h80']
    refine loop_use extMono (fun m' e H => ∃ (i : Nat), m' = l.length - i ∧ i ≤ l.length ∧ e 0 = .p (.sl 12 (sts l)) ∧ e 3 = .p (I i) ∧ ∀ j (h : j < l.length), j < i → l[j].o.val.length ≤ 100) ?_ l.length _ _ ⟨0, rfl, by omega, ?_⟩
    · rintro m' e H ⟨i, rfl, hi, e0, e3, hall⟩
      rcases Nat.lt_or_ge i l.length with hlt | hge
      · have gi := sts_get hlt
        by_cases h100 : 100 < l[i].o.val.length
        · have h100' : (100 : Int) < (l[i].o.val.length : Int) := by omega
          simp -implicitDefEqProofs -dsimp (maxSteps := 1000000) (disch := first | omega | (simp only [wkLen]; omega) | decide +kernel) only [↓wkPre, ↓wkPre2, ↓wkE, wkPost, wkDef, wkF, simprocAttr, e0, e3, hl, gi, h100']
          have : (l.all fun s => decide (s.o.val.length ≤ 100)) = false := by
            rw [List.all_eq_false]
            exact ⟨l[i], List.getElem_mem hlt, by simpa using h100⟩
          rw [this]
        · have h100' : ¬ (100 : Int) < (l[i].o.val.length : Int) := by omega
          simp -implicitDefEqProofs -dsimp (maxSteps := 1000000) (disch := first | omega | (simp only [wkLen]; omega) | decide +kernel) only [↓wkPre, ↓wkPre2, ↓wkE, wkPost, wkDef, wkF, simprocAttr, e0, e3, hl, gi, h100']
          refine ⟨l.length - (i + 1), by omega, i + 1, rfl, by omega, by push_cast; rfl, fun j h hj => ?_⟩
          by_cases hji : j = i
          · subst hji; omega
          · exact hall j h (by omega)
      · simp -implicitDefEqProofs -dsimp (maxSteps := 1000000) (disch := first | omega | (simp only [wkLen]; omega) | decide +kernel) only [↓wkPre, ↓wkPre2, ↓wkE, wkPost, wkDef, wkF, simprocAttr, e0, e3, hl]
        have : (l.all fun s => decide (s.o.val.length ≤ 100)) = true := by
          rw [List.all_eq_true]
          intro s hs
          obtain ⟨j, hj, rfl⟩ := List.mem_iff_getElem.1 hs
          have := hall j hj (by omega)
          simpa using this
        rw [this]
    · simp -implicitDefEqProofs -dsimp (maxSteps := 1000000) (disch := first | omega | (simp only [wkLen]; omega) | decide +kernel) only [↓wkPre, ↓wkPre2, ↓wkE, wkPost, wkDef, wkF, simprocAttr]
      intro j h hj
      omega
theorem frz2 {H : Heap} {v w : AV} {x y : PV} (h1 : frzN Try.prog H 4 27 v = some x) (h2 : frzN Try.prog H 4 27 w = some y) : frzL (frzN Try.prog H 4) [v, w] [27, 27] = some [x, y] := by
  simp only [frzL, List.headD_cons, List.tail_cons]
  rw [h1, h2]
  rfl
set_option maxHeartbeats 4000000 in
theorem w12 {H : Heap} {c : Fm} {m : Mo} (h : FI H c m) {k : Nat} (hk : k ≤ 500) (wf : Wfm m k) (Q : AV → Heap → Prop)
    (hq : ∀ H', FI H' c m → Kp c c H H' → Q (.p (B true)) H') : (W Cf okf).call 12 [.vptr c.pp 0, .p (moP m)] H Q := by
  refine top_mk extMono Try.func12 body12 (by decide) rfl ?_
  simp only [c12, Try.f12, Option.getD_some]
  have hf : ∀ i ∈ c.foot, i < H.length := fun i hi => h.lt hi
  have hn5 := wf.n5
  have hsz := wf.sz
  have hmM : m.M.length ≤ 1000 := by omega
  simp -implicitDefEqProofs -dsimp (maxSteps := 1000000) (disch := first | omega | (simp only [wkLen]; omega) | decide +kernel) only [↓wkPre, ↓wkPre2, ↓evC_region_st [1], ↓evC_text_st [1], ↓evC_cond, ↓evC_block, ↓evC_stop [1], wkPost, wkDef, wkF, simprocAttr]
  refine stop_st (fun e G => e 0 = .vptr c.pp 0 ∧ e 3 = .vptr H.length 0 ∧ (∀ i, i < H.length → G[i]? = H[i]?) ∧ H.length < G.length ∧ G[H.length]? = some (.var true (.p (moP m)))) ⟨rfl, rfl, fun i hi => hs_app hi, by simp, by simp⟩ ?_
  rintro e G ⟨e0, e3, k0, l0, ga⟩
  have hG : FI G c m := h.keep fun i hi => k0 i (hf i hi)
  have hna : H.length ∉ c.foot := fun hm => by have := hf _ hm; omega
  have K0 : Kp c c H G := ⟨fun i hi _ => k0 i hi, fun i hi => .inl hi, by omega, rfl⟩
  refine stop_pl pl_12_1 (by kernel_rfl) (by decide +kernel) ?_
  simp only [pl_12_1]
  simp -implicitDefEqProofs -dsimp (maxSteps := 1000000) (disch := first | omega | (simp only [wkLen]; omega) | decide +kernel) only [↓wkPre, ↓wkPre2, ↓wkE, wkPost, wkDef, wkF, simprocAttr, nn_v, e0, e3, ga]
  refine imp_call md_15 (w15 hG wf.asc hmM _ ?_)
  intro v G1 q1 q2 q3 q4
  have ga1 := (q3.fr _ l0 hna).trans ga
  obtain ⟨vs1, vs2, vs3⟩ := own_shape q1
  simp -implicitDefEqProofs -dsimp (maxSteps := 1000000) (disch := first | omega | (simp only [wkLen]; omega) | decide +kernel) only [↓wkPre, ↓wkPre2, ↓wkE, wkPost, wkDef, wkF, simprocAttr, nn_v, e0, e3, ga1, vs1, vs2, vs3]
  refine PS.app md_14 Try.func14 (pa := [rcsP m.M, rcsP m.M]) (p14 m.M hmM) ?_ ?_
  · show frzL (frzN Try.prog G1 4) [_, _] [27, 27] = _
    exact frz2 (frz_own telem_27 q1) (frzN_p _ _ _ _ _)
  rintro _ rfl
  simp -implicitDefEqProofs -dsimp (maxSteps := 1000000) (disch := first | omega | (simp only [wkLen]; omega) | decide +kernel) only [↓wkPre, ↓wkPre2, ↓wkE, wkPost, wkDef, wkF, simprocAttr, nn_v, e0, e3, ga1]
  have K1 := K0.trans q3
  refine loop_use extMono (fun m' e Hc => ∃ (i : Nat), m' = 5 - i ∧ i ≤ 5 ∧ e 0 = .vptr c.pp 0 ∧ e 3 = .vptr H.length 0 ∧ e 5 = .p (I i) ∧ FI Hc c m ∧ Kp c c H Hc ∧ H.length < Hc.length ∧ Hc[H.length]? = some (.var true (.p (moP m)))) ?_ 5 _ _ ⟨0, rfl, by omega, ?_⟩
  · rintro m' e Hc ⟨i, rfl, hi, e0, e3, e5, hI, hK, hlen, ha⟩
    have hml := mis_len m.S
    rw [hn5] at hml
    rcases Nat.lt_or_ge i 5 with hlt | hge
    · have hwat := wf.at hlt
      obtain ⟨hwl, hwe⟩ := List.getElem?_eq_some_iff.1 hwat
      have hbd := wf.bd hwat
      have gi := mis_get hwl
      rw [hwe] at gi
      have gi : (mis m.S)[i]? = some (.agg [B (atS m i).on, wrsP (atS m i).L, svsP (atS m i).S]) := gi
      have h17 := p17 m i hwl (by rw [hwe]; omega)
      rw [hwe] at h17
      have hvl := viewF_len m.M (atS m i).L
      generalize hT : atS m i = t at hwat hbd gi h17 hvl
      simp -implicitDefEqProofs -dsimp (maxSteps := 1000000) (disch := first | omega | (simp only [wkLen]; omega) | decide +kernel) only [↓wkPre, ↓wkPre2, ↓evC_region_st [6], ↓evC_text_st [6], ↓evC_cond, ↓evC_block, ↓evC_stop [6], wkPost, wkDef, wkF, simprocAttr, nn_v, e0, e3, e5, ha, hml]
      refine stop_pl pl_12_6 (by kernel_rfl) (by decide +kernel) ?_
      simp only [pl_12_6]
      simp -implicitDefEqProofs -dsimp (maxSteps := 1000000) (disch := first | omega | (simp only [wkLen]; omega) | decide +kernel) only [↓wkPre, ↓wkPre2, ↓wkE, wkPost, wkDef, wkF, simprocAttr, nn_v, e0, e3, e5, ha, hml, gi]
      refine imp_call md_21 (w21 hI i hwat _ ?_)
      cases hon : t.on <;> rw [hon] at gi
      all_goals
        simp -implicitDefEqProofs -dsimp (maxSteps := 1000000) (disch := first | omega | (simp only [wkLen]; omega) | decide +kernel) only [↓wkPre, ↓wkPre2, ↓wkE, wkPost, wkDef, wkF, simprocAttr, nn_v, e0, e3, e5, ha, hml, gi]
        refine imp_call md_16 (w16 hI wf.asc i hwat (by omega) _ ?_)
        intro v2 H2 r1 r2 r3 r4 r5
        have ha2 := (r3 _ hlen).trans ha
        obtain ⟨vs1, vs2, vs3⟩ := own_shape r1
        simp -implicitDefEqProofs -dsimp (maxSteps := 1000000) (disch := first | omega | (simp only [wkLen]; omega) | decide +kernel) only [↓wkPre, ↓wkPre2, ↓wkE, wkPost, wkDef, wkF, simprocAttr, nn_v, e0, e3, e5, ha2, hml, gi, vs1, vs2, vs3]
        refine PS.app md_17 Try.func17 h17 rfl ?_
        rintro _ rfl
        simp -implicitDefEqProofs -dsimp (maxSteps := 1000000) (disch := first | omega | (simp only [wkLen]; omega) | decide +kernel) only [↓wkPre, ↓wkPre2, ↓wkE, wkPost, wkDef, wkF, simprocAttr, nn_v, e0, e3, e5, ha2, hml, gi, vs1, vs2, vs3]
        refine PS.app md_14 Try.func14 (pa := [rcsP (viewF m.M t.L), rcsP (viewF m.M t.L)]) (p14 _ (by omega)) ?_ ?_
        · show frzL (frzN Try.prog H2 4) [_, _] [27, 27] = _
          exact frz2 (frz_own telem_27 r1) (frzN_p _ _ _ _ _)
        rintro _ rfl
        simp -implicitDefEqProofs -dsimp (maxSteps := 1000000) (disch := first | omega | (simp only [wkLen]; omega) | decide +kernel) only [↓wkPre, ↓wkPre2, ↓wkE, wkPost, wkDef, wkF, simprocAttr, nn_v, e0, e3, e5, ha2, hml, gi]
        exact ⟨5 - (i + 1), by omega, i + 1, rfl, by omega, by push_cast; rfl, r2, hK.trans ⟨fun i hi _ => r3 i hi, fun i hi => .inl hi, r5, rfl⟩, by omega⟩
    · obtain rfl : i = 5 := by omega
      simp -implicitDefEqProofs -dsimp (maxSteps := 1000000) (disch := first | omega | (simp only [wkLen]; omega) | decide +kernel) only [↓wkPre, ↓wkPre2, ↓wkE, wkPost, wkDef, wkF, simprocAttr, nn_v, e0, e3, e5, ha, hml]
      exact hq _ hI hK
  · simp -implicitDefEqProofs -dsimp (maxSteps := 1000000) (disch := first | omega | (simp only [wkLen]; omega) | decide +kernel) only [↓wkPre, ↓wkPre2, ↓wkE, wkPost, wkDef, wkF, simprocAttr]
    exact ⟨e0, e3, q2, K1, by have := q3.ln; omega, ga1⟩
end Go.Ev.F34
end
