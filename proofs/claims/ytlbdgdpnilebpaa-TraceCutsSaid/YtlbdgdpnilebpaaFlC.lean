/- A part of the proof: walks of the functions that the law calls. No condition. -/
import Derived.Test.YtlbdgdpnilebpaaFlB
set_option linter.all false
section
namespace Go.Ev.F35
open Go.Proofs Go.Ev
set_option maxRecDepth 100000
set_option linter.all false
theorem FI.fin {H G G3 : Heap} {c c' : Fm} {m' : Mo} (hl : ∀ i ∈ c.foot, i < H.length) (k0 : ∀ i, i < H.length → G[i]? = H[i]?) (l0 : H.length ≤ G.length) (kp : Kp c c' G G3) (h : FI G3 c' m') {b : Nat} (hb1 : H.length ≤ b) (hb2 : b < G.length) (x : Blk) :
    FI (G3.set b x) c' m' ∧ Kp c c' H (G3.set b x) := by
  have hb : b ∉ c.foot := fun hm => by have := hl b hm; omega
  refine ⟨h.keep fun i hi => hs_ne fun e => ?_, ⟨fun i hi hn => ?_, fun i hi => ?_, by have := kp.ln; simp; omega, kp.pp⟩⟩
  · subst e
    rcases kp.ft _ hi with h1 | h1
    · exact hb h1
    · omega
  · rw [hs_ne (by omega), kp.fr i (by omega) hn]
    exact k0 i hi
  · exact (kp.ft i hi).imp id (by omega)
theorem putS_perm {E : List (Int × Int)} {S : List Sv} (hE : E.Perm (S.map fun s => (s.1, (s.2 : Int)))) (n : Int) (k : Nat) {E' : List (Int × Int)} (h : E'.Perm ((n, (k : Int)) :: E.filter fun y => !(y.1 == n))) : E'.Perm ((putS S n k).map fun s => (s.1, (s.2 : Int))) := by
  refine h.trans ?_
  unfold putS
  rw [List.map_append]
  refine (((hE.filter _).trans ?_).cons _).trans (List.perm_append_singleton _ _).symm
  rw [List.filter_map]
  exact List.Perm.refl _
theorem cutS_perm {E : List (Int × Int)} {S : List Sv} (hE : E.Perm (S.map fun s => (s.1, (s.2 : Int)))) (k : Nat) {E' : List (Int × Int)} (h : E'.Perm (E.filter fun e => !decide ((k : Int) < e.2))) : E'.Perm ((cutS S k).map fun s => (s.1, (s.2 : Int))) := by
  refine h.trans ((hE.filter _).trans ?_)
  unfold cutS
  rw [List.filter_map]
  refine List.Perm.of_eq (congrArg _ (List.filter_congr fun s _ => ?_))
  simp only [Function.comp_apply]
  by_cases h : s.2 ≤ k
  · have : ¬ (k : Int) < s.2 := by omega
    simp [h, this]
  · have : (k : Int) < s.2 := by omega
    simp [h, this]
theorem sv_nd {E : List (Int × Int)} {S : List Sv} (hE : E.Perm (S.map fun s => (s.1, (s.2 : Int)))) (nd : (S.map (·.1)).Nodup) : (E.map (·.1)).Nodup := by
  rw [(hE.map (·.1)).nodup_iff]
  simpa [List.map_map, Function.comp_def] using nd
theorem getS_mem {S : List Sv} {n : Int} {k : Nat} (h : getS S n = some k) : (n, k) ∈ S := by
  unfold getS at h
  cases hf : S.find? (fun s => s.1 == n) with
  | none => rw [hf] at h; cases h
  | some s =>
    rw [hf] at h
    obtain ⟨a, b⟩ := s
    have h1 := List.find?_some hf
    have h2 := List.mem_of_find?_eq_some hf
    simp at h h1
    subst h h1
    exact h2
theorem AS.cuts {H : Heap} {v : AV} {L : List Wr} (h : AS H v (wfs L)) : (v = .nsl ∧ L = []) ∨ ∃ b g l ex ys, v = .ref b g 0 L.length ex ∧ H[b]? = some (.arr l g 8 ys) ∧ L.length ≤ ys.length ∧ ∀ k, k ≤ L.length → AS H (.ref b g 0 k true) (wfs (L.take k)) := by
  have hw : ∀ k, wfs (L.take k) = (wfs L).take k := fun k => by simp [wfs, List.map_take]
  rcases h with (⟨rfl, hx⟩ | ⟨b, g, rfl, hb⟩) | ⟨b, g, m, l, ys, rfl, hb, h2, hx⟩
  · exact .inl ⟨rfl, by simpa [wfs] using hx⟩
  · exact .inr ⟨b, g, true, false, wfs L, by rw [wfs_len], hb, by rw [wfs_len]; exact Nat.le_refl _, fun k hk => .inr ⟨b, g, k, true, wfs L, rfl, hb, by rw [wfs_len]; exact hk, hw k⟩⟩
  · obtain ⟨rfl, h3⟩ := wfs_at hx h2
    exact .inr ⟨b, g, l, true, ys, rfl, hb, h2, fun k hk => .inr ⟨b, g, k, l, ys, rfl, hb, by omega, by rw [hw, hx, List.take_take, Nat.min_eq_left hk]⟩⟩
abbrev svA (e : Int × Int) : AV := .p (.int .i64 e.2)
/-- What the heap holds when 'turn' has its cells. -/
def TuS (H : Heap) (pp who q a b : Nat) (o : Ao) (e : Env) (G : Heap) : Prop :=
  e 0 = .vptr pp 0 ∧ e 1 = .p (I who) ∧ e 2 = .vptr q 0 ∧ e 7 = .vptr a 0 ∧ e 8 = .vptr b 0 ∧ H.length ≤ a ∧ H.length ≤ b ∧ a ≠ b ∧ a < G.length ∧ b < G.length ∧ G[a]? = some (.var true (.p (aoP o))) ∧ G[b]? = some z47 ∧
  (∀ i, i < H.length → G[i]? = H[i]?) ∧ H.length ≤ G.length
set_option maxHeartbeats 2000000 in
theorem w30 {H : Heap} {pp bs bm : Nat} {x : Sd} {R : List Sd} {m : Mo} (h : FI H ⟨pp, bs, bm, x :: R⟩ m) (ha : Asc m.M) (o : Ao) (h6 : 6 ≤ o.kind) (h9 : o.kind ≤ 9) (hM : m.M.length ≤ 1000) (hL : x.L.length ≤ 1000) (hS : x.S.length ≤ 1000)
    (hm : ∀ s ∈ x.S, inI s.1 ∧ s.2 ≤ x.L.length) (nd : (x.S.map (·.1)).Nodup) (Q : AV → Heap → Prop)
    (hq : ∀ H' c', FI H' c' ⟨(turnF m.M ⟨true, x.L, x.S⟩ o).1, m.S.set x.who (turnF m.M ⟨true, x.L, x.S⟩ o).2.1⟩ → Kp ⟨pp, bs, bm, x :: R⟩ c' H H' → Q (.agg [.p (I (turnF m.M ⟨true, x.L, x.S⟩ o).2.2.code), .nsl, .p (I 0)]) H') :
    (W Cf okf).call 41 [.vptr pp 0, .p (I x.who), .vptr x.q 0, .p (aoP o)] H Q := by
  refine top_mk extMono Try.func41 body41 (by decide) rfl ?_
  simp only [c41, Try.f41, Option.getD_some]
  obtain ⟨ok, key, ox, oy, val, w, n⟩ := o
  dsimp only at h6 h9
  simp -implicitDefEqProofs -dsimp (maxSteps := 1000000) (disch := first | omega | (simp only [wkLen]; omega) | decide +kernel) only [↓wkPre, ↓wkPre2, ↓evC_region_st [1], ↓evC_text_st [1], ↓evC_cond, ↓evC_block, ↓evC_stop [1], wkPost, wkDef, wkF, simprocAttr]
  refine stop_st (fun e G => ∃ a b, TuS H pp x.who x.q a b ⟨ok, key, ox, oy, val, w, n⟩ e G) ⟨H.length, H.length + 1, rfl, rfl, rfl, rfl, rfl, by omega, by omega, by omega, by simp, by simp, by simp, by simp, fun i hi => hs_app hi, by simp⟩ ?_
  rintro e G ⟨a, b, e0, e1, e2, e7, e8, ha1, hb1, hab, hal, hbl, ga, gb, k0, l0⟩
  have hf : ∀ i ∈ Fm.foot ⟨pp, bs, bm, x :: R⟩, i < H.length := fun i hi => h.lt hi
  have hG : FI G ⟨pp, bs, bm, x :: R⟩ m := h.keep fun i hi => k0 i (hf i hi)
  have hbf : b ∉ Fm.foot ⟨pp, bs, bm, x :: R⟩ := fun hm => by have := hf b hm; omega
  have fin : ∀ {G3 : Heap} {c' : Fm} {m' : Mo} (kp : Kp ⟨pp, bs, bm, x :: R⟩ c' G G3) (h3 : FI G3 c' m'), G3[b]? = some z47 ∧ (∀ y : Blk, (G3.set b y)[b]? = some y) ∧ ∀ y, FI (G3.set b y) c' m' ∧ Kp ⟨pp, bs, bm, x :: R⟩ c' H (G3.set b y) :=
    fun kp h3 => ⟨(kp.fr b hbl hbf).trans gb, fun y => hs_set (by have := kp.ln; omega), fun y => FI.fin hf k0 l0 kp h3 hb1 hbl y⟩
  have gp := hG.hp
  have hx := hG.hx x List.mem_cons_self
  have gq := hx.hq
  have gv := hx.hv
  obtain ⟨gs, E, gqs, hE⟩ := hx.hs
  dsimp only at gp
  have hqf : x.q < H.length := hf _ (mem_foot (c := ⟨pp, bs, bm, x :: R⟩) List.mem_cons_self (by simp [Sd.bs]))
  have hqsf : x.qs < H.length := hf _ (mem_foot (c := ⟨pp, bs, bm, x :: R⟩) List.mem_cons_self (by simp [Sd.bs]))
  have hvf : ∀ i, x.v.blk = some i → i < H.length := fun i hi => hf _ (mem_foot (c := ⟨pp, bs, bm, x :: R⟩) List.mem_cons_self (by simp [Sd.bs, hi]))
  have hndx : x.bs.Nodup := by
    have := h.nf
    unfold Fm.foot at this
    rw [List.flatMap_cons] at this
    exact (List.nodup_append.1 (List.nodup_cons.1 (List.nodup_cons.1 (List.nodup_cons.1 this).2).2).2).1
  unfold Sd.bs at hndx
  have hqqs : x.q ≠ x.qs := fun e => (List.nodup_cons.1 hndx).1 (by simp [e])
  have hqv : ∀ i, x.v.blk = some i → x.q ≠ i ∧ x.qs ≠ i := fun i hi => by
    have h1 := (List.nodup_cons.1 hndx).1
    have h2 := (List.nodup_cons.1 (List.nodup_cons.1 hndx).2).1
    rw [hi] at h1 h2
    simp at h1 h2
    exact ⟨h1.2, h2⟩
  refine stop_go ?_
  by_cases k6 : ok = 6
  · subst k6
    obtain ⟨g', E', hu, hE'⟩ := am_upd (P := Try.prog) (κ := fun e : Int × Int => e.1) (val := svA) tmap_92 gqs (sv_nd hE nd) (n, (x.L.length : Int))
    have hup := hG.upd (H' := G.set x.qs (amB .i64 (fun e : Int × Int => e.1) svA true g' E')) (v' := x.v) (L' := x.L) (S' := putS x.S n x.L.length) (fun b hb => .inl hb)
      ⟨(hs_ne (Ne.symm hqqs)).trans gq, gv.set (fun e => (hqv _ e).2 rfl), g', E', hs_set (by omega), putS_perm hE n _ hE'⟩ (fun i hi h1 h2 h3 => hs_ne (Ne.symm h2)) (by simp)
    obtain ⟨f1, f2, f3⟩ := fin hup.2 hup.1
    rcases gv.cases with ⟨hv, hL0⟩ | ⟨vb, vg, vl, vex, vys, hv, _⟩
    · have hu2 := hu
      have hl0 : (x.L.length : Int) = 0 := by simp [hL0]
      dsimp only [svA] at hu2
      rw [hl0] at hu2
      rw [hv] at gq
      simp -implicitDefEqProofs -dsimp (maxSteps := 1000000) (disch := first | omega | (simp only [wkLen]; omega) | decide +kernel) only [↓wkPre, ↓wkPre2, ↓wkE, wkPost, wkDef, wkF, simprocAttr, nn_v, e0, e1, e2, e7, e8, ga, gq, hu2, f1, f2]
      exact hq _ _ (f3 _).1 (f3 _).2
    · rw [hv] at gq
      simp -implicitDefEqProofs -dsimp (maxSteps := 1000000) (disch := first | omega | (simp only [wkLen]; omega) | decide +kernel) only [↓wkPre, ↓wkPre2, ↓wkE, wkPost, wkDef, wkF, simprocAttr, nn_v, e0, e1, e2, e7, e8, ga, gq, hu, f1, f2]
      exact hq _ _ (f3 _).1 (f3 _).2
  · by_cases k7 : ok = 7
    · subst k7
      cases hgs : getS x.S n with
      | none =>
        have hT : turnF m.M ⟨true, x.L, x.S⟩ ⟨7, key, ox, oy, val, w, n⟩ = (m.M, ⟨true, x.L, x.S⟩, ⟨7, [], 0⟩) := by
          unfold turnF
          simp [hgs]
        rw [hT] at hq
        have hno : n ∉ E.map (fun e : Int × Int => e.1) := by
          intro hin
          obtain ⟨e, he, rfl⟩ := List.mem_map.1 hin
          obtain ⟨s, hs, rfl⟩ := List.mem_map.1 (hE.mem_iff.1 he)
          obtain ⟨j, hj, rfl⟩ := List.mem_iff_getElem.1 hs
          rw [getS_some nd hj] at hgs
          cases hgs
        have hlk := am_miss (P := Try.prog) (kd := .i64) (κ := fun e : Int × Int => e.1) (val := svA) tmap_92 tzero_3 gqs hno true
        have hlk2 := fun y : Blk => am_miss (P := Try.prog) (kd := .i64) (κ := fun e : Int × Int => e.1) (val := svA) tmap_92 tzero_3 ((hs_app (l := [y]) (lt_of gqs)).trans gqs) hno true
        simp -implicitDefEqProofs -dsimp (maxSteps := 1000000) (disch := first | omega | (simp only [wkLen]; omega) | decide +kernel) only [↓wkPre, ↓wkPre2, ↓evC_region_st [6], ↓evC_text_st [6], ↓evC_cond, ↓evC_block, ↓evC_stop [6], wkPost, wkDef, wkF, simprocAttr, nn_v, e0, e1, e2, e7, e8, ga]
        refine stop_pl pl_41_6 (by kernel_rfl) (by decide +kernel) ?_
        simp only [pl_41_6]
        simp -implicitDefEqProofs -dsimp (maxSteps := 1000000) (disch := first | omega | (simp only [wkLen]; omega) | decide +kernel) only [↓wkPre, ↓wkPre2, ↓evC_region_st [7], ↓evC_text_st [7], ↓evC_cond, ↓evC_block, ↓evC_stop [7], wkPost, wkDef, wkF, simprocAttr, nn_v, e0, e1, e2, e7, e8, ga, gq, hlk, hlk2]
        refine stop_st (fun e G1 => e 8 = .vptr b 0 ∧ e 10 = .p (B false) ∧ (∀ i, i < G.length → G1[i]? = G[i]?) ∧ G.length ≤ G1.length) ⟨e8, rfl, fun i hi => hs_app hi, by simp⟩ ?_
        clear e0 e1 e2 e7 e8 e
        rintro e G1 ⟨e8, e10, kk, ll⟩
        have hG1 : FI G1 ⟨pp, bs, bm, x :: R⟩ m := hG.keep fun i hi => kk i (hG.lt hi)
        obtain ⟨f1, f2, f3⟩ := fin ⟨fun i hi _ => kk i hi, fun i hi => .inl hi, ll, rfl⟩ hG1
        refine stop_go ?_
        simp -implicitDefEqProofs -dsimp (maxSteps := 1000000) (disch := first | omega | (simp only [wkLen]; omega) | decide +kernel) only [↓wkPre, ↓wkPre2, ↓wkE, wkPost, wkDef, wkF, simprocAttr, nn_v, e8, e10, f1, f2]
        have hS0 : m.S.set x.who ⟨true, x.L, x.S⟩ = m.S := set_same (hG.r1 x List.mem_cons_self)
        dsimp only at hq
        rw [hS0] at hq
        exact hq _ _ (f3 _).1 (f3 _).2
      | some k =>
        have hT : turnF m.M ⟨true, x.L, x.S⟩ ⟨7, key, ox, oy, val, w, n⟩ = (m.M, ⟨true, x.L.take k, cutS x.S k⟩, an0) := by
          unfold turnF
          simp [hgs]
        rw [hT] at hq
        have hin : (n, k) ∈ x.S := getS_mem hgs
        have hk := (hm _ hin).2
        dsimp only at hk
        have hlk := am_hit (P := Try.prog) (kd := .i64) (κ := fun e : Int × Int => e.1) (val := svA) tmap_92 tzero_3 gqs (sv_nd hE nd) (x := (n, (k : Int))) (hE.mem_iff.2 (List.mem_map.2 ⟨_, hin, rfl⟩)) true
        have hlk2 := fun y : Blk => am_hit (P := Try.prog) (kd := .i64) (κ := fun e : Int × Int => e.1) (val := svA) tmap_92 tzero_3 ((hs_app (l := [y]) (lt_of gqs)).trans gqs) (sv_nd hE nd) (x := (n, (k : Int))) (hE.mem_iff.2 (List.mem_map.2 ⟨_, hin, rfl⟩)) true
        simp -implicitDefEqProofs -dsimp (maxSteps := 1000000) (disch := first | omega | (simp only [wkLen]; omega) | decide +kernel) only [↓wkPre, ↓wkPre2, ↓evC_region_st [6], ↓evC_text_st [6], ↓evC_cond, ↓evC_block, ↓evC_stop [6], wkPost, wkDef, wkF, simprocAttr, nn_v, e0, e1, e2, e7, e8, ga]
        refine stop_pl pl_41_6 (by kernel_rfl) (by decide +kernel) ?_
        simp only [pl_41_6]
        simp -implicitDefEqProofs -dsimp (maxSteps := 1000000) (disch := first | omega | (simp only [wkLen]; omega) | decide +kernel) only [↓wkPre, ↓wkPre2, ↓evC_region_st [7], ↓evC_text_st [7], ↓evC_cond, ↓evC_block, ↓evC_stop [7], wkPost, wkDef, wkF, simprocAttr, nn_v, e0, e1, e2, e7, e8, ga, gq, hlk, hlk2]
        refine stop_st (fun e G1 => e 2 = .vptr x.q 0 ∧ e 8 = .vptr b 0 ∧ e 9 = .vptr G.length 0 ∧ e 10 = .p (B true) ∧ (∀ i, i < G.length → G1[i]? = G[i]?) ∧ G.length < G1.length ∧ G1[G.length]? = some (.var true (.p (I k)))) ⟨e2, e8, rfl, rfl, fun i hi => hs_app hi, by simp, by simp⟩ ?_
        clear e0 e1 e2 e7 e8 e
        rintro e G1 ⟨e2, e8, e9, e10, kk, ll, kn⟩
        have hG1 : FI G1 ⟨pp, bs, bm, x :: R⟩ m := hG.keep fun i hi => kk i (hG.lt hi)
        have hx1 := hG1.hx x List.mem_cons_self
        have gq1 := hx1.hq
        rcases hx1.hv.cuts with ⟨hvE, hL0⟩ | ⟨vb, vg, vl, vex, vys, hvE, hvb1, hvle, hcut⟩
        · have hk0 : k = 0 := by rw [hL0] at hk; simpa using hk
          have hv' : AS G1 .nsl (wfs (x.L.take k)) := by rw [hk0]; exact .inl (OwnS.nil _ _)
          have hvb : ∀ b, AV.nsl.blk = some b → x.v.blk = some b := fun b h => by cases h
          rw [hvE] at gq1
          have g2n : ∀ y : Blk, (G1.set x.q y)[G.length]? = some (.var true (.p (I k))) := fun y => (hs_ne (by omega)).trans kn
          have g2q : ∀ y : Blk, (G1.set x.q y)[x.q]? = some y := fun y => hs_set (lt_of gq1)
          have g2s : ∀ y : Blk, (G1.set x.q y)[x.qs]? = some (.map true gs (mdK E) (mdV E)) := fun y => (hs_ne hqqs).trans ((kk _ (lt_of gqs)).trans gqs)
          refine stop_go ?_
          simp -implicitDefEqProofs -dsimp (maxSteps := 1000000) (disch := first | omega | (simp only [wkLen]; omega) | decide +kernel) only [↓wkPre, ↓wkPre2, ↓wkE, wkPost, wkDef, wkF, simprocAttr, nn_v, e2, e8, e9, e10, gq1, kn, g2q, Option.isSome_some, Nat.sub_zero]
          refine ext_call md_61 ⟨x.qs, gs, G.length, true, (k : Int), E, rfl, g2s _, g2n _, ?_, ?_, sv_nd hE nd, fun E' hE' => ?_⟩
          · intro e' he
            obtain ⟨s, hs, rfl⟩ := List.mem_map.1 (hE.mem_iff.1 he)
            have := hm s hs
            refine ⟨this.1, ?_⟩
            have h2 := this.2
            dsimp only [inI]
            omega
          · rw [hE.length_eq, List.length_map]; exact hS
          · have hup := hG1.upd (H' := (G1.set x.q (.var true (.agg [.nsl, .map x.qs]))).set x.qs (.map true (gs + 1) (mdK E') (mdV E'))) (v' := .nsl) (L' := x.L.take k) (S' := cutS x.S k) (fun b hb => .inl (hvb b hb))
              ⟨(hs_ne (Ne.symm hqqs)).trans (hs_set (lt_of gq1)), ?_, gs + 1, E', hs_set (by simpa using lt_of (g2s z47)), cutS_perm hE k hE'⟩ (fun i hi h1 h2 h3 => (hs_ne (Ne.symm h2)).trans (hs_ne (Ne.symm h1))) (by simp)
            · obtain ⟨f1, f2, f3⟩ := fin (Kp.trans ⟨fun i hi _ => kk i hi, fun i hi => .inl hi, by omega, rfl⟩ hup.2) hup.1
              simp -implicitDefEqProofs -dsimp (maxSteps := 1000000) (disch := first | omega | (simp only [wkLen]; omega) | decide +kernel) only [↓wkPre, ↓wkPre2, ↓wkE, wkPost, wkDef, wkF, simprocAttr, nn_v, e8, f1, f2]
              exact hq _ _ (f3 _).1 (f3 _).2
            · exact (hv'.set (fun e => (hqv _ (hvb _ e)).1 rfl)).set (fun e => (hqv _ (hvb _ e)).2 rfl)
        · have hv' := hcut k hk
          have hvb : ∀ b, (AV.ref vb vg 0 k true).blk = some b → x.v.blk = some b := fun b h => by rw [hvE]; exact h
          rw [hvE] at gq1
          have g2n : ∀ y : Blk, (G1.set x.q y)[G.length]? = some (.var true (.p (I k))) := fun y => (hs_ne (by omega)).trans kn
          have g2q : ∀ y : Blk, (G1.set x.q y)[x.q]? = some y := fun y => hs_set (lt_of gq1)
          have g2s : ∀ y : Blk, (G1.set x.q y)[x.qs]? = some (.map true gs (mdK E) (mdV E)) := fun y => (hs_ne hqqs).trans ((kk _ (lt_of gqs)).trans gqs)
          refine stop_go ?_
          simp -implicitDefEqProofs -dsimp (maxSteps := 1000000) (disch := first | omega | (simp only [wkLen]; omega) | decide +kernel) only [↓wkPre, ↓wkPre2, ↓wkE, wkPost, wkDef, wkF, simprocAttr, nn_v, e2, e8, e9, e10, gq1, kn, hvb1, g2q, Option.isSome_some, Nat.sub_zero]
          refine ext_call md_61 ⟨x.qs, gs, G.length, true, (k : Int), E, rfl, g2s _, g2n _, ?_, ?_, sv_nd hE nd, fun E' hE' => ?_⟩
          · intro e' he
            obtain ⟨s, hs, rfl⟩ := List.mem_map.1 (hE.mem_iff.1 he)
            have := hm s hs
            refine ⟨this.1, ?_⟩
            have h2 := this.2
            dsimp only [inI]
            omega
          · rw [hE.length_eq, List.length_map]; exact hS
          · have hup := hG1.upd (H' := (G1.set x.q (.var true (.agg [.ref vb vg 0 k true, .map x.qs]))).set x.qs (.map true (gs + 1) (mdK E') (mdV E'))) (v' := .ref vb vg 0 k true) (L' := x.L.take k) (S' := cutS x.S k) (fun b hb => .inl (hvb b hb))
              ⟨(hs_ne (Ne.symm hqqs)).trans (hs_set (lt_of gq1)), ?_, gs + 1, E', hs_set (by simpa using lt_of (g2s z47)), cutS_perm hE k hE'⟩ (fun i hi h1 h2 h3 => (hs_ne (Ne.symm h2)).trans (hs_ne (Ne.symm h1))) (by simp)
            · obtain ⟨f1, f2, f3⟩ := fin (Kp.trans ⟨fun i hi _ => kk i hi, fun i hi => .inl hi, by omega, rfl⟩ hup.2) hup.1
              simp -implicitDefEqProofs -dsimp (maxSteps := 1000000) (disch := first | omega | (simp only [wkLen]; omega) | decide +kernel) only [↓wkPre, ↓wkPre2, ↓wkE, wkPost, wkDef, wkF, simprocAttr, nn_v, e8, f1, f2]
              exact hq _ _ (f3 _).1 (f3 _).2
            · exact (hv'.set (fun e => (hqv _ (hvb _ e)).1 rfl)).set (fun e => (hqv _ (hvb _ e)).2 rfl)
    · by_cases k8 : ok = 8
      · subst k8
        simp -implicitDefEqProofs -dsimp (maxSteps := 1000000) (disch := first | omega | (simp only [wkLen]; omega) | decide +kernel) only [↓wkPre, ↓wkPre2, ↓wkE, wkPost, wkDef, wkF, simprocAttr, nn_v, e0, e1, e2, e7, e8, ga]
        have hGl := hG.r1 x List.mem_cons_self
        refine imp_call md_42 (w31 hG ha x.who hGl hL _ ?_)
        intro G1 g1 E1 q1 q2 q3 q4
        obtain ⟨c1, c2⟩ := hG.com q3 (by omega) (Nat.le_refl _) q1 q2 rfl
        obtain ⟨G3, hd, d1, d2⟩ := FI.del c1
        replace hd := congrArg noRes hd
        rw [nrS] at hd
        obtain ⟨f1, f2, f3⟩ := fin (c2.trans d2) d1
        have gp1 : G1[pp]? = some (.var true (.agg [.map bm, .map bs])) := (q3 _ (lt_of gp)).trans gp
        have gp2 : ∀ y : Blk, (G1.set pp y)[pp]? = some y := fun y => hs_set (lt_of gp1)
        simp -implicitDefEqProofs -dsimp (maxSteps := 1000000) (disch := first | omega | (simp only [wkLen]; omega) | decide +kernel) only [↓wkPre, ↓wkPre2, ↓wkE, wkPost, wkDef, wkF, simprocAttr, nn_v, e0, e1, e2, e7, e8, gp1, gp2, hd, f1, f2]
        exact hq _ _ (f3 _).1 (f3 _).2
      · obtain ⟨G3, hd, d1, d2⟩ := FI.del hG
        replace hd := congrArg noRes hd
        rw [nrS] at hd
        obtain rfl : ok = 9 := by omega
        obtain ⟨f1, f2, f3⟩ := fin d2 d1
        simp -implicitDefEqProofs -dsimp (maxSteps := 1000000) (disch := first | omega | (simp only [wkLen]; omega) | decide +kernel) only [↓wkPre, ↓wkPre2, ↓wkE, wkPost, wkDef, wkF, simprocAttr, nn_v, e0, e1, e2, e7, e8, ga, gp, hd, f1, f2]
        exact hq _ _ (f3 _).1 (f3 _).2
end Go.Ev.F35
end
