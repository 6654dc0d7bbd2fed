/- A part of the proof: walks of the functions that the law calls. No condition. -/
import Derived.Test.YtffjakkofdgpbaaWalkB
set_option linter.all false
section
namespace Go.Ev.F12
open Go.Proofs Go.Ev Go.Sort
set_option maxRecDepth 100000
set_option linter.all false
theorem RchS.uniq {L : Arcs} {n : Int} {R S : List Int} (h : RchS L n R) (k : RchS L n S) : R = S := Rise.ext h.1 k.1 fun x => by rw [h.2, k.2]
def W4 : Arcs := [(1, 2), (2, 3), (3, 1), (2, 4)]
theorem rch_dec (L : Arcs) (n x : Int) : Rch L n x ↔ x ∈ rnd2 L n L.length := ((rnd2_end L n).2 x).symm
theorem find4 : PS Cf okf 9 [25] [arcs W4, U 2] (fun r => r = us [2, 3, 1]) := run_eq (args := [arcs W4, U 2]) extMono 400 (by decide +kernel)
theorem young4 : PS Cf okf 19 [3] [us [2, 3, 1], .fn 21 []] (fun r => r = I 1) := run_eq (args := [us [2, 3, 1], .fn 21 []]) extMono 400 (by decide +kernel)
theorem young0 : PS Cf okf 19 [3] [us [], .nfn] (fun r => r = I (-1)) := run_eq (args := [us [], .nfn]) extMono 400 (by decide +kernel)
theorem frz0 (l : Bool) (g s : Nat) (xs : List PV) : freezeIds [0] [.arr l g s xs] = [.arr false g s xs] := rfl
theorem W4c : [PV.agg [.int .u64 1, .int .u64 2], .agg [.int .u64 2, .int .u64 3], .agg [.int .u64 3, .int .u64 1], .agg [.int .u64 2, .int .u64 4]] = arcL W4 := rfl
/-! The plain law: a way round and how far. -/
theorem Cyc.of_wk {L : Arcs} {fr : Int} {k : Nat} (h : Wk L (k + 1) fr fr) : ∃ w, Cyc L fr w ∧ w.length = k + 1 := by
  obtain ⟨m, h1, h2⟩ := h
  obtain ⟨p, p1, p2, p3⟩ := h1.pth
  exact ⟨p, ⟨p1, by rw [p3]; exact h2⟩, p2⟩
theorem Cyc.wk {L : Arcs} {fr : Int} {c : List Int} (h : Cyc L fr c) : ∃ k, c.length = k + 1 ∧ Wk L (k + 1) fr fr := by
  obtain ⟨k, h1, h2⟩ := h.1.wk
  exact ⟨k, h1, _, h2, h.2⟩
theorem Pth.nth {L : Arcs} {fr : Int} {p : List Int} (h : Pth L fr p) : p[0]? = some fr ∧ (∀ (i : Nat) a b, p[i]? = some a → p[i + 1]? = some b → (a, b) ∈ L) ∧ p[p.length - 1]? = some (lastN p) := by
  induction h with
  | one => exact ⟨rfl, fun i a b h1 h2 => by simp at h2, rfl⟩
  | @more p t hp ha ih =>
    obtain ⟨h1, h2, h3⟩ := ih
    have hl : 0 < p.length := (List.getElem?_eq_some_iff.1 h1).1
    refine ⟨by rw [List.getElem?_append_left hl]; exact h1, fun i a b h4 h5 => ?_, by rw [lastN_snoc]; simp⟩
    have hi := (List.getElem?_eq_some_iff.1 h5).1
    simp at hi
    rcases Nat.lt_or_ge (i + 1) p.length with h6 | h6
    · rw [List.getElem?_append_left (by omega)] at h4 h5
      exact h2 i a b h4 h5
    · have : i + 1 = p.length := by omega
      rw [List.getElem?_append_left (by omega)] at h4
      rw [this] at h5
      simp at h5
      have : i = p.length - 1 := by omega
      rw [this, h3] at h4
      cases h4; subst h5
      exact ha
theorem Pth.src {L : Arcs} {fr : Int} {p : List Int} (h : Pth L fr p) : ∀ x ∈ p, x = lastN p ∨ x ∈ L.map (·.1) := by
  induction h with
  | one => intro x hx; left; rw [List.mem_singleton.1 hx]; rfl
  | @more p t hp ha ih =>
    intro x hx
    rw [lastN_snoc]
    rcases List.mem_append.1 hx with h | h
    · right
      rcases ih x h with h | h
      · exact List.mem_map.2 ⟨_, ha, h.symm⟩
      · exact h
    · left; exact List.mem_singleton.1 h
theorem Cyc.len {L : Arcs} {fr : Int} {c : List Int} (h : Cyc L fr c) (hn : c.Nodup) : c.length ≤ L.length := by
  have := hn.length_le_of_subset (l₂ := L.map (·.1)) fun x hx => by
    rcases h.1.src x hx with h1 | h1
    · exact List.mem_map.2 ⟨_, h.2, h1.symm⟩
    · exact h1
  simpa using this
theorem FindS.far {L : Arcs} {fr : Int} {c : List Int} {n : Nat} (h : FindS L fr c) (k : FarS L fr fr n) : c.length = n := by
  rcases h with ⟨rfl, h⟩ | ⟨h1, h2, h3⟩
  · rcases k with ⟨k1, _, k2, _⟩ | ⟨k1, _⟩
    · obtain ⟨j, rfl⟩ : ∃ j, n = j + 1 := ⟨n - 1, by omega⟩
      obtain ⟨w, hw, _⟩ := Cyc.of_wk k2
      exact absurd hw (h w)
    · exact k1.symm
  · obtain ⟨j, g1, g2⟩ := h1.wk
    have g3 := h1.len h2
    rcases k with ⟨k1, k2, k3, k4⟩ | ⟨_, k1⟩
    · obtain ⟨i, rfl⟩ : ∃ i, n = i + 1 := ⟨n - 1, by omega⟩
      obtain ⟨w, hw, hl⟩ := Cyc.of_wk k3
      have := (h3 w hw).len
      have : ¬ j + 1 < i + 1 := fun hlt => k4 (j + 1) (by omega) hlt g2
      omega
    · exact absurd g2 (k1 (j + 1) (by omega) (by omega))
theorem Rch.cyc {L : Arcs} {fr : Int} : Rch L fr fr ↔ ∃ w, Cyc L fr w := by
  constructor
  · rintro ⟨k, h1, h2⟩
    obtain ⟨j, rfl⟩ : ∃ j, k = j + 1 := ⟨k - 1, by omega⟩
    obtain ⟨w, hw, _⟩ := Cyc.of_wk h2
    exact ⟨w, hw⟩
  · rintro ⟨w, hw⟩
    obtain ⟨k, _, h⟩ := hw.wk
    exact ⟨k + 1, by omega, h⟩
theorem FindS.rch {L : Arcs} {fr : Int} {c : List Int} (h : FindS L fr c) : Rch L fr fr ↔ 0 < c.length := by
  rw [Rch.cyc]
  rcases h with ⟨rfl, h⟩ | ⟨h1, _⟩
  · simp [h]
  · obtain ⟨k, h2, _⟩ := h1.wk
    exact ⟨fun _ => by omega, fun _ => ⟨c, h1⟩⟩
theorem FindS.cl {L : Arcs} {fr : Int} {c : List Int} (h : FindS L fr c) : c.length ≤ L.length := by
  rcases h with ⟨rfl, _⟩ | ⟨h1, h2, _⟩
  · simp
  · exact h1.len h2
theorem p8 : PS Cf okf 8 [4] [] (fun r => r = B true) := by
  refine PS.mk extMono Try.func8 body8 (by decide) rfl ?_
  simp only [c8, Try.f8, Option.getD_some]
  simp -implicitDefEqProofs -dsimp (disch := first | omega | (simp only [wkLen]; omega) | decide +kernel) only [↓wkPre, ↓wkPre2, ↓wkE, wkPost, wkDef, wkF, simprocAttr]
  refine PS.app md_9 Try.func9 find4 rfl ?_
  rintro _ rfl
  simp -implicitDefEqProofs -dsimp (disch := first | omega | (simp only [wkLen]; omega) | decide +kernel) only [↓wkPre, ↓wkPre2, ↓wkE, wkPost, wkDef, wkF, simprocAttr, frz0, ids_ref]
  refine PS.app md_15 Try.func15 (p15 W4 (by decide) 1) rfl ?_
  rintro _ ⟨R, rfl, hR⟩
  obtain rfl : R = [1, 2, 3, 4] := hR.uniq ((by decide : rnd2 W4 1 W4.length = [1, 2, 3, 4]) ▸ rnd2_end W4 1)
  simp -implicitDefEqProofs -dsimp (disch := first | omega | (simp only [wkLen]; omega) | decide +kernel) only [↓wkPre, ↓wkPre2, ↓wkE, wkPost, wkDef, wkF, simprocAttr, frz0, ids_ref, usL]
  refine PS.app md_9 Try.func9 (p9 W4 (by decide) 4) rfl ?_
  rintro _ ⟨c4, rfl, hc4⟩
  obtain rfl : c4 = [] := by
    rcases hc4 with ⟨h, _⟩ | ⟨h, _⟩
    · exact h
    · exact absurd ((rch_dec W4 4 4).1 (Rch.cyc.2 ⟨_, h⟩)) (by decide)
  simp -implicitDefEqProofs -dsimp (disch := first | omega | (simp only [wkLen]; omega) | decide +kernel) only [↓wkPre, ↓wkPre2, ↓wkE, wkPost, wkDef, wkF, simprocAttr, frz0, ids_ref, usL]
  refine PS.app md_12 Try.func12 (p12 W4 (by decide) 3) rfl ?_
  rintro _ ⟨b, rfl, hb⟩
  obtain rfl : b = true := hb.2 ((rch_dec _ _ _).2 (by decide))
  simp -implicitDefEqProofs -dsimp (disch := first | omega | (simp only [wkLen]; omega) | decide +kernel) only [↓wkPre, ↓wkPre2, ↓wkE, wkPost, wkDef, wkF, simprocAttr, frz0, ids_ref, usL]
  refine PS.app md_12 Try.func12 (p12 W4 (by decide) 4) rfl ?_
  rintro _ ⟨b, rfl, hb⟩
  obtain rfl : b = false := by
    cases b
    · rfl
    · exact absurd ((rch_dec _ _ _).1 (hb.1 rfl)) (by decide)
  simp -implicitDefEqProofs -dsimp (disch := first | omega | (simp only [wkLen]; omega) | decide +kernel) only [↓wkPre, ↓wkPre2, ↓wkE, wkPost, wkDef, wkF, simprocAttr, frz0, ids_ref, usL]
  refine PS.app md_17 Try.func17 (p17 W4 (by decide)) rfl ?_
  rintro _ ⟨b, rfl, hb⟩
  obtain rfl : b = false := by
    cases b
    · rfl
    · exact absurd ((rch_dec W4 1 1).2 (by decide)) (hb.1 rfl (1, 2) (by decide))
  simp -implicitDefEqProofs -dsimp (disch := first | omega | (simp only [wkLen]; omega) | decide +kernel) only [↓wkPre, ↓wkPre2, ↓wkE, wkPost, wkDef, wkF, simprocAttr, frz0, ids_ref, usL]
  refine PS.app md_17 Try.func17 (p17 [(2, 3)] (by decide)) rfl ?_
  rintro _ ⟨b, rfl, hb⟩
  obtain rfl : b = true := hb.2 fun a ha => by
    rw [List.mem_singleton] at ha
    subst ha
    exact fun h => absurd ((rch_dec [(2, 3)] 2 2).1 h) (by decide)
  simp -implicitDefEqProofs -dsimp (disch := first | omega | (simp only [wkLen]; omega) | decide +kernel) only [↓wkPre, ↓wkPre2, ↓wkE, wkPost, wkDef, wkF, simprocAttr, frz0, ids_ref, usL]
  refine PS.app md_19 Try.func19 young4 rfl ?_
  rintro _ rfl
  simp -implicitDefEqProofs -dsimp (disch := first | omega | (simp only [wkLen]; omega) | decide +kernel) only [↓wkPre, ↓wkPre2, ↓wkE, wkPost, wkDef, wkF, simprocAttr, frz0, ids_ref, usL]
  refine PS.app md_19 Try.func19 young0 rfl ?_
  rintro _ rfl
  simp -implicitDefEqProofs -dsimp (disch := first | omega | (simp only [wkLen]; omega) | decide +kernel) only [↓wkPre, ↓wkPre2, ↓wkE, wkPost, wkDef, wkF, simprocAttr]
set_option maxHeartbeats 1000000 in
theorem finds (L : Arcs) (fr : Int) : (W Cf okf).call 3 [.p (arcs L), .p (U fr)] [] fun v _ => v = .p (.bool true) := by
  refine top_mk extMono Try.func3 body3 (by decide) rfl ?_
  simp only [c3, Try.f3, Option.getD_some]
  have hul := arcL_len L
  rcases Nat.lt_or_ge 40 L.length with h | h
  · simp -implicitDefEqProofs -dsimp (disch := first | omega | (simp only [wkLen]; omega) | decide +kernel) only [↓wkPre, ↓wkPre2, ↓wkE, wkPost, wkDef, wkF, simprocAttr, hul]
    refine PS.app md_8 Try.func8 p8 rfl ?_
    rintro _ rfl
    simp -implicitDefEqProofs -dsimp (disch := first | omega | (simp only [wkLen]; omega) | decide +kernel) only [↓wkPre, ↓wkPre2, ↓wkE, wkPost, wkDef, wkF, simprocAttr]
  · simp -implicitDefEqProofs -dsimp (disch := first | omega | (simp only [wkLen]; omega) | decide +kernel) only [↓wkPre, ↓wkPre2, ↓wkE, wkPost, wkDef, wkF, simprocAttr, hul]
    refine PS.app md_10 Try.func10 (p10 L (by omega)) rfl ?_
    rintro _ rfl
    simp -implicitDefEqProofs -dsimp (disch := first | omega | (simp only [wkLen]; omega) | decide +kernel) only [↓wkPre, ↓wkPre2, ↓wkE, wkPost, wkDef, wkF, simprocAttr]
    refine PS.app md_9 Try.func9 (p9 L h fr) rfl ?_
    rintro _ ⟨c, rfl, hc⟩
    simp -implicitDefEqProofs -dsimp (disch := first | omega | (simp only [wkLen]; omega) | decide +kernel) only [↓wkPre, ↓wkPre2, ↓wkE, wkPost, wkDef, wkF, simprocAttr]
    refine PS.app md_11 Try.func11 (p11 L fr fr (by omega)) rfl ?_
    rintro _ ⟨n, rfl, hn⟩
    have hcn := hc.far hn
    have hcl := hc.cl
    subst hcn
    have huc := usL_len c
    simp -implicitDefEqProofs -dsimp (disch := first | omega | (simp only [wkLen]; omega) | decide +kernel) only [↓wkPre, ↓wkPre2, ↓wkE, wkPost, wkDef, wkF, simprocAttr, huc]
    refine PS.app md_10 Try.func10 (p10 L (by omega)) rfl ?_
    rintro _ rfl
    simp -implicitDefEqProofs -dsimp (disch := first | omega | (simp only [wkLen]; omega) | decide +kernel) only [↓wkPre, ↓wkPre2, ↓wkE, wkPost, wkDef, wkF, simprocAttr]
    refine PS.app md_12 Try.func12 (p12 L h fr) rfl ?_
    rintro _ ⟨b, rfl, hb⟩
    rw [hc.rch] at hb
    obtain rfl : b = decide ((0 : Int) < (c.length : Int)) := by
      cases b
      · have : ¬ 0 < c.length := fun h => by have := hb.2 h; cases this
        exact (decide_eq_false (by omega)).symm
      · have := hb.1 rfl
        exact (decide_eq_true (by omega)).symm
    simp -implicitDefEqProofs -dsimp (disch := first | omega | (simp only [wkLen]; omega) | decide +kernel) only [↓wkPre, ↓wkPre2, ↓wkE, wkPost, wkDef, wkF, simprocAttr]
    refine loop_use extMono (fun m e H => ∃ i : Nat, m = c.length - i ∧ i ≤ c.length ∧ e 0 = .p (arcs L) ∧ e 1 = .p (U fr) ∧ e 5 = .p (us c) ∧ e 6 = .p (I c.length) ∧ e 7 = .p (I i)) ?_ c.length _ _ ⟨0, rfl, by omega, ?_⟩
    · rintro m e H ⟨i, rfl, hi, e0, e1, e5, e6, e7⟩
      rcases Nat.lt_or_ge i c.length with hlt | hge
      · rcases hc with ⟨rfl, _⟩ | ⟨⟨hp, ha⟩, hnd, _⟩
        · simp at hlt
        obtain ⟨n1, n2, n3⟩ := hp.nth
        have hc0 : 0 < c.length := by omega
        have gi := usL_get hlt
        obtain ⟨j, hj, hjl, harc⟩ : ∃ j : Nat, ((i : Int) + 1) % (c.length : Int) = (j : Int) ∧ ∃ hj : j < c.length, (c[i], c[j]) ∈ L := by
          rcases Nat.lt_or_ge (i + 1) c.length with h2 | h2
          · exact ⟨i + 1, by rw [Int.emod_eq_of_lt (by omega) (by omega)]; push_cast; rfl, h2, n2 i _ _ (by simp [hlt]) (by simp [h2])⟩
          · refine ⟨0, ?_, hc0, ?_⟩
            · have : (i : Int) + 1 = (c.length : Int) := by omega
              rw [this, Int.emod_self]; rfl
            · have hi1 : i = c.length - 1 := by omega
              have e1 : c[i] = lastN c := by
                have h3 : c[i]? = some c[i] := by simp [hlt]
                rw [← hi1, h3] at n3
                exact Option.some.inj n3
              have e2 : c[0] = fr := by
                have h3 : c[0]? = some c[0] := by simp [hc0]
                rw [n1] at h3
                exact (Option.some.inj h3).symm
              rw [e1, e2]; exact ha
        have gj := usL_get hjl
        simp -implicitDefEqProofs -dsimp (disch := first | omega | (simp only [wkLen]; omega) | decide +kernel) only [↓wkPre, ↓wkPre2, ↓wkE, wkPost, wkDef, wkF, simprocAttr, e0, e1, e5, e6, e7, huc, gi, gj, hj]
        refine PS.app md_13 Try.func13 (p13 L c[i] c[j] (by omega)) rfl ?_
        rintro _ rfl
        simp -implicitDefEqProofs -dsimp (disch := first | omega | (simp only [wkLen]; omega) | decide +kernel) only [↓wkPre, ↓wkPre2, ↓wkE, wkPost, wkDef, wkF, simprocAttr, e0, e1, e5, e6, e7, decide_eq_true harc]
        refine loop_use extMono (fun m e Hd => ∃ k : Nat, m = i - k ∧ k ≤ i ∧ e 0 = .p (arcs L) ∧ e 1 = .p (U fr) ∧ e 5 = .p (us c) ∧ e 6 = .p (I c.length) ∧ e 7 = .p (I i) ∧ e 8 = .p (I k)) ?_ i _ _ ⟨0, rfl, by omega, ?_⟩
        · rintro m e Hd ⟨k, rfl, hk, e0, e1, e5, e6, e7, e8⟩
          rcases Nat.lt_or_ge k i with hki | hki
          · have gk := usL_get (show k < c.length by omega)
            have hne : (c[k] == c[i]) = false := by
              have := List.pairwise_iff_getElem.1 hnd k i (by omega) hlt hki
              simpa using this
            simp -implicitDefEqProofs -dsimp (disch := first | omega | (simp only [wkLen]; omega) | decide +kernel) only [↓wkPre, ↓wkPre2, ↓wkE, wkPost, wkDef, wkF, simprocAttr, e0, e1, e5, e6, e7, e8, huc, gk, gi, hne]
            exact ⟨i - (k + 1), by omega, k + 1, rfl, by omega, by push_cast; rfl⟩
          · obtain rfl : k = i := by omega
            simp -implicitDefEqProofs -dsimp (disch := first | omega | (simp only [wkLen]; omega) | decide +kernel) only [↓wkPre, ↓wkPre2, ↓wkE, wkPost, wkDef, wkF, simprocAttr, e0, e1, e5, e6, e7, e8]
            exact ⟨c.length - (k + 1), by omega, k + 1, rfl, by omega, by push_cast; rfl⟩
        · simp -implicitDefEqProofs -dsimp (disch := first | omega | (simp only [wkLen]; omega) | decide +kernel) only [↓wkPre, ↓wkPre2, ↓wkE, wkPost, wkDef, wkF, simprocAttr, e0, e1, e5, e6, e7]
      · obtain rfl : i = c.length := by omega
        rcases hc with ⟨rfl, _⟩ | ⟨⟨hp, ha⟩, hnd, _⟩
        · simp -implicitDefEqProofs -dsimp (disch := first | omega | (simp only [wkLen]; omega) | decide +kernel) only [↓wkPre, ↓wkPre2, ↓wkE, wkPost, wkDef, wkF, simprocAttr, e0, e1, e5, e6, e7, huc]
          refine PS.app md_8 Try.func8 p8 rfl ?_
          rintro _ rfl
          simp -implicitDefEqProofs -dsimp (disch := first | omega | (simp only [wkLen]; omega) | decide +kernel) only [↓wkPre, ↓wkPre2, ↓wkE, wkPost, wkDef, wkF, simprocAttr]
        · obtain ⟨n1, n2, n3⟩ := hp.nth
          have hc0 : 0 < c.length := (List.getElem?_eq_some_iff.1 n1).1
          have hz : ((c.length : Int) == 0) = false := beq_eq_false_iff_ne.2 (by omega)
          have g0 : (usL c)[0]? = some (.int .u64 fr) := by simp [usL, n1]
          simp -implicitDefEqProofs -dsimp (disch := first | omega | (simp only [wkLen]; omega) | decide +kernel) only [↓wkPre, ↓wkPre2, ↓wkE, wkPost, wkDef, wkF, simprocAttr, e0, e1, e5, e6, e7, huc, hz, g0]
          refine PS.app md_8 Try.func8 p8 rfl ?_
          rintro _ rfl
          simp -implicitDefEqProofs -dsimp (disch := first | omega | (simp only [wkLen]; omega) | decide +kernel) only [↓wkPre, ↓wkPre2, ↓wkE, wkPost, wkDef, wkF, simprocAttr]
    · simp -implicitDefEqProofs -dsimp (disch := first | omega | (simp only [wkLen]; omega) | decide +kernel) only [↓wkPre, ↓wkPre2, ↓wkE, wkPost, wkDef, wkF, simprocAttr]
theorem arcs_list : ∀ {xs : List PV}, (∀ y ∈ xs, y.shape = 2 ∧ Tyds [.int .u64, .int .u64] y.cells) → ∃ L : Arcs, xs = arcL L
  | [], _ => ⟨[], rfl⟩
  | y :: ys, h => by
    obtain ⟨L, rfl⟩ := arcs_list (xs := ys) fun z hz => h z (by simp [hz])
    obtain ⟨h0, h1⟩ := h y (by simp)
    simp only [Tyds, Tyd] at h1
    obtain ⟨a, r, hc, ⟨n, rfl, _⟩, b, r', rfl, ⟨m, rfl, _⟩, rfl⟩ := h1
    refine ⟨(n, m) :: L, ?_⟩
    cases y with
    | agg xs => simp [PV.cells] at hc; subst hc; rfl
    | _ => simp [PV.shape] at h0
theorem law_args {xs : List PV} (h : Tyas [(0, [Ty.sl 2 [Ty.int .u64, Ty.int .u64]]), (0, [Ty.int .u64])] xs) : ∃ (L : Arcs) (fr : Int), xs = [arcs L, U fr] := by
  simp only [Tyas] at h
  obtain ⟨x2, r2, rfl, h2, xa, ra, rfl, ha, rfl⟩ := h
  have h3 := Tya_one h2
  simp only [Tyd] at h3
  obtain ⟨ys, rfl, _, h4⟩ := h3
  obtain ⟨L, rfl⟩ := arcs_list h4
  obtain ⟨a, rfl, _⟩ := Tya_one ha
  exact ⟨L, a, rfl⟩
theorem lawCycleFinds : ∀ xs, Tyas [(0, [Ty.sl 2 [Ty.int .u64, Ty.int .u64]]), (0, [Ty.int .u64])] xs → (Ev.W Cf okf).call 3 (xs.map AV.p) [] fun v _ => v = .p (.bool true) := by
  intro xs h
  obtain ⟨L, fr, rfl⟩ := law_args h
  exact finds L fr
end Go.Ev.F12
end
section
namespace Go.Ev.F12
open Go.Proofs Go.Ev Go.Sort
set_option maxRecDepth 100000
set_option linter.all false
def upA (a : Int × Int) : Int × Int := if a.2 < a.1 then (a.2, a.1) else a
def upS (L : Arcs) : Arcs := (L.map upA).filter fun a => decide (a.1 ≠ a.2)
theorem upS_lt (L : Arcs) : ∀ a ∈ upS L, a.1 < a.2 := by
  intro a ha
  obtain ⟨h1, h2⟩ := List.mem_filter.1 ha
  obtain ⟨b, _, rfl⟩ := List.mem_map.1 h1
  unfold upA at h2 ⊢
  split
  · assumption
  · rename_i h
    rw [if_neg h] at h2
    simp at h2; omega
theorem wk_up {L : Arcs} (h : ∀ a ∈ L, a.1 < a.2) : ∀ {k : Nat} {a b : Int}, Wk L (k + 1) a b → a < b
  | 0, a, b, ⟨m, h1, h2⟩ => by cases h1; exact h _ h2
  | k + 1, a, b, ⟨m, h1, h2⟩ => by
    have := wk_up h h1
    have := h _ h2
    simp only at this
    omega
theorem rch_up {L : Arcs} (h : ∀ a ∈ L, a.1 < a.2) {a b : Int} (hr : Rch L a b) : a < b := by
  obtain ⟨k, hk, hw⟩ := hr
  obtain ⟨j, rfl⟩ : ∃ j, k = j + 1 := ⟨k - 1, by omega⟩
  exact wk_up h hw
theorem upS_take {L : Arcs} {i : Nat} (h : i < L.length) : upS (L.take (i + 1)) = upS (L.take i) ++ if (upA L[i]).1 = (upA L[i]).2 then [] else [upA L[i]] := by
  unfold upS
  rw [List.take_succ_eq_append_getElem h, List.map_append, List.filter_append]
  congr 1
  by_cases hc : (upA L[i]).1 = (upA L[i]).2
  · simp [hc]
  · simp [hc]
theorem upS_len (L : Arcs) : (upS L).length ≤ L.length := by
  unfold upS
  exact Nat.le_trans (List.length_filter_le _ _) (by simp)
theorem arcL_snoc (L : Arcs) (a : Int × Int) : arcL (L ++ [a]) = arcL L ++ [.agg [.int .u64 a.1, .int .u64 a.2]] := by simp only [arcL, List.map_append, List.map_cons, List.map_nil, arc]
theorem own_frz {H : Heap} {w : AV} {L : Arcs} (h : OwnS H w 2 (arcL L)) (t : TypeId) (ht : telem Try.prog t = some (34, 2)) : frzN Try.prog H 4 t w = some (arcs L) := frz_own ht h
/-- A slice that is only read, or nil. -/
def RN (H : Heap) (v : AV) (sh : Nat) (xs : List PV) : Prop := (v = .nsl ∧ xs = []) ∨ RV H v sh xs
theorem RN.own {H : Heap} {v : AV} {sh : Nat} {xs : List PV} (h : OwnS H v sh xs) : RN H v sh xs := by
  rcases h with h | ⟨b, g, rfl, hb⟩
  · exact .inl h
  · exact .inr (.inr ⟨b, g, true, rfl, hb⟩)
theorem RN.frz {P : Program} {H : Heap} {v : AV} {sh n : Nat} {t e : TypeId} {xs : List PV} (ht : telem P t = some (e, sh)) (h : RN H v sh xs) : frzN P H n t v = some (.sl sh xs) := by
  rcases h with ⟨rfl, rfl⟩ | h
  · rw [frzN_nsl, ht]; rfl
  · exact h.frz
theorem RN.ids {H : Heap} {v : AV} {sh : Nat} {xs : List PV} (h : RN H v sh xs) : ∀ b ∈ ids 4 v, ∃ l g s ys, H[b]? = some (.arr l g s ys) := by
  rcases h with ⟨rfl, rfl⟩ | h
  · rw [ids_nsl]; intro b hb; cases hb
  · exact h.ids
theorem RN.keep {H H' : Heap} {v : AV} {sh : Nat} {xs : List PV} (h : RN H v sh xs) (k : ∀ v sh xs, RV H v sh xs → RV H' v sh xs) : RN H' v sh xs := by
  rcases h with h | h
  · exact .inl h
  · exact .inr (k _ _ _ h)
/-- The program's own arcs, of a slice. -/
theorem own_app {H : Heap} {w : AV} {S : Arcs} {k : AV → Heap → Prop} {t : Tag k} (hS : S.length ≤ 1000) (h : RN H w 2 (arcL S)) (hk : ∀ H', RN H' w 2 (arcL S) → k (.p (arcs S)) H') : evCallT Cf (W Cf okf) 10 [w] H k t := by
  refine PS.appR md_10 Try.func10 (p10 S hS) (by show frzL (frzN Try.prog H 4) [w] [22] = _; simp [frzL, h.frz telem_22]) ?_ ?_
  · intro b hb
    simp only [List.flatMap_cons, List.flatMap_nil, List.append_nil] at hb
    exact h.ids b hb
  · rintro _ H' rfl _ _ hr
    exact hk H' (h.keep hr)
set_option maxHeartbeats 1000000 in
theorem nones (L : Arcs) (fr : Int) : (W Cf okf).call 7 [.p (arcs L), .p (U fr)] [] fun v _ => v = .p (.bool true) := by
  refine top_mk extMono Try.func7 body7 (by decide) rfl ?_
  simp only [c7, Try.f7, Option.getD_some]
  have hul := arcL_len L
  rcases Nat.lt_or_ge 40 L.length with h | h
  · simp -implicitDefEqProofs -dsimp (disch := first | omega | (simp only [wkLen]; omega) | decide +kernel) only [↓wkPre, ↓wkPre2, ↓wkE, wkPost, wkDef, wkF, simprocAttr, hul]
    refine PS.app md_8 Try.func8 p8 rfl ?_
    rintro _ rfl
    simp -implicitDefEqProofs -dsimp (disch := first | omega | (simp only [wkLen]; omega) | decide +kernel) only [↓wkPre, ↓wkPre2, ↓wkE, wkPost, wkDef, wkF, simprocAttr]
  · simp -implicitDefEqProofs -dsimp (disch := first | omega | (simp only [wkLen]; omega) | decide +kernel) only [↓wkPre, ↓wkPre2, ↓wkE, wkPost, wkDef, wkF, simprocAttr, hul]
    refine loop_use extMono (fun m e H => ∃ (i : Nat) (w : AV), m = L.length - i ∧ i ≤ L.length ∧ e 0 = .p (arcs L) ∧ e 1 = .p (U fr) ∧ e 5 = w ∧ e 6 = .p (I i) ∧ OwnS H w 2 (arcL (upS (L.take i)))) ?_ L.length _ _ ⟨0, .nsl, rfl, by omega, ?_⟩
    · rintro m e H ⟨i, w, rfl, hi, e0, e1, e5, e6, hown⟩
      have hb : (arcL (upS (L.take i))).length ≤ L.length := by rw [arcL_len]; exact Nat.le_trans (upS_len _) (by rw [List.length_take]; omega)
      rcases Nat.lt_or_ge i L.length with hlt | hge
      · have gi := arcL_get hlt
        have ht := upS_take hlt
        have hby : Program.bytesOf Try.prog 34 = 16 := by decide +kernel
        by_cases hgt : L[i].2 < L[i].1
        · have hu : upA L[i] = (L[i].2, L[i].1) := if_pos hgt
          have hne : (L[i].2 == L[i].1) = false := by simp; omega
          rw [hu, if_neg (by simp only; omega)] at ht
          simp -implicitDefEqProofs -dsimp (disch := first | omega | (simp only [wkLen]; omega) | decide +kernel) only [↓wkPre, ↓wkPre2, ↓wkE, wkPost, wkDef, wkF, simprocAttr, e0, e1, e5, e6, hul, gi, hne]
          refine append_step telem_22 (elems_new2 rfl rfl) (by simp) (hown.app _) ?_ ?_
          · rw [hby]; simp; omega
          intro w' H' hown' hfr hle hb'
          simp -implicitDefEqProofs -dsimp (disch := first | omega | (simp only [wkLen]; omega) | decide +kernel) only [↓wkPre, ↓wkPre2, ↓wkE, wkPost, wkDef, wkF, simprocAttr, e0, e1, e5, e6]
          exact ⟨L.length - (i + 1), by omega, i + 1, w', rfl, by omega, rfl, by push_cast; rfl, by rw [ht, arcL_snoc]; exact hown'⟩
        · have hu : upA L[i] = L[i] := if_neg hgt
          rw [hu] at ht
          by_cases heq : L[i].1 = L[i].2
          · have hne : (L[i].1 == L[i].2) = true := by simp [heq]
            rw [if_pos heq, List.append_nil] at ht
            simp -implicitDefEqProofs -dsimp (disch := first | omega | (simp only [wkLen]; omega) | decide +kernel) only [↓wkPre, ↓wkPre2, ↓wkE, wkPost, wkDef, wkF, simprocAttr, e0, e1, e5, e6, hul, gi, hne]
            exact ⟨L.length - (i + 1), by omega, i + 1, w, rfl, by omega, rfl, by push_cast; rfl, by rw [ht]; exact hown.app _⟩
          · have hne : (L[i].1 == L[i].2) = false := by simp [heq]
            rw [if_neg heq] at ht
            simp -implicitDefEqProofs -dsimp (disch := first | omega | (simp only [wkLen]; omega) | decide +kernel) only [↓wkPre, ↓wkPre2, ↓wkE, wkPost, wkDef, wkF, simprocAttr, e0, e1, e5, e6, hul, gi, hne]
            refine append_step telem_22 (elems_new2 rfl rfl) (by simp) (hown.app _) ?_ ?_
            · rw [hby]; simp; omega
            intro w' H' hown' hfr hle hb'
            simp -implicitDefEqProofs -dsimp (disch := first | omega | (simp only [wkLen]; omega) | decide +kernel) only [↓wkPre, ↓wkPre2, ↓wkE, wkPost, wkDef, wkF, simprocAttr, e0, e1, e5, e6]
            exact ⟨L.length - (i + 1), by omega, i + 1, w', rfl, by omega, rfl, by push_cast; rfl, by rw [ht, arcL_snoc]; exact hown'⟩
      · obtain rfl : i = L.length := by omega
        rw [List.take_length] at hown
        have hup := upS_lt L
        have hul2 := upS_len L
        generalize upS L = S at *
        simp -implicitDefEqProofs -dsimp (disch := first | omega | (simp only [wkLen]; omega) | decide +kernel) only [↓wkPre, ↓wkPre2, ↓wkE, wkPost, wkDef, wkF, simprocAttr, e0, e1, e5, e6, hul]
        refine own_app (by omega) (RN.own hown) fun H1 hr1 => ?_
        simp -implicitDefEqProofs -dsimp (disch := first | omega | (simp only [wkLen]; omega) | decide +kernel) only [↓wkPre, ↓wkPre2, ↓wkE, wkPost, wkDef, wkF, simprocAttr, e0, e1, e5]
        refine PS.app md_15 Try.func15 (p15 S (by omega) fr) rfl ?_
        rintro _ ⟨R, rfl, hR⟩
        simp -implicitDefEqProofs -dsimp (disch := first | omega | (simp only [wkLen]; omega) | decide +kernel) only [↓wkPre, ↓wkPre2, ↓wkE, wkPost, wkDef, wkF, simprocAttr, e0, e1, e5]
        have hur := usL_len R
        have hRl : R.length ≤ S.length := by
          rw [hR.uniq (rnd2_end S fr)]; exact rnd2_len _ _ _
        refine loop_use extMono (fun m e Hc => ∃ i : Nat, m = R.length - i ∧ i ≤ R.length ∧ e 1 = .p (U fr) ∧ e 5 = w ∧ e 8 = .p (us R) ∧ e 9 = .p (I i) ∧ RN Hc w 2 (arcL S)) ?_ R.length _ _ ⟨0, rfl, by omega, ?_⟩
        · rintro m e Hc ⟨i, rfl, hi, e1, e5, e8, e9, hr⟩
          rcases Nat.lt_or_ge i R.length with hlt | hge
          · have gi := usL_get hlt
            have hgt : fr < R[i] := rch_up hup ((hR.2 _).1 (List.getElem_mem hlt))
            simp -implicitDefEqProofs -dsimp (disch := first | omega | (simp only [wkLen]; omega) | decide +kernel) only [↓wkPre, ↓wkPre2, ↓wkE, wkPost, wkDef, wkF, simprocAttr, e1, e5, e8, e9, hur, gi]
            exact ⟨R.length - (i + 1), by omega, i + 1, rfl, by omega, by push_cast; rfl, hr⟩
          · obtain rfl : i = R.length := by omega
            simp -implicitDefEqProofs -dsimp (disch := first | omega | (simp only [wkLen]; omega) | decide +kernel) only [↓wkPre, ↓wkPre2, ↓wkE, wkPost, wkDef, wkF, simprocAttr, e1, e5, e8, e9, hur]
            refine own_app (by omega) hr fun H2 hr2 => ?_
            simp -implicitDefEqProofs -dsimp (disch := first | omega | (simp only [wkLen]; omega) | decide +kernel) only [↓wkPre, ↓wkPre2, ↓wkE, wkPost, wkDef, wkF, simprocAttr, e1, e5]
            refine PS.app md_12 Try.func12 (p12 S (by omega) fr) rfl ?_
            rintro _ ⟨b, rfl, hb⟩
            have hnr : ¬ Rch S fr fr := fun h => by have := rch_up hup h; omega
            obtain rfl : b = false := by
              cases b
              · rfl
              · exact absurd (hb.1 rfl) hnr
            simp -implicitDefEqProofs -dsimp (disch := first | omega | (simp only [wkLen]; omega) | decide +kernel) only [↓wkPre, ↓wkPre2, ↓wkE, wkPost, wkDef, wkF, simprocAttr, e1, e5]
            refine own_app (by omega) hr2 fun H3 hr3 => ?_
            simp -implicitDefEqProofs -dsimp (disch := first | omega | (simp only [wkLen]; omega) | decide +kernel) only [↓wkPre, ↓wkPre2, ↓wkE, wkPost, wkDef, wkF, simprocAttr, e1, e5]
            refine PS.app md_9 Try.func9 (p9 S (by omega) fr) rfl ?_
            rintro _ ⟨c, rfl, hc⟩
            have hc0 : c = [] := by
              have := hc.rch
              have h0 : ¬ 0 < c.length := fun h => hnr (this.2 h)
              exact List.eq_nil_of_length_eq_zero (by omega)
            subst hc0
            simp -implicitDefEqProofs -dsimp (disch := first | omega | (simp only [wkLen]; omega) | decide +kernel) only [↓wkPre, ↓wkPre2, ↓wkE, wkPost, wkDef, wkF, simprocAttr, e1, e5, usL]
            refine own_app (by omega) hr3 fun H4 hr4 => ?_
            simp -implicitDefEqProofs -dsimp (disch := first | omega | (simp only [wkLen]; omega) | decide +kernel) only [↓wkPre, ↓wkPre2, ↓wkE, wkPost, wkDef, wkF, simprocAttr, e1, e5]
            refine PS.app md_17 Try.func17 (p17 S (by omega)) rfl ?_
            rintro _ ⟨b, rfl, hb⟩
            obtain rfl : b = true := hb.2 fun a ha h => by have := rch_up hup h; omega
            simp -implicitDefEqProofs -dsimp (disch := first | omega | (simp only [wkLen]; omega) | decide +kernel) only [↓wkPre, ↓wkPre2, ↓wkE, wkPost, wkDef, wkF, simprocAttr, e1, e5]
            refine PS.app md_8 Try.func8 p8 rfl ?_
            rintro _ rfl
            simp -implicitDefEqProofs -dsimp (disch := first | omega | (simp only [wkLen]; omega) | decide +kernel) only [↓wkPre, ↓wkPre2, ↓wkE, wkPost, wkDef, wkF, simprocAttr]
        · simp -implicitDefEqProofs -dsimp (disch := first | omega | (simp only [wkLen]; omega) | decide +kernel) only [↓wkPre, ↓wkPre2, ↓wkE, wkPost, wkDef, wkF, simprocAttr, e1, e5]
          exact hr1
    · simp -implicitDefEqProofs -dsimp (disch := first | omega | (simp only [wkLen]; omega) | decide +kernel) only [↓wkPre, ↓wkPre2, ↓wkE, wkPost, wkDef, wkF, simprocAttr]
      exact OwnS.nil _ _
theorem lawCycleNone : ∀ xs, Tyas [(0, [Ty.sl 2 [Ty.int .u64, Ty.int .u64]]), (0, [Ty.int .u64])] xs → (Ev.W Cf okf).call 7 (xs.map AV.p) [] fun v _ => v = .p (.bool true) := by
  intro xs h
  obtain ⟨L, fr, rfl⟩ := law_args h
  exact nones L fr
end Go.Ev.F12
end
