/- A part of the proof: walks of the functions that the law calls. No condition. -/
import Derived.Test.YtdcialefdfalfaaEndsW
set_option linter.all false
section
namespace Go.Ev.F15
open Go.Proofs Go.Ev Go.Sort
set_option maxRecDepth 100000
set_option linter.all false
def Good (l : List Int) : Prop := l.length ≤ 7 ∧ Rise l ∧ InR l
theorem cut_good {l : List Int} (h : Good l) {x : Int} (hx : 0 ≤ x ∧ x ≤ 4294967295) : Good (cutS l x).1 := by
  obtain ⟨h7, hr, hR⟩ := h
  unfold cutS
  split
  · exact ⟨h7, hr, hR⟩
  · rename_i hc
    split
    · exact ⟨h7, hr, hR⟩
    · rename_i hl
      have hi := at_iff (x := x) hr
      have hle := atL_le l x
      refine ⟨by simp; omega, ?_, fun y hy => ?_⟩
      · refine List.pairwise_append.2 ⟨hr.sublist (List.take_sublist _ _), List.pairwise_cons.2 ⟨fun y hy => ?_, hr.sublist (List.drop_sublist _ _)⟩, fun a ha b hb => ?_⟩
        · obtain ⟨k, hk, rfl⟩ := List.getElem_of_mem hy
          simp only [List.length_drop] at hk
          rw [List.getElem_drop]
          have := mt (hi (atL l x + k) (by omega)).2 (by omega)
          omega
        · obtain ⟨k, hk, rfl⟩ := List.getElem_of_mem ha
          simp only [List.length_take] at hk
          rw [List.getElem_take]
          have h1 := (hi k (by omega)).1 (by omega)
          have h2 : l[k] ≠ x := fun e => hc (.inr (e ▸ List.getElem_mem _))
          rcases List.mem_cons.1 hb with rfl | hb
          · omega
          · obtain ⟨j, hj, rfl⟩ := List.getElem_of_mem hb
            simp only [List.length_drop] at hj
            rw [List.getElem_drop]
            exact List.pairwise_iff_getElem.1 hr k (atL l x + j) (by omega) (by omega) (by omega)
      · rcases List.mem_append.1 hy with hy | hy
        · exact hR y (List.mem_of_mem_take hy)
        · rcases List.mem_cons.1 hy with rfl | hy
          · exact ⟨by have : y ≠ 0 := fun e => hc (.inl e); omega, by omega⟩
          · exact hR y (List.mem_of_mem_drop hy)
set_option maxHeartbeats 2000000 in
theorem cuts (l more : List Int) (x : Int) (hu : ∀ y ∈ l, 0 ≤ y ∧ y ≤ 4294967295) (hm : ∀ y ∈ more, 0 ≤ y ∧ y ≤ 4294967295) : (W Cf okf).call 3 [.p (es l), .p (es more), .p (E x)] [] fun v _ => v = .p (.bool true) := by
  refine top_mk extMono Try.func3 body3 (by decide) rfl ?_
  simp only [c3, Try.f3, Option.getD_some, List.append_eq, List.cons_append, List.nil_append]
  have hul := esL_len l
  have hum := esL_len more
  by_cases h1 : 30 < l.length
  · simp -implicitDefEqProofs -dsimp (disch := first | omega | (simp only [wkLen]; omega) | decide +kernel) only [↓wkPre, ↓wkPre2, ↓wkE, wkPost, wkDef, wkF, simprocAttr, hul]
    refine PS.app md_7 Try.func7 p7 rfl ?_
    rintro _ rfl
    simp -implicitDefEqProofs -dsimp (disch := first | omega | (simp only [wkLen]; omega) | decide +kernel) only [↓wkPre, ↓wkPre2, ↓wkE, wkPost, wkDef, wkF, simprocAttr]
  by_cases h2 : 30 < more.length
  · simp -implicitDefEqProofs -dsimp (disch := first | omega | (simp only [wkLen]; omega) | decide +kernel) only [↓wkPre, ↓wkPre2, ↓wkE, wkPost, wkDef, wkF, simprocAttr, hul, hum]
    refine PS.app md_7 Try.func7 p7 rfl ?_
    rintro _ rfl
    simp -implicitDefEqProofs -dsimp (disch := first | omega | (simp only [wkLen]; omega) | decide +kernel) only [↓wkPre, ↓wkPre2, ↓wkE, wkPost, wkDef, wkF, simprocAttr]
  simp -implicitDefEqProofs -dsimp (disch := first | omega | (simp only [wkLen]; omega) | decide +kernel) only [↓wkPre, ↓wkPre2, ↓wkE, wkPost, wkDef, wkF, simprocAttr, hul, hum]
  refine PS.app md_8 Try.func8 (p8 l) rfl ?_
  rintro _ (⟨hri, rfl⟩ | ⟨hri, rfl⟩)
  · simp -implicitDefEqProofs -dsimp (disch := first | omega | (simp only [wkLen]; omega) | decide +kernel) only [↓wkPre, ↓wkPre2, ↓wkE, wkPost, wkDef, wkF, simprocAttr]
    refine PS.app md_9 Try.func9 (p9 l (by omega)) rfl ?_
    rintro _ ⟨b, rfl, hb⟩
    obtain rfl : b = true := hb.2 hri
    have hg : Good l := ⟨hri.1, hri.2.2, fun y hy => by have := hri.2.1 y hy; have := hu y hy; omega⟩
    simp -implicitDefEqProofs -dsimp (disch := first | omega | (simp only [wkLen]; omega) | decide +kernel) only [↓wkPre, ↓wkPre2, ↓wkE, wkPost, wkDef, wkF, simprocAttr]
    refine loop_use extMono (fun m e H => ∃ (i : Nat) (r : List Int), m = more.length - i ∧ i ≤ more.length ∧ e 1 = .p (es more) ∧ e 2 = .p (E x) ∧ e 7 = .vptr 0 0 ∧ e 9 = .p (es r) ∧ e 10 = .p (I i) ∧ H[0]? = some (.var true (.p (sc r))) ∧ Good r) ?_ more.length _ _ ⟨0, l, rfl, by omega, ?_⟩
    · rintro m e H ⟨i, r, rfl, hi, e1, e2, e7, e9, e10, h0, hg⟩
      have hur := esL_len r
      have h7 := hg.1
      rcases Nat.lt_or_ge i more.length with h | h
      · have gi := esL_get h
        have hx := hm _ (List.getElem_mem h)
        simp -implicitDefEqProofs -dsimp (disch := first | omega | (simp only [wkLen]; omega) | decide +kernel) only [↓wkPre, ↓wkPre2, ↓evC_region_st [12], ↓evC_text_st [12], ↓evC_cond, ↓evC_block, ↓evC_stop [12], wkPost, wkDef, wkF, simprocAttr, e1, e2, e7, e9, e10, h0, hum, gi]
        have h0l : 0 < H.length := (List.getElem?_eq_some_iff.1 h0).1
        refine stop_cut extMono (fun e' H' => e' 1 = .p (es more) ∧ e' 2 = .p (E x) ∧ e' 7 = .vptr 0 0 ∧ e' 9 = .p (es r) ∧ e' 10 = .p (I i) ∧ e' 11 = .vptr H.length 0 ∧ e' 12 = .p (I (cutS r more[i]).2.1) ∧ e' 13 = .p (I (cutS r more[i]).2.2) ∧ H' = H ++ [.var true (.p (sc (cutS r more[i]).1))]) ?_ ?_
        · refine evC_pl pl_3_12 (by kernel_rfl) (by decide +kernel) ?_
          simp only [pl_3_12]
          simp -implicitDefEqProofs -dsimp (disch := first | omega | (simp only [wkLen]; omega) | decide +kernel) only [↓wkPre, ↓wkPre2, ↓wkE, wkPost, wkDef, wkF, simprocAttr, e1, e2, e7, e9, e10, h0, hum, gi]
          refine ⟨?_, ?_⟩
          · refine PS.app md_11 Try.func11 (p11 r more[i] h7 hg.2.1 hg.2.2 hx.1) rfl ?_
            rintro _ rfl
            generalize cutS r more[i] = c at *
            simp -implicitDefEqProofs -dsimp (disch := first | omega | (simp only [wkLen]; omega) | decide +kernel) only [↓wkPre, ↓wkPre2, ↓wkE, wkPost, wkDef, wkF, simprocAttr, e1, e2, e7, e9, e10, h0, hum, gi, PV.flat, flatL, freezeIds]
          · refine PS.app md_11 Try.func11 (p11 r more[i] h7 hg.2.1 hg.2.2 hx.1) rfl ?_
            rintro _ rfl
            generalize cutS r more[i] = c at *
            simp -implicitDefEqProofs -dsimp (disch := first | omega | (simp only [wkLen]; omega) | decide +kernel) only [↓wkPre, ↓wkPre2, ↓wkE, wkPost, wkDef, wkF, simprocAttr, e1, e2, e7, e9, e10, h0, hum, gi, PV.flat, flatL, freezeIds]
        rintro e H' ⟨e1, e2, e7, e9, e10, e11, e12, e13, rfl⟩
        have k0 : ∀ X, ((H ++ [X] : Heap))[0]? = some (.var true (.p (sc r))) := fun X => by rw [hs_app h0l]; exact h0
        have hg' := cut_good hg hx
        generalize hc : cutS r more[i] = c at *
        have kl : ((H ++ [.var true (.p (sc c.1))] : Heap))[H.length]? = some (.var true (.p (sc c.1))) := hs_at
        have ks : ∀ X, (((H ++ [.var true (.p (sc c.1))] : Heap)).set 0 X)[H.length]? = some (.var true (.p (sc c.1))) := fun X => by rw [hs_ne (by omega)]; exact hs_at
        have kset : ∀ X, (((H ++ [.var true (.p (sc c.1))] : Heap)).set 0 X)[0]? = some X := fun X => hs_set (by simp)
        have hk7 := hg'.1
        have huc := esL_len c.1
        simp -implicitDefEqProofs -dsimp (disch := first | omega | (simp only [wkLen]; omega) | decide +kernel) only [↓wkPre, ↓wkPre2, ↓wkE, wkPost, wkDef, wkF, simprocAttr, e1, e2, e7, e9, e10, e11, e12, e13, hum, gi, k0, kl, ks, kset]
        refine PS.app md_12 Try.func12 (p12 r more[i] (by omega)) rfl ?_
        rintro _ rfl
        rw [hc]
        simp -implicitDefEqProofs -dsimp (disch := first | omega | (simp only [wkLen]; omega) | decide +kernel) only [↓wkPre, ↓wkPre2, ↓wkE, wkPost, wkDef, wkF, simprocAttr, e1, e2, e7, e9, e10, e11, e12, e13, hum, gi, k0, kl, ks, kset, PV.flat, flatL, freezeIds]
        refine PS.app md_14 Try.func14 (p14 r (by omega)) rfl ?_
        rintro _ rfl
        simp -implicitDefEqProofs -dsimp (disch := first | omega | (simp only [wkLen]; omega) | decide +kernel) only [↓wkPre, ↓wkPre2, ↓wkE, wkPost, wkDef, wkF, simprocAttr, e1, e2, e7, e9, e10, e11, e12, e13, hum, gi, k0, kl, ks, kset, PV.flat, flatL, freezeIds]
        refine PS.app md_13 Try.func13 (p13 r r (by omega)) rfl ?_
        rintro _ rfl
        simp -implicitDefEqProofs -dsimp (disch := first | omega | (simp only [wkLen]; omega) | decide +kernel) only [↓wkPre, ↓wkPre2, ↓wkE, wkPost, wkDef, wkF, simprocAttr, e1, e2, e7, e9, e10, e11, e12, e13, hum, gi, k0, kl, ks, kset, PV.flat, flatL, freezeIds]
        refine PS.app md_14 Try.func14 (p14 c.1 (by omega)) rfl ?_
        rintro _ rfl
        simp -implicitDefEqProofs -dsimp (disch := first | omega | (simp only [wkLen]; omega) | decide +kernel) only [↓wkPre, ↓wkPre2, ↓wkE, wkPost, wkDef, wkF, simprocAttr, e1, e2, e7, e9, e10, e11, e12, e13, hum, gi, k0, kl, ks, kset, PV.flat, flatL, freezeIds]
        refine PS.app md_13 Try.func13 (p13 c.1 c.1 (by omega)) rfl ?_
        rintro _ rfl
        simp -implicitDefEqProofs -dsimp (disch := first | omega | (simp only [wkLen]; omega) | decide +kernel) only [↓wkPre, ↓wkPre2, ↓wkE, wkPost, wkDef, wkF, simprocAttr, e1, e2, e7, e9, e10, e11, e12, e13, hum, gi, k0, kl, ks, kset, huc]
        refine PS.app md_10 Try.func10 (p10 c.1 (by omega)) rfl ?_
        rintro _ rfl
        simp -implicitDefEqProofs -dsimp (disch := first | omega | (simp only [wkLen]; omega) | decide +kernel) only [↓wkPre, ↓wkPre2, ↓wkE, wkPost, wkDef, wkF, simprocAttr, e1, e2, e7, e9, e10, e11, e12, e13, hum, gi, k0, kl, ks, kset, huc]
        refine PS.app md_15 Try.func15 (p15 c.1 x (by omega) hg'.2.1) rfl ?_
        rintro _ rfl
        simp -implicitDefEqProofs -dsimp (disch := first | omega | (simp only [wkLen]; omega) | decide +kernel) only [↓wkPre, ↓wkPre2, ↓wkE, wkPost, wkDef, wkF, simprocAttr, e1, e2, e7, e9, e10, e11, e12, e13, hum, gi, k0, kl, ks, kset, huc]
        refine PS.app md_16 Try.func16 (p16 c.1 x (by omega)) rfl ?_
        rintro _ rfl
        simp -implicitDefEqProofs -dsimp (disch := first | omega | (simp only [wkLen]; omega) | decide +kernel) only [↓wkPre, ↓wkPre2, ↓wkE, wkPost, wkDef, wkF, simprocAttr, e1, e2, e7, e9, e10, e11, e12, e13, hum, gi, k0, kl, ks, kset, huc]
        exact ⟨more.length - (i + 1), by omega, i + 1, c.1, rfl, by omega, rfl, by push_cast; rfl, rfl, hg'⟩
      · obtain rfl : i = more.length := by omega
        simp -implicitDefEqProofs -dsimp (disch := first | omega | (simp only [wkLen]; omega) | decide +kernel) only [↓wkPre, ↓wkPre2, ↓wkE, wkPost, wkDef, wkF, simprocAttr, e1, e2, e7, e9, e10, h0, hum]
        refine PS.app md_15 Try.func15 (p15 r x (by omega) hg.2.1) rfl ?_
        rintro _ rfl
        simp -implicitDefEqProofs -dsimp (disch := first | omega | (simp only [wkLen]; omega) | decide +kernel) only [↓wkPre, ↓wkPre2, ↓wkE, wkPost, wkDef, wkF, simprocAttr, e1, e2, e7, e9, e10, h0, hum]
        refine PS.app md_16 Try.func16 (p16 r x (by omega)) rfl ?_
        rintro _ rfl
        simp -implicitDefEqProofs -dsimp (disch := first | omega | (simp only [wkLen]; omega) | decide +kernel) only [↓wkPre, ↓wkPre2, ↓wkE, wkPost, wkDef, wkF, simprocAttr, e1, e2, e7, e9, e10, h0, hum]
        refine PS.app md_7 Try.func7 p7 rfl ?_
        rintro _ rfl
        simp -implicitDefEqProofs -dsimp (disch := first | omega | (simp only [wkLen]; omega) | decide +kernel) only [↓wkPre, ↓wkPre2, ↓wkE, wkPost, wkDef, wkF, simprocAttr]
    · simp -implicitDefEqProofs -dsimp (disch := first | omega | (simp only [wkLen]; omega) | decide +kernel) only [↓wkPre, ↓wkPre2, ↓wkE, wkPost, wkDef, wkF, simprocAttr]
      exact hg
  · simp -implicitDefEqProofs -dsimp (disch := first | omega | (simp only [wkLen]; omega) | decide +kernel) only [↓wkPre, ↓wkPre2, ↓wkE, wkPost, wkDef, wkF, simprocAttr]
    refine PS.app md_9 Try.func9 (p9 l (by omega)) rfl ?_
    rintro _ ⟨b, rfl, hb⟩
    obtain rfl : b = false := by
      cases b
      · rfl
      · exact absurd (hb.1 rfl) hri
    simp -implicitDefEqProofs -dsimp (disch := first | omega | (simp only [wkLen]; omega) | decide +kernel) only [↓wkPre, ↓wkPre2, ↓wkE, wkPost, wkDef, wkF, simprocAttr]
    refine PS.app md_10 Try.func10 (p10 [] (by simp)) rfl ?_
    rintro _ rfl
    simp -implicitDefEqProofs -dsimp (disch := first | omega | (simp only [wkLen]; omega) | decide +kernel) only [↓wkPre, ↓wkPre2, ↓wkE, wkPost, wkDef, wkF, simprocAttr]
    refine PS.app md_7 Try.func7 p7 rfl ?_
    rintro _ rfl
    simp -implicitDefEqProofs -dsimp (disch := first | omega | (simp only [wkLen]; omega) | decide +kernel) only [↓wkPre, ↓wkPre2, ↓wkE, wkPost, wkDef, wkF, simprocAttr]
theorem lawScaleCuts : ∀ xs, Tyas [(0, [Ty.sl 0 [Ty.int .u32]]), (0, [Ty.sl 0 [Ty.int .u32]]), (0, [Ty.int .u32])] xs → (Ev.W Cf okf).call 3 (xs.map AV.p) [] fun v _ => v = .p (.bool true) := by
  intro xs h
  simp only [Tyas] at h
  obtain ⟨x1, r1, rfl, h1, x2, r2, rfl, h2, x3, r3, rfl, h3, rfl⟩ := h
  obtain ⟨l, rfl, _, hu⟩ := u32_args h1
  obtain ⟨m, rfl, _, hm⟩ := u32_args h2
  obtain ⟨x, rfl, hx⟩ := u32_one h3
  exact cuts l m x hu hm
end Go.Ev.F15
end
