/- A part of the proof: walks of the functions that the law calls. No condition. -/
import Derived.Test.YtldogfcfafomiaaDoorWorks
set_option linter.all false
section
namespace Go.Ev.F32
open Go.Proofs Go.Ev
set_option maxRecDepth 100000
set_option linter.all false
abbrev zP : PV := .agg [.int .i64 0, .int .u64 0, .int .u32 0, .int .u32 0, .str [], .int .u32 0, .int .u32 0, .int .u32 0, .int .u32 0, .int .i64 0]
set_option maxHeartbeats 2000000 in
theorem law3 (o : O) (ho : o.val.length ≤ 500 → o.ok) : (Ev.W Cf okf).call 3 [.p o.pv] [] fun v _ => v = .p (.bool true) := by
  refine top_mk extMono Tryd.func3 body3 (by decide) rfl ?_
  simp only [c3, Tryd.f3, Option.getD_some]
  by_cases h : 500 < o.val.length
  · simp -implicitDefEqProofs -dsimp (maxSteps := 1000000) (disch := first | omega | (simp only [wkLen]; omega) | decide +kernel) only [↓wkPre, ↓wkPre2, ↓wkE, wkPost, wkDef, wkF, simprocAttr]
    refine PS.app md_7 Tryd.func7 p7 rfl ?_
    rintro _ rfl
    simp -implicitDefEqProofs -dsimp (maxSteps := 1000000) (disch := first | omega | (simp only [wkLen]; omega) | decide +kernel) only [↓wkPre, ↓wkPre2, ↓wkE, wkPost, wkDef, wkF, simprocAttr]
  have ok := ho (by omega)
  have h8 := p8 o ok
  have h9 := p9 o ok
  have hp : ∃ s c, putF o = .tup [S s, I c] := by
    unfold putF
    split
    · exact ⟨_, _, rfl⟩
    split <;> exact ⟨_, _, rfl⟩
  obtain ⟨s, c, hp⟩ := hp
  rw [hp] at h8 h9
  simp -implicitDefEqProofs -dsimp (maxSteps := 1000000) (disch := first | omega | (simp only [wkLen]; omega) | decide +kernel) only [↓wkPre, ↓wkPre2, ↓wkE, wkPost, wkDef, wkF, simprocAttr]
  refine PS.app md_8 Tryd.func8 h8 rfl ?_
  rintro _ rfl
  simp -implicitDefEqProofs -dsimp (maxSteps := 1000000) (disch := first | omega | (simp only [wkLen]; omega) | decide +kernel) only [↓wkPre, ↓wkPre2, ↓wkE, wkPost, wkDef, wkF, simprocAttr]
  refine PS.app md_9 Tryd.func9 h9 rfl ?_
  rintro _ rfl
  simp -implicitDefEqProofs -dsimp (maxSteps := 1000000) (disch := first | omega | (simp only [wkLen]; omega) | decide +kernel) only [↓wkPre, ↓wkPre2, ↓wkE, wkPost, wkDef, wkF, simprocAttr]
  refine PS.app md_7 Tryd.func7 p7 rfl ?_
  rintro _ rfl
  simp -implicitDefEqProofs -dsimp (maxSteps := 1000000) (disch := first | omega | (simp only [wkLen]; omega) | decide +kernel) only [↓wkPre, ↓wkPre2, ↓wkE, wkPost, wkDef, wkF, simprocAttr]
set_option maxHeartbeats 2000000 in
theorem law4 (o : O) (ho : o.val.length ≤ 500 → o.ok) : (Ev.W Cf okf).call 4 [.p o.pv] [] fun v _ => v = .p (.bool true) := by
  refine top_mk extMono Tryd.func4 body4 (by decide) rfl ?_
  simp only [c4, Tryd.f4, Option.getD_some]
  by_cases h : 500 < o.val.length
  · simp -implicitDefEqProofs -dsimp (maxSteps := 1000000) (disch := first | omega | (simp only [wkLen]; omega) | decide +kernel) only [↓wkPre, ↓wkPre2, ↓wkE, wkPost, wkDef, wkF, simprocAttr]
    refine PS.app md_7 Tryd.func7 p7 rfl ?_
    rintro _ rfl
    simp -implicitDefEqProofs -dsimp (maxSteps := 1000000) (disch := first | omega | (simp only [wkLen]; omega) | decide +kernel) only [↓wkPre, ↓wkPre2, ↓wkE, wkPost, wkDef, wkF, simprocAttr]
  have ok := ho (by omega)
  have h8 := p8 o ok
  by_cases hk : o.kind < 1 ∨ 9 < o.kind
  · have hp : putF o = .tup [S [], I 1] := by unfold putF; rw [if_pos hk]
    rw [hp] at h8
    simp -implicitDefEqProofs -dsimp (maxSteps := 1000000) (disch := first | omega | (simp only [wkLen]; omega) | decide +kernel) only [↓wkPre, ↓wkPre2, ↓wkE, wkPost, wkDef, wkF, simprocAttr]
    refine PS.app md_8 Tryd.func8 h8 rfl ?_
    rintro _ rfl
    simp -implicitDefEqProofs -dsimp (maxSteps := 1000000) (disch := first | omega | (simp only [wkLen]; omega) | decide +kernel) only [↓wkPre, ↓wkPre2, ↓wkE, wkPost, wkDef, wkF, simprocAttr]
    refine PS.app md_7 Tryd.func7 p7 rfl ?_
    rintro _ rfl
    simp -implicitDefEqProofs -dsimp (maxSteps := 1000000) (disch := first | omega | (simp only [wkLen]; omega) | decide +kernel) only [↓wkPre, ↓wkPre2, ↓wkE, wkPost, wkDef, wkF, simprocAttr]
  by_cases hl : 400 < (lineR o).length
  · have hp : putF o = .tup [S [], I 9] := by unfold putF; rw [if_neg hk, if_pos hl]
    rw [hp] at h8
    simp -implicitDefEqProofs -dsimp (maxSteps := 1000000) (disch := first | omega | (simp only [wkLen]; omega) | decide +kernel) only [↓wkPre, ↓wkPre2, ↓wkE, wkPost, wkDef, wkF, simprocAttr]
    refine PS.app md_8 Tryd.func8 h8 rfl ?_
    rintro _ rfl
    simp -implicitDefEqProofs -dsimp (maxSteps := 1000000) (disch := first | omega | (simp only [wkLen]; omega) | decide +kernel) only [↓wkPre, ↓wkPre2, ↓wkE, wkPost, wkDef, wkF, simprocAttr]
    refine PS.app md_7 Tryd.func7 p7 rfl ?_
    rintro _ rfl
    simp -implicitDefEqProofs -dsimp (maxSteps := 1000000) (disch := first | omega | (simp only [wkLen]; omega) | decide +kernel) only [↓wkPre, ↓wkPre2, ↓wkE, wkPost, wkDef, wkF, simprocAttr]
  have hp : putF o = .tup [S (lineR o), I 0] := by unfold putF; rw [if_neg hk, if_neg hl]
  rw [hp] at h8
  have h10 := p10 (lineR o) (by omega)
  rw [getF_line o ok (by omega) (by omega) (by omega)] at h10
  have h11 := p11 o (by omega) (by omega)
  dsimp only at h10
  generalize cleanF o = c at *
  obtain ⟨kind, key, x, y, val, w0, w1, w2, w3, n⟩ := c
  simp -implicitDefEqProofs -dsimp (maxSteps := 1000000) (disch := first | omega | (simp only [wkLen]; omega) | decide +kernel) only [↓wkPre, ↓wkPre2, ↓wkE, wkPost, wkDef, wkF, simprocAttr]
  refine PS.app md_8 Tryd.func8 h8 rfl ?_
  rintro _ rfl
  simp -implicitDefEqProofs -dsimp (maxSteps := 1000000) (disch := first | omega | (simp only [wkLen]; omega) | decide +kernel) only [↓wkPre, ↓wkPre2, ↓wkE, wkPost, wkDef, wkF, simprocAttr]
  refine PS.app md_10 Tryd.func10 h10 rfl ?_
  rintro _ rfl
  simp -implicitDefEqProofs -dsimp (maxSteps := 1000000) (disch := first | omega | (simp only [wkLen]; omega) | decide +kernel) only [↓wkPre, ↓wkPre2, ↓wkE, wkPost, wkDef, wkF, simprocAttr]
  refine evC_pl pl_4_7 (by kernel_rfl) (by decide +kernel) ?_
  simp only [pl_4_7]
  simp -implicitDefEqProofs -dsimp (maxSteps := 1000000) (disch := first | omega | (simp only [wkLen]; omega) | decide +kernel) only [↓wkPre, ↓wkPre2, ↓wkE, wkPost, wkDef, wkF, simprocAttr]
  refine PS.app md_11 Tryd.func11 h11 rfl ?_
  rintro _ rfl
  simp -implicitDefEqProofs -dsimp (maxSteps := 1000000) (disch := first | omega | (simp only [wkLen]; omega) | decide +kernel) only [↓wkPre, ↓wkPre2, ↓wkE, wkPost, wkDef, wkF, simprocAttr]
  refine PS.app md_7 Tryd.func7 p7 rfl ?_
  rintro _ rfl
  simp -implicitDefEqProofs -dsimp (maxSteps := 1000000) (disch := first | omega | (simp only [wkLen]; omega) | decide +kernel) only [↓wkPre, ↓wkPre2, ↓wkE, wkPost, wkDef, wkF, simprocAttr]
set_option maxHeartbeats 2000000 in
theorem law5 (s : List UInt8) : (Ev.W Cf okf).call 5 [.p (S s)] [] fun v _ => v = .p (.bool true) := by
  refine top_mk extMono Tryd.func5 body5 (by decide) rfl ?_
  simp only [c5, Tryd.f5, Option.getD_some]
  by_cases h : 600 < s.length
  · simp -implicitDefEqProofs -dsimp (maxSteps := 1000000) (disch := first | omega | (simp only [wkLen]; omega) | decide +kernel) only [↓wkPre, ↓wkPre2, ↓wkE, wkPost, wkDef, wkF, simprocAttr]
    refine PS.app md_7 Tryd.func7 p7 rfl ?_
    rintro _ rfl
    simp -implicitDefEqProofs -dsimp (maxSteps := 1000000) (disch := first | omega | (simp only [wkLen]; omega) | decide +kernel) only [↓wkPre, ↓wkPre2, ↓wkE, wkPost, wkDef, wkF, simprocAttr]
  have h10 := p10 s (by omega)
  by_cases h4 : 400 < s.length
  · have hg : getF s = (zeroO, 9) := by unfold getF; rw [if_pos h4]
    rw [hg] at h10
    have h10 : PS Cf okf 10 [27, 29] [S s] (fun r => r = .tup [zP, I 9]) := h10
    simp -implicitDefEqProofs -dsimp (maxSteps := 1000000) (disch := first | omega | (simp only [wkLen]; omega) | decide +kernel) only [↓wkPre, ↓wkPre2, ↓wkE, wkPost, wkDef, wkF, simprocAttr]
    refine PS.app md_10 Tryd.func10 h10 rfl ?_
    rintro _ rfl
    simp -implicitDefEqProofs -dsimp (maxSteps := 1000000) (disch := first | omega | (simp only [wkLen]; omega) | decide +kernel) only [↓wkPre, ↓wkPre2, ↓wkE, wkPost, wkDef, wkF, simprocAttr]
    refine PS.app md_7 Tryd.func7 p7 rfl ?_
    rintro _ rfl
    simp -implicitDefEqProofs -dsimp (maxSteps := 1000000) (disch := first | omega | (simp only [wkLen]; omega) | decide +kernel) only [↓wkPre, ↓wkPre2, ↓wkE, wkPost, wkDef, wkF, simprocAttr]
  have hc : getF s = (zeroO, 1) ∨ getF s = (zeroO, 3) ∨ ∃ o, getF s = (o, 0) := by
    unfold getF
    rw [if_neg h4]
    split
    · exact .inl rfl
    split
    · exact .inr (.inr ⟨_, rfl⟩)
    · exact .inr (.inl rfl)
  rcases hc with hc | hc | ⟨o, hc⟩
  · rw [hc] at h10
    have h10 : PS Cf okf 10 [27, 29] [S s] (fun r => r = .tup [zP, I 1]) := h10
    simp -implicitDefEqProofs -dsimp (maxSteps := 1000000) (disch := first | omega | (simp only [wkLen]; omega) | decide +kernel) only [↓wkPre, ↓wkPre2, ↓wkE, wkPost, wkDef, wkF, simprocAttr]
    refine PS.app md_10 Tryd.func10 h10 rfl ?_
    rintro _ rfl
    simp -implicitDefEqProofs -dsimp (maxSteps := 1000000) (disch := first | omega | (simp only [wkLen]; omega) | decide +kernel) only [↓wkPre, ↓wkPre2, ↓wkE, wkPost, wkDef, wkF, simprocAttr]
    refine PS.app md_7 Tryd.func7 p7 rfl ?_
    rintro _ rfl
    simp -implicitDefEqProofs -dsimp (maxSteps := 1000000) (disch := first | omega | (simp only [wkLen]; omega) | decide +kernel) only [↓wkPre, ↓wkPre2, ↓wkE, wkPost, wkDef, wkF, simprocAttr]
  · rw [hc] at h10
    have h10 : PS Cf okf 10 [27, 29] [S s] (fun r => r = .tup [zP, I 3]) := h10
    simp -implicitDefEqProofs -dsimp (maxSteps := 1000000) (disch := first | omega | (simp only [wkLen]; omega) | decide +kernel) only [↓wkPre, ↓wkPre2, ↓wkE, wkPost, wkDef, wkF, simprocAttr]
    refine PS.app md_10 Tryd.func10 h10 rfl ?_
    rintro _ rfl
    simp -implicitDefEqProofs -dsimp (maxSteps := 1000000) (disch := first | omega | (simp only [wkLen]; omega) | decide +kernel) only [↓wkPre, ↓wkPre2, ↓wkE, wkPost, wkDef, wkF, simprocAttr]
    refine PS.app md_7 Tryd.func7 p7 rfl ?_
    rintro _ rfl
    simp -implicitDefEqProofs -dsimp (maxSteps := 1000000) (disch := first | omega | (simp only [wkLen]; omega) | decide +kernel) only [↓wkPre, ↓wkPre2, ↓wkE, wkPost, wkDef, wkF, simprocAttr]
  · obtain ⟨k1, k9, ok, hl, h40⟩ := getF_inv hc
    rw [hc] at h10
    dsimp only at h10
    have h8 := p8 o ok
    have hp : putF o = .tup [S s, I 0] := by unfold putF; rw [if_neg (by omega), hl, if_neg h4]
    rw [hp] at h8
    simp -implicitDefEqProofs -dsimp (maxSteps := 1000000) (disch := first | omega | (simp only [wkLen]; omega) | decide +kernel) only [↓wkPre, ↓wkPre2, ↓wkE, wkPost, wkDef, wkF, simprocAttr]
    refine PS.app md_10 Tryd.func10 h10 rfl ?_
    rintro _ rfl
    simp -implicitDefEqProofs -dsimp (maxSteps := 1000000) (disch := first | omega | (simp only [wkLen]; omega) | decide +kernel) only [↓wkPre, ↓wkPre2, ↓wkE, wkPost, wkDef, wkF, simprocAttr]
    refine PS.app md_8 Tryd.func8 h8 rfl ?_
    rintro _ rfl
    simp -implicitDefEqProofs -dsimp (maxSteps := 1000000) (disch := first | omega | (simp only [wkLen]; omega) | decide +kernel) only [↓wkPre, ↓wkPre2, ↓wkE, wkPost, wkDef, wkF, simprocAttr]
    refine PS.app md_7 Tryd.func7 p7 rfl ?_
    rintro _ rfl
    simp -implicitDefEqProofs -dsimp (maxSteps := 1000000) (disch := first | omega | (simp only [wkLen]; omega) | decide +kernel) only [↓wkPre, ↓wkPre2, ↓wkE, wkPost, wkDef, wkF, simprocAttr]
abbrev opTy : List (Nat × List Ty) := [(10, [Ty.int .i64, Ty.int .u64, Ty.int .u32, Ty.int .u32, Ty.str, Ty.int .u32, Ty.int .u32, Ty.int .u32, Ty.int .u32, Ty.int .i64])]
theorem op_args {xs : List PV} (h : Tyas opTy xs) : ∃ o : O, xs = [o.pv] ∧ (o.val.length ≤ 500 → o.ok) := by
  simp only [opTy, Tyas] at h
  obtain ⟨x, r, rfl, h, rfl⟩ := h
  obtain ⟨hs, hc⟩ := h
  dsimp only at hs hc
  cases x with
  | agg cs =>
    simp only [PV.cells, Tyds, Tyd] at hc
    obtain ⟨_, _, rfl, ⟨kind, rfl, k1, k2⟩, _, _, rfl, ⟨key, rfl, k3, k4⟩, _, _, rfl, ⟨x, rfl, k5, k6⟩, _, _, rfl, ⟨y, rfl, k7, k8⟩, _, _, rfl, ⟨val, rfl, k9⟩, _, _, rfl, ⟨w0, rfl, k10, k11⟩, _, _, rfl, ⟨w1, rfl, k12, k13⟩,
      _, _, rfl, ⟨w2, rfl, k14, k15⟩, _, _, rfl, ⟨w3, rfl, k16, k17⟩, _, _, rfl, ⟨n, rfl, k18, k19⟩, rfl⟩ := hc
    simp only [IntKind.min, IntKind.max, IntKind.bits, IntKind.signed] at k1 k2 k3 k4 k5 k6 k7 k8 k10 k11 k12 k13 k14 k15 k16 k17 k18 k19
    simp at k1 k2 k3 k4 k5 k6 k7 k8 k10 k11 k12 k13 k14 k15 k16 k17 k18 k19
    refine ⟨⟨kind, key.toNat, x.toNat, y.toNat, val, w0.toNat, w1.toNat, w2.toNat, w3.toNat, n⟩, ?_, fun hv => ⟨?_, ?_, ?_, hv, ?_, ?_, ?_, ?_, ?_⟩⟩
    · simp only [O.pv, O.cs]
      simp [Int.toNat_of_nonneg k3, Int.toNat_of_nonneg k5, Int.toNat_of_nonneg k7, Int.toNat_of_nonneg k10, Int.toNat_of_nonneg k12, Int.toNat_of_nonneg k14, Int.toNat_of_nonneg k16]
    all_goals (dsimp only; omega)
  | _ => simp [PV.shape] at hs
theorem str_args {xs : List PV} (h : Tyas [(0, [Ty.str])] xs) : ∃ s : List UInt8, xs = [S s] := by
  simp only [Tyas] at h
  obtain ⟨x, r, rfl, h, rfl⟩ := h
  have h3 := Tya_one h
  simp only [Tyd] at h3
  obtain ⟨s, rfl, _⟩ := h3
  exact ⟨s, rfl⟩
theorem lawSpeechPuts : ∀ xs, Tyas opTy xs → (Ev.W Cf okf).call 3 (xs.map AV.p) [] fun v _ => v = .p (.bool true) := by
  intro xs h
  obtain ⟨o, rfl, ho⟩ := op_args h
  exact law3 o ho
theorem lawSpeechBack : ∀ xs, Tyas opTy xs → (Ev.W Cf okf).call 4 (xs.map AV.p) [] fun v _ => v = .p (.bool true) := by
  intro xs h
  obtain ⟨o, rfl, ho⟩ := op_args h
  exact law4 o ho
theorem lawSpeechOne : ∀ xs, Tyas [(0, [Ty.str])] xs → (Ev.W Cf okf).call 5 (xs.map AV.p) [] fun v _ => v = .p (.bool true) := by
  intro xs h
  obtain ⟨s, rfl⟩ := str_args h
  exact law5 s
end Go.Ev.F32
end
