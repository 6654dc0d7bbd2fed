/- A part of the proof: walks of the functions that the law calls. No condition. -/
import Derived.Test.YtldogfcfafomiaaDoorPlain
set_option linter.all false
section
namespace Go.Ev.F32
open Go.Proofs Go.Ev
set_option maxRecDepth 100000
set_option linter.all false
def wO : O := ⟨1, 7, 1, 2, [97, 32, 98], 0, 0, 0, 0, 0⟩
abbrev wL : List UInt8 := [112, 117, 116, 32, 55, 32, 49, 32, 50, 32, 34, 97, 37, 50, 48, 98, 34]
theorem w_line : lineR wO = wL := by
  have hq : qt [97, 32, 98] = [34, 97, 37, 50, 48, 98, 34] := by decide
  simp [lineR, restF, wO, dg_lt, hq, d1]
theorem w_put : putF wO = .tup [S wL, I 0] := by
  unfold putF
  rw [w_line, if_neg (by decide), if_neg (by decide)]
theorem w_get1 : getF wL = (wO, 0) := by decide +kernel
theorem w_get2 : getF [112, 117, 116, 32, 55, 32, 49, 32, 50] = (zeroO, 3) := by decide +kernel
theorem w_get3 : getF [112, 117, 116, 116, 32, 55] = (zeroO, 1) := by decide +kernel
theorem w_lines1 : linesF 0 (cut 10 [99, 111, 109, 109, 105, 116, 10, 10, 115, 97, 118, 101, 32, 45, 53, 10]) [] = ([{ zeroO with kind := 8 }, { zeroO with kind := 6, n := -5 }], 0, 0) := by decide +kernel
theorem w_lines2 : linesF 0 (cut 10 [99, 111, 109, 109, 105, 116, 10, 103, 101, 116, 32, 48, 55]) [] = ([], 2, 3) := by decide +kernel
theorem wO_ok : wO.ok := ⟨by decide, by decide, by decide, by decide, by decide, by decide, by decide, by decide, by decide⟩
theorem q8 : PS Cf okf 8 [9, 29] [wO.pv] (fun r => r = .tup [S wL, I 0]) := by
  have := p8 wO wO_ok
  rw [w_put] at this
  exact this
theorem q10a : PS Cf okf 10 [27, 29] [S wL] (fun r => r = .tup [wO.pv, I 0]) := by
  have := p10 wL (by decide)
  rw [w_get1] at this
  exact this
theorem q10b : PS Cf okf 10 [27, 29] [S [112, 117, 116, 32, 55, 32, 49, 32, 50]] (fun r => r = .tup [zeroO.pv, I 3]) := by
  have := p10 [112, 117, 116, 32, 55, 32, 49, 32, 50] (by decide)
  rw [w_get2] at this
  exact this
theorem q10c : PS Cf okf 10 [27, 29] [S [112, 117, 116, 116, 32, 55]] (fun r => r = .tup [zeroO.pv, I 1]) := by
  have := p10 [112, 117, 116, 116, 32, 55] (by decide)
  rw [w_get3] at this
  exact this
theorem q12a : PS Cf okf 12 [38, 3, 29] [S [99, 111, 109, 109, 105, 116, 10, 10, 115, 97, 118, 101, 32, 45, 53, 10]] (fun r => r = .tup [.sl 10 [O.pv { zeroO with kind := 8 }, O.pv { zeroO with kind := 6, n := -5 }], I 0, I 0]) := by
  have := p12 [99, 111, 109, 109, 105, 116, 10, 10, 115, 97, 118, 101, 32, 45, 53, 10] (by decide)
  rw [w_lines1] at this
  exact this
theorem q12b : PS Cf okf 12 [38, 3, 29] [S [99, 111, 109, 109, 105, 116, 10, 103, 101, 116, 32, 48, 55]] (fun r => r = .tup [.sl 10 [], I 2, I 3]) := by
  have := p12 [99, 111, 109, 109, 105, 116, 10, 103, 101, 116, 32, 48, 55] (by decide)
  rw [w_lines2] at this
  exact this
set_option maxHeartbeats 4000000 in
theorem p7 : PS Cf okf 7 [4] [] (fun r => r = B true) := by
  refine PS.mk extMono Tryd.func7 body7 (by decide) rfl ?_
  simp only [c7, Tryd.f7, Option.getD_some]
  simp -implicitDefEqProofs -dsimp (maxSteps := 1000000) (disch := first | omega | (simp only [wkLen]; omega) | decide +kernel) only [↓wkPre, ↓wkPre2, ↓wkE, wkPost, wkDef, wkF, simprocAttr]
  refine PS.app md_8 Tryd.func8 q8 rfl ?_
  rintro _ rfl
  simp -implicitDefEqProofs -dsimp (maxSteps := 1000000) (disch := first | omega | (simp only [wkLen]; omega) | decide +kernel) only [↓wkPre, ↓wkPre2, ↓wkE, wkPost, wkDef, wkF, simprocAttr]
  refine PS.app md_10 Tryd.func10 q10a rfl ?_
  rintro _ rfl
  simp -implicitDefEqProofs -dsimp (maxSteps := 1000000) (disch := first | omega | (simp only [wkLen]; omega) | decide +kernel) only [↓wkPre, ↓wkPre2, ↓wkE, wkPost, wkDef, wkF, simprocAttr]
  refine PS.app md_10 Tryd.func10 q10b rfl ?_
  rintro _ rfl
  simp -implicitDefEqProofs -dsimp (maxSteps := 1000000) (disch := first | omega | (simp only [wkLen]; omega) | decide +kernel) only [↓wkPre, ↓wkPre2, ↓wkE, wkPost, wkDef, wkF, simprocAttr]
  refine PS.app md_10 Tryd.func10 q10c rfl ?_
  rintro _ rfl
  simp -implicitDefEqProofs -dsimp (maxSteps := 1000000) (disch := first | omega | (simp only [wkLen]; omega) | decide +kernel) only [↓wkPre, ↓wkPre2, ↓wkE, wkPost, wkDef, wkF, simprocAttr]
  refine PS.app md_12 Tryd.func12 q12a rfl ?_
  rintro _ rfl
  simp -implicitDefEqProofs -dsimp (maxSteps := 1000000) (disch := first | omega | (simp only [wkLen]; omega) | decide +kernel) only [↓wkPre, ↓wkPre2, ↓wkE, wkPost, wkDef, wkF, simprocAttr]
  refine PS.app md_12 Tryd.func12 q12b rfl ?_
  rintro _ rfl
  simp -implicitDefEqProofs -dsimp (maxSteps := 1000000) (disch := first | omega | (simp only [wkLen]; omega) | decide +kernel) only [↓wkPre, ↓wkPre2, ↓wkE, wkPost, wkDef, wkF, simprocAttr, wO]
end Go.Ev.F32
end
