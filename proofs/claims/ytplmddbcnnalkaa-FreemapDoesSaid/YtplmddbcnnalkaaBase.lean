/- A part of the proof: walks of the functions that the law calls. No condition. -/
import Derived.Test.YtplmddbcnnalkaaProg
import Derived.Test.YtplmddbcnnalkaaEvC
set_option linter.all false
section
namespace Go.Ev.F07
open Go.Proofs Go.Ev
set_option maxRecDepth 100000
set_option linter.all false

/- the seat's configuration and facts -/
noncomputable def Cf : Cfg := { P := Try.prog, md := fun f => match f with | 3 => .imp | 4 => .imp | 5 => .imp | 6 => .pure | 7 => .pure | 8 => .pure | 9 => .pure | 10 => .pure | 11 => .pure | 12 => .pure | 13 => .pure | 14 => .pure | 15 => .pure | 16 => .pure | 17 => .pure | 18 => .pure | 19 => .pure | 20 => .pure | 21 => .imp | 22 => .pure | _ => .no }
def okf (f : FuncId) : Bool := [3, 4, 5, 6, 7, 8, 9, 10, 11, 12, 13, 14, 15, 16, 17, 18, 19, 20, 21, 22].contains f
theorem CfP : Cf.P = Try.prog := rfl
theorem okfOK : ∀ f, okf f = true → okFn Cf.P f = true := by
  have h : ([3, 4, 5, 6, 7, 8, 9, 10, 11, 12, 13, 14, 15, 16, 17, 18, 19, 20, 21, 22].all fun f => okFn Try.prog f) = true := by decide +kernel
  intro f hf
  exact List.all_eq_true.1 h f (by simpa [okf] using hf)
theorem extOK : ExtOK Cf := by
  intro f spec h
  unfold Cf at h
  dsimp only at h
  split at h <;> cases h
theorem extMono : ExtMono Cf := by
  intro f spec h
  unfold Cf at h
  dsimp only at h
  split at h <;> cases h
theorem md_3 : Cf.md 3 = .imp := rfl
noncomputable def c3 : Code := Try.f3.body.getD .skip
theorem body3 : Try.f3.body = some c3 := by kernel_rfl
theorem md_4 : Cf.md 4 = .imp := rfl
noncomputable def c4 : Code := Try.f4.body.getD .skip
theorem body4 : Try.f4.body = some c4 := by kernel_rfl
theorem md_5 : Cf.md 5 = .imp := rfl
noncomputable def c5 : Code := Try.f5.body.getD .skip
theorem body5 : Try.f5.body = some c5 := by kernel_rfl
theorem md_6 : Cf.md 6 = .pure := rfl
noncomputable def c6 : Code := Try.f6.body.getD .skip
theorem body6 : Try.f6.body = some c6 := by kernel_rfl
theorem md_7 : Cf.md 7 = .pure := rfl
noncomputable def c7 : Code := Try.f7.body.getD .skip
theorem body7 : Try.f7.body = some c7 := by kernel_rfl
theorem md_8 : Cf.md 8 = .pure := rfl
noncomputable def c8 : Code := Try.f8.body.getD .skip
theorem body8 : Try.f8.body = some c8 := by kernel_rfl
theorem md_9 : Cf.md 9 = .pure := rfl
noncomputable def c9 : Code := Try.f9.body.getD .skip
theorem body9 : Try.f9.body = some c9 := by kernel_rfl
theorem md_10 : Cf.md 10 = .pure := rfl
noncomputable def c10 : Code := Try.f10.body.getD .skip
theorem body10 : Try.f10.body = some c10 := by kernel_rfl
theorem md_11 : Cf.md 11 = .pure := rfl
noncomputable def c11 : Code := Try.f11.body.getD .skip
theorem body11 : Try.f11.body = some c11 := by kernel_rfl
theorem md_12 : Cf.md 12 = .pure := rfl
noncomputable def c12 : Code := Try.f12.body.getD .skip
theorem body12 : Try.f12.body = some c12 := by kernel_rfl
theorem md_13 : Cf.md 13 = .pure := rfl
noncomputable def c13 : Code := Try.f13.body.getD .skip
theorem body13 : Try.f13.body = some c13 := by kernel_rfl
theorem md_14 : Cf.md 14 = .pure := rfl
noncomputable def c14 : Code := Try.f14.body.getD .skip
theorem body14 : Try.f14.body = some c14 := by kernel_rfl
theorem md_15 : Cf.md 15 = .pure := rfl
noncomputable def c15 : Code := Try.f15.body.getD .skip
theorem body15 : Try.f15.body = some c15 := by kernel_rfl
theorem md_16 : Cf.md 16 = .pure := rfl
noncomputable def c16 : Code := Try.f16.body.getD .skip
theorem body16 : Try.f16.body = some c16 := by kernel_rfl
theorem md_17 : Cf.md 17 = .pure := rfl
noncomputable def c17 : Code := Try.f17.body.getD .skip
theorem body17 : Try.f17.body = some c17 := by kernel_rfl
theorem md_18 : Cf.md 18 = .pure := rfl
noncomputable def c18 : Code := Try.f18.body.getD .skip
theorem body18 : Try.f18.body = some c18 := by kernel_rfl
theorem md_19 : Cf.md 19 = .pure := rfl
noncomputable def c19 : Code := Try.f19.body.getD .skip
theorem body19 : Try.f19.body = some c19 := by kernel_rfl
theorem md_20 : Cf.md 20 = .pure := rfl
noncomputable def c20 : Code := Try.f20.body.getD .skip
theorem body20 : Try.f20.body = some c20 := by kernel_rfl
theorem md_21 : Cf.md 21 = .imp := rfl
noncomputable def c21 : Code := Try.f21.body.getD .skip
theorem body21 : Try.f21.body = some c21 := by kernel_rfl
theorem md_22 : Cf.md 22 = .pure := rfl
noncomputable def c22 : Code := Try.f22.body.getD .skip
theorem body22 : Try.f22.body = some c22 := by kernel_rfl
def pl_3_18 : Pl := (.r 0 (.r 1 (.r 2 (.r 3 (.r 4 (.o 5 [] (.r 6 (.r 7 (.r 8 (.o 9 [4, 3, 0] (.o 10 [] (.r 11 .done) .stop) .stop)))) (.o 9 [4, 3, 0] (.o 5 [] (.r 6 (.r 7 (.r 8 (.o 10 [] (.r 11 .done) .stop)))) .stop) .stop)))))))
def pl_4_16 : Pl := (.r 0 (.r 1 (.r 2 (.r 3 (.r 4 (.r 5 (.r 6 (.r 7 (.r 8 (.r 9 (.r 10 (.r 11 (.o 12 [] (.r 13 (.r 14 (.r 15 (.o 16 [10, 8, 5, 3, 0] (.o 17 [] (.r 18 .done) .stop) .stop)))) (.o 16 [10, 8, 5, 3, 0] (.o 12 [] (.r 13 (.r 14 (.r 15 (.o 17 [] (.r 18 .done) .stop)))) .stop) .stop))))))))))))))
def pl_4_22 : Pl := (.r 0 (.r 1 (.r 2 (.r 3 (.r 4 (.r 5 (.o 6 [] (.r 7 (.r 8 (.r 9 (.r 10 (.o 11 [5, 3, 0] (.o 12 [] (.r 13 (.r 14 .done)) .stop) .stop))))) (.o 11 [5, 3, 0] (.o 6 [] (.r 7 (.r 8 (.r 9 (.r 10 (.o 12 [] (.r 13 (.r 14 .done)) .stop))))) .stop) .stop))))))))
def pl_5_32 : Pl := (.r 0 (.r 1 (.r 2 (.r 3 (.r 4 (.r 5 (.r 7 (.r 8 (.r 9 (.o 6 [8] (.r 10 (.r 11 (.r 12 (.o 13 [] (.r 14 (.o 15 [] .done .stop)) .stop)))) .stop))))))))))
def pl_15_5 : Pl := (.r 0 (.r 2 (.r 3 (.o 1 [3, 2] (.r 4 (.r 5 (.r 6 (.r 8 (.r 9 (.o 7 [9] (.r 10 (.r 11 (.r 12 (.r 13 (.r 15 (.o 14 [] (.r 16 (.r 17 .done)) .stop)))))) .stop)))))) .stop))))
def pl_15_19 : Pl := (.r 0 (.r 1 (.r 3 (.r 4 (.r 5 (.r 6 (.o 2 [6, 5, 3] (.r 7 .done) .stop)))))))
def pl_17_1 : Pl := (.r 0 (.r 1 (.r 2 (.r 3 (.r 4 (.r 7 (.r 8 (.r 9 (.o 5 [9, 8, 1] (.r 6 (.o 10 [1] (.r 11 (.r 12 .done)) .stop)) .stop)))))))))
theorem tsh_3 : tsh Try.prog 3 = some 0 := by decide +kernel
theorem tzero_3 : tzero Try.prog 3 = some (.p (.int .i64 0)) := by kernel_rfl
theorem telem_3 : telem Try.prog 3 = none := by decide +kernel
theorem lenK_3 : lenKind Try.prog 3 = (0, 0) := by decide +kernel
theorem nilK_3 : nilK Try.prog 3 = 0 := by decide +kernel
theorem srcT_3 : isSrcT Try.prog 3 = false := by decide +kernel
theorem byt_3 : Program.bytesOf Try.prog 3 = 8 := by decide +kernel
theorem und_3 : Program.underlying Try.prog 3 = some (.int .i64) := by kernel_rfl
theorem tsh_4 : tsh Try.prog 4 = some 0 := by decide +kernel
theorem tzero_4 : tzero Try.prog 4 = some (.p (.bool false)) := by kernel_rfl
theorem telem_4 : telem Try.prog 4 = none := by decide +kernel
theorem lenK_4 : lenKind Try.prog 4 = (0, 0) := by decide +kernel
theorem nilK_4 : nilK Try.prog 4 = 5 := by decide +kernel
theorem srcT_4 : isSrcT Try.prog 4 = false := by decide +kernel
theorem byt_4 : Program.bytesOf Try.prog 4 = 1 := by decide +kernel
theorem und_4 : Program.underlying Try.prog 4 = some .bool := by kernel_rfl
theorem tsh_22 : tsh Try.prog 22 = some 0 := by decide +kernel
theorem tzero_22 : tzero Try.prog 22 = some (.nsl) := by kernel_rfl
theorem telem_22 : telem Try.prog 22 = some (3, 0) := by decide +kernel
theorem lenK_22 : lenKind Try.prog 22 = (3, 0) := by decide +kernel
theorem nilK_22 : nilK Try.prog 22 = 4 := by decide +kernel
theorem srcT_22 : isSrcT Try.prog 22 = true := by decide +kernel
theorem byt_22 : Program.bytesOf Try.prog 22 = 24 := by decide +kernel
theorem und_22 : Program.underlying Try.prog 22 = some (.slice 3) := by kernel_rfl
theorem tsh_23 : tsh Try.prog 23 = some 0 := by decide +kernel
theorem tzero_23 : tzero Try.prog 23 = some (.p (.int .u64 0)) := by kernel_rfl
theorem telem_23 : telem Try.prog 23 = none := by decide +kernel
theorem lenK_23 : lenKind Try.prog 23 = (0, 0) := by decide +kernel
theorem nilK_23 : nilK Try.prog 23 = 0 := by decide +kernel
theorem srcT_23 : isSrcT Try.prog 23 = false := by decide +kernel
theorem byt_23 : Program.bytesOf Try.prog 23 = 8 := by decide +kernel
theorem und_23 : Program.underlying Try.prog 23 = some (.int .u64) := by kernel_rfl
theorem tsh_24 : tsh Try.prog 24 = some 2 := by decide +kernel
theorem tzero_24 : tzero Try.prog 24 = some (.p (.agg [.int .u64 0, .int .u64 0])) := by kernel_rfl
theorem telem_24 : telem Try.prog 24 = none := by decide +kernel
theorem tarr_24 : tarr Try.prog 24 = some (2, 0) := by decide +kernel
theorem lenK_24 : lenKind Try.prog 24 = (1, 2) := by decide +kernel
theorem nilK_24 : nilK Try.prog 24 = 0 := by decide +kernel
theorem srcT_24 : isSrcT Try.prog 24 = false := by decide +kernel
theorem byt_24 : Program.bytesOf Try.prog 24 = 16 := by decide +kernel
theorem eqKs_24 : eqKs Try.prog 24 = some [2, 2] := by decide +kernel
theorem tpl_24 : tplaces Try.prog 24 = some (.inr 1) := by kernel_rfl
theorem tsh_26 : tsh Try.prog 26 = some 3 := by decide +kernel
theorem tzero_26 : tzero Try.prog 26 = some (.p (.agg [.int .u64 0, .int .u64 0, .int .i64 0])) := by kernel_rfl
theorem telem_26 : telem Try.prog 26 = none := by decide +kernel
theorem lenK_26 : lenKind Try.prog 26 = (0, 0) := by decide +kernel
theorem nilK_26 : nilK Try.prog 26 = 0 := by decide +kernel
theorem srcT_26 : isSrcT Try.prog 26 = false := by decide +kernel
theorem byt_26 : Program.bytesOf Try.prog 26 = 24 := by decide +kernel
theorem eqKs_26 : eqKs Try.prog 26 = some [2, 2, 2] := by decide +kernel
theorem tpl_26 : tplaces Try.prog 26 = some (.inl [(0, 2), (2, 1)]) := by kernel_rfl
theorem tf_26_0 : tfield Try.prog 26 0 = some (0, 2) := by decide +kernel
theorem tf_26_1 : tfield Try.prog 26 1 = some (2, 0) := by decide +kernel
theorem tsh_30 : tsh Try.prog 30 = some 0 := by decide +kernel
theorem tzero_30 : tzero Try.prog 30 = some (.p (.int .i64 0)) := by kernel_rfl
theorem telem_30 : telem Try.prog 30 = none := by decide +kernel
theorem lenK_30 : lenKind Try.prog 30 = (0, 0) := by decide +kernel
theorem nilK_30 : nilK Try.prog 30 = 0 := by decide +kernel
theorem srcT_30 : isSrcT Try.prog 30 = false := by decide +kernel
theorem byt_30 : Program.bytesOf Try.prog 30 = 8 := by decide +kernel
theorem und_30 : Program.underlying Try.prog 30 = some (.int .i64) := by kernel_rfl
theorem tsh_33 : tsh Try.prog 33 = some 0 := by decide +kernel
theorem tzero_33 : tzero Try.prog 33 = some (.p (.nfn)) := by kernel_rfl
theorem telem_33 : telem Try.prog 33 = none := by decide +kernel
theorem lenK_33 : lenKind Try.prog 33 = (0, 0) := by decide +kernel
theorem nilK_33 : nilK Try.prog 33 = 2 := by decide +kernel
theorem srcT_33 : isSrcT Try.prog 33 = false := by decide +kernel
theorem byt_33 : Program.bytesOf Try.prog 33 = 8 := by decide +kernel
theorem tsh_36 : tsh Try.prog 36 = some 0 := by decide +kernel
theorem tzero_36 : tzero Try.prog 36 = some (.nsl) := by kernel_rfl
theorem telem_36 : telem Try.prog 36 = some (41, 2) := by decide +kernel
theorem lenK_36 : lenKind Try.prog 36 = (3, 0) := by decide +kernel
theorem nilK_36 : nilK Try.prog 36 = 4 := by decide +kernel
theorem srcT_36 : isSrcT Try.prog 36 = true := by decide +kernel
theorem byt_36 : Program.bytesOf Try.prog 36 = 24 := by decide +kernel
theorem und_36 : Program.underlying Try.prog 36 = some (.slice 41) := by kernel_rfl
theorem tsh_39 : tsh Try.prog 39 = some 0 := by decide +kernel
theorem tzero_39 : tzero Try.prog 39 = some (.nsl) := by kernel_rfl
theorem telem_39 : telem Try.prog 39 = some (4, 0) := by decide +kernel
theorem lenK_39 : lenKind Try.prog 39 = (3, 0) := by decide +kernel
theorem nilK_39 : nilK Try.prog 39 = 4 := by decide +kernel
theorem srcT_39 : isSrcT Try.prog 39 = true := by decide +kernel
theorem byt_39 : Program.bytesOf Try.prog 39 = 24 := by decide +kernel
theorem und_39 : Program.underlying Try.prog 39 = some (.slice 4) := by kernel_rfl
theorem tsh_41 : tsh Try.prog 41 = some 2 := by decide +kernel
theorem tzero_41 : tzero Try.prog 41 = some (.p (.agg [.int .i64 0, .int .i64 0])) := by kernel_rfl
theorem telem_41 : telem Try.prog 41 = none := by decide +kernel
theorem lenK_41 : lenKind Try.prog 41 = (0, 0) := by decide +kernel
theorem nilK_41 : nilK Try.prog 41 = 0 := by decide +kernel
theorem srcT_41 : isSrcT Try.prog 41 = false := by decide +kernel
theorem byt_41 : Program.bytesOf Try.prog 41 = 16 := by decide +kernel
theorem eqKs_41 : eqKs Try.prog 41 = some [2, 2] := by decide +kernel
theorem tpl_41 : tplaces Try.prog 41 = some (.inl [(0, 1), (1, 1)]) := by kernel_rfl
theorem tf_41_0 : tfield Try.prog 41 0 = some (0, 0) := by decide +kernel
theorem tf_41_1 : tfield Try.prog 41 1 = some (1, 0) := by decide +kernel
theorem tsh_50 : tsh Try.prog 50 = some 0 := by decide +kernel
theorem tzero_50 : tzero Try.prog 50 = some (.p (.nfn)) := by kernel_rfl
theorem telem_50 : telem Try.prog 50 = none := by decide +kernel
theorem lenK_50 : lenKind Try.prog 50 = (0, 0) := by decide +kernel
theorem nilK_50 : nilK Try.prog 50 = 2 := by decide +kernel
theorem srcT_50 : isSrcT Try.prog 50 = false := by decide +kernel
theorem byt_50 : Program.bytesOf Try.prog 50 = 8 := by decide +kernel
theorem tsh_56 : tsh Try.prog 56 = some 0 := by decide +kernel
theorem tzero_56 : tzero Try.prog 56 = some (.p (.int .u64 0)) := by kernel_rfl
theorem telem_56 : telem Try.prog 56 = none := by decide +kernel
theorem lenK_56 : lenKind Try.prog 56 = (0, 0) := by decide +kernel
theorem nilK_56 : nilK Try.prog 56 = 0 := by decide +kernel
theorem srcT_56 : isSrcT Try.prog 56 = false := by decide +kernel
theorem byt_56 : Program.bytesOf Try.prog 56 = 8 := by decide +kernel
theorem und_56 : Program.underlying Try.prog 56 = some (.int .u64) := by kernel_rfl
theorem cv_23_3 : cvKind Try.prog 23 3 = .plain := by kernel_rfl
def wkF := (And.intro (And.intro (And.intro (And.intro (And.intro (And.intro tsh_3 (And.intro tzero_3 telem_3)) (And.intro lenK_3 (And.intro nilK_3 srcT_3))) (And.intro (And.intro byt_3 (And.intro und_3 tsh_4)) (And.intro (And.intro tzero_4 telem_4) (And.intro lenK_4 nilK_4)))) (And.intro (And.intro (And.intro srcT_4 (And.intro byt_4 und_4)) (And.intro (And.intro tsh_22 tzero_22) (And.intro telem_22 lenK_22))) (And.intro (And.intro nilK_22 (And.intro srcT_22 byt_22)) (And.intro (And.intro und_22 tsh_23) (And.intro tzero_23 telem_23))))) (And.intro (And.intro (And.intro (And.intro lenK_23 (And.intro nilK_23 srcT_23)) (And.intro (And.intro byt_23 und_23) (And.intro tsh_24 tzero_24))) (And.intro (And.intro telem_24 (And.intro tarr_24 lenK_24)) (And.intro (And.intro nilK_24 srcT_24) (And.intro byt_24 eqKs_24)))) (And.intro (And.intro (And.intro tpl_24 (And.intro tsh_26 tzero_26)) (And.intro (And.intro telem_26 lenK_26) (And.intro nilK_26 srcT_26))) (And.intro (And.intro byt_26 (And.intro eqKs_26 tpl_26)) (And.intro (And.intro tf_26_0 tf_26_1) (And.intro tsh_30 tzero_30)))))) (And.intro (And.intro (And.intro (And.intro (And.intro telem_30 (And.intro lenK_30 nilK_30)) (And.intro (And.intro srcT_30 byt_30) (And.intro und_30 tsh_33))) (And.intro (And.intro tzero_33 (And.intro telem_33 lenK_33)) (And.intro (And.intro nilK_33 srcT_33) (And.intro byt_33 tsh_36)))) (And.intro (And.intro (And.intro tzero_36 (And.intro telem_36 lenK_36)) (And.intro (And.intro nilK_36 srcT_36) (And.intro byt_36 und_36))) (And.intro (And.intro tsh_39 (And.intro tzero_39 telem_39)) (And.intro (And.intro lenK_39 nilK_39) (And.intro srcT_39 byt_39))))) (And.intro (And.intro (And.intro (And.intro und_39 (And.intro tsh_41 tzero_41)) (And.intro (And.intro telem_41 lenK_41) (And.intro nilK_41 srcT_41))) (And.intro (And.intro byt_41 (And.intro eqKs_41 tpl_41)) (And.intro (And.intro tf_41_0 tf_41_1) (And.intro tsh_50 tzero_50)))) (And.intro (And.intro (And.intro telem_50 (And.intro lenK_50 nilK_50)) (And.intro (And.intro srcT_50 byt_50) (And.intro tsh_56 tzero_56))) (And.intro (And.intro telem_56 (And.intro lenK_56 nilK_56)) (And.intro (And.intro srcT_56 byt_56) (And.intro und_56 cv_23_3)))))))
-- FACTS: tsh_3, tzero_3, telem_3, lenK_3, nilK_3, srcT_3, byt_3, und_3, tsh_4, tzero_4, telem_4, lenK_4, nilK_4, srcT_4, byt_4, und_4, tsh_22, tzero_22, telem_22, lenK_22, nilK_22, srcT_22, byt_22, und_22, tsh_23, tzero_23, telem_23, lenK_23, nilK_23, srcT_23, byt_23, und_23, tsh_24, tzero_24, telem_24, tarr_24, lenK_24, nilK_24, srcT_24, byt_24, eqKs_24, tpl_24, tsh_26, tzero_26, telem_26, lenK_26, nilK_26, srcT_26, byt_26, eqKs_26, tpl_26, tf_26_0, tf_26_1, tsh_30, tzero_30, telem_30, lenK_30, nilK_30, srcT_30, byt_30, und_30, tsh_33, tzero_33, telem_33, lenK_33, nilK_33, srcT_33, byt_33, tsh_36, tzero_36, telem_36, lenK_36, nilK_36, srcT_36, byt_36, und_36, tsh_39, tzero_39, telem_39, lenK_39, nilK_39, srcT_39, byt_39, und_39, tsh_41, tzero_41, telem_41, lenK_41, nilK_41, srcT_41, byt_41, eqKs_41, tpl_41, tf_41_0, tf_41_1, tsh_50, tzero_50, telem_50, lenK_50, nilK_50, srcT_50, byt_50, tsh_56, tzero_56, telem_56, lenK_56, nilK_56, srcT_56, byt_56, und_56, cv_23_3

end Go.Ev.F07
end
