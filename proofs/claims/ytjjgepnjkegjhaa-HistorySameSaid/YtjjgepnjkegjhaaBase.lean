/- A part of the proof: walks of the functions that the law calls. No condition. -/
import Derived.Test.YtjjgepnjkegjhaaRun
import Derived.Test.YtjjgepnjkegjhaaEvC
import Derived.Test.YtjjgepnjkegjhaaIns
set_option linter.all false
section
namespace Go.Ev.F23
open Go.Proofs Go.Ev
set_option maxRecDepth 100000
set_option linter.all false

/- the seat's configuration and facts -/
noncomputable def Cf : Cfg := { P := Try.prog, md := fun f => match f with | 3 => .imp | 4 => .imp | 5 => .imp | 6 => .imp | 7 => .pure | 8 => .pure | 9 => .imp | 10 => .pure | 11 => .pure | 12 => .pure | 13 => .pure | 14 => .pure | 15 => .pure | 16 => .pure | 17 => .pure | 18 => .pure | 19 => .pure | 20 => .pure | 21 => .pure | 22 => .pure | 23 => .imp | 24 => .imp | 25 => .imp | 26 => .imp | 27 => .imp | 28 => .imp | 29 => .imp | 30 => .imp | 31 => .ext sDSpec | 32 => .imp | 33 => .imp | 34 => .ext sASpec | 37 => .imp | 38 => .imp | 39 => .imp | 40 => .ext sBSpec | 42 => .imp | 43 => .imp | 44 => .pure | 45 => .imp | 46 => .imp | 48 => .imp | 50 => .imp | 51 => .imp | 52 => .imp | 53 => .imp | 54 => .imp | 55 => .imp | 56 => .pure | 57 => .imp | 58 => .imp | 60 => .pure | 77 => .imp | 78 => .pure | 79 => .imp | 81 => .imp | 82 => .pure | 89 => .imp | _ => .no }
def okf (f : FuncId) : Bool := [3, 4, 5, 6, 7, 8, 9, 10, 11, 12, 13, 14, 15, 16, 17, 18, 19, 20, 21, 22, 23, 24, 25, 26, 27, 28, 29, 30, 32, 33, 37, 38, 39, 42, 43, 44, 45, 46, 48, 50, 51, 52, 53, 54, 55, 56, 57, 58, 60, 77, 78, 79, 81, 82, 89].contains f
theorem CfP : Cf.P = Try.prog := rfl
theorem okfOK : ∀ f, okf f = true → okFn Cf.P f = true := by
  have h : ([3, 4, 5, 6, 7, 8, 9, 10, 11, 12, 13, 14, 15, 16, 17, 18, 19, 20, 21, 22, 23, 24, 25, 26, 27, 28, 29, 30, 32, 33, 37, 38, 39, 42, 43, 44, 45, 46, 48, 50, 51, 52, 53, 54, 55, 56, 57, 58, 60, 77, 78, 79, 81, 82, 89].all fun f => okFn Try.prog f) = true := by decide +kernel
  intro f hf
  exact List.all_eq_true.1 h f (by simpa [okf] using hf)
theorem extOK : ExtOK Cf := by
  intro f spec h
  unfold Cf at h
  dsimp only at h
  split at h <;> cases h
  · exact fun args H Q h => sD_ext h
  · exact fun args H Q h => sA_ext h
  · exact fun args H Q h => sB_ext h
theorem md_31 : Cf.md 31 = .ext sDSpec := rfl
theorem md_34 : Cf.md 34 = .ext sASpec := rfl
theorem md_40 : Cf.md 40 = .ext sBSpec := rfl
theorem extMono : ExtMono Cf := by
  intro f spec h
  unfold Cf at h
  dsimp only at h
  split at h <;> cases h
  · exact fun args H Q Q' hq h => sDSpec_mono hq h
  · exact fun args H Q Q' hq h => sASpec_mono hq h
  · exact fun args H Q Q' hq h => sBSpec_mono hq h
theorem md_3 : Cf.md 3 = .imp := rfl
noncomputable def c3 : Code := Try.f3.body.getD .skip
theorem body3 : Try.f3.body = some c3 := by kernel_rfl
theorem md_4 : Cf.md 4 = .imp := rfl
noncomputable def c4 : Code := Try.f4.body.getD .skip
theorem body4 : Try.f4.body = some c4 := by kernel_rfl
theorem md_5 : Cf.md 5 = .imp := rfl
noncomputable def c5 : Code := Try.f5.body.getD .skip
theorem body5 : Try.f5.body = some c5 := by kernel_rfl
theorem md_6 : Cf.md 6 = .imp := rfl
noncomputable def c6 : Code := Try.f6.body.getD .skip
theorem body6 : Try.f6.body = some c6 := by kernel_rfl
theorem md_7 : Cf.md 7 = .pure := rfl
noncomputable def c7 : Code := Try.f7.body.getD .skip
theorem body7 : Try.f7.body = some c7 := by kernel_rfl
theorem md_8 : Cf.md 8 = .pure := rfl
noncomputable def c8 : Code := Try.f8.body.getD .skip
theorem body8 : Try.f8.body = some c8 := by kernel_rfl
theorem md_9 : Cf.md 9 = .imp := rfl
noncomputable def c9 : Code := Try.f9.body.getD .skip
theorem body9 : Try.f9.body = some c9 := by kernel_rfl
theorem md_10 : Cf.md 10 = .pure := rfl
noncomputable def c10 : Code := Try.f10.body.getD .skip
theorem body10 : Try.f10.body = some c10 := by kernel_rfl
theorem md_11 : Cf.md 11 = .pure := rfl
noncomputable def c11 : Code := Try.f11.body.getD .skip
theorem body11 : Try.f11.body = some c11 := by kernel_rfl
theorem md_12 : Cf.md 12 = .pure := rfl
noncomputable def c12 : Code := Try.f12.body.getD .skip
theorem body12 : Try.f12.body = some c12 := by kernel_rfl
theorem md_13 : Cf.md 13 = .pure := rfl
noncomputable def c13 : Code := Try.f13.body.getD .skip
theorem body13 : Try.f13.body = some c13 := by kernel_rfl
theorem md_14 : Cf.md 14 = .pure := rfl
noncomputable def c14 : Code := Try.f14.body.getD .skip
theorem body14 : Try.f14.body = some c14 := by kernel_rfl
theorem md_15 : Cf.md 15 = .pure := rfl
noncomputable def c15 : Code := Try.f15.body.getD .skip
theorem body15 : Try.f15.body = some c15 := by kernel_rfl
theorem md_16 : Cf.md 16 = .pure := rfl
noncomputable def c16 : Code := Try.f16.body.getD .skip
theorem body16 : Try.f16.body = some c16 := by kernel_rfl
theorem md_17 : Cf.md 17 = .pure := rfl
noncomputable def c17 : Code := Try.f17.body.getD .skip
theorem body17 : Try.f17.body = some c17 := by kernel_rfl
theorem md_18 : Cf.md 18 = .pure := rfl
noncomputable def c18 : Code := Try.f18.body.getD .skip
theorem body18 : Try.f18.body = some c18 := by kernel_rfl
theorem md_19 : Cf.md 19 = .pure := rfl
noncomputable def c19 : Code := Try.f19.body.getD .skip
theorem body19 : Try.f19.body = some c19 := by kernel_rfl
theorem md_20 : Cf.md 20 = .pure := rfl
noncomputable def c20 : Code := Try.f20.body.getD .skip
theorem body20 : Try.f20.body = some c20 := by kernel_rfl
theorem md_21 : Cf.md 21 = .pure := rfl
noncomputable def c21 : Code := Try.f21.body.getD .skip
theorem body21 : Try.f21.body = some c21 := by kernel_rfl
theorem md_22 : Cf.md 22 = .pure := rfl
noncomputable def c22 : Code := Try.f22.body.getD .skip
theorem body22 : Try.f22.body = some c22 := by kernel_rfl
theorem md_23 : Cf.md 23 = .imp := rfl
noncomputable def c23 : Code := Try.f23.body.getD .skip
theorem body23 : Try.f23.body = some c23 := by kernel_rfl
theorem md_24 : Cf.md 24 = .imp := rfl
noncomputable def c24 : Code := Try.f24.body.getD .skip
theorem body24 : Try.f24.body = some c24 := by kernel_rfl
theorem md_25 : Cf.md 25 = .imp := rfl
noncomputable def c25 : Code := Try.f25.body.getD .skip
theorem body25 : Try.f25.body = some c25 := by kernel_rfl
theorem md_26 : Cf.md 26 = .imp := rfl
noncomputable def c26 : Code := Try.f26.body.getD .skip
theorem body26 : Try.f26.body = some c26 := by kernel_rfl
theorem md_27 : Cf.md 27 = .imp := rfl
noncomputable def c27 : Code := Try.f27.body.getD .skip
theorem body27 : Try.f27.body = some c27 := by kernel_rfl
theorem md_28 : Cf.md 28 = .imp := rfl
noncomputable def c28 : Code := Try.f28.body.getD .skip
theorem body28 : Try.f28.body = some c28 := by kernel_rfl
theorem md_29 : Cf.md 29 = .imp := rfl
noncomputable def c29 : Code := Try.f29.body.getD .skip
theorem body29 : Try.f29.body = some c29 := by kernel_rfl
theorem md_30 : Cf.md 30 = .imp := rfl
noncomputable def c30 : Code := Try.f30.body.getD .skip
theorem body30 : Try.f30.body = some c30 := by kernel_rfl
theorem md_32 : Cf.md 32 = .imp := rfl
noncomputable def c32 : Code := Try.f32.body.getD .skip
theorem body32 : Try.f32.body = some c32 := by kernel_rfl
theorem md_33 : Cf.md 33 = .imp := rfl
noncomputable def c33 : Code := Try.f33.body.getD .skip
theorem body33 : Try.f33.body = some c33 := by kernel_rfl
theorem md_37 : Cf.md 37 = .imp := rfl
noncomputable def c37 : Code := Try.f37.body.getD .skip
theorem body37 : Try.f37.body = some c37 := by kernel_rfl
theorem md_38 : Cf.md 38 = .imp := rfl
noncomputable def c38 : Code := Try.f38.body.getD .skip
theorem body38 : Try.f38.body = some c38 := by kernel_rfl
theorem md_39 : Cf.md 39 = .imp := rfl
noncomputable def c39 : Code := Try.f39.body.getD .skip
theorem body39 : Try.f39.body = some c39 := by kernel_rfl
theorem md_42 : Cf.md 42 = .imp := rfl
noncomputable def c42 : Code := Try.f42.body.getD .skip
theorem body42 : Try.f42.body = some c42 := by kernel_rfl
theorem md_43 : Cf.md 43 = .imp := rfl
noncomputable def c43 : Code := Try.f43.body.getD .skip
theorem body43 : Try.f43.body = some c43 := by kernel_rfl
theorem md_44 : Cf.md 44 = .pure := rfl
noncomputable def c44 : Code := Try.f44.body.getD .skip
theorem body44 : Try.f44.body = some c44 := by kernel_rfl
theorem md_45 : Cf.md 45 = .imp := rfl
noncomputable def c45 : Code := Try.f45.body.getD .skip
theorem body45 : Try.f45.body = some c45 := by kernel_rfl
theorem md_46 : Cf.md 46 = .imp := rfl
noncomputable def c46 : Code := Try.f46.body.getD .skip
theorem body46 : Try.f46.body = some c46 := by kernel_rfl
theorem md_48 : Cf.md 48 = .imp := rfl
noncomputable def c48 : Code := Try.f48.body.getD .skip
theorem body48 : Try.f48.body = some c48 := by kernel_rfl
theorem md_50 : Cf.md 50 = .imp := rfl
noncomputable def c50 : Code := Try.f50.body.getD .skip
theorem body50 : Try.f50.body = some c50 := by kernel_rfl
theorem md_51 : Cf.md 51 = .imp := rfl
noncomputable def c51 : Code := Try.f51.body.getD .skip
theorem body51 : Try.f51.body = some c51 := by kernel_rfl
theorem md_52 : Cf.md 52 = .imp := rfl
noncomputable def c52 : Code := Try.f52.body.getD .skip
theorem body52 : Try.f52.body = some c52 := by kernel_rfl
theorem md_53 : Cf.md 53 = .imp := rfl
noncomputable def c53 : Code := Try.f53.body.getD .skip
theorem body53 : Try.f53.body = some c53 := by kernel_rfl
theorem md_54 : Cf.md 54 = .imp := rfl
noncomputable def c54 : Code := Try.f54.body.getD .skip
theorem body54 : Try.f54.body = some c54 := by kernel_rfl
theorem md_55 : Cf.md 55 = .imp := rfl
noncomputable def c55 : Code := Try.f55.body.getD .skip
theorem body55 : Try.f55.body = some c55 := by kernel_rfl
theorem md_56 : Cf.md 56 = .pure := rfl
noncomputable def c56 : Code := Try.f56.body.getD .skip
theorem body56 : Try.f56.body = some c56 := by kernel_rfl
theorem md_57 : Cf.md 57 = .imp := rfl
noncomputable def c57 : Code := Try.f57.body.getD .skip
theorem body57 : Try.f57.body = some c57 := by kernel_rfl
theorem md_58 : Cf.md 58 = .imp := rfl
noncomputable def c58 : Code := Try.f58.body.getD .skip
theorem body58 : Try.f58.body = some c58 := by kernel_rfl
theorem md_60 : Cf.md 60 = .pure := rfl
noncomputable def c60 : Code := Try.f60.body.getD .skip
theorem body60 : Try.f60.body = some c60 := by kernel_rfl
theorem md_77 : Cf.md 77 = .imp := rfl
noncomputable def c77 : Code := Try.f77.body.getD .skip
theorem body77 : Try.f77.body = some c77 := by kernel_rfl
theorem md_78 : Cf.md 78 = .pure := rfl
noncomputable def c78 : Code := Try.f78.body.getD .skip
theorem body78 : Try.f78.body = some c78 := by kernel_rfl
theorem md_79 : Cf.md 79 = .imp := rfl
noncomputable def c79 : Code := Try.f79.body.getD .skip
theorem body79 : Try.f79.body = some c79 := by kernel_rfl
theorem md_81 : Cf.md 81 = .imp := rfl
noncomputable def c81 : Code := Try.f81.body.getD .skip
theorem body81 : Try.f81.body = some c81 := by kernel_rfl
theorem md_82 : Cf.md 82 = .pure := rfl
noncomputable def c82 : Code := Try.f82.body.getD .skip
theorem body82 : Try.f82.body = some c82 := by kernel_rfl
theorem md_89 : Cf.md 89 = .imp := rfl
noncomputable def c89 : Code := Try.f89.body.getD .skip
theorem body89 : Try.f89.body = some c89 := by kernel_rfl
def pl_6_14 : Pl := (.r 0 (.r 1 (.r 2 (.r 3 (.r 4 (.r 5 (.r 6 (.o 7 [4, 2] (.r 8 (.o 9 [] .done .stop)) .stop))))))))
def pl_17_9 : Pl := (.r 0 (.r 1 (.r 2 (.r 3 (.o 4 [2] (.r 5 (.o 6 [] .done .stop)) .stop)))))
theorem tsh_3 : tsh Try.prog 3 = some 0 := by decide +kernel
theorem tzero_3 : tzero Try.prog 3 = some (.p (.int .i64 0)) := by kernel_rfl
theorem telem_3 : telem Try.prog 3 = none := by decide +kernel
theorem lenK_3 : lenKind Try.prog 3 = (0, 0) := by decide +kernel
theorem nilK_3 : nilK Try.prog 3 = 0 := by decide +kernel
theorem srcT_3 : isSrcT Try.prog 3 = false := by decide +kernel
theorem byt_3 : Program.bytesOf Try.prog 3 = 8 := by decide +kernel
theorem und_3 : Program.underlying Try.prog 3 = some (.int .i64) := by kernel_rfl
theorem tsh_4 : tsh Try.prog 4 = some 0 := by decide +kernel
theorem tzero_4 : tzero Try.prog 4 = some (.p (.bool false)) := by kernel_rfl
theorem telem_4 : telem Try.prog 4 = none := by decide +kernel
theorem lenK_4 : lenKind Try.prog 4 = (0, 0) := by decide +kernel
theorem nilK_4 : nilK Try.prog 4 = 5 := by decide +kernel
theorem srcT_4 : isSrcT Try.prog 4 = false := by decide +kernel
theorem byt_4 : Program.bytesOf Try.prog 4 = 1 := by decide +kernel
theorem und_4 : Program.underlying Try.prog 4 = some .bool := by kernel_rfl
theorem tsh_5 : tsh Try.prog 5 = some 0 := by decide +kernel
theorem tzero_5 : tzero Try.prog 5 = some (.p (.int .u8 0)) := by kernel_rfl
theorem telem_5 : telem Try.prog 5 = none := by decide +kernel
theorem lenK_5 : lenKind Try.prog 5 = (0, 0) := by decide +kernel
theorem nilK_5 : nilK Try.prog 5 = 0 := by decide +kernel
theorem srcT_5 : isSrcT Try.prog 5 = false := by decide +kernel
theorem byt_5 : Program.bytesOf Try.prog 5 = 1 := by decide +kernel
theorem und_5 : Program.underlying Try.prog 5 = some (.int .u8) := by kernel_rfl
theorem tsh_9 : tsh Try.prog 9 = some 0 := by decide +kernel
theorem tzero_9 : tzero Try.prog 9 = some (.p (.str [])) := by kernel_rfl
theorem telem_9 : telem Try.prog 9 = none := by decide +kernel
theorem lenK_9 : lenKind Try.prog 9 = (2, 0) := by decide +kernel
theorem nilK_9 : nilK Try.prog 9 = 0 := by decide +kernel
theorem srcT_9 : isSrcT Try.prog 9 = true := by decide +kernel
theorem byt_9 : Program.bytesOf Try.prog 9 = 16 := by decide +kernel
theorem und_9 : Program.underlying Try.prog 9 = some .string := by kernel_rfl
theorem tsh_22 : tsh Try.prog 22 = some 0 := by decide +kernel
theorem tzero_22 : tzero Try.prog 22 = some (.nsl) := by kernel_rfl
theorem telem_22 : telem Try.prog 22 = some (49, 3) := by decide +kernel
theorem lenK_22 : lenKind Try.prog 22 = (3, 0) := by decide +kernel
theorem nilK_22 : nilK Try.prog 22 = 4 := by decide +kernel
theorem srcT_22 : isSrcT Try.prog 22 = true := by decide +kernel
theorem byt_22 : Program.bytesOf Try.prog 22 = 24 := by decide +kernel
theorem und_22 : Program.underlying Try.prog 22 = some (.slice 49) := by kernel_rfl
theorem tsh_24 : tsh Try.prog 24 = some 0 := by decide +kernel
theorem tzero_24 : tzero Try.prog 24 = some (.nsl) := by kernel_rfl
theorem telem_24 : telem Try.prog 24 = some (45, 3) := by decide +kernel
theorem lenK_24 : lenKind Try.prog 24 = (3, 0) := by decide +kernel
theorem nilK_24 : nilK Try.prog 24 = 4 := by decide +kernel
theorem srcT_24 : isSrcT Try.prog 24 = true := by decide +kernel
theorem byt_24 : Program.bytesOf Try.prog 24 = 24 := by decide +kernel
theorem und_24 : Program.underlying Try.prog 24 = some (.slice 45) := by kernel_rfl
theorem tsh_26 : tsh Try.prog 26 = some 0 := by decide +kernel
theorem tzero_26 : tzero Try.prog 26 = some (.nsl) := by kernel_rfl
theorem telem_26 : telem Try.prog 26 = some (3, 0) := by decide +kernel
theorem lenK_26 : lenKind Try.prog 26 = (3, 0) := by decide +kernel
theorem nilK_26 : nilK Try.prog 26 = 4 := by decide +kernel
theorem srcT_26 : isSrcT Try.prog 26 = true := by decide +kernel
theorem byt_26 : Program.bytesOf Try.prog 26 = 24 := by decide +kernel
theorem und_26 : Program.underlying Try.prog 26 = some (.slice 3) := by kernel_rfl
theorem tsh_34 : tsh Try.prog 34 = some 0 := by decide +kernel
theorem tzero_34 : tzero Try.prog 34 = some (.nsl) := by kernel_rfl
theorem telem_34 : telem Try.prog 34 = some (37, 2) := by decide +kernel
theorem lenK_34 : lenKind Try.prog 34 = (3, 0) := by decide +kernel
theorem nilK_34 : nilK Try.prog 34 = 4 := by decide +kernel
theorem srcT_34 : isSrcT Try.prog 34 = true := by decide +kernel
theorem byt_34 : Program.bytesOf Try.prog 34 = 24 := by decide +kernel
theorem und_34 : Program.underlying Try.prog 34 = some (.slice 37) := by kernel_rfl
theorem tsh_37 : tsh Try.prog 37 = some 2 := by decide +kernel
theorem tzero_37 : tzero Try.prog 37 = some (.p (.agg [.int .i64 0, .int .i64 0])) := by kernel_rfl
theorem telem_37 : telem Try.prog 37 = none := by decide +kernel
theorem lenK_37 : lenKind Try.prog 37 = (0, 0) := by decide +kernel
theorem nilK_37 : nilK Try.prog 37 = 0 := by decide +kernel
theorem srcT_37 : isSrcT Try.prog 37 = false := by decide +kernel
theorem byt_37 : Program.bytesOf Try.prog 37 = 16 := by decide +kernel
theorem eqKs_37 : eqKs Try.prog 37 = some [2, 2] := by decide +kernel
theorem tpl_37 : tplaces Try.prog 37 = some (.inl [(0, 1), (1, 1)]) := by kernel_rfl
theorem tf_37_0 : tfield Try.prog 37 0 = some (0, 0) := by decide +kernel
theorem tf_37_1 : tfield Try.prog 37 1 = some (1, 0) := by decide +kernel
theorem tsh_40 : tsh Try.prog 40 = some 0 := by decide +kernel
theorem tzero_40 : tzero Try.prog 40 = some (.nsl) := by kernel_rfl
theorem telem_40 : telem Try.prog 40 = some (47, 2) := by decide +kernel
theorem lenK_40 : lenKind Try.prog 40 = (3, 0) := by decide +kernel
theorem nilK_40 : nilK Try.prog 40 = 4 := by decide +kernel
theorem srcT_40 : isSrcT Try.prog 40 = true := by decide +kernel
theorem byt_40 : Program.bytesOf Try.prog 40 = 24 := by decide +kernel
theorem und_40 : Program.underlying Try.prog 40 = some (.slice 47) := by kernel_rfl
theorem tsh_43 : tsh Try.prog 43 = some 0 := by decide +kernel
theorem tzero_43 : tzero Try.prog 43 = some (.p (.int .u64 0)) := by kernel_rfl
theorem telem_43 : telem Try.prog 43 = none := by decide +kernel
theorem lenK_43 : lenKind Try.prog 43 = (0, 0) := by decide +kernel
theorem nilK_43 : nilK Try.prog 43 = 0 := by decide +kernel
theorem srcT_43 : isSrcT Try.prog 43 = false := by decide +kernel
theorem byt_43 : Program.bytesOf Try.prog 43 = 8 := by decide +kernel
theorem und_43 : Program.underlying Try.prog 43 = some (.int .u64) := by kernel_rfl
theorem tsh_45 : tsh Try.prog 45 = some 3 := by decide +kernel
theorem tzero_45 : tzero Try.prog 45 = some (.p (.agg [.int .i64 0, .int .u64 0, .bool false])) := by kernel_rfl
theorem telem_45 : telem Try.prog 45 = none := by decide +kernel
theorem lenK_45 : lenKind Try.prog 45 = (0, 0) := by decide +kernel
theorem nilK_45 : nilK Try.prog 45 = 0 := by decide +kernel
theorem srcT_45 : isSrcT Try.prog 45 = false := by decide +kernel
theorem byt_45 : Program.bytesOf Try.prog 45 = 24 := by decide +kernel
theorem eqKs_45 : eqKs Try.prog 45 = some [2, 2, 1] := by decide +kernel
theorem tpl_45 : tplaces Try.prog 45 = some (.inl [(0, 1), (1, 1), (2, 1)]) := by kernel_rfl
theorem tf_45_0 : tfield Try.prog 45 0 = some (0, 0) := by decide +kernel
theorem tf_45_1 : tfield Try.prog 45 1 = some (1, 0) := by decide +kernel
theorem tf_45_2 : tfield Try.prog 45 2 = some (2, 0) := by decide +kernel
theorem tsh_47 : tsh Try.prog 47 = some 2 := by decide +kernel
theorem tzero_47 : tzero Try.prog 47 = some (.p (.agg [.int .i64 0, .int .i64 0])) := by kernel_rfl
theorem telem_47 : telem Try.prog 47 = none := by decide +kernel
theorem lenK_47 : lenKind Try.prog 47 = (0, 0) := by decide +kernel
theorem nilK_47 : nilK Try.prog 47 = 0 := by decide +kernel
theorem srcT_47 : isSrcT Try.prog 47 = false := by decide +kernel
theorem byt_47 : Program.bytesOf Try.prog 47 = 16 := by decide +kernel
theorem eqKs_47 : eqKs Try.prog 47 = some [2, 2] := by decide +kernel
theorem tpl_47 : tplaces Try.prog 47 = some (.inl [(0, 1), (1, 1)]) := by kernel_rfl
theorem tf_47_0 : tfield Try.prog 47 0 = some (0, 0) := by decide +kernel
theorem tf_47_1 : tfield Try.prog 47 1 = some (1, 0) := by decide +kernel
theorem tsh_49 : tsh Try.prog 49 = some 3 := by decide +kernel
theorem tzero_49 : tzero Try.prog 49 = some (.p (.agg [.int .i64 0, .int .u64 0, .bool false])) := by kernel_rfl
theorem telem_49 : telem Try.prog 49 = none := by decide +kernel
theorem lenK_49 : lenKind Try.prog 49 = (0, 0) := by decide +kernel
theorem nilK_49 : nilK Try.prog 49 = 0 := by decide +kernel
theorem srcT_49 : isSrcT Try.prog 49 = false := by decide +kernel
theorem byt_49 : Program.bytesOf Try.prog 49 = 24 := by decide +kernel
theorem eqKs_49 : eqKs Try.prog 49 = some [2, 2, 1] := by decide +kernel
theorem tpl_49 : tplaces Try.prog 49 = some (.inl [(0, 1), (1, 1), (2, 1)]) := by kernel_rfl
theorem tf_49_0 : tfield Try.prog 49 0 = some (0, 0) := by decide +kernel
theorem tf_49_1 : tfield Try.prog 49 1 = some (1, 0) := by decide +kernel
theorem tf_49_2 : tfield Try.prog 49 2 = some (2, 0) := by decide +kernel
theorem tsh_56 : tsh Try.prog 56 = some 0 := by decide +kernel
theorem tzero_56 : tzero Try.prog 56 = some (.p (.nfn)) := by kernel_rfl
theorem telem_56 : telem Try.prog 56 = none := by decide +kernel
theorem lenK_56 : lenKind Try.prog 56 = (0, 0) := by decide +kernel
theorem nilK_56 : nilK Try.prog 56 = 2 := by decide +kernel
theorem srcT_56 : isSrcT Try.prog 56 = false := by decide +kernel
theorem byt_56 : Program.bytesOf Try.prog 56 = 8 := by decide +kernel
theorem tsh_57 : tsh Try.prog 57 = some 0 := by decide +kernel
theorem tzero_57 : tzero Try.prog 57 = some (.p (.nfn)) := by kernel_rfl
theorem telem_57 : telem Try.prog 57 = none := by decide +kernel
theorem lenK_57 : lenKind Try.prog 57 = (0, 0) := by decide +kernel
theorem nilK_57 : nilK Try.prog 57 = 2 := by decide +kernel
theorem srcT_57 : isSrcT Try.prog 57 = false := by decide +kernel
theorem byt_57 : Program.bytesOf Try.prog 57 = 8 := by decide +kernel
theorem tsh_63 : tsh Try.prog 63 = some 0 := by decide +kernel
theorem tzero_63 : tzero Try.prog 63 = some (.p (.nfn)) := by kernel_rfl
theorem telem_63 : telem Try.prog 63 = none := by decide +kernel
theorem lenK_63 : lenKind Try.prog 63 = (0, 0) := by decide +kernel
theorem nilK_63 : nilK Try.prog 63 = 2 := by decide +kernel
theorem srcT_63 : isSrcT Try.prog 63 = false := by decide +kernel
theorem byt_63 : Program.bytesOf Try.prog 63 = 8 := by decide +kernel
theorem tsh_65 : tsh Try.prog 65 = some 0 := by decide +kernel
theorem tzero_65 : tzero Try.prog 65 = some (.p (.nmap)) := by kernel_rfl
theorem telem_65 : telem Try.prog 65 = none := by decide +kernel
theorem lenK_65 : lenKind Try.prog 65 = (4, 0) := by decide +kernel
theorem nilK_65 : nilK Try.prog 65 = 3 := by decide +kernel
theorem srcT_65 : isSrcT Try.prog 65 = false := by decide +kernel
theorem byt_65 : Program.bytesOf Try.prog 65 = 8 := by decide +kernel
theorem tmap_65 : tmap Try.prog 65 = some (43, 47, .plain 2) := by kernel_rfl
theorem tsh_66 : tsh Try.prog 66 = some 0 := by decide +kernel
theorem tzero_66 : tzero Try.prog 66 = some (.p (.nmap)) := by kernel_rfl
theorem telem_66 : telem Try.prog 66 = none := by decide +kernel
theorem lenK_66 : lenKind Try.prog 66 = (4, 0) := by decide +kernel
theorem nilK_66 : nilK Try.prog 66 = 3 := by decide +kernel
theorem srcT_66 : isSrcT Try.prog 66 = false := by decide +kernel
theorem byt_66 : Program.bytesOf Try.prog 66 = 8 := by decide +kernel
theorem tmap_66 : tmap Try.prog 66 = some (45, 3, .wide [2, 2, 1]) := by kernel_rfl
theorem tsh_68 : tsh Try.prog 68 = some 0 := by decide +kernel
theorem tzero_68 : tzero Try.prog 68 = some (.p (.nfn)) := by kernel_rfl
theorem telem_68 : telem Try.prog 68 = none := by decide +kernel
theorem lenK_68 : lenKind Try.prog 68 = (0, 0) := by decide +kernel
theorem nilK_68 : nilK Try.prog 68 = 2 := by decide +kernel
theorem srcT_68 : isSrcT Try.prog 68 = false := by decide +kernel
theorem byt_68 : Program.bytesOf Try.prog 68 = 8 := by decide +kernel
theorem tsh_70 : tsh Try.prog 70 = some 0 := by decide +kernel
theorem tzero_70 : tzero Try.prog 70 = some (.p (.nfn)) := by kernel_rfl
theorem telem_70 : telem Try.prog 70 = none := by decide +kernel
theorem lenK_70 : lenKind Try.prog 70 = (0, 0) := by decide +kernel
theorem nilK_70 : nilK Try.prog 70 = 2 := by decide +kernel
theorem srcT_70 : isSrcT Try.prog 70 = false := by decide +kernel
theorem byt_70 : Program.bytesOf Try.prog 70 = 8 := by decide +kernel
theorem tsh_73 : tsh Try.prog 73 = some 0 := by decide +kernel
theorem tzero_73 : tzero Try.prog 73 = some (.p (.int .u64 0)) := by kernel_rfl
theorem telem_73 : telem Try.prog 73 = none := by decide +kernel
theorem lenK_73 : lenKind Try.prog 73 = (0, 0) := by decide +kernel
theorem nilK_73 : nilK Try.prog 73 = 0 := by decide +kernel
theorem srcT_73 : isSrcT Try.prog 73 = false := by decide +kernel
theorem byt_73 : Program.bytesOf Try.prog 73 = 8 := by decide +kernel
theorem und_73 : Program.underlying Try.prog 73 = some (.int .u64) := by kernel_rfl
theorem tsh_80 : tsh Try.prog 80 = some 0 := by decide +kernel
theorem tzero_80 : tzero Try.prog 80 = some (.p (.int .i64 0)) := by kernel_rfl
theorem telem_80 : telem Try.prog 80 = none := by decide +kernel
theorem lenK_80 : lenKind Try.prog 80 = (0, 0) := by decide +kernel
theorem nilK_80 : nilK Try.prog 80 = 0 := by decide +kernel
theorem srcT_80 : isSrcT Try.prog 80 = false := by decide +kernel
theorem byt_80 : Program.bytesOf Try.prog 80 = 8 := by decide +kernel
theorem und_80 : Program.underlying Try.prog 80 = some (.int .i64) := by kernel_rfl
theorem tsh_89 : tsh Try.prog 89 = some 0 := by decide +kernel
theorem tzero_89 : tzero Try.prog 89 = some (.p (.int .u32 0)) := by kernel_rfl
theorem telem_89 : telem Try.prog 89 = none := by decide +kernel
theorem lenK_89 : lenKind Try.prog 89 = (0, 0) := by decide +kernel
theorem nilK_89 : nilK Try.prog 89 = 0 := by decide +kernel
theorem srcT_89 : isSrcT Try.prog 89 = false := by decide +kernel
theorem byt_89 : Program.bytesOf Try.prog 89 = 4 := by decide +kernel
theorem und_89 : Program.underlying Try.prog 89 = some (.int .u32) := by kernel_rfl
theorem tsh_101 : tsh Try.prog 101 = some 0 := by decide +kernel
theorem tzero_101 : tzero Try.prog 101 = some (.p (.int .u64 0)) := by kernel_rfl
theorem telem_101 : telem Try.prog 101 = none := by decide +kernel
theorem lenK_101 : lenKind Try.prog 101 = (0, 0) := by decide +kernel
theorem nilK_101 : nilK Try.prog 101 = 0 := by decide +kernel
theorem srcT_101 : isSrcT Try.prog 101 = false := by decide +kernel
theorem byt_101 : Program.bytesOf Try.prog 101 = 8 := by decide +kernel
theorem und_101 : Program.underlying Try.prog 101 = some (.int .u64) := by kernel_rfl
theorem tsh_105 : tsh Try.prog 105 = some 0 := by decide +kernel
theorem tzero_105 : tzero Try.prog 105 = some (.p (.nptr)) := by kernel_rfl
theorem telem_105 : telem Try.prog 105 = none := by decide +kernel
theorem lenK_105 : lenKind Try.prog 105 = (0, 0) := by decide +kernel
theorem nilK_105 : nilK Try.prog 105 = 1 := by decide +kernel
theorem srcT_105 : isSrcT Try.prog 105 = false := by decide +kernel
theorem byt_105 : Program.bytesOf Try.prog 105 = 8 := by decide +kernel
theorem tsh_111 : tsh Try.prog 111 = some 0 := by decide +kernel
theorem tzero_111 : tzero Try.prog 111 = some (.p (.nptr)) := by kernel_rfl
theorem telem_111 : telem Try.prog 111 = none := by decide +kernel
theorem lenK_111 : lenKind Try.prog 111 = (0, 0) := by decide +kernel
theorem nilK_111 : nilK Try.prog 111 = 1 := by decide +kernel
theorem srcT_111 : isSrcT Try.prog 111 = false := by decide +kernel
theorem byt_111 : Program.bytesOf Try.prog 111 = 8 := by decide +kernel
theorem cv_3_73 : cvKind Try.prog 3 73 = .plain := by kernel_rfl
theorem cv_3_101 : cvKind Try.prog 3 101 = .plain := by kernel_rfl
theorem cv_5_3 : cvKind Try.prog 5 3 = .plain := by kernel_rfl
theorem cv_43_5 : cvKind Try.prog 43 5 = .plain := by kernel_rfl
theorem cv_73_3 : cvKind Try.prog 73 3 = .plain := by kernel_rfl
theorem cv_73_89 : cvKind Try.prog 73 89 = .plain := by kernel_rfl
def wkF := (And.intro (And.intro (And.intro (And.intro (And.intro (And.intro (And.intro tsh_3 (And.intro tzero_3 telem_3)) (And.intro (And.intro lenK_3 nilK_3) (And.intro srcT_3 byt_3))) (And.intro (And.intro und_3 (And.intro tsh_4 tzero_4)) (And.intro (And.intro telem_4 lenK_4) (And.intro nilK_4 srcT_4)))) (And.intro (And.intro (And.intro byt_4 (And.intro und_4 tsh_5)) (And.intro (And.intro tzero_5 telem_5) (And.intro lenK_5 nilK_5))) (And.intro (And.intro srcT_5 (And.intro byt_5 und_5)) (And.intro (And.intro tsh_9 tzero_9) (And.intro telem_9 lenK_9))))) (And.intro (And.intro (And.intro (And.intro nilK_9 (And.intro srcT_9 byt_9)) (And.intro (And.intro und_9 tsh_22) (And.intro tzero_22 telem_22))) (And.intro (And.intro lenK_22 (And.intro nilK_22 srcT_22)) (And.intro (And.intro byt_22 und_22) (And.intro tsh_24 tzero_24)))) (And.intro (And.intro (And.intro telem_24 (And.intro lenK_24 nilK_24)) (And.intro (And.intro srcT_24 byt_24) (And.intro und_24 tsh_26))) (And.intro (And.intro (And.intro tzero_26 telem_26) (And.intro lenK_26 nilK_26)) (And.intro (And.intro srcT_26 byt_26) (And.intro und_26 tsh_34)))))) (And.intro (And.intro (And.intro (And.intro (And.intro tzero_34 (And.intro telem_34 lenK_34)) (And.intro (And.intro nilK_34 srcT_34) (And.intro byt_34 und_34))) (And.intro (And.intro tsh_37 (And.intro tzero_37 telem_37)) (And.intro (And.intro lenK_37 nilK_37) (And.intro srcT_37 byt_37)))) (And.intro (And.intro (And.intro eqKs_37 (And.intro tpl_37 tf_37_0)) (And.intro (And.intro tf_37_1 tsh_40) (And.intro tzero_40 telem_40))) (And.intro (And.intro (And.intro lenK_40 nilK_40) (And.intro srcT_40 byt_40)) (And.intro (And.intro und_40 tsh_43) (And.intro tzero_43 telem_43))))) (And.intro (And.intro (And.intro (And.intro lenK_43 (And.intro nilK_43 srcT_43)) (And.intro (And.intro byt_43 und_43) (And.intro tsh_45 tzero_45))) (And.intro (And.intro telem_45 (And.intro lenK_45 nilK_45)) (And.intro (And.intro srcT_45 byt_45) (And.intro eqKs_45 tpl_45)))) (And.intro (And.intro (And.intro tf_45_0 (And.intro tf_45_1 tf_45_2)) (And.intro (And.intro tsh_47 tzero_47) (And.intro telem_47 lenK_47))) (And.intro (And.intro (And.intro nilK_47 srcT_47) (And.intro byt_47 eqKs_47)) (And.intro (And.intro tpl_47 tf_47_0) (And.intro tf_47_1 tsh_49))))))) (And.intro (And.intro (And.intro (And.intro (And.intro (And.intro tzero_49 (And.intro telem_49 lenK_49)) (And.intro (And.intro nilK_49 srcT_49) (And.intro byt_49 eqKs_49))) (And.intro (And.intro tpl_49 (And.intro tf_49_0 tf_49_1)) (And.intro (And.intro tf_49_2 tsh_56) (And.intro tzero_56 telem_56)))) (And.intro (And.intro (And.intro lenK_56 (And.intro nilK_56 srcT_56)) (And.intro (And.intro byt_56 tsh_57) (And.intro tzero_57 telem_57))) (And.intro (And.intro lenK_57 (And.intro nilK_57 srcT_57)) (And.intro (And.intro byt_57 tsh_63) (And.intro tzero_63 telem_63))))) (And.intro (And.intro (And.intro (And.intro lenK_63 (And.intro nilK_63 srcT_63)) (And.intro (And.intro byt_63 tsh_65) (And.intro tzero_65 telem_65))) (And.intro (And.intro lenK_65 (And.intro nilK_65 srcT_65)) (And.intro (And.intro byt_65 tmap_65) (And.intro tsh_66 tzero_66)))) (And.intro (And.intro (And.intro telem_66 (And.intro lenK_66 nilK_66)) (And.intro (And.intro srcT_66 byt_66) (And.intro tmap_66 tsh_68))) (And.intro (And.intro (And.intro tzero_68 telem_68) (And.intro lenK_68 nilK_68)) (And.intro (And.intro srcT_68 byt_68) (And.intro tsh_70 tzero_70)))))) (And.intro (And.intro (And.intro (And.intro (And.intro telem_70 (And.intro lenK_70 nilK_70)) (And.intro (And.intro srcT_70 byt_70) (And.intro tsh_73 tzero_73))) (And.intro (And.intro telem_73 (And.intro lenK_73 nilK_73)) (And.intro (And.intro srcT_73 byt_73) (And.intro und_73 tsh_80)))) (And.intro (And.intro (And.intro tzero_80 (And.intro telem_80 lenK_80)) (And.intro (And.intro nilK_80 srcT_80) (And.intro byt_80 und_80))) (And.intro (And.intro (And.intro tsh_89 tzero_89) (And.intro telem_89 lenK_89)) (And.intro (And.intro nilK_89 srcT_89) (And.intro byt_89 und_89))))) (And.intro (And.intro (And.intro (And.intro tsh_101 (And.intro tzero_101 telem_101)) (And.intro (And.intro lenK_101 nilK_101) (And.intro srcT_101 byt_101))) (And.intro (And.intro und_101 (And.intro tsh_105 tzero_105)) (And.intro (And.intro telem_105 lenK_105) (And.intro nilK_105 srcT_105)))) (And.intro (And.intro (And.intro byt_105 (And.intro tsh_111 tzero_111)) (And.intro (And.intro telem_111 lenK_111) (And.intro nilK_111 srcT_111))) (And.intro (And.intro (And.intro byt_111 cv_3_73) (And.intro cv_3_101 cv_5_3)) (And.intro (And.intro cv_43_5 cv_73_3) (And.intro cv_73_89 CfP))))))))
-- FACTS: tsh_3, tzero_3, telem_3, lenK_3, nilK_3, srcT_3, byt_3, und_3, tsh_4, tzero_4, telem_4, lenK_4, nilK_4, srcT_4, byt_4, und_4, tsh_5, tzero_5, telem_5, lenK_5, nilK_5, srcT_5, byt_5, und_5, tsh_9, tzero_9, telem_9, lenK_9, nilK_9, srcT_9, byt_9, und_9, tsh_22, tzero_22, telem_22, lenK_22, nilK_22, srcT_22, byt_22, und_22, tsh_24, tzero_24, telem_24, lenK_24, nilK_24, srcT_24, byt_24, und_24, tsh_26, tzero_26, telem_26, lenK_26, nilK_26, srcT_26, byt_26, und_26, tsh_34, tzero_34, telem_34, lenK_34, nilK_34, srcT_34, byt_34, und_34, tsh_37, tzero_37, telem_37, lenK_37, nilK_37, srcT_37, byt_37, eqKs_37, tpl_37, tf_37_0, tf_37_1, tsh_40, tzero_40, telem_40, lenK_40, nilK_40, srcT_40, byt_40, und_40, tsh_43, tzero_43, telem_43, lenK_43, nilK_43, srcT_43, byt_43, und_43, tsh_45, tzero_45, telem_45, lenK_45, nilK_45, srcT_45, byt_45, eqKs_45, tpl_45, tf_45_0, tf_45_1, tf_45_2, tsh_47, tzero_47, telem_47, lenK_47, nilK_47, srcT_47, byt_47, eqKs_47, tpl_47, tf_47_0, tf_47_1, tsh_49, tzero_49, telem_49, lenK_49, nilK_49, srcT_49, byt_49, eqKs_49, tpl_49, tf_49_0, tf_49_1, tf_49_2, tsh_56, tzero_56, telem_56, lenK_56, nilK_56, srcT_56, byt_56, tsh_57, tzero_57, telem_57, lenK_57, nilK_57, srcT_57, byt_57, tsh_63, tzero_63, telem_63, lenK_63, nilK_63, srcT_63, byt_63, tsh_65, tzero_65, telem_65, lenK_65, nilK_65, srcT_65, byt_65, tmap_65, tsh_66, tzero_66, telem_66, lenK_66, nilK_66, srcT_66, byt_66, tmap_66, tsh_68, tzero_68, telem_68, lenK_68, nilK_68, srcT_68, byt_68, tsh_70, tzero_70, telem_70, lenK_70, nilK_70, srcT_70, byt_70, tsh_73, tzero_73, telem_73, lenK_73, nilK_73, srcT_73, byt_73, und_73, tsh_80, tzero_80, telem_80, lenK_80, nilK_80, srcT_80, byt_80, und_80, tsh_89, tzero_89, telem_89, lenK_89, nilK_89, srcT_89, byt_89, und_89, tsh_101, tzero_101, telem_101, lenK_101, nilK_101, srcT_101, byt_101, und_101, tsh_105, tzero_105, telem_105, lenK_105, nilK_105, srcT_105, byt_105, tsh_111, tzero_111, telem_111, lenK_111, nilK_111, srcT_111, byt_111, cv_3_73, cv_3_101, cv_5_3, cv_43_5, cv_73_3, cv_73_89

end Go.Ev.F23
end
