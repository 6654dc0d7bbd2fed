/- A part of the proof: walks of the functions that the law calls. No condition. -/
import Derived.Test.YtffjakkofdgpbaaProg
import Derived.Test.YtffjakkofdgpbaaRun
import Derived.Test.YtffjakkofdgpbaaEvC
set_option linter.all false
section
namespace Go.Ev.F12
open Go.Proofs Go.Ev
set_option maxRecDepth 100000
set_option linter.all false

/- the seat's configuration and facts -/
noncomputable def Cf : Cfg := { P := Try.prog, md := fun f => match f with | 3 => .imp | 4 => .imp | 5 => .imp | 6 => .imp | 7 => .imp | 8 => .pure | 9 => .pure | 10 => .pure | 11 => .pure | 12 => .pure | 13 => .pure | 14 => .pure | 15 => .pure | 16 => .pure | 17 => .pure | 18 => .pure | 19 => .pure | 20 => .pure | 21 => .pure | 22 => .pure | 23 => .pure | 24 => .pure | 25 => .pure | 26 => .pure | 27 => .imp | 28 => .imp | 29 => .pure | 30 => .imp | 31 => .imp | 32 => .imp | 33 => .pure | 34 => .imp | 35 => .pure | 36 => .imp | 37 => .imp | 38 => .imp | 39 => .imp | 40 => .imp | 41 => .imp | 42 => .pure | 43 => .imp | 44 => .imp | 45 => .pure | 46 => .pure | 47 => .imp | 48 => .pure | 49 => .imp | 50 => .imp | 51 => .imp | 52 => .pure | 53 => .imp | _ => .no }
def okf (f : FuncId) : Bool := [3, 4, 5, 6, 7, 8, 9, 10, 11, 12, 13, 14, 15, 16, 17, 18, 19, 20, 21, 22, 23, 24, 25, 26, 27, 28, 29, 30, 31, 32, 33, 34, 35, 36, 37, 38, 39, 40, 41, 42, 43, 44, 45, 46, 47, 48, 49, 50, 51, 52, 53].contains f
theorem CfP : Cf.P = Try.prog := rfl
theorem okfOK : ∀ f, okf f = true → okFn Cf.P f = true := by
  have h : ([3, 4, 5, 6, 7, 8, 9, 10, 11, 12, 13, 14, 15, 16, 17, 18, 19, 20, 21, 22, 23, 24, 25, 26, 27, 28, 29, 30, 31, 32, 33, 34, 35, 36, 37, 38, 39, 40, 41, 42, 43, 44, 45, 46, 47, 48, 49, 50, 51, 52, 53].all fun f => okFn Try.prog f) = true := by decide +kernel
  intro f hf
  exact List.all_eq_true.1 h f (by simpa [okf] using hf)
theorem extOK : ExtOK Cf := by
  intro f spec h
  unfold Cf at h
  dsimp only at h
  split at h <;> cases h
theorem extMono : ExtMono Cf := by
  intro f spec h
  unfold Cf at h
  dsimp only at h
  split at h <;> cases h
theorem md_3 : Cf.md 3 = .imp := rfl
noncomputable def c3 : Code := Try.f3.body.getD .skip
theorem body3 : Try.f3.body = some c3 := by kernel_rfl
theorem md_4 : Cf.md 4 = .imp := rfl
noncomputable def c4 : Code := Try.f4.body.getD .skip
theorem body4 : Try.f4.body = some c4 := by kernel_rfl
theorem md_5 : Cf.md 5 = .imp := rfl
noncomputable def c5 : Code := Try.f5.body.getD .skip
theorem body5 : Try.f5.body = some c5 := by kernel_rfl
theorem md_6 : Cf.md 6 = .imp := rfl
noncomputable def c6 : Code := Try.f6.body.getD .skip
theorem body6 : Try.f6.body = some c6 := by kernel_rfl
theorem md_7 : Cf.md 7 = .imp := rfl
noncomputable def c7 : Code := Try.f7.body.getD .skip
theorem body7 : Try.f7.body = some c7 := by kernel_rfl
theorem md_8 : Cf.md 8 = .pure := rfl
noncomputable def c8 : Code := Try.f8.body.getD .skip
theorem body8 : Try.f8.body = some c8 := by kernel_rfl
theorem md_9 : Cf.md 9 = .pure := rfl
noncomputable def c9 : Code := Try.f9.body.getD .skip
theorem body9 : Try.f9.body = some c9 := by kernel_rfl
theorem md_10 : Cf.md 10 = .pure := rfl
noncomputable def c10 : Code := Try.f10.body.getD .skip
theorem body10 : Try.f10.body = some c10 := by kernel_rfl
theorem md_11 : Cf.md 11 = .pure := rfl
noncomputable def c11 : Code := Try.f11.body.getD .skip
theorem body11 : Try.f11.body = some c11 := by kernel_rfl
theorem md_12 : Cf.md 12 = .pure := rfl
noncomputable def c12 : Code := Try.f12.body.getD .skip
theorem body12 : Try.f12.body = some c12 := by kernel_rfl
theorem md_13 : Cf.md 13 = .pure := rfl
noncomputable def c13 : Code := Try.f13.body.getD .skip
theorem body13 : Try.f13.body = some c13 := by kernel_rfl
theorem md_14 : Cf.md 14 = .pure := rfl
noncomputable def c14 : Code := Try.f14.body.getD .skip
theorem body14 : Try.f14.body = some c14 := by kernel_rfl
theorem md_15 : Cf.md 15 = .pure := rfl
noncomputable def c15 : Code := Try.f15.body.getD .skip
theorem body15 : Try.f15.body = some c15 := by kernel_rfl
theorem md_16 : Cf.md 16 = .pure := rfl
noncomputable def c16 : Code := Try.f16.body.getD .skip
theorem body16 : Try.f16.body = some c16 := by kernel_rfl
theorem md_17 : Cf.md 17 = .pure := rfl
noncomputable def c17 : Code := Try.f17.body.getD .skip
theorem body17 : Try.f17.body = some c17 := by kernel_rfl
theorem md_18 : Cf.md 18 = .pure := rfl
noncomputable def c18 : Code := Try.f18.body.getD .skip
theorem body18 : Try.f18.body = some c18 := by kernel_rfl
theorem md_19 : Cf.md 19 = .pure := rfl
noncomputable def c19 : Code := Try.f19.body.getD .skip
theorem body19 : Try.f19.body = some c19 := by kernel_rfl
theorem md_20 : Cf.md 20 = .pure := rfl
noncomputable def c20 : Code := Try.f20.body.getD .skip
theorem body20 : Try.f20.body = some c20 := by kernel_rfl
theorem md_21 : Cf.md 21 = .pure := rfl
noncomputable def c21 : Code := Try.f21.body.getD .skip
theorem body21 : Try.f21.body = some c21 := by kernel_rfl
theorem md_22 : Cf.md 22 = .pure := rfl
noncomputable def c22 : Code := Try.f22.body.getD .skip
theorem body22 : Try.f22.body = some c22 := by kernel_rfl
theorem md_23 : Cf.md 23 = .pure := rfl
noncomputable def c23 : Code := Try.f23.body.getD .skip
theorem body23 : Try.f23.body = some c23 := by kernel_rfl
theorem md_24 : Cf.md 24 = .pure := rfl
noncomputable def c24 : Code := Try.f24.body.getD .skip
theorem body24 : Try.f24.body = some c24 := by kernel_rfl
theorem md_25 : Cf.md 25 = .pure := rfl
noncomputable def c25 : Code := Try.f25.body.getD .skip
theorem body25 : Try.f25.body = some c25 := by kernel_rfl
theorem md_26 : Cf.md 26 = .pure := rfl
noncomputable def c26 : Code := Try.f26.body.getD .skip
theorem body26 : Try.f26.body = some c26 := by kernel_rfl
theorem md_27 : Cf.md 27 = .imp := rfl
noncomputable def c27 : Code := Try.f27.body.getD .skip
theorem body27 : Try.f27.body = some c27 := by kernel_rfl
theorem md_28 : Cf.md 28 = .imp := rfl
noncomputable def c28 : Code := Try.f28.body.getD .skip
theorem body28 : Try.f28.body = some c28 := by kernel_rfl
theorem md_29 : Cf.md 29 = .pure := rfl
noncomputable def c29 : Code := Try.f29.body.getD .skip
theorem body29 : Try.f29.body = some c29 := by kernel_rfl
theorem md_30 : Cf.md 30 = .imp := rfl
noncomputable def c30 : Code := Try.f30.body.getD .skip
theorem body30 : Try.f30.body = some c30 := by kernel_rfl
theorem md_31 : Cf.md 31 = .imp := rfl
noncomputable def c31 : Code := Try.f31.body.getD .skip
theorem body31 : Try.f31.body = some c31 := by kernel_rfl
theorem md_32 : Cf.md 32 = .imp := rfl
noncomputable def c32 : Code := Try.f32.body.getD .skip
theorem body32 : Try.f32.body = some c32 := by kernel_rfl
theorem md_33 : Cf.md 33 = .pure := rfl
noncomputable def c33 : Code := Try.f33.body.getD .skip
theorem body33 : Try.f33.body = some c33 := by kernel_rfl
theorem md_34 : Cf.md 34 = .imp := rfl
noncomputable def c34 : Code := Try.f34.body.getD .skip
theorem body34 : Try.f34.body = some c34 := by kernel_rfl
theorem md_35 : Cf.md 35 = .pure := rfl
noncomputable def c35 : Code := Try.f35.body.getD .skip
theorem body35 : Try.f35.body = some c35 := by kernel_rfl
theorem md_36 : Cf.md 36 = .imp := rfl
noncomputable def c36 : Code := Try.f36.body.getD .skip
theorem body36 : Try.f36.body = some c36 := by kernel_rfl
theorem md_37 : Cf.md 37 = .imp := rfl
noncomputable def c37 : Code := Try.f37.body.getD .skip
theorem body37 : Try.f37.body = some c37 := by kernel_rfl
theorem md_38 : Cf.md 38 = .imp := rfl
noncomputable def c38 : Code := Try.f38.body.getD .skip
theorem body38 : Try.f38.body = some c38 := by kernel_rfl
theorem md_39 : Cf.md 39 = .imp := rfl
noncomputable def c39 : Code := Try.f39.body.getD .skip
theorem body39 : Try.f39.body = some c39 := by kernel_rfl
theorem md_40 : Cf.md 40 = .imp := rfl
noncomputable def c40 : Code := Try.f40.body.getD .skip
theorem body40 : Try.f40.body = some c40 := by kernel_rfl
theorem md_41 : Cf.md 41 = .imp := rfl
noncomputable def c41 : Code := Try.f41.body.getD .skip
theorem body41 : Try.f41.body = some c41 := by kernel_rfl
theorem md_42 : Cf.md 42 = .pure := rfl
noncomputable def c42 : Code := Try.f42.body.getD .skip
theorem body42 : Try.f42.body = some c42 := by kernel_rfl
theorem md_43 : Cf.md 43 = .imp := rfl
noncomputable def c43 : Code := Try.f43.body.getD .skip
theorem body43 : Try.f43.body = some c43 := by kernel_rfl
theorem md_44 : Cf.md 44 = .imp := rfl
noncomputable def c44 : Code := Try.f44.body.getD .skip
theorem body44 : Try.f44.body = some c44 := by kernel_rfl
theorem md_45 : Cf.md 45 = .pure := rfl
noncomputable def c45 : Code := Try.f45.body.getD .skip
theorem body45 : Try.f45.body = some c45 := by kernel_rfl
theorem md_46 : Cf.md 46 = .pure := rfl
noncomputable def c46 : Code := Try.f46.body.getD .skip
theorem body46 : Try.f46.body = some c46 := by kernel_rfl
theorem md_47 : Cf.md 47 = .imp := rfl
noncomputable def c47 : Code := Try.f47.body.getD .skip
theorem body47 : Try.f47.body = some c47 := by kernel_rfl
theorem md_48 : Cf.md 48 = .pure := rfl
noncomputable def c48 : Code := Try.f48.body.getD .skip
theorem body48 : Try.f48.body = some c48 := by kernel_rfl
theorem md_49 : Cf.md 49 = .imp := rfl
noncomputable def c49 : Code := Try.f49.body.getD .skip
theorem body49 : Try.f49.body = some c49 := by kernel_rfl
theorem md_50 : Cf.md 50 = .imp := rfl
noncomputable def c50 : Code := Try.f50.body.getD .skip
theorem body50 : Try.f50.body = some c50 := by kernel_rfl
theorem md_51 : Cf.md 51 = .imp := rfl
noncomputable def c51 : Code := Try.f51.body.getD .skip
theorem body51 : Try.f51.body = some c51 := by kernel_rfl
theorem md_52 : Cf.md 52 = .pure := rfl
noncomputable def c52 : Code := Try.f52.body.getD .skip
theorem body52 : Try.f52.body = some c52 := by kernel_rfl
theorem md_53 : Cf.md 53 = .imp := rfl
noncomputable def c53 : Code := Try.f53.body.getD .skip
theorem body53 : Try.f53.body = some c53 := by kernel_rfl
def pl_5_13 : Pl := (.r 0 (.r 1 (.r 2 (.r 3 (.r 4 (.r 6 (.r 7 (.r 8 (.r 9 (.r 10 (.o 5 [10, 9] (.o 11 [] (.r 12 (.r 13 (.r 14 (.r 15 (.r 16 (.r 17 (.r 18 (.r 19 (.r 20 (.r 21 (.r 22 (.r 24 (.r 25 (.r 26 (.r 27 (.r 28 (.o 23 [28, 27] (.o 29 [] (.r 30 (.r 31 (.r 32 .done))) .stop) .stop))))))))))))))))) .stop) .stop)))))))))))
def pl_19_5 : Pl := (.r 0 (.r 1 (.r 2 (.r 3 (.r 4 (.r 6 (.r 7 (.r 8 (.r 9 (.r 10 (.o 5 [10, 9] (.o 11 [] (.r 12 (.r 13 .done)) .stop) .stop)))))))))))
theorem tsh_3 : tsh Try.prog 3 = some 0 := by decide +kernel
theorem tzero_3 : tzero Try.prog 3 = some (.p (.int .i64 0)) := by kernel_rfl
theorem telem_3 : telem Try.prog 3 = none := by decide +kernel
theorem lenK_3 : lenKind Try.prog 3 = (0, 0) := by decide +kernel
theorem nilK_3 : nilK Try.prog 3 = 0 := by decide +kernel
theorem srcT_3 : isSrcT Try.prog 3 = false := by decide +kernel
theorem byt_3 : Program.bytesOf Try.prog 3 = 8 := by decide +kernel
theorem und_3 : Program.underlying Try.prog 3 = some (.int .i64) := by kernel_rfl
theorem tsh_4 : tsh Try.prog 4 = some 0 := by decide +kernel
theorem tzero_4 : tzero Try.prog 4 = some (.p (.bool false)) := by kernel_rfl
theorem telem_4 : telem Try.prog 4 = none := by decide +kernel
theorem lenK_4 : lenKind Try.prog 4 = (0, 0) := by decide +kernel
theorem nilK_4 : nilK Try.prog 4 = 5 := by decide +kernel
theorem srcT_4 : isSrcT Try.prog 4 = false := by decide +kernel
theorem byt_4 : Program.bytesOf Try.prog 4 = 1 := by decide +kernel
theorem und_4 : Program.underlying Try.prog 4 = some .bool := by kernel_rfl
theorem tsh_5 : tsh Try.prog 5 = some 0 := by decide +kernel
theorem tzero_5 : tzero Try.prog 5 = some (.p (.int .u8 0)) := by kernel_rfl
theorem telem_5 : telem Try.prog 5 = none := by decide +kernel
theorem lenK_5 : lenKind Try.prog 5 = (0, 0) := by decide +kernel
theorem nilK_5 : nilK Try.prog 5 = 0 := by decide +kernel
theorem srcT_5 : isSrcT Try.prog 5 = false := by decide +kernel
theorem byt_5 : Program.bytesOf Try.prog 5 = 1 := by decide +kernel
theorem und_5 : Program.underlying Try.prog 5 = some (.int .u8) := by kernel_rfl
theorem tsh_9 : tsh Try.prog 9 = some 0 := by decide +kernel
theorem tzero_9 : tzero Try.prog 9 = some (.p (.str [])) := by kernel_rfl
theorem telem_9 : telem Try.prog 9 = none := by decide +kernel
theorem lenK_9 : lenKind Try.prog 9 = (2, 0) := by decide +kernel
theorem nilK_9 : nilK Try.prog 9 = 0 := by decide +kernel
theorem srcT_9 : isSrcT Try.prog 9 = true := by decide +kernel
theorem byt_9 : Program.bytesOf Try.prog 9 = 16 := by decide +kernel
theorem und_9 : Program.underlying Try.prog 9 = some .string := by kernel_rfl
theorem tsh_22 : tsh Try.prog 22 = some 0 := by decide +kernel
theorem tzero_22 : tzero Try.prog 22 = some (.nsl) := by kernel_rfl
theorem telem_22 : telem Try.prog 22 = some (34, 2) := by decide +kernel
theorem lenK_22 : lenKind Try.prog 22 = (3, 0) := by decide +kernel
theorem nilK_22 : nilK Try.prog 22 = 4 := by decide +kernel
theorem srcT_22 : isSrcT Try.prog 22 = true := by decide +kernel
theorem byt_22 : Program.bytesOf Try.prog 22 = 24 := by decide +kernel
theorem und_22 : Program.underlying Try.prog 22 = some (.slice 34) := by kernel_rfl
theorem tsh_23 : tsh Try.prog 23 = some 0 := by decide +kernel
theorem tzero_23 : tzero Try.prog 23 = some (.p (.int .u64 0)) := by kernel_rfl
theorem telem_23 : telem Try.prog 23 = none := by decide +kernel
theorem lenK_23 : lenKind Try.prog 23 = (0, 0) := by decide +kernel
theorem nilK_23 : nilK Try.prog 23 = 0 := by decide +kernel
theorem srcT_23 : isSrcT Try.prog 23 = false := by decide +kernel
theorem byt_23 : Program.bytesOf Try.prog 23 = 8 := by decide +kernel
theorem und_23 : Program.underlying Try.prog 23 = some (.int .u64) := by kernel_rfl
theorem tsh_25 : tsh Try.prog 25 = some 0 := by decide +kernel
theorem tzero_25 : tzero Try.prog 25 = some (.nsl) := by kernel_rfl
theorem telem_25 : telem Try.prog 25 = some (23, 0) := by decide +kernel
theorem lenK_25 : lenKind Try.prog 25 = (3, 0) := by decide +kernel
theorem nilK_25 : nilK Try.prog 25 = 4 := by decide +kernel
theorem srcT_25 : isSrcT Try.prog 25 = true := by decide +kernel
theorem byt_25 : Program.bytesOf Try.prog 25 = 24 := by decide +kernel
theorem und_25 : Program.underlying Try.prog 25 = some (.slice 23) := by kernel_rfl
theorem tsh_27 : tsh Try.prog 27 = some 0 := by decide +kernel
theorem tzero_27 : tzero Try.prog 27 = some (.nsl) := by kernel_rfl
theorem telem_27 : telem Try.prog 27 = some (40, 2) := by decide +kernel
theorem lenK_27 : lenKind Try.prog 27 = (3, 0) := by decide +kernel
theorem nilK_27 : nilK Try.prog 27 = 4 := by decide +kernel
theorem srcT_27 : isSrcT Try.prog 27 = true := by decide +kernel
theorem byt_27 : Program.bytesOf Try.prog 27 = 24 := by decide +kernel
theorem und_27 : Program.underlying Try.prog 27 = some (.slice 40) := by kernel_rfl
theorem tsh_34 : tsh Try.prog 34 = some 2 := by decide +kernel
theorem tzero_34 : tzero Try.prog 34 = some (.p (.agg [.int .u64 0, .int .u64 0])) := by kernel_rfl
theorem telem_34 : telem Try.prog 34 = none := by decide +kernel
theorem lenK_34 : lenKind Try.prog 34 = (0, 0) := by decide +kernel
theorem nilK_34 : nilK Try.prog 34 = 0 := by decide +kernel
theorem srcT_34 : isSrcT Try.prog 34 = false := by decide +kernel
theorem byt_34 : Program.bytesOf Try.prog 34 = 16 := by decide +kernel
theorem eqKs_34 : eqKs Try.prog 34 = some [2, 2] := by decide +kernel
theorem tpl_34 : tplaces Try.prog 34 = some (.inl [(0, 1), (1, 1)]) := by kernel_rfl
theorem tf_34_0 : tfield Try.prog 34 0 = some (0, 0) := by decide +kernel
theorem tf_34_1 : tfield Try.prog 34 1 = some (1, 0) := by decide +kernel
theorem tsh_38 : tsh Try.prog 38 = some 0 := by decide +kernel
theorem tzero_38 : tzero Try.prog 38 = some (.p (.nfn)) := by kernel_rfl
theorem telem_38 : telem Try.prog 38 = none := by decide +kernel
theorem lenK_38 : lenKind Try.prog 38 = (0, 0) := by decide +kernel
theorem nilK_38 : nilK Try.prog 38 = 2 := by decide +kernel
theorem srcT_38 : isSrcT Try.prog 38 = false := by decide +kernel
theorem byt_38 : Program.bytesOf Try.prog 38 = 8 := by decide +kernel
theorem tsh_40 : tsh Try.prog 40 = some 2 := by decide +kernel
theorem tzero_40 : tzero Try.prog 40 = some (.p (.agg [.int .u64 0, .int .u64 0])) := by kernel_rfl
theorem telem_40 : telem Try.prog 40 = none := by decide +kernel
theorem lenK_40 : lenKind Try.prog 40 = (0, 0) := by decide +kernel
theorem nilK_40 : nilK Try.prog 40 = 0 := by decide +kernel
theorem srcT_40 : isSrcT Try.prog 40 = false := by decide +kernel
theorem byt_40 : Program.bytesOf Try.prog 40 = 16 := by decide +kernel
theorem eqKs_40 : eqKs Try.prog 40 = some [2, 2] := by decide +kernel
theorem tpl_40 : tplaces Try.prog 40 = some (.inl [(0, 1), (1, 1)]) := by kernel_rfl
theorem tf_40_0 : tfield Try.prog 40 0 = some (0, 0) := by decide +kernel
theorem tf_40_1 : tfield Try.prog 40 1 = some (1, 0) := by decide +kernel
theorem tsh_41 : tsh Try.prog 41 = some 0 := by decide +kernel
theorem tzero_41 : tzero Try.prog 41 = some (.p (.nmap)) := by kernel_rfl
theorem telem_41 : telem Try.prog 41 = none := by decide +kernel
theorem lenK_41 : lenKind Try.prog 41 = (4, 0) := by decide +kernel
theorem nilK_41 : nilK Try.prog 41 = 3 := by decide +kernel
theorem srcT_41 : isSrcT Try.prog 41 = false := by decide +kernel
theorem byt_41 : Program.bytesOf Try.prog 41 = 8 := by decide +kernel
theorem tmap_41 : tmap Try.prog 41 = some (23, 23, .plain 2) := by kernel_rfl
theorem tsh_43 : tsh Try.prog 43 = some 0 := by decide +kernel
theorem tzero_43 : tzero Try.prog 43 = some (.p (.nfn)) := by kernel_rfl
theorem telem_43 : telem Try.prog 43 = none := by decide +kernel
theorem lenK_43 : lenKind Try.prog 43 = (0, 0) := by decide +kernel
theorem nilK_43 : nilK Try.prog 43 = 2 := by decide +kernel
theorem srcT_43 : isSrcT Try.prog 43 = false := by decide +kernel
theorem byt_43 : Program.bytesOf Try.prog 43 = 8 := by decide +kernel
theorem tsh_49 : tsh Try.prog 49 = some 0 := by decide +kernel
theorem tzero_49 : tzero Try.prog 49 = some (.p (.nmap)) := by kernel_rfl
theorem telem_49 : telem Try.prog 49 = none := by decide +kernel
theorem lenK_49 : lenKind Try.prog 49 = (4, 0) := by decide +kernel
theorem nilK_49 : nilK Try.prog 49 = 3 := by decide +kernel
theorem srcT_49 : isSrcT Try.prog 49 = false := by decide +kernel
theorem byt_49 : Program.bytesOf Try.prog 49 = 8 := by decide +kernel
theorem tmap_49 : tmap Try.prog 49 = some (23, 3, .plain 2) := by kernel_rfl
theorem tsh_50 : tsh Try.prog 50 = some 0 := by decide +kernel
theorem tzero_50 : tzero Try.prog 50 = some (.p (.nfn)) := by kernel_rfl
theorem telem_50 : telem Try.prog 50 = none := by decide +kernel
theorem lenK_50 : lenKind Try.prog 50 = (0, 0) := by decide +kernel
theorem nilK_50 : nilK Try.prog 50 = 2 := by decide +kernel
theorem srcT_50 : isSrcT Try.prog 50 = false := by decide +kernel
theorem byt_50 : Program.bytesOf Try.prog 50 = 8 := by decide +kernel
theorem tsh_53 : tsh Try.prog 53 = some 0 := by decide +kernel
theorem tzero_53 : tzero Try.prog 53 = some (.p (.nfn)) := by kernel_rfl
theorem telem_53 : telem Try.prog 53 = none := by decide +kernel
theorem lenK_53 : lenKind Try.prog 53 = (0, 0) := by decide +kernel
theorem nilK_53 : nilK Try.prog 53 = 2 := by decide +kernel
theorem srcT_53 : isSrcT Try.prog 53 = false := by decide +kernel
theorem byt_53 : Program.bytesOf Try.prog 53 = 8 := by decide +kernel
theorem tsh_58 : tsh Try.prog 58 = some 0 := by decide +kernel
theorem tzero_58 : tzero Try.prog 58 = some (.p (.int .u64 0)) := by kernel_rfl
theorem telem_58 : telem Try.prog 58 = none := by decide +kernel
theorem lenK_58 : lenKind Try.prog 58 = (0, 0) := by decide +kernel
theorem nilK_58 : nilK Try.prog 58 = 0 := by decide +kernel
theorem srcT_58 : isSrcT Try.prog 58 = false := by decide +kernel
theorem byt_58 : Program.bytesOf Try.prog 58 = 8 := by decide +kernel
theorem und_58 : Program.underlying Try.prog 58 = some (.int .u64) := by kernel_rfl
theorem tsh_60 : tsh Try.prog 60 = some 0 := by decide +kernel
theorem tzero_60 : tzero Try.prog 60 = some (.p (.int .i64 0)) := by kernel_rfl
theorem telem_60 : telem Try.prog 60 = none := by decide +kernel
theorem lenK_60 : lenKind Try.prog 60 = (0, 0) := by decide +kernel
theorem nilK_60 : nilK Try.prog 60 = 0 := by decide +kernel
theorem srcT_60 : isSrcT Try.prog 60 = false := by decide +kernel
theorem byt_60 : Program.bytesOf Try.prog 60 = 8 := by decide +kernel
theorem und_60 : Program.underlying Try.prog 60 = some (.int .i64) := by kernel_rfl
theorem tsh_69 : tsh Try.prog 69 = some 0 := by decide +kernel
theorem tzero_69 : tzero Try.prog 69 = some (.p (.int .u32 0)) := by kernel_rfl
theorem telem_69 : telem Try.prog 69 = none := by decide +kernel
theorem lenK_69 : lenKind Try.prog 69 = (0, 0) := by decide +kernel
theorem nilK_69 : nilK Try.prog 69 = 0 := by decide +kernel
theorem srcT_69 : isSrcT Try.prog 69 = false := by decide +kernel
theorem byt_69 : Program.bytesOf Try.prog 69 = 4 := by decide +kernel
theorem und_69 : Program.underlying Try.prog 69 = some (.int .u32) := by kernel_rfl
theorem tsh_71 : tsh Try.prog 71 = some 0 := by decide +kernel
theorem tzero_71 : tzero Try.prog 71 = some (.p (.int .u64 0)) := by kernel_rfl
theorem telem_71 : telem Try.prog 71 = none := by decide +kernel
theorem lenK_71 : lenKind Try.prog 71 = (0, 0) := by decide +kernel
theorem nilK_71 : nilK Try.prog 71 = 0 := by decide +kernel
theorem srcT_71 : isSrcT Try.prog 71 = false := by decide +kernel
theorem byt_71 : Program.bytesOf Try.prog 71 = 8 := by decide +kernel
theorem und_71 : Program.underlying Try.prog 71 = some (.int .u64) := by kernel_rfl
theorem tsh_75 : tsh Try.prog 75 = some 0 := by decide +kernel
theorem tzero_75 : tzero Try.prog 75 = some (.p (.nptr)) := by kernel_rfl
theorem telem_75 : telem Try.prog 75 = none := by decide +kernel
theorem lenK_75 : lenKind Try.prog 75 = (0, 0) := by decide +kernel
theorem nilK_75 : nilK Try.prog 75 = 1 := by decide +kernel
theorem srcT_75 : isSrcT Try.prog 75 = false := by decide +kernel
theorem byt_75 : Program.bytesOf Try.prog 75 = 8 := by decide +kernel
theorem tsh_77 : tsh Try.prog 77 = some 0 := by decide +kernel
theorem tzero_77 : tzero Try.prog 77 = some (.p (.nptr)) := by kernel_rfl
theorem telem_77 : telem Try.prog 77 = none := by decide +kernel
theorem lenK_77 : lenKind Try.prog 77 = (0, 0) := by decide +kernel
theorem nilK_77 : nilK Try.prog 77 = 1 := by decide +kernel
theorem srcT_77 : isSrcT Try.prog 77 = false := by decide +kernel
theorem byt_77 : Program.bytesOf Try.prog 77 = 8 := by decide +kernel
theorem cv_3_58 : cvKind Try.prog 3 58 = .plain := by kernel_rfl
theorem cv_3_71 : cvKind Try.prog 3 71 = .plain := by kernel_rfl
theorem cv_5_3 : cvKind Try.prog 5 3 = .plain := by kernel_rfl
theorem cv_23_5 : cvKind Try.prog 23 5 = .plain := by kernel_rfl
theorem cv_58_3 : cvKind Try.prog 58 3 = .plain := by kernel_rfl
theorem cv_58_69 : cvKind Try.prog 58 69 = .plain := by kernel_rfl
theorem cv_69_5 : cvKind Try.prog 69 5 = .plain := by kernel_rfl
def wkF := (And.intro (And.intro (And.intro (And.intro (And.intro (And.intro (And.intro tsh_3 tzero_3) (And.intro telem_3 (And.intro lenK_3 nilK_3))) (And.intro (And.intro srcT_3 (And.intro byt_3 und_3)) (And.intro tsh_4 (And.intro tzero_4 telem_4)))) (And.intro (And.intro (And.intro lenK_4 (And.intro nilK_4 srcT_4)) (And.intro byt_4 (And.intro und_4 tsh_5))) (And.intro (And.intro tzero_5 (And.intro telem_5 lenK_5)) (And.intro nilK_5 (And.intro srcT_5 byt_5))))) (And.intro (And.intro (And.intro (And.intro und_5 tsh_9) (And.intro tzero_9 (And.intro telem_9 lenK_9))) (And.intro (And.intro nilK_9 (And.intro srcT_9 byt_9)) (And.intro und_9 (And.intro tsh_22 tzero_22)))) (And.intro (And.intro (And.intro telem_22 (And.intro lenK_22 nilK_22)) (And.intro srcT_22 (And.intro byt_22 und_22))) (And.intro (And.intro tsh_23 (And.intro tzero_23 telem_23)) (And.intro lenK_23 (And.intro nilK_23 srcT_23)))))) (And.intro (And.intro (And.intro (And.intro (And.intro byt_23 und_23) (And.intro tsh_25 (And.intro tzero_25 telem_25))) (And.intro (And.intro lenK_25 (And.intro nilK_25 srcT_25)) (And.intro byt_25 (And.intro und_25 tsh_27)))) (And.intro (And.intro (And.intro tzero_27 (And.intro telem_27 lenK_27)) (And.intro nilK_27 (And.intro srcT_27 byt_27))) (And.intro (And.intro und_27 (And.intro tsh_34 tzero_34)) (And.intro telem_34 (And.intro lenK_34 nilK_34))))) (And.intro (And.intro (And.intro (And.intro srcT_34 byt_34) (And.intro eqKs_34 (And.intro tpl_34 tf_34_0))) (And.intro (And.intro tf_34_1 (And.intro tsh_38 tzero_38)) (And.intro telem_38 (And.intro lenK_38 nilK_38)))) (And.intro (And.intro (And.intro srcT_38 (And.intro byt_38 tsh_40)) (And.intro tzero_40 (And.intro telem_40 lenK_40))) (And.intro (And.intro nilK_40 (And.intro srcT_40 byt_40)) (And.intro eqKs_40 (And.intro tpl_40 tf_40_0))))))) (And.intro (And.intro (And.intro (And.intro (And.intro (And.intro tf_40_1 tsh_41) (And.intro tzero_41 (And.intro telem_41 lenK_41))) (And.intro (And.intro nilK_41 (And.intro srcT_41 byt_41)) (And.intro tmap_41 (And.intro tsh_43 tzero_43)))) (And.intro (And.intro (And.intro telem_43 (And.intro lenK_43 nilK_43)) (And.intro srcT_43 (And.intro byt_43 tsh_49))) (And.intro (And.intro tzero_49 (And.intro telem_49 lenK_49)) (And.intro nilK_49 (And.intro srcT_49 byt_49))))) (And.intro (And.intro (And.intro (And.intro tmap_49 tsh_50) (And.intro tzero_50 (And.intro telem_50 lenK_50))) (And.intro (And.intro nilK_50 (And.intro srcT_50 byt_50)) (And.intro tsh_53 (And.intro tzero_53 telem_53)))) (And.intro (And.intro (And.intro lenK_53 (And.intro nilK_53 srcT_53)) (And.intro byt_53 (And.intro tsh_58 tzero_58))) (And.intro (And.intro telem_58 (And.intro lenK_58 nilK_58)) (And.intro srcT_58 (And.intro byt_58 und_58)))))) (And.intro (And.intro (And.intro (And.intro (And.intro tsh_60 tzero_60) (And.intro telem_60 (And.intro lenK_60 nilK_60))) (And.intro (And.intro srcT_60 (And.intro byt_60 und_60)) (And.intro tsh_69 (And.intro tzero_69 telem_69)))) (And.intro (And.intro (And.intro lenK_69 (And.intro nilK_69 srcT_69)) (And.intro byt_69 (And.intro und_69 tsh_71))) (And.intro (And.intro tzero_71 (And.intro telem_71 lenK_71)) (And.intro nilK_71 (And.intro srcT_71 byt_71))))) (And.intro (And.intro (And.intro (And.intro und_71 tsh_75) (And.intro tzero_75 (And.intro telem_75 lenK_75))) (And.intro (And.intro nilK_75 (And.intro srcT_75 byt_75)) (And.intro tsh_77 (And.intro tzero_77 telem_77)))) (And.intro (And.intro (And.intro lenK_77 (And.intro nilK_77 srcT_77)) (And.intro byt_77 (And.intro cv_3_58 cv_3_71))) (And.intro (And.intro cv_5_3 (And.intro cv_23_5 cv_58_3)) (And.intro cv_58_69 (And.intro cv_69_5 CfP))))))))
-- FACTS: tsh_3, tzero_3, telem_3, lenK_3, nilK_3, srcT_3, byt_3, und_3, tsh_4, tzero_4, telem_4, lenK_4, nilK_4, srcT_4, byt_4, und_4, tsh_5, tzero_5, telem_5, lenK_5, nilK_5, srcT_5, byt_5, und_5, tsh_9, tzero_9, telem_9, lenK_9, nilK_9, srcT_9, byt_9, und_9, tsh_22, tzero_22, telem_22, lenK_22, nilK_22, srcT_22, byt_22, und_22, tsh_23, tzero_23, telem_23, lenK_23, nilK_23, srcT_23, byt_23, und_23, tsh_25, tzero_25, telem_25, lenK_25, nilK_25, srcT_25, byt_25, und_25, tsh_27, tzero_27, telem_27, lenK_27, nilK_27, srcT_27, byt_27, und_27, tsh_34, tzero_34, telem_34, lenK_34, nilK_34, srcT_34, byt_34, eqKs_34, tpl_34, tf_34_0, tf_34_1, tsh_38, tzero_38, telem_38, lenK_38, nilK_38, srcT_38, byt_38, tsh_40, tzero_40, telem_40, lenK_40, nilK_40, srcT_40, byt_40, eqKs_40, tpl_40, tf_40_0, tf_40_1, tsh_41, tzero_41, telem_41, lenK_41, nilK_41, srcT_41, byt_41, tmap_41, tsh_43, tzero_43, telem_43, lenK_43, nilK_43, srcT_43, byt_43, tsh_49, tzero_49, telem_49, lenK_49, nilK_49, srcT_49, byt_49, tmap_49, tsh_50, tzero_50, telem_50, lenK_50, nilK_50, srcT_50, byt_50, tsh_53, tzero_53, telem_53, lenK_53, nilK_53, srcT_53, byt_53, tsh_58, tzero_58, telem_58, lenK_58, nilK_58, srcT_58, byt_58, und_58, tsh_60, tzero_60, telem_60, lenK_60, nilK_60, srcT_60, byt_60, und_60, tsh_69, tzero_69, telem_69, lenK_69, nilK_69, srcT_69, byt_69, und_69, tsh_71, tzero_71, telem_71, lenK_71, nilK_71, srcT_71, byt_71, und_71, tsh_75, tzero_75, telem_75, lenK_75, nilK_75, srcT_75, byt_75, tsh_77, tzero_77, telem_77, lenK_77, nilK_77, srcT_77, byt_77, cv_3_58, cv_3_71, cv_5_3, cv_23_5, cv_58_3, cv_58_69, cv_69_5

end Go.Ev.F12
end
