/- A part of the proof: walks of the functions that the law calls. No condition. -/
import Derived.Test.YtdcialefdfalfaaRun
import Derived.Test.YtdcialefdfalfaaEvC
import Derived.Test.YtdcialefdfalfaaIns
set_option linter.all false
section
namespace Go.Ev.F15
open Go.Proofs Go.Ev
set_option maxRecDepth 100000
set_option linter.all false

/- the seat's configuration and facts -/
noncomputable def Cf : Cfg := { P := Try.prog, md := fun f => match f with | 3 => .imp | 4 => .imp | 5 => .imp | 6 => .imp | 7 => .pure | 8 => .pure | 9 => .pure | 10 => .pure | 11 => .pure | 12 => .pure | 13 => .pure | 14 => .pure | 15 => .pure | 16 => .pure | 17 => .pure | 18 => .pure | 19 => .pure | 20 => .pure | 21 => .imp | 22 => .ext insSpec | 23 => .pure | 24 => .pure | 25 => .imp | 26 => .pure | 27 => .pure | 28 => .pure | 31 => .pure | 32 => .pure | 33 => .imp | 34 => .pure | 36 => .pure | 37 => .imp | 38 => .imp | 39 => .imp | 40 => .imp | 41 => .imp | 42 => .imp | 43 => .imp | 44 => .imp | 45 => .pure | 46 => .pure | 48 => .imp | 49 => .pure | 50 => .imp | 51 => .imp | 52 => .imp | 53 => .imp | _ => .no }
def okf (f : FuncId) : Bool := [3, 4, 5, 6, 7, 8, 9, 10, 11, 12, 13, 14, 15, 16, 17, 18, 19, 20, 21, 23, 24, 25, 26, 27, 28, 31, 32, 33, 34, 36, 37, 38, 39, 40, 41, 42, 43, 44, 45, 46, 48, 49, 50, 51, 52, 53].contains f
theorem CfP : Cf.P = Try.prog := rfl
theorem okfOK : ∀ f, okf f = true → okFn Cf.P f = true := by
  have h : ([3, 4, 5, 6, 7, 8, 9, 10, 11, 12, 13, 14, 15, 16, 17, 18, 19, 20, 21, 23, 24, 25, 26, 27, 28, 31, 32, 33, 34, 36, 37, 38, 39, 40, 41, 42, 43, 44, 45, 46, 48, 49, 50, 51, 52, 53].all fun f => okFn Try.prog f) = true := by decide +kernel
  intro f hf
  exact List.all_eq_true.1 h f (by simpa [okf] using hf)
theorem extOK : ExtOK Cf := by
  intro f spec h
  unfold Cf at h
  dsimp only at h
  split at h <;> cases h
  exact fun args H Q h => ins_ext h
theorem md_22 : Cf.md 22 = .ext insSpec := rfl
theorem extMono : ExtMono Cf := by
  intro f spec h
  unfold Cf at h
  dsimp only at h
  split at h <;> cases h
  exact fun args H Q Q' hq h => insSpec_mono hq h
theorem md_3 : Cf.md 3 = .imp := rfl
noncomputable def c3 : Code := Try.f3.body.getD .skip
theorem body3 : Try.f3.body = some c3 := by kernel_rfl
theorem md_4 : Cf.md 4 = .imp := rfl
noncomputable def c4 : Code := Try.f4.body.getD .skip
theorem body4 : Try.f4.body = some c4 := by kernel_rfl
theorem md_5 : Cf.md 5 = .imp := rfl
noncomputable def c5 : Code := Try.f5.body.getD .skip
theorem body5 : Try.f5.body = some c5 := by kernel_rfl
theorem md_6 : Cf.md 6 = .imp := rfl
noncomputable def c6 : Code := Try.f6.body.getD .skip
theorem body6 : Try.f6.body = some c6 := by kernel_rfl
theorem md_7 : Cf.md 7 = .pure := rfl
noncomputable def c7 : Code := Try.f7.body.getD .skip
theorem body7 : Try.f7.body = some c7 := by kernel_rfl
theorem md_8 : Cf.md 8 = .pure := rfl
noncomputable def c8 : Code := Try.f8.body.getD .skip
theorem body8 : Try.f8.body = some c8 := by kernel_rfl
theorem md_9 : Cf.md 9 = .pure := rfl
noncomputable def c9 : Code := Try.f9.body.getD .skip
theorem body9 : Try.f9.body = some c9 := by kernel_rfl
theorem md_10 : Cf.md 10 = .pure := rfl
noncomputable def c10 : Code := Try.f10.body.getD .skip
theorem body10 : Try.f10.body = some c10 := by kernel_rfl
theorem md_11 : Cf.md 11 = .pure := rfl
noncomputable def c11 : Code := Try.f11.body.getD .skip
theorem body11 : Try.f11.body = some c11 := by kernel_rfl
theorem md_12 : Cf.md 12 = .pure := rfl
noncomputable def c12 : Code := Try.f12.body.getD .skip
theorem body12 : Try.f12.body = some c12 := by kernel_rfl
theorem md_13 : Cf.md 13 = .pure := rfl
noncomputable def c13 : Code := Try.f13.body.getD .skip
theorem body13 : Try.f13.body = some c13 := by kernel_rfl
theorem md_14 : Cf.md 14 = .pure := rfl
noncomputable def c14 : Code := Try.f14.body.getD .skip
theorem body14 : Try.f14.body = some c14 := by kernel_rfl
theorem md_15 : Cf.md 15 = .pure := rfl
noncomputable def c15 : Code := Try.f15.body.getD .skip
theorem body15 : Try.f15.body = some c15 := by kernel_rfl
theorem md_16 : Cf.md 16 = .pure := rfl
noncomputable def c16 : Code := Try.f16.body.getD .skip
theorem body16 : Try.f16.body = some c16 := by kernel_rfl
theorem md_17 : Cf.md 17 = .pure := rfl
noncomputable def c17 : Code := Try.f17.body.getD .skip
theorem body17 : Try.f17.body = some c17 := by kernel_rfl
theorem md_18 : Cf.md 18 = .pure := rfl
noncomputable def c18 : Code := Try.f18.body.getD .skip
theorem body18 : Try.f18.body = some c18 := by kernel_rfl
theorem md_19 : Cf.md 19 = .pure := rfl
noncomputable def c19 : Code := Try.f19.body.getD .skip
theorem body19 : Try.f19.body = some c19 := by kernel_rfl
theorem md_20 : Cf.md 20 = .pure := rfl
noncomputable def c20 : Code := Try.f20.body.getD .skip
theorem body20 : Try.f20.body = some c20 := by kernel_rfl
theorem md_21 : Cf.md 21 = .imp := rfl
noncomputable def c21 : Code := Try.f21.body.getD .skip
theorem body21 : Try.f21.body = some c21 := by kernel_rfl
theorem md_23 : Cf.md 23 = .pure := rfl
noncomputable def c23 : Code := Try.f23.body.getD .skip
theorem body23 : Try.f23.body = some c23 := by kernel_rfl
theorem md_24 : Cf.md 24 = .pure := rfl
noncomputable def c24 : Code := Try.f24.body.getD .skip
theorem body24 : Try.f24.body = some c24 := by kernel_rfl
theorem md_25 : Cf.md 25 = .imp := rfl
noncomputable def c25 : Code := Try.f25.body.getD .skip
theorem body25 : Try.f25.body = some c25 := by kernel_rfl
theorem md_26 : Cf.md 26 = .pure := rfl
noncomputable def c26 : Code := Try.f26.body.getD .skip
theorem body26 : Try.f26.body = some c26 := by kernel_rfl
theorem md_27 : Cf.md 27 = .pure := rfl
noncomputable def c27 : Code := Try.f27.body.getD .skip
theorem body27 : Try.f27.body = some c27 := by kernel_rfl
theorem md_28 : Cf.md 28 = .pure := rfl
noncomputable def c28 : Code := Try.f28.body.getD .skip
theorem body28 : Try.f28.body = some c28 := by kernel_rfl
theorem md_31 : Cf.md 31 = .pure := rfl
noncomputable def c31 : Code := Try.f31.body.getD .skip
theorem body31 : Try.f31.body = some c31 := by kernel_rfl
theorem md_32 : Cf.md 32 = .pure := rfl
noncomputable def c32 : Code := Try.f32.body.getD .skip
theorem body32 : Try.f32.body = some c32 := by kernel_rfl
theorem md_33 : Cf.md 33 = .imp := rfl
noncomputable def c33 : Code := Try.f33.body.getD .skip
theorem body33 : Try.f33.body = some c33 := by kernel_rfl
theorem md_34 : Cf.md 34 = .pure := rfl
noncomputable def c34 : Code := Try.f34.body.getD .skip
theorem body34 : Try.f34.body = some c34 := by kernel_rfl
theorem md_36 : Cf.md 36 = .pure := rfl
noncomputable def c36 : Code := Try.f36.body.getD .skip
theorem body36 : Try.f36.body = some c36 := by kernel_rfl
theorem md_37 : Cf.md 37 = .imp := rfl
noncomputable def c37 : Code := Try.f37.body.getD .skip
theorem body37 : Try.f37.body = some c37 := by kernel_rfl
theorem md_38 : Cf.md 38 = .imp := rfl
noncomputable def c38 : Code := Try.f38.body.getD .skip
theorem body38 : Try.f38.body = some c38 := by kernel_rfl
theorem md_39 : Cf.md 39 = .imp := rfl
noncomputable def c39 : Code := Try.f39.body.getD .skip
theorem body39 : Try.f39.body = some c39 := by kernel_rfl
theorem md_40 : Cf.md 40 = .imp := rfl
noncomputable def c40 : Code := Try.f40.body.getD .skip
theorem body40 : Try.f40.body = some c40 := by kernel_rfl
theorem md_41 : Cf.md 41 = .imp := rfl
noncomputable def c41 : Code := Try.f41.body.getD .skip
theorem body41 : Try.f41.body = some c41 := by kernel_rfl
theorem md_42 : Cf.md 42 = .imp := rfl
noncomputable def c42 : Code := Try.f42.body.getD .skip
theorem body42 : Try.f42.body = some c42 := by kernel_rfl
theorem md_43 : Cf.md 43 = .imp := rfl
noncomputable def c43 : Code := Try.f43.body.getD .skip
theorem body43 : Try.f43.body = some c43 := by kernel_rfl
theorem md_44 : Cf.md 44 = .imp := rfl
noncomputable def c44 : Code := Try.f44.body.getD .skip
theorem body44 : Try.f44.body = some c44 := by kernel_rfl
theorem md_45 : Cf.md 45 = .pure := rfl
noncomputable def c45 : Code := Try.f45.body.getD .skip
theorem body45 : Try.f45.body = some c45 := by kernel_rfl
theorem md_46 : Cf.md 46 = .pure := rfl
noncomputable def c46 : Code := Try.f46.body.getD .skip
theorem body46 : Try.f46.body = some c46 := by kernel_rfl
theorem md_48 : Cf.md 48 = .imp := rfl
noncomputable def c48 : Code := Try.f48.body.getD .skip
theorem body48 : Try.f48.body = some c48 := by kernel_rfl
theorem md_49 : Cf.md 49 = .pure := rfl
noncomputable def c49 : Code := Try.f49.body.getD .skip
theorem body49 : Try.f49.body = some c49 := by kernel_rfl
theorem md_50 : Cf.md 50 = .imp := rfl
noncomputable def c50 : Code := Try.f50.body.getD .skip
theorem body50 : Try.f50.body = some c50 := by kernel_rfl
theorem md_51 : Cf.md 51 = .imp := rfl
noncomputable def c51 : Code := Try.f51.body.getD .skip
theorem body51 : Try.f51.body = some c51 := by kernel_rfl
theorem md_52 : Cf.md 52 = .imp := rfl
noncomputable def c52 : Code := Try.f52.body.getD .skip
theorem body52 : Try.f52.body = some c52 := by kernel_rfl
theorem md_53 : Cf.md 53 = .imp := rfl
noncomputable def c53 : Code := Try.f53.body.getD .skip
theorem body53 : Try.f53.body = some c53 := by kernel_rfl
def pl_3_12 : Pl := (.r 0 (.r 1 (.r 2 (.r 3 (.r 4 (.o 5 [] (.r 6 (.r 7 (.r 8 (.r 9 (.o 10 [4, 3, 0] (.o 11 [] (.r 12 (.r 13 .done)) .stop) .stop))))) (.o 10 [4, 3, 0] (.o 5 [] (.r 6 (.r 7 (.r 8 (.r 9 (.o 11 [] (.r 12 (.r 13 .done)) .stop))))) .stop) .stop)))))))
def pl_6_8 : Pl := (.r 0 (.r 1 (.r 2 (.r 3 (.r 4 (.r 6 (.o 5 [] (.r 7 .done) .stop)))))))
def pl_6_20 : Pl := (.r 0 (.r 1 (.r 2 (.r 3 (.r 4 (.r 6 (.o 5 [] (.r 7 .done) .stop)))))))
def pl_6_22 : Pl := (.r 0 (.r 1 (.r 2 (.r 3 (.r 4 (.r 6 (.r 7 (.o 5 [] (.r 8 .done) .stop))))))))
def pl_19_6 : Pl := (.r 0 (.r 1 (.r 2 (.r 3 (.r 4 (.r 5 (.r 6 (.r 7 (.r 9 (.r 10 (.r 11 (.r 12 (.r 13 (.o 8 [13, 12] (.o 14 [] (.r 15 (.r 16 (.r 17 (.r 18 (.r 19 (.r 20 (.r 21 (.r 22 (.r 24 (.r 25 (.r 26 (.r 27 (.r 28 (.o 23 [28, 27] (.o 29 [] (.r 30 (.r 31 (.r 32 (.r 33 (.r 34 (.r 35 (.r 36 (.r 37 (.r 38 (.r 39 (.r 40 (.r 41 (.r 42 .done))))))))))))) .stop) .stop)))))))))))))) .stop) .stop))))))))))))))
theorem tsh_3 : tsh Try.prog 3 = some 0 := by decide +kernel
theorem tzero_3 : tzero Try.prog 3 = some (.p (.int .i64 0)) := by kernel_rfl
theorem telem_3 : telem Try.prog 3 = none := by decide +kernel
theorem lenK_3 : lenKind Try.prog 3 = (0, 0) := by decide +kernel
theorem nilK_3 : nilK Try.prog 3 = 0 := by decide +kernel
theorem srcT_3 : isSrcT Try.prog 3 = false := by decide +kernel
theorem byt_3 : Program.bytesOf Try.prog 3 = 8 := by decide +kernel
theorem und_3 : Program.underlying Try.prog 3 = some (.int .i64) := by kernel_rfl
theorem tsh_4 : tsh Try.prog 4 = some 0 := by decide +kernel
theorem tzero_4 : tzero Try.prog 4 = some (.p (.bool false)) := by kernel_rfl
theorem telem_4 : telem Try.prog 4 = none := by decide +kernel
theorem lenK_4 : lenKind Try.prog 4 = (0, 0) := by decide +kernel
theorem nilK_4 : nilK Try.prog 4 = 5 := by decide +kernel
theorem srcT_4 : isSrcT Try.prog 4 = false := by decide +kernel
theorem byt_4 : Program.bytesOf Try.prog 4 = 1 := by decide +kernel
theorem und_4 : Program.underlying Try.prog 4 = some .bool := by kernel_rfl
theorem tsh_5 : tsh Try.prog 5 = some 0 := by decide +kernel
theorem tzero_5 : tzero Try.prog 5 = some (.p (.int .u8 0)) := by kernel_rfl
theorem telem_5 : telem Try.prog 5 = none := by decide +kernel
theorem lenK_5 : lenKind Try.prog 5 = (0, 0) := by decide +kernel
theorem nilK_5 : nilK Try.prog 5 = 0 := by decide +kernel
theorem srcT_5 : isSrcT Try.prog 5 = false := by decide +kernel
theorem byt_5 : Program.bytesOf Try.prog 5 = 1 := by decide +kernel
theorem und_5 : Program.underlying Try.prog 5 = some (.int .u8) := by kernel_rfl
theorem tsh_9 : tsh Try.prog 9 = some 0 := by decide +kernel
theorem tzero_9 : tzero Try.prog 9 = some (.p (.str [])) := by kernel_rfl
theorem telem_9 : telem Try.prog 9 = none := by decide +kernel
theorem lenK_9 : lenKind Try.prog 9 = (2, 0) := by decide +kernel
theorem nilK_9 : nilK Try.prog 9 = 0 := by decide +kernel
theorem srcT_9 : isSrcT Try.prog 9 = true := by decide +kernel
theorem byt_9 : Program.bytesOf Try.prog 9 = 16 := by decide +kernel
theorem und_9 : Program.underlying Try.prog 9 = some .string := by kernel_rfl
theorem tsh_22 : tsh Try.prog 22 = some 0 := by decide +kernel
theorem tzero_22 : tzero Try.prog 22 = some (.nsl) := by kernel_rfl
theorem telem_22 : telem Try.prog 22 = some (23, 0) := by decide +kernel
theorem lenK_22 : lenKind Try.prog 22 = (3, 0) := by decide +kernel
theorem nilK_22 : nilK Try.prog 22 = 4 := by decide +kernel
theorem srcT_22 : isSrcT Try.prog 22 = true := by decide +kernel
theorem byt_22 : Program.bytesOf Try.prog 22 = 24 := by decide +kernel
theorem und_22 : Program.underlying Try.prog 22 = some (.slice 23) := by kernel_rfl
theorem tsh_23 : tsh Try.prog 23 = some 0 := by decide +kernel
theorem tzero_23 : tzero Try.prog 23 = some (.p (.int .u32 0)) := by kernel_rfl
theorem telem_23 : telem Try.prog 23 = none := by decide +kernel
theorem lenK_23 : lenKind Try.prog 23 = (0, 0) := by decide +kernel
theorem nilK_23 : nilK Try.prog 23 = 0 := by decide +kernel
theorem srcT_23 : isSrcT Try.prog 23 = false := by decide +kernel
theorem byt_23 : Program.bytesOf Try.prog 23 = 4 := by decide +kernel
theorem und_23 : Program.underlying Try.prog 23 = some (.int .u32) := by kernel_rfl
theorem tsh_26 : tsh Try.prog 26 = some 1 := by decide +kernel
theorem tzero_26 : tzero Try.prog 26 = some (.agg [.nsl]) := by kernel_rfl
theorem telem_26 : telem Try.prog 26 = none := by decide +kernel
theorem lenK_26 : lenKind Try.prog 26 = (0, 0) := by decide +kernel
theorem nilK_26 : nilK Try.prog 26 = 0 := by decide +kernel
theorem srcT_26 : isSrcT Try.prog 26 = false := by decide +kernel
theorem byt_26 : Program.bytesOf Try.prog 26 = 24 := by decide +kernel
theorem tpl_26 : tplaces Try.prog 26 = some (.inl [(0, 1)]) := by kernel_rfl
theorem tf_26_0 : tfield Try.prog 26 0 = some (0, 0) := by decide +kernel
theorem tsh_31 : tsh Try.prog 31 = some 0 := by decide +kernel
theorem tzero_31 : tzero Try.prog 31 = some (.p (.int .i64 0)) := by kernel_rfl
theorem telem_31 : telem Try.prog 31 = none := by decide +kernel
theorem lenK_31 : lenKind Try.prog 31 = (0, 0) := by decide +kernel
theorem nilK_31 : nilK Try.prog 31 = 0 := by decide +kernel
theorem srcT_31 : isSrcT Try.prog 31 = false := by decide +kernel
theorem byt_31 : Program.bytesOf Try.prog 31 = 8 := by decide +kernel
theorem und_31 : Program.underlying Try.prog 31 = some (.int .i64) := by kernel_rfl
theorem tsh_55 : tsh Try.prog 55 = some 0 := by decide +kernel
theorem tzero_55 : tzero Try.prog 55 = some (.p (.int .u64 0)) := by kernel_rfl
theorem telem_55 : telem Try.prog 55 = none := by decide +kernel
theorem lenK_55 : lenKind Try.prog 55 = (0, 0) := by decide +kernel
theorem nilK_55 : nilK Try.prog 55 = 0 := by decide +kernel
theorem srcT_55 : isSrcT Try.prog 55 = false := by decide +kernel
theorem byt_55 : Program.bytesOf Try.prog 55 = 8 := by decide +kernel
theorem und_55 : Program.underlying Try.prog 55 = some (.int .u64) := by kernel_rfl
theorem tsh_61 : tsh Try.prog 61 = some 0 := by decide +kernel
theorem tzero_61 : tzero Try.prog 61 = some (.p (.int .i64 0)) := by kernel_rfl
theorem telem_61 : telem Try.prog 61 = none := by decide +kernel
theorem lenK_61 : lenKind Try.prog 61 = (0, 0) := by decide +kernel
theorem nilK_61 : nilK Try.prog 61 = 0 := by decide +kernel
theorem srcT_61 : isSrcT Try.prog 61 = false := by decide +kernel
theorem byt_61 : Program.bytesOf Try.prog 61 = 8 := by decide +kernel
theorem und_61 : Program.underlying Try.prog 61 = some (.int .i64) := by kernel_rfl
theorem tsh_68 : tsh Try.prog 68 = some 0 := by decide +kernel
theorem tzero_68 : tzero Try.prog 68 = some (.p (.int .u64 0)) := by kernel_rfl
theorem telem_68 : telem Try.prog 68 = none := by decide +kernel
theorem lenK_68 : lenKind Try.prog 68 = (0, 0) := by decide +kernel
theorem nilK_68 : nilK Try.prog 68 = 0 := by decide +kernel
theorem srcT_68 : isSrcT Try.prog 68 = false := by decide +kernel
theorem byt_68 : Program.bytesOf Try.prog 68 = 8 := by decide +kernel
theorem und_68 : Program.underlying Try.prog 68 = some (.int .u64) := by kernel_rfl
theorem tsh_69 : tsh Try.prog 69 = some 0 := by decide +kernel
theorem tzero_69 : tzero Try.prog 69 = some (.p (.int .u64 0)) := by kernel_rfl
theorem telem_69 : telem Try.prog 69 = none := by decide +kernel
theorem lenK_69 : lenKind Try.prog 69 = (0, 0) := by decide +kernel
theorem nilK_69 : nilK Try.prog 69 = 0 := by decide +kernel
theorem srcT_69 : isSrcT Try.prog 69 = false := by decide +kernel
theorem byt_69 : Program.bytesOf Try.prog 69 = 8 := by decide +kernel
theorem und_69 : Program.underlying Try.prog 69 = some (.int .u64) := by kernel_rfl
theorem tsh_73 : tsh Try.prog 73 = some 0 := by decide +kernel
theorem tzero_73 : tzero Try.prog 73 = some (.p (.nptr)) := by kernel_rfl
theorem telem_73 : telem Try.prog 73 = none := by decide +kernel
theorem lenK_73 : lenKind Try.prog 73 = (0, 0) := by decide +kernel
theorem nilK_73 : nilK Try.prog 73 = 1 := by decide +kernel
theorem srcT_73 : isSrcT Try.prog 73 = false := by decide +kernel
theorem byt_73 : Program.bytesOf Try.prog 73 = 8 := by decide +kernel
theorem tsh_75 : tsh Try.prog 75 = some 0 := by decide +kernel
theorem tzero_75 : tzero Try.prog 75 = some (.p (.nptr)) := by kernel_rfl
theorem telem_75 : telem Try.prog 75 = none := by decide +kernel
theorem lenK_75 : lenKind Try.prog 75 = (0, 0) := by decide +kernel
theorem nilK_75 : nilK Try.prog 75 = 1 := by decide +kernel
theorem srcT_75 : isSrcT Try.prog 75 = false := by decide +kernel
theorem byt_75 : Program.bytesOf Try.prog 75 = 8 := by decide +kernel
theorem cv_3_55 : cvKind Try.prog 3 55 = .plain := by kernel_rfl
theorem cv_3_69 : cvKind Try.prog 3 69 = .plain := by kernel_rfl
theorem cv_5_3 : cvKind Try.prog 5 3 = .plain := by kernel_rfl
theorem cv_23_5 : cvKind Try.prog 23 5 = .plain := by kernel_rfl
theorem cv_55_3 : cvKind Try.prog 55 3 = .plain := by kernel_rfl
theorem cv_55_23 : cvKind Try.prog 55 23 = .plain := by kernel_rfl
theorem cv_68_5 : cvKind Try.prog 68 5 = .plain := by kernel_rfl
def wkF := (And.intro (And.intro (And.intro (And.intro (And.intro (And.intro tsh_3 (And.intro tzero_3 telem_3)) (And.intro (And.intro lenK_3 nilK_3) (And.intro srcT_3 byt_3))) (And.intro (And.intro und_3 (And.intro tsh_4 tzero_4)) (And.intro (And.intro telem_4 lenK_4) (And.intro nilK_4 srcT_4)))) (And.intro (And.intro (And.intro byt_4 (And.intro und_4 tsh_5)) (And.intro (And.intro tzero_5 telem_5) (And.intro lenK_5 nilK_5))) (And.intro (And.intro (And.intro srcT_5 byt_5) (And.intro und_5 tsh_9)) (And.intro (And.intro tzero_9 telem_9) (And.intro lenK_9 nilK_9))))) (And.intro (And.intro (And.intro (And.intro srcT_9 (And.intro byt_9 und_9)) (And.intro (And.intro tsh_22 tzero_22) (And.intro telem_22 lenK_22))) (And.intro (And.intro (And.intro nilK_22 srcT_22) (And.intro byt_22 und_22)) (And.intro (And.intro tsh_23 tzero_23) (And.intro telem_23 lenK_23)))) (And.intro (And.intro (And.intro nilK_23 (And.intro srcT_23 byt_23)) (And.intro (And.intro und_23 tsh_26) (And.intro tzero_26 telem_26))) (And.intro (And.intro (And.intro lenK_26 nilK_26) (And.intro srcT_26 byt_26)) (And.intro (And.intro tpl_26 tf_26_0) (And.intro tsh_31 tzero_31)))))) (And.intro (And.intro (And.intro (And.intro (And.intro telem_31 (And.intro lenK_31 nilK_31)) (And.intro (And.intro srcT_31 byt_31) (And.intro und_31 tsh_55))) (And.intro (And.intro (And.intro tzero_55 telem_55) (And.intro lenK_55 nilK_55)) (And.intro (And.intro srcT_55 byt_55) (And.intro und_55 tsh_61)))) (And.intro (And.intro (And.intro tzero_61 (And.intro telem_61 lenK_61)) (And.intro (And.intro nilK_61 srcT_61) (And.intro byt_61 und_61))) (And.intro (And.intro (And.intro tsh_68 tzero_68) (And.intro telem_68 lenK_68)) (And.intro (And.intro nilK_68 srcT_68) (And.intro byt_68 und_68))))) (And.intro (And.intro (And.intro (And.intro tsh_69 (And.intro tzero_69 telem_69)) (And.intro (And.intro lenK_69 nilK_69) (And.intro srcT_69 byt_69))) (And.intro (And.intro (And.intro und_69 tsh_73) (And.intro tzero_73 telem_73)) (And.intro (And.intro lenK_73 nilK_73) (And.intro srcT_73 byt_73)))) (And.intro (And.intro (And.intro tsh_75 (And.intro tzero_75 telem_75)) (And.intro (And.intro lenK_75 nilK_75) (And.intro srcT_75 byt_75))) (And.intro (And.intro (And.intro cv_3_55 cv_3_69) (And.intro cv_5_3 cv_23_5)) (And.intro (And.intro cv_55_3 cv_55_23) (And.intro cv_68_5 CfP)))))))
-- FACTS: tsh_3, tzero_3, telem_3, lenK_3, nilK_3, srcT_3, byt_3, und_3, tsh_4, tzero_4, telem_4, lenK_4, nilK_4, srcT_4, byt_4, und_4, tsh_5, tzero_5, telem_5, lenK_5, nilK_5, srcT_5, byt_5, und_5, tsh_9, tzero_9, telem_9, lenK_9, nilK_9, srcT_9, byt_9, und_9, tsh_22, tzero_22, telem_22, lenK_22, nilK_22, srcT_22, byt_22, und_22, tsh_23, tzero_23, telem_23, lenK_23, nilK_23, srcT_23, byt_23, und_23, tsh_26, tzero_26, telem_26, lenK_26, nilK_26, srcT_26, byt_26, tpl_26, tf_26_0, tsh_31, tzero_31, telem_31, lenK_31, nilK_31, srcT_31, byt_31, und_31, tsh_55, tzero_55, telem_55, lenK_55, nilK_55, srcT_55, byt_55, und_55, tsh_61, tzero_61, telem_61, lenK_61, nilK_61, srcT_61, byt_61, und_61, tsh_68, tzero_68, telem_68, lenK_68, nilK_68, srcT_68, byt_68, und_68, tsh_69, tzero_69, telem_69, lenK_69, nilK_69, srcT_69, byt_69, und_69, tsh_73, tzero_73, telem_73, lenK_73, nilK_73, srcT_73, byt_73, tsh_75, tzero_75, telem_75, lenK_75, nilK_75, srcT_75, byt_75, cv_3_55, cv_3_69, cv_5_3, cv_23_5, cv_55_3, cv_55_23, cv_68_5

end Go.Ev.F15
end
