/- A part of the proof: walks of the functions that the law calls. No condition. -/
import Derived.Test.YtjlfbdjglhkmjaaProg
import Derived.Test.YtjlfbdjglhkmjaaEvC
import Derived.Test.YtjlfbdjglhkmjaaRun
set_option linter.all false
section
namespace Go.Ev.F31
open Go.Proofs Go.Ev
set_option maxRecDepth 100000
set_option linter.all false

/- the seat's configuration and facts -/
noncomputable def Cf : Cfg := { P := Try.prog, md := fun f => match f with | 3 => .imp | 4 => .imp | 5 => .imp | 6 => .imp | 7 => .pure | 8 => .imp | 9 => .pure | 10 => .pure | 11 => .pure | 12 => .pure | 13 => .imp | 14 => .imp | 15 => .imp | 16 => .pure | 17 => .imp | 18 => .imp | 19 => .imp | 20 => .pure | 21 => .imp | 22 => .pure | 23 => .pure | 24 => .imp | 25 => .imp | 26 => .pure | 27 => .imp | 28 => .pure | 29 => .pure | 30 => .imp | 31 => .imp | 32 => .imp | 33 => .imp | 34 => .imp | 35 => .imp | 36 => .imp | 37 => .pure | 38 => .pure | 39 => .pure | 40 => .pure | 41 => .pure | 42 => .pure | 43 => .pure | 44 => .pure | 45 => .imp | 46 => .imp | 47 => .imp | 48 => .imp | 49 => .pure | 50 => .pure | 51 => .imp | 52 => .pure | 53 => .imp | 54 => .imp | 55 => .pure | 56 => .pure | 57 => .pure | 58 => .pure | 59 => .pure | 60 => .pure | 61 => .pure | 62 => .imp | 63 => .imp | 64 => .imp | 65 => .imp | 66 => .imp | 67 => .imp | 68 => .imp | 69 => .pure | 70 => .pure | 71 => .pure | 72 => .imp | 73 => .pure | _ => .no }
def okf (f : FuncId) : Bool := [3, 4, 5, 6, 7, 8, 9, 10, 11, 12, 13, 14, 15, 16, 17, 18, 19, 20, 21, 22, 23, 24, 25, 26, 27, 28, 29, 30, 31, 32, 33, 34, 35, 36, 37, 38, 39, 40, 41, 42, 43, 44, 45, 46, 47, 48, 49, 50, 51, 52, 53, 54, 55, 56, 57, 58, 59, 60, 61, 62, 63, 64, 65, 66, 67, 68, 69, 70, 71, 72, 73].contains f
theorem CfP : Cf.P = Try.prog := rfl
theorem okfOK : ∀ f, okf f = true → okFn Cf.P f = true := by
  have h : ([3, 4, 5, 6, 7, 8, 9, 10, 11, 12, 13, 14, 15, 16, 17, 18, 19, 20, 21, 22, 23, 24, 25, 26, 27, 28, 29, 30, 31, 32, 33, 34, 35, 36, 37, 38, 39, 40, 41, 42, 43, 44, 45, 46, 47, 48, 49, 50, 51, 52, 53, 54, 55, 56, 57, 58, 59, 60, 61, 62, 63, 64, 65, 66, 67, 68, 69, 70, 71, 72, 73].all fun f => okFn Try.prog f) = true := by decide +kernel
  intro f hf
  exact List.all_eq_true.1 h f (by simpa [okf] using hf)
theorem extOK : ExtOK Cf := by
  intro f spec h
  unfold Cf at h
  dsimp only at h
  split at h <;> cases h
theorem extMono : ExtMono Cf := by
  intro f spec h
  unfold Cf at h
  dsimp only at h
  split at h <;> cases h
theorem md_3 : Cf.md 3 = .imp := rfl
noncomputable def c3 : Code := Try.f3.body.getD .skip
theorem body3 : Try.f3.body = some c3 := by kernel_rfl
theorem md_4 : Cf.md 4 = .imp := rfl
noncomputable def c4 : Code := Try.f4.body.getD .skip
theorem body4 : Try.f4.body = some c4 := by kernel_rfl
theorem md_5 : Cf.md 5 = .imp := rfl
noncomputable def c5 : Code := Try.f5.body.getD .skip
theorem body5 : Try.f5.body = some c5 := by kernel_rfl
theorem md_6 : Cf.md 6 = .imp := rfl
noncomputable def c6 : Code := Try.f6.body.getD .skip
theorem body6 : Try.f6.body = some c6 := by kernel_rfl
theorem md_7 : Cf.md 7 = .pure := rfl
noncomputable def c7 : Code := Try.f7.body.getD .skip
theorem body7 : Try.f7.body = some c7 := by kernel_rfl
theorem md_8 : Cf.md 8 = .imp := rfl
noncomputable def c8 : Code := Try.f8.body.getD .skip
theorem body8 : Try.f8.body = some c8 := by kernel_rfl
theorem md_9 : Cf.md 9 = .pure := rfl
noncomputable def c9 : Code := Try.f9.body.getD .skip
theorem body9 : Try.f9.body = some c9 := by kernel_rfl
theorem md_10 : Cf.md 10 = .pure := rfl
noncomputable def c10 : Code := Try.f10.body.getD .skip
theorem body10 : Try.f10.body = some c10 := by kernel_rfl
theorem md_11 : Cf.md 11 = .pure := rfl
noncomputable def c11 : Code := Try.f11.body.getD .skip
theorem body11 : Try.f11.body = some c11 := by kernel_rfl
theorem md_12 : Cf.md 12 = .pure := rfl
noncomputable def c12 : Code := Try.f12.body.getD .skip
theorem body12 : Try.f12.body = some c12 := by kernel_rfl
theorem md_13 : Cf.md 13 = .imp := rfl
noncomputable def c13 : Code := Try.f13.body.getD .skip
theorem body13 : Try.f13.body = some c13 := by kernel_rfl
theorem md_14 : Cf.md 14 = .imp := rfl
noncomputable def c14 : Code := Try.f14.body.getD .skip
theorem body14 : Try.f14.body = some c14 := by kernel_rfl
theorem md_15 : Cf.md 15 = .imp := rfl
noncomputable def c15 : Code := Try.f15.body.getD .skip
theorem body15 : Try.f15.body = some c15 := by kernel_rfl
theorem md_16 : Cf.md 16 = .pure := rfl
noncomputable def c16 : Code := Try.f16.body.getD .skip
theorem body16 : Try.f16.body = some c16 := by kernel_rfl
theorem md_17 : Cf.md 17 = .imp := rfl
noncomputable def c17 : Code := Try.f17.body.getD .skip
theorem body17 : Try.f17.body = some c17 := by kernel_rfl
theorem md_18 : Cf.md 18 = .imp := rfl
noncomputable def c18 : Code := Try.f18.body.getD .skip
theorem body18 : Try.f18.body = some c18 := by kernel_rfl
theorem md_19 : Cf.md 19 = .imp := rfl
noncomputable def c19 : Code := Try.f19.body.getD .skip
theorem body19 : Try.f19.body = some c19 := by kernel_rfl
theorem md_20 : Cf.md 20 = .pure := rfl
noncomputable def c20 : Code := Try.f20.body.getD .skip
theorem body20 : Try.f20.body = some c20 := by kernel_rfl
theorem md_21 : Cf.md 21 = .imp := rfl
noncomputable def c21 : Code := Try.f21.body.getD .skip
theorem body21 : Try.f21.body = some c21 := by kernel_rfl
theorem md_22 : Cf.md 22 = .pure := rfl
noncomputable def c22 : Code := Try.f22.body.getD .skip
theorem body22 : Try.f22.body = some c22 := by kernel_rfl
theorem md_23 : Cf.md 23 = .pure := rfl
noncomputable def c23 : Code := Try.f23.body.getD .skip
theorem body23 : Try.f23.body = some c23 := by kernel_rfl
theorem md_24 : Cf.md 24 = .imp := rfl
noncomputable def c24 : Code := Try.f24.body.getD .skip
theorem body24 : Try.f24.body = some c24 := by kernel_rfl
theorem md_25 : Cf.md 25 = .imp := rfl
noncomputable def c25 : Code := Try.f25.body.getD .skip
theorem body25 : Try.f25.body = some c25 := by kernel_rfl
theorem md_26 : Cf.md 26 = .pure := rfl
noncomputable def c26 : Code := Try.f26.body.getD .skip
theorem body26 : Try.f26.body = some c26 := by kernel_rfl
theorem md_27 : Cf.md 27 = .imp := rfl
noncomputable def c27 : Code := Try.f27.body.getD .skip
theorem body27 : Try.f27.body = some c27 := by kernel_rfl
theorem md_28 : Cf.md 28 = .pure := rfl
noncomputable def c28 : Code := Try.f28.body.getD .skip
theorem body28 : Try.f28.body = some c28 := by kernel_rfl
theorem md_29 : Cf.md 29 = .pure := rfl
noncomputable def c29 : Code := Try.f29.body.getD .skip
theorem body29 : Try.f29.body = some c29 := by kernel_rfl
theorem md_30 : Cf.md 30 = .imp := rfl
noncomputable def c30 : Code := Try.f30.body.getD .skip
theorem body30 : Try.f30.body = some c30 := by kernel_rfl
theorem md_31 : Cf.md 31 = .imp := rfl
noncomputable def c31 : Code := Try.f31.body.getD .skip
theorem body31 : Try.f31.body = some c31 := by kernel_rfl
theorem md_32 : Cf.md 32 = .imp := rfl
noncomputable def c32 : Code := Try.f32.body.getD .skip
theorem body32 : Try.f32.body = some c32 := by kernel_rfl
theorem md_33 : Cf.md 33 = .imp := rfl
noncomputable def c33 : Code := Try.f33.body.getD .skip
theorem body33 : Try.f33.body = some c33 := by kernel_rfl
theorem md_34 : Cf.md 34 = .imp := rfl
noncomputable def c34 : Code := Try.f34.body.getD .skip
theorem body34 : Try.f34.body = some c34 := by kernel_rfl
theorem md_35 : Cf.md 35 = .imp := rfl
noncomputable def c35 : Code := Try.f35.body.getD .skip
theorem body35 : Try.f35.body = some c35 := by kernel_rfl
theorem md_36 : Cf.md 36 = .imp := rfl
noncomputable def c36 : Code := Try.f36.body.getD .skip
theorem body36 : Try.f36.body = some c36 := by kernel_rfl
theorem md_37 : Cf.md 37 = .pure := rfl
noncomputable def c37 : Code := Try.f37.body.getD .skip
theorem body37 : Try.f37.body = some c37 := by kernel_rfl
theorem md_38 : Cf.md 38 = .pure := rfl
noncomputable def c38 : Code := Try.f38.body.getD .skip
theorem body38 : Try.f38.body = some c38 := by kernel_rfl
theorem md_39 : Cf.md 39 = .pure := rfl
noncomputable def c39 : Code := Try.f39.body.getD .skip
theorem body39 : Try.f39.body = some c39 := by kernel_rfl
theorem md_40 : Cf.md 40 = .pure := rfl
noncomputable def c40 : Code := Try.f40.body.getD .skip
theorem body40 : Try.f40.body = some c40 := by kernel_rfl
theorem md_41 : Cf.md 41 = .pure := rfl
noncomputable def c41 : Code := Try.f41.body.getD .skip
theorem body41 : Try.f41.body = some c41 := by kernel_rfl
theorem md_42 : Cf.md 42 = .pure := rfl
noncomputable def c42 : Code := Try.f42.body.getD .skip
theorem body42 : Try.f42.body = some c42 := by kernel_rfl
theorem md_43 : Cf.md 43 = .pure := rfl
noncomputable def c43 : Code := Try.f43.body.getD .skip
theorem body43 : Try.f43.body = some c43 := by kernel_rfl
theorem md_44 : Cf.md 44 = .pure := rfl
noncomputable def c44 : Code := Try.f44.body.getD .skip
theorem body44 : Try.f44.body = some c44 := by kernel_rfl
theorem md_45 : Cf.md 45 = .imp := rfl
noncomputable def c45 : Code := Try.f45.body.getD .skip
theorem body45 : Try.f45.body = some c45 := by kernel_rfl
theorem md_46 : Cf.md 46 = .imp := rfl
noncomputable def c46 : Code := Try.f46.body.getD .skip
theorem body46 : Try.f46.body = some c46 := by kernel_rfl
theorem md_47 : Cf.md 47 = .imp := rfl
noncomputable def c47 : Code := Try.f47.body.getD .skip
theorem body47 : Try.f47.body = some c47 := by kernel_rfl
theorem md_48 : Cf.md 48 = .imp := rfl
noncomputable def c48 : Code := Try.f48.body.getD .skip
theorem body48 : Try.f48.body = some c48 := by kernel_rfl
theorem md_49 : Cf.md 49 = .pure := rfl
noncomputable def c49 : Code := Try.f49.body.getD .skip
theorem body49 : Try.f49.body = some c49 := by kernel_rfl
theorem md_50 : Cf.md 50 = .pure := rfl
noncomputable def c50 : Code := Try.f50.body.getD .skip
theorem body50 : Try.f50.body = some c50 := by kernel_rfl
theorem md_51 : Cf.md 51 = .imp := rfl
noncomputable def c51 : Code := Try.f51.body.getD .skip
theorem body51 : Try.f51.body = some c51 := by kernel_rfl
theorem md_52 : Cf.md 52 = .pure := rfl
noncomputable def c52 : Code := Try.f52.body.getD .skip
theorem body52 : Try.f52.body = some c52 := by kernel_rfl
theorem md_53 : Cf.md 53 = .imp := rfl
noncomputable def c53 : Code := Try.f53.body.getD .skip
theorem body53 : Try.f53.body = some c53 := by kernel_rfl
theorem md_54 : Cf.md 54 = .imp := rfl
noncomputable def c54 : Code := Try.f54.body.getD .skip
theorem body54 : Try.f54.body = some c54 := by kernel_rfl
theorem md_55 : Cf.md 55 = .pure := rfl
noncomputable def c55 : Code := Try.f55.body.getD .skip
theorem body55 : Try.f55.body = some c55 := by kernel_rfl
theorem md_56 : Cf.md 56 = .pure := rfl
noncomputable def c56 : Code := Try.f56.body.getD .skip
theorem body56 : Try.f56.body = some c56 := by kernel_rfl
theorem md_57 : Cf.md 57 = .pure := rfl
noncomputable def c57 : Code := Try.f57.body.getD .skip
theorem body57 : Try.f57.body = some c57 := by kernel_rfl
theorem md_58 : Cf.md 58 = .pure := rfl
noncomputable def c58 : Code := Try.f58.body.getD .skip
theorem body58 : Try.f58.body = some c58 := by kernel_rfl
theorem md_59 : Cf.md 59 = .pure := rfl
noncomputable def c59 : Code := Try.f59.body.getD .skip
theorem body59 : Try.f59.body = some c59 := by kernel_rfl
theorem md_60 : Cf.md 60 = .pure := rfl
noncomputable def c60 : Code := Try.f60.body.getD .skip
theorem body60 : Try.f60.body = some c60 := by kernel_rfl
theorem md_61 : Cf.md 61 = .pure := rfl
noncomputable def c61 : Code := Try.f61.body.getD .skip
theorem body61 : Try.f61.body = some c61 := by kernel_rfl
theorem md_62 : Cf.md 62 = .imp := rfl
noncomputable def c62 : Code := Try.f62.body.getD .skip
theorem body62 : Try.f62.body = some c62 := by kernel_rfl
theorem md_63 : Cf.md 63 = .imp := rfl
noncomputable def c63 : Code := Try.f63.body.getD .skip
theorem body63 : Try.f63.body = some c63 := by kernel_rfl
theorem md_64 : Cf.md 64 = .imp := rfl
noncomputable def c64 : Code := Try.f64.body.getD .skip
theorem body64 : Try.f64.body = some c64 := by kernel_rfl
theorem md_65 : Cf.md 65 = .imp := rfl
noncomputable def c65 : Code := Try.f65.body.getD .skip
theorem body65 : Try.f65.body = some c65 := by kernel_rfl
theorem md_66 : Cf.md 66 = .imp := rfl
noncomputable def c66 : Code := Try.f66.body.getD .skip
theorem body66 : Try.f66.body = some c66 := by kernel_rfl
theorem md_67 : Cf.md 67 = .imp := rfl
noncomputable def c67 : Code := Try.f67.body.getD .skip
theorem body67 : Try.f67.body = some c67 := by kernel_rfl
theorem md_68 : Cf.md 68 = .imp := rfl
noncomputable def c68 : Code := Try.f68.body.getD .skip
theorem body68 : Try.f68.body = some c68 := by kernel_rfl
theorem md_69 : Cf.md 69 = .pure := rfl
noncomputable def c69 : Code := Try.f69.body.getD .skip
theorem body69 : Try.f69.body = some c69 := by kernel_rfl
theorem md_70 : Cf.md 70 = .pure := rfl
noncomputable def c70 : Code := Try.f70.body.getD .skip
theorem body70 : Try.f70.body = some c70 := by kernel_rfl
theorem md_71 : Cf.md 71 = .pure := rfl
noncomputable def c71 : Code := Try.f71.body.getD .skip
theorem body71 : Try.f71.body = some c71 := by kernel_rfl
theorem md_72 : Cf.md 72 = .imp := rfl
noncomputable def c72 : Code := Try.f72.body.getD .skip
theorem body72 : Try.f72.body = some c72 := by kernel_rfl
theorem md_73 : Cf.md 73 = .pure := rfl
noncomputable def c73 : Code := Try.f73.body.getD .skip
theorem body73 : Try.f73.body = some c73 := by kernel_rfl
def pl_4_10 : Pl := (.r 0 (.r 1 (.r 2 (.r 3 (.r 4 (.r 5 (.r 6 (.r 7 (.r 8 (.r 9 (.r 10 (.r 11 (.r 12 (.r 13 (.r 14 (.r 15 (.r 16 (.r 17 (.r 19 (.o 18 [19] (.r 20 (.r 21 (.r 22 (.r 23 (.r 24 (.r 25 (.r 26 (.r 27 (.r 28 (.r 29 (.r 30 (.r 31 (.r 32 (.r 33 (.r 34 (.r 35 (.r 36 (.r 37 (.r 38 (.r 39 (.r 40 (.r 41 (.r 42 (.r 43 (.r 44 (.r 45 (.r 46 (.r 47 (.r 48 (.r 49 (.r 50 (.r 51 (.r 52 (.r 53 (.r 54 .done))))))))))))))))))))))))))))))))))) .stop))))))))))))))))))))
def pl_20_7 : Pl := (.r 0 (.r 1 (.r 2 (.r 3 (.r 4 (.r 6 (.r 7 (.r 8 (.r 9 (.r 10 (.o 5 [10, 8] (.o 11 [] (.r 12 .done) .stop) .stop)))))))))))
def pl_22_1 : Pl := (.r 0 (.r 2 (.r 3 (.o 1 [3, 2] (.r 4 (.r 5 (.r 6 (.o 7 [] (.r 8 (.r 9 .done)) .stop)))) .stop))))
def pl_23_12 : Pl := (.r 0 (.r 1 (.o 2 [0] (.r 3 (.o 4 [] .done .stop)) .stop)))
def pl_38_12 : Pl := (.r 0 (.r 1 (.o 2 [0] (.r 3 (.o 4 [] .done .stop)) .stop)))
def pl_50_6 : Pl := (.r 0 (.r 1 (.r 2 (.r 3 (.r 4 (.r 5 (.r 6 (.r 7 (.r 8 (.r 9 (.o 10 [4] (.o 11 [] (.r 12 .done) .stop) .stop)))))))))))
def pl_50_7 : Pl := (.r 0 (.r 1 (.r 2 (.r 3 (.r 4 (.r 5 (.r 7 (.r 8 (.r 9 (.r 10 (.o 6 [10] (.o 11 [] (.r 12 .done) .stop) .stop)))))))))))
def pl_51_1 : Pl := (.r 0 (.r 1 (.r 2 (.r 3 (.r 4 (.o 5 [0] (.o 6 [] (.o 7 [] .done .stop) .stop) .stop))))))
def pl_54_7 : Pl := (.r 0 (.r 1 (.r 2 (.r 3 (.r 4 (.r 5 (.r 6 (.r 7 (.r 10 (.r 11 (.r 12 (.r 13 (.o 8 [13, 3] (.r 9 (.o 14 [3] (.r 15 (.r 16 (.r 17 (.r 18 (.r 19 (.r 20 (.r 21 (.r 22 (.o 23 [] (.r 24 (.r 25 (.r 26 (.r 27 (.r 28 (.r 29 (.r 30 (.o 31 [] (.r 32 (.r 33 .done)) .stop)))))))) .stop))))))))) .stop)) .stop)))))))))))))
def pl_58_6 : Pl := (.r 0 (.r 1 (.r 2 (.r 3 (.r 4 (.r 5 (.r 6 (.r 7 (.r 8 (.r 9 (.o 10 [4] (.o 11 [] (.r 12 .done) .stop) .stop)))))))))))
def pl_58_7 : Pl := (.r 0 (.r 1 (.r 2 (.r 3 (.r 4 (.r 5 (.r 7 (.r 8 (.r 9 (.r 10 (.o 6 [10] (.o 11 [] (.r 12 .done) .stop) .stop)))))))))))
def pl_67_1 : Pl := (.r 0 (.r 1 (.r 2 (.r 3 (.r 4 (.o 5 [0] (.o 6 [] (.o 7 [] .done .stop) .stop) .stop))))))
def pl_68_7 : Pl := (.r 0 (.r 1 (.r 2 (.r 3 (.r 4 (.r 5 (.r 6 (.r 7 (.r 10 (.r 11 (.r 12 (.r 13 (.o 8 [13, 3] (.r 9 (.o 14 [3] (.r 15 (.r 16 (.r 17 (.r 18 (.r 19 (.r 20 (.r 21 (.r 22 (.o 23 [] (.r 24 (.r 25 (.r 26 (.r 27 (.r 28 (.r 29 (.r 30 (.o 31 [] (.r 32 (.r 33 .done)) .stop)))))))) .stop))))))))) .stop)) .stop)))))))))))))
theorem tsh_3 : tsh Try.prog 3 = some 0 := by decide +kernel
theorem tzero_3 : tzero Try.prog 3 = some (.p (.int .i64 0)) := by kernel_rfl
theorem telem_3 : telem Try.prog 3 = none := by decide +kernel
theorem lenK_3 : lenKind Try.prog 3 = (0, 0) := by decide +kernel
theorem nilK_3 : nilK Try.prog 3 = 0 := by decide +kernel
theorem srcT_3 : isSrcT Try.prog 3 = false := by decide +kernel
theorem byt_3 : Program.bytesOf Try.prog 3 = 8 := by decide +kernel
theorem und_3 : Program.underlying Try.prog 3 = some (.int .i64) := by kernel_rfl
theorem tsh_4 : tsh Try.prog 4 = some 0 := by decide +kernel
theorem tzero_4 : tzero Try.prog 4 = some (.p (.bool false)) := by kernel_rfl
theorem telem_4 : telem Try.prog 4 = none := by decide +kernel
theorem lenK_4 : lenKind Try.prog 4 = (0, 0) := by decide +kernel
theorem nilK_4 : nilK Try.prog 4 = 5 := by decide +kernel
theorem srcT_4 : isSrcT Try.prog 4 = false := by decide +kernel
theorem byt_4 : Program.bytesOf Try.prog 4 = 1 := by decide +kernel
theorem und_4 : Program.underlying Try.prog 4 = some .bool := by kernel_rfl
theorem tsh_9 : tsh Try.prog 9 = some 0 := by decide +kernel
theorem tzero_9 : tzero Try.prog 9 = some (.p (.str [])) := by kernel_rfl
theorem telem_9 : telem Try.prog 9 = none := by decide +kernel
theorem lenK_9 : lenKind Try.prog 9 = (2, 0) := by decide +kernel
theorem nilK_9 : nilK Try.prog 9 = 0 := by decide +kernel
theorem srcT_9 : isSrcT Try.prog 9 = true := by decide +kernel
theorem byt_9 : Program.bytesOf Try.prog 9 = 16 := by decide +kernel
theorem und_9 : Program.underlying Try.prog 9 = some .string := by kernel_rfl
theorem tsh_22 : tsh Try.prog 22 = some 0 := by decide +kernel
theorem tzero_22 : tzero Try.prog 22 = some (.nsl) := by kernel_rfl
theorem telem_22 : telem Try.prog 22 = some (73, 3) := by decide +kernel
theorem lenK_22 : lenKind Try.prog 22 = (3, 0) := by decide +kernel
theorem nilK_22 : nilK Try.prog 22 = 4 := by decide +kernel
theorem srcT_22 : isSrcT Try.prog 22 = true := by decide +kernel
theorem byt_22 : Program.bytesOf Try.prog 22 = 24 := by decide +kernel
theorem und_22 : Program.underlying Try.prog 22 = some (.slice 73) := by kernel_rfl
theorem tsh_24 : tsh Try.prog 24 = some 0 := by decide +kernel
theorem tzero_24 : tzero Try.prog 24 = some (.p (.nptr)) := by kernel_rfl
theorem telem_24 : telem Try.prog 24 = none := by decide +kernel
theorem lenK_24 : lenKind Try.prog 24 = (0, 0) := by decide +kernel
theorem nilK_24 : nilK Try.prog 24 = 1 := by decide +kernel
theorem srcT_24 : isSrcT Try.prog 24 = false := by decide +kernel
theorem byt_24 : Program.bytesOf Try.prog 24 = 8 := by decide +kernel
theorem tsh_25 : tsh Try.prog 25 = some 0 := by decide +kernel
theorem tzero_25 : tzero Try.prog 25 = some (.nsl) := by kernel_rfl
theorem telem_25 : telem Try.prog 25 = some (33, 2) := by decide +kernel
theorem lenK_25 : lenKind Try.prog 25 = (3, 0) := by decide +kernel
theorem nilK_25 : nilK Try.prog 25 = 4 := by decide +kernel
theorem srcT_25 : isSrcT Try.prog 25 = true := by decide +kernel
theorem byt_25 : Program.bytesOf Try.prog 25 = 24 := by decide +kernel
theorem und_25 : Program.underlying Try.prog 25 = some (.slice 33) := by kernel_rfl
theorem tsh_33 : tsh Try.prog 33 = some 2 := by decide +kernel
theorem tzero_33 : tzero Try.prog 33 = some (.p (.agg [.int .i64 0, .int .i64 0])) := by kernel_rfl
theorem telem_33 : telem Try.prog 33 = none := by decide +kernel
theorem lenK_33 : lenKind Try.prog 33 = (0, 0) := by decide +kernel
theorem nilK_33 : nilK Try.prog 33 = 0 := by decide +kernel
theorem srcT_33 : isSrcT Try.prog 33 = false := by decide +kernel
theorem byt_33 : Program.bytesOf Try.prog 33 = 16 := by decide +kernel
theorem eqKs_33 : eqKs Try.prog 33 = some [2, 2] := by decide +kernel
theorem tpl_33 : tplaces Try.prog 33 = some (.inl [(0, 1), (1, 1)]) := by kernel_rfl
theorem tf_33_0 : tfield Try.prog 33 0 = some (0, 0) := by decide +kernel
theorem tf_33_1 : tfield Try.prog 33 1 = some (1, 0) := by decide +kernel
theorem tsh_38 : tsh Try.prog 38 = some 0 := by decide +kernel
theorem tzero_38 : tzero Try.prog 38 = some (.p (.nfn)) := by kernel_rfl
theorem telem_38 : telem Try.prog 38 = none := by decide +kernel
theorem lenK_38 : lenKind Try.prog 38 = (0, 0) := by decide +kernel
theorem nilK_38 : nilK Try.prog 38 = 2 := by decide +kernel
theorem srcT_38 : isSrcT Try.prog 38 = false := by decide +kernel
theorem byt_38 : Program.bytesOf Try.prog 38 = 8 := by decide +kernel
theorem tsh_43 : tsh Try.prog 43 = some 0 := by decide +kernel
theorem tzero_43 : tzero Try.prog 43 = some (.p (.nfn)) := by kernel_rfl
theorem telem_43 : telem Try.prog 43 = none := by decide +kernel
theorem lenK_43 : lenKind Try.prog 43 = (0, 0) := by decide +kernel
theorem nilK_43 : nilK Try.prog 43 = 2 := by decide +kernel
theorem srcT_43 : isSrcT Try.prog 43 = false := by decide +kernel
theorem byt_43 : Program.bytesOf Try.prog 43 = 8 := by decide +kernel
theorem tsh_45 : tsh Try.prog 45 = some 0 := by decide +kernel
theorem tzero_45 : tzero Try.prog 45 = some (.p (.nfn)) := by kernel_rfl
theorem telem_45 : telem Try.prog 45 = none := by decide +kernel
theorem lenK_45 : lenKind Try.prog 45 = (0, 0) := by decide +kernel
theorem nilK_45 : nilK Try.prog 45 = 2 := by decide +kernel
theorem srcT_45 : isSrcT Try.prog 45 = false := by decide +kernel
theorem byt_45 : Program.bytesOf Try.prog 45 = 8 := by decide +kernel
theorem tsh_46 : tsh Try.prog 46 = some 0 := by decide +kernel
theorem tzero_46 : tzero Try.prog 46 = some (.nsl) := by kernel_rfl
theorem telem_46 : telem Try.prog 46 = some (3, 0) := by decide +kernel
theorem lenK_46 : lenKind Try.prog 46 = (3, 0) := by decide +kernel
theorem nilK_46 : nilK Try.prog 46 = 4 := by decide +kernel
theorem srcT_46 : isSrcT Try.prog 46 = true := by decide +kernel
theorem byt_46 : Program.bytesOf Try.prog 46 = 24 := by decide +kernel
theorem und_46 : Program.underlying Try.prog 46 = some (.slice 3) := by kernel_rfl
theorem tsh_53 : tsh Try.prog 53 = some 0 := by decide +kernel
theorem tzero_53 : tzero Try.prog 53 = some (.p (.nptr)) := by kernel_rfl
theorem telem_53 : telem Try.prog 53 = none := by decide +kernel
theorem lenK_53 : lenKind Try.prog 53 = (0, 0) := by decide +kernel
theorem nilK_53 : nilK Try.prog 53 = 1 := by decide +kernel
theorem srcT_53 : isSrcT Try.prog 53 = false := by decide +kernel
theorem byt_53 : Program.bytesOf Try.prog 53 = 8 := by decide +kernel
theorem tsh_55 : tsh Try.prog 55 = some 0 := by decide +kernel
theorem tzero_55 : tzero Try.prog 55 = some (.p (.int .u64 0)) := by kernel_rfl
theorem telem_55 : telem Try.prog 55 = none := by decide +kernel
theorem lenK_55 : lenKind Try.prog 55 = (0, 0) := by decide +kernel
theorem nilK_55 : nilK Try.prog 55 = 0 := by decide +kernel
theorem srcT_55 : isSrcT Try.prog 55 = false := by decide +kernel
theorem byt_55 : Program.bytesOf Try.prog 55 = 8 := by decide +kernel
theorem und_55 : Program.underlying Try.prog 55 = some (.int .u64) := by kernel_rfl
theorem tsh_56 : tsh Try.prog 56 = some 0 := by decide +kernel
theorem tzero_56 : tzero Try.prog 56 = some (.p (.nfn)) := by kernel_rfl
theorem telem_56 : telem Try.prog 56 = none := by decide +kernel
theorem lenK_56 : lenKind Try.prog 56 = (0, 0) := by decide +kernel
theorem nilK_56 : nilK Try.prog 56 = 2 := by decide +kernel
theorem srcT_56 : isSrcT Try.prog 56 = false := by decide +kernel
theorem byt_56 : Program.bytesOf Try.prog 56 = 8 := by decide +kernel
theorem tsh_57 : tsh Try.prog 57 = some 0 := by decide +kernel
theorem tzero_57 : tzero Try.prog 57 = some (.p (.nfn)) := by kernel_rfl
theorem telem_57 : telem Try.prog 57 = none := by decide +kernel
theorem lenK_57 : lenKind Try.prog 57 = (0, 0) := by decide +kernel
theorem nilK_57 : nilK Try.prog 57 = 2 := by decide +kernel
theorem srcT_57 : isSrcT Try.prog 57 = false := by decide +kernel
theorem byt_57 : Program.bytesOf Try.prog 57 = 8 := by decide +kernel
theorem tsh_63 : tsh Try.prog 63 = some 0 := by decide +kernel
theorem tzero_63 : tzero Try.prog 63 = some (.p (.nfn)) := by kernel_rfl
theorem telem_63 : telem Try.prog 63 = none := by decide +kernel
theorem lenK_63 : lenKind Try.prog 63 = (0, 0) := by decide +kernel
theorem nilK_63 : nilK Try.prog 63 = 2 := by decide +kernel
theorem srcT_63 : isSrcT Try.prog 63 = false := by decide +kernel
theorem byt_63 : Program.bytesOf Try.prog 63 = 8 := by decide +kernel
theorem tsh_68 : tsh Try.prog 68 = some 0 := by decide +kernel
theorem tzero_68 : tzero Try.prog 68 = some (.nsl) := by kernel_rfl
theorem telem_68 : telem Try.prog 68 = some (9, 0) := by decide +kernel
theorem lenK_68 : lenKind Try.prog 68 = (3, 0) := by decide +kernel
theorem nilK_68 : nilK Try.prog 68 = 4 := by decide +kernel
theorem srcT_68 : isSrcT Try.prog 68 = true := by decide +kernel
theorem byt_68 : Program.bytesOf Try.prog 68 = 24 := by decide +kernel
theorem und_68 : Program.underlying Try.prog 68 = some (.slice 9) := by kernel_rfl
theorem tsh_73 : tsh Try.prog 73 = some 3 := by decide +kernel
theorem tzero_73 : tzero Try.prog 73 = some (.p (.agg [.int .i64 0, .int .i64 0, .int .i64 0])) := by kernel_rfl
theorem telem_73 : telem Try.prog 73 = none := by decide +kernel
theorem lenK_73 : lenKind Try.prog 73 = (0, 0) := by decide +kernel
theorem nilK_73 : nilK Try.prog 73 = 0 := by decide +kernel
theorem srcT_73 : isSrcT Try.prog 73 = false := by decide +kernel
theorem byt_73 : Program.bytesOf Try.prog 73 = 24 := by decide +kernel
theorem eqKs_73 : eqKs Try.prog 73 = some [2, 2, 2] := by decide +kernel
theorem tpl_73 : tplaces Try.prog 73 = some (.inl [(0, 1), (1, 1), (2, 1)]) := by kernel_rfl
theorem tf_73_0 : tfield Try.prog 73 0 = some (0, 0) := by decide +kernel
theorem tf_73_1 : tfield Try.prog 73 1 = some (1, 0) := by decide +kernel
theorem tf_73_2 : tfield Try.prog 73 2 = some (2, 0) := by decide +kernel
theorem tsh_77 : tsh Try.prog 77 = some 0 := by decide +kernel
theorem tzero_77 : tzero Try.prog 77 = some (.p (.nptr)) := by kernel_rfl
theorem telem_77 : telem Try.prog 77 = none := by decide +kernel
theorem lenK_77 : lenKind Try.prog 77 = (0, 0) := by decide +kernel
theorem nilK_77 : nilK Try.prog 77 = 1 := by decide +kernel
theorem srcT_77 : isSrcT Try.prog 77 = false := by decide +kernel
theorem byt_77 : Program.bytesOf Try.prog 77 = 8 := by decide +kernel
theorem tsh_79 : tsh Try.prog 79 = some 2 := by decide +kernel
theorem tzero_79 : tzero Try.prog 79 = some (.p (.agg [.nptr, .nfn])) := by kernel_rfl
theorem telem_79 : telem Try.prog 79 = none := by decide +kernel
theorem lenK_79 : lenKind Try.prog 79 = (0, 0) := by decide +kernel
theorem nilK_79 : nilK Try.prog 79 = 0 := by decide +kernel
theorem srcT_79 : isSrcT Try.prog 79 = false := by decide +kernel
theorem byt_79 : Program.bytesOf Try.prog 79 = 16 := by decide +kernel
theorem tpl_79 : tplaces Try.prog 79 = some (.inl [(0, 1), (1, 1)]) := by kernel_rfl
theorem tf_79_0 : tfield Try.prog 79 0 = some (0, 0) := by decide +kernel
theorem tf_79_1 : tfield Try.prog 79 1 = some (1, 0) := by decide +kernel
theorem tsh_82 : tsh Try.prog 82 = some 6 := by decide +kernel
theorem tzero_82 : tzero Try.prog 82 = some (.p (.agg [.int .i64 0, .int .i64 0, .int .u64 0, .int .i64 0, .nptr, .nptr])) := by kernel_rfl
theorem telem_82 : telem Try.prog 82 = none := by decide +kernel
theorem lenK_82 : lenKind Try.prog 82 = (0, 0) := by decide +kernel
theorem nilK_82 : nilK Try.prog 82 = 0 := by decide +kernel
theorem srcT_82 : isSrcT Try.prog 82 = false := by decide +kernel
theorem byt_82 : Program.bytesOf Try.prog 82 = 48 := by decide +kernel
theorem tpl_82 : tplaces Try.prog 82 = some (.inl [(0, 1), (1, 1), (2, 1), (3, 1), (4, 1), (5, 1)]) := by kernel_rfl
theorem tf_82_0 : tfield Try.prog 82 0 = some (0, 0) := by decide +kernel
theorem tf_82_1 : tfield Try.prog 82 1 = some (1, 0) := by decide +kernel
theorem tf_82_2 : tfield Try.prog 82 2 = some (2, 0) := by decide +kernel
theorem tf_82_3 : tfield Try.prog 82 3 = some (3, 0) := by decide +kernel
theorem tf_82_4 : tfield Try.prog 82 4 = some (4, 0) := by decide +kernel
theorem tf_82_5 : tfield Try.prog 82 5 = some (5, 0) := by decide +kernel
theorem tsh_85 : tsh Try.prog 85 = some 0 := by decide +kernel
theorem tzero_85 : tzero Try.prog 85 = some (.p (.nptr)) := by kernel_rfl
theorem telem_85 : telem Try.prog 85 = none := by decide +kernel
theorem lenK_85 : lenKind Try.prog 85 = (0, 0) := by decide +kernel
theorem nilK_85 : nilK Try.prog 85 = 1 := by decide +kernel
theorem srcT_85 : isSrcT Try.prog 85 = false := by decide +kernel
theorem byt_85 : Program.bytesOf Try.prog 85 = 8 := by decide +kernel
theorem tsh_86 : tsh Try.prog 86 = some 0 := by decide +kernel
theorem tzero_86 : tzero Try.prog 86 = some (.p (.nfn)) := by kernel_rfl
theorem telem_86 : telem Try.prog 86 = none := by decide +kernel
theorem lenK_86 : lenKind Try.prog 86 = (0, 0) := by decide +kernel
theorem nilK_86 : nilK Try.prog 86 = 2 := by decide +kernel
theorem srcT_86 : isSrcT Try.prog 86 = false := by decide +kernel
theorem byt_86 : Program.bytesOf Try.prog 86 = 8 := by decide +kernel
theorem tsh_87 : tsh Try.prog 87 = some 0 := by decide +kernel
theorem tzero_87 : tzero Try.prog 87 = some (.p (.int .u64 0)) := by kernel_rfl
theorem telem_87 : telem Try.prog 87 = none := by decide +kernel
theorem lenK_87 : lenKind Try.prog 87 = (0, 0) := by decide +kernel
theorem nilK_87 : nilK Try.prog 87 = 0 := by decide +kernel
theorem srcT_87 : isSrcT Try.prog 87 = false := by decide +kernel
theorem byt_87 : Program.bytesOf Try.prog 87 = 8 := by decide +kernel
theorem und_87 : Program.underlying Try.prog 87 = some (.int .u64) := by kernel_rfl
theorem tsh_91 : tsh Try.prog 91 = some 0 := by decide +kernel
theorem tzero_91 : tzero Try.prog 91 = some (.p (.nfn)) := by kernel_rfl
theorem telem_91 : telem Try.prog 91 = none := by decide +kernel
theorem lenK_91 : lenKind Try.prog 91 = (0, 0) := by decide +kernel
theorem nilK_91 : nilK Try.prog 91 = 2 := by decide +kernel
theorem srcT_91 : isSrcT Try.prog 91 = false := by decide +kernel
theorem byt_91 : Program.bytesOf Try.prog 91 = 8 := by decide +kernel
theorem tsh_94 : tsh Try.prog 94 = some 0 := by decide +kernel
theorem tzero_94 : tzero Try.prog 94 = some (.p (.nptr)) := by kernel_rfl
theorem telem_94 : telem Try.prog 94 = none := by decide +kernel
theorem lenK_94 : lenKind Try.prog 94 = (0, 0) := by decide +kernel
theorem nilK_94 : nilK Try.prog 94 = 1 := by decide +kernel
theorem srcT_94 : isSrcT Try.prog 94 = false := by decide +kernel
theorem byt_94 : Program.bytesOf Try.prog 94 = 8 := by decide +kernel
theorem tsh_96 : tsh Try.prog 96 = some 2 := by decide +kernel
theorem tzero_96 : tzero Try.prog 96 = some (.p (.agg [.nptr, .nfn])) := by kernel_rfl
theorem telem_96 : telem Try.prog 96 = none := by decide +kernel
theorem lenK_96 : lenKind Try.prog 96 = (0, 0) := by decide +kernel
theorem nilK_96 : nilK Try.prog 96 = 0 := by decide +kernel
theorem srcT_96 : isSrcT Try.prog 96 = false := by decide +kernel
theorem byt_96 : Program.bytesOf Try.prog 96 = 16 := by decide +kernel
theorem tpl_96 : tplaces Try.prog 96 = some (.inl [(0, 1), (1, 1)]) := by kernel_rfl
theorem tf_96_0 : tfield Try.prog 96 0 = some (0, 0) := by decide +kernel
theorem tf_96_1 : tfield Try.prog 96 1 = some (1, 0) := by decide +kernel
theorem tsh_100 : tsh Try.prog 100 = some 6 := by decide +kernel
theorem tzero_100 : tzero Try.prog 100 = some (.p (.agg [.str [], .int .i64 0, .int .u64 0, .int .i64 0, .nptr, .nptr])) := by kernel_rfl
theorem telem_100 : telem Try.prog 100 = none := by decide +kernel
theorem lenK_100 : lenKind Try.prog 100 = (0, 0) := by decide +kernel
theorem nilK_100 : nilK Try.prog 100 = 0 := by decide +kernel
theorem srcT_100 : isSrcT Try.prog 100 = false := by decide +kernel
theorem byt_100 : Program.bytesOf Try.prog 100 = 56 := by decide +kernel
theorem tpl_100 : tplaces Try.prog 100 = some (.inl [(0, 1), (1, 1), (2, 1), (3, 1), (4, 1), (5, 1)]) := by kernel_rfl
theorem tf_100_0 : tfield Try.prog 100 0 = some (0, 0) := by decide +kernel
theorem tf_100_1 : tfield Try.prog 100 1 = some (1, 0) := by decide +kernel
theorem tf_100_2 : tfield Try.prog 100 2 = some (2, 0) := by decide +kernel
theorem tf_100_3 : tfield Try.prog 100 3 = some (3, 0) := by decide +kernel
theorem tf_100_4 : tfield Try.prog 100 4 = some (4, 0) := by decide +kernel
theorem tf_100_5 : tfield Try.prog 100 5 = some (5, 0) := by decide +kernel
theorem tsh_106 : tsh Try.prog 106 = some 0 := by decide +kernel
theorem tzero_106 : tzero Try.prog 106 = some (.p (.nfn)) := by kernel_rfl
theorem telem_106 : telem Try.prog 106 = none := by decide +kernel
theorem lenK_106 : lenKind Try.prog 106 = (0, 0) := by decide +kernel
theorem nilK_106 : nilK Try.prog 106 = 2 := by decide +kernel
theorem srcT_106 : isSrcT Try.prog 106 = false := by decide +kernel
theorem byt_106 : Program.bytesOf Try.prog 106 = 8 := by decide +kernel
theorem tsh_107 : tsh Try.prog 107 = some 0 := by decide +kernel
theorem tzero_107 : tzero Try.prog 107 = some (.p (.nptr)) := by kernel_rfl
theorem telem_107 : telem Try.prog 107 = none := by decide +kernel
theorem lenK_107 : lenKind Try.prog 107 = (0, 0) := by decide +kernel
theorem nilK_107 : nilK Try.prog 107 = 1 := by decide +kernel
theorem srcT_107 : isSrcT Try.prog 107 = false := by decide +kernel
theorem byt_107 : Program.bytesOf Try.prog 107 = 8 := by decide +kernel
theorem tsh_108 : tsh Try.prog 108 = some 0 := by decide +kernel
theorem tzero_108 : tzero Try.prog 108 = some (.p (.nfn)) := by kernel_rfl
theorem telem_108 : telem Try.prog 108 = none := by decide +kernel
theorem lenK_108 : lenKind Try.prog 108 = (0, 0) := by decide +kernel
theorem nilK_108 : nilK Try.prog 108 = 2 := by decide +kernel
theorem srcT_108 : isSrcT Try.prog 108 = false := by decide +kernel
theorem byt_108 : Program.bytesOf Try.prog 108 = 8 := by decide +kernel
theorem cv_3_55 : cvKind Try.prog 3 55 = .plain := by kernel_rfl
def wkF := (And.intro (And.intro (And.intro (And.intro (And.intro (And.intro (And.intro (And.intro tsh_3 tzero_3) (And.intro telem_3 lenK_3)) (And.intro (And.intro nilK_3 srcT_3) (And.intro byt_3 und_3))) (And.intro (And.intro (And.intro tsh_4 tzero_4) (And.intro telem_4 lenK_4)) (And.intro (And.intro nilK_4 srcT_4) (And.intro byt_4 und_4)))) (And.intro (And.intro (And.intro (And.intro tsh_9 tzero_9) (And.intro telem_9 lenK_9)) (And.intro (And.intro nilK_9 srcT_9) (And.intro byt_9 und_9))) (And.intro (And.intro (And.intro tsh_22 tzero_22) (And.intro telem_22 lenK_22)) (And.intro (And.intro nilK_22 srcT_22) (And.intro byt_22 und_22))))) (And.intro (And.intro (And.intro (And.intro (And.intro tsh_24 tzero_24) (And.intro telem_24 lenK_24)) (And.intro (And.intro nilK_24 srcT_24) (And.intro byt_24 tsh_25))) (And.intro (And.intro (And.intro tzero_25 telem_25) (And.intro lenK_25 nilK_25)) (And.intro (And.intro srcT_25 byt_25) (And.intro und_25 tsh_33)))) (And.intro (And.intro (And.intro (And.intro tzero_33 telem_33) (And.intro lenK_33 nilK_33)) (And.intro (And.intro srcT_33 byt_33) (And.intro eqKs_33 tpl_33))) (And.intro (And.intro (And.intro tf_33_0 tf_33_1) (And.intro tsh_38 tzero_38)) (And.intro (And.intro telem_38 lenK_38) (And.intro nilK_38 srcT_38)))))) (And.intro (And.intro (And.intro (And.intro (And.intro (And.intro byt_38 tsh_43) (And.intro tzero_43 telem_43)) (And.intro (And.intro lenK_43 nilK_43) (And.intro srcT_43 byt_43))) (And.intro (And.intro (And.intro tsh_45 tzero_45) (And.intro telem_45 lenK_45)) (And.intro (And.intro nilK_45 srcT_45) (And.intro byt_45 tsh_46)))) (And.intro (And.intro (And.intro (And.intro tzero_46 telem_46) (And.intro lenK_46 nilK_46)) (And.intro (And.intro srcT_46 byt_46) (And.intro und_46 tsh_53))) (And.intro (And.intro (And.intro tzero_53 telem_53) (And.intro lenK_53 nilK_53)) (And.intro (And.intro srcT_53 byt_53) (And.intro tsh_55 tzero_55))))) (And.intro (And.intro (And.intro (And.intro (And.intro telem_55 lenK_55) (And.intro nilK_55 srcT_55)) (And.intro (And.intro byt_55 und_55) (And.intro tsh_56 tzero_56))) (And.intro (And.intro (And.intro telem_56 lenK_56) (And.intro nilK_56 srcT_56)) (And.intro (And.intro byt_56 tsh_57) (And.intro tzero_57 telem_57)))) (And.intro (And.intro (And.intro (And.intro lenK_57 nilK_57) (And.intro srcT_57 byt_57)) (And.intro (And.intro tsh_63 tzero_63) (And.intro telem_63 lenK_63))) (And.intro (And.intro (And.intro nilK_63 srcT_63) (And.intro byt_63 tsh_68)) (And.intro (And.intro tzero_68 telem_68) (And.intro lenK_68 nilK_68))))))) (And.intro (And.intro (And.intro (And.intro (And.intro (And.intro (And.intro srcT_68 byt_68) (And.intro und_68 tsh_73)) (And.intro (And.intro tzero_73 telem_73) (And.intro lenK_73 nilK_73))) (And.intro (And.intro (And.intro srcT_73 byt_73) (And.intro eqKs_73 tpl_73)) (And.intro (And.intro tf_73_0 tf_73_1) (And.intro tf_73_2 tsh_77)))) (And.intro (And.intro (And.intro (And.intro tzero_77 telem_77) (And.intro lenK_77 nilK_77)) (And.intro (And.intro srcT_77 byt_77) (And.intro tsh_79 tzero_79))) (And.intro (And.intro (And.intro telem_79 lenK_79) (And.intro nilK_79 srcT_79)) (And.intro (And.intro byt_79 tpl_79) (And.intro tf_79_0 tf_79_1))))) (And.intro (And.intro (And.intro (And.intro (And.intro tsh_82 tzero_82) (And.intro telem_82 lenK_82)) (And.intro (And.intro nilK_82 srcT_82) (And.intro byt_82 tpl_82))) (And.intro (And.intro (And.intro tf_82_0 tf_82_1) (And.intro tf_82_2 tf_82_3)) (And.intro (And.intro tf_82_4 tf_82_5) (And.intro tsh_85 tzero_85)))) (And.intro (And.intro (And.intro (And.intro telem_85 lenK_85) (And.intro nilK_85 srcT_85)) (And.intro (And.intro byt_85 tsh_86) (And.intro tzero_86 telem_86))) (And.intro (And.intro (And.intro lenK_86 nilK_86) (And.intro srcT_86 byt_86)) (And.intro (And.intro tsh_87 tzero_87) (And.intro telem_87 lenK_87)))))) (And.intro (And.intro (And.intro (And.intro (And.intro (And.intro nilK_87 srcT_87) (And.intro byt_87 und_87)) (And.intro (And.intro tsh_91 tzero_91) (And.intro telem_91 lenK_91))) (And.intro (And.intro (And.intro nilK_91 srcT_91) (And.intro byt_91 tsh_94)) (And.intro (And.intro tzero_94 telem_94) (And.intro lenK_94 nilK_94)))) (And.intro (And.intro (And.intro (And.intro srcT_94 byt_94) (And.intro tsh_96 tzero_96)) (And.intro (And.intro telem_96 lenK_96) (And.intro nilK_96 srcT_96))) (And.intro (And.intro (And.intro byt_96 tpl_96) (And.intro tf_96_0 tf_96_1)) (And.intro (And.intro tsh_100 tzero_100) (And.intro telem_100 lenK_100))))) (And.intro (And.intro (And.intro (And.intro (And.intro nilK_100 srcT_100) (And.intro byt_100 tpl_100)) (And.intro (And.intro tf_100_0 tf_100_1) (And.intro tf_100_2 tf_100_3))) (And.intro (And.intro (And.intro tf_100_4 tf_100_5) (And.intro tsh_106 tzero_106)) (And.intro (And.intro telem_106 lenK_106) (And.intro nilK_106 srcT_106)))) (And.intro (And.intro (And.intro (And.intro byt_106 tsh_107) (And.intro tzero_107 telem_107)) (And.intro (And.intro lenK_107 nilK_107) (And.intro srcT_107 byt_107))) (And.intro (And.intro (And.intro tsh_108 tzero_108) (And.intro telem_108 lenK_108)) (And.intro (And.intro nilK_108 srcT_108) (And.intro byt_108 cv_3_55))))))))
-- FACTS: tsh_3, tzero_3, telem_3, lenK_3, nilK_3, srcT_3, byt_3, und_3, tsh_4, tzero_4, telem_4, lenK_4, nilK_4, srcT_4, byt_4, und_4, tsh_9, tzero_9, telem_9, lenK_9, nilK_9, srcT_9, byt_9, und_9, tsh_22, tzero_22, telem_22, lenK_22, nilK_22, srcT_22, byt_22, und_22, tsh_24, tzero_24, telem_24, lenK_24, nilK_24, srcT_24, byt_24, tsh_25, tzero_25, telem_25, lenK_25, nilK_25, srcT_25, byt_25, und_25, tsh_33, tzero_33, telem_33, lenK_33, nilK_33, srcT_33, byt_33, eqKs_33, tpl_33, tf_33_0, tf_33_1, tsh_38, tzero_38, telem_38, lenK_38, nilK_38, srcT_38, byt_38, tsh_43, tzero_43, telem_43, lenK_43, nilK_43, srcT_43, byt_43, tsh_45, tzero_45, telem_45, lenK_45, nilK_45, srcT_45, byt_45, tsh_46, tzero_46, telem_46, lenK_46, nilK_46, srcT_46, byt_46, und_46, tsh_53, tzero_53, telem_53, lenK_53, nilK_53, srcT_53, byt_53, tsh_55, tzero_55, telem_55, lenK_55, nilK_55, srcT_55, byt_55, und_55, tsh_56, tzero_56, telem_56, lenK_56, nilK_56, srcT_56, byt_56, tsh_57, tzero_57, telem_57, lenK_57, nilK_57, srcT_57, byt_57, tsh_63, tzero_63, telem_63, lenK_63, nilK_63, srcT_63, byt_63, tsh_68, tzero_68, telem_68, lenK_68, nilK_68, srcT_68, byt_68, und_68, tsh_73, tzero_73, telem_73, lenK_73, nilK_73, srcT_73, byt_73, eqKs_73, tpl_73, tf_73_0, tf_73_1, tf_73_2, tsh_77, tzero_77, telem_77, lenK_77, nilK_77, srcT_77, byt_77, tsh_79, tzero_79, telem_79, lenK_79, nilK_79, srcT_79, byt_79, tpl_79, tf_79_0, tf_79_1, tsh_82, tzero_82, telem_82, lenK_82, nilK_82, srcT_82, byt_82, tpl_82, tf_82_0, tf_82_1, tf_82_2, tf_82_3, tf_82_4, tf_82_5, tsh_85, tzero_85, telem_85, lenK_85, nilK_85, srcT_85, byt_85, tsh_86, tzero_86, telem_86, lenK_86, nilK_86, srcT_86, byt_86, tsh_87, tzero_87, telem_87, lenK_87, nilK_87, srcT_87, byt_87, und_87, tsh_91, tzero_91, telem_91, lenK_91, nilK_91, srcT_91, byt_91, tsh_94, tzero_94, telem_94, lenK_94, nilK_94, srcT_94, byt_94, tsh_96, tzero_96, telem_96, lenK_96, nilK_96, srcT_96, byt_96, tpl_96, tf_96_0, tf_96_1, tsh_100, tzero_100, telem_100, lenK_100, nilK_100, srcT_100, byt_100, tpl_100, tf_100_0, tf_100_1, tf_100_2, tf_100_3, tf_100_4, tf_100_5, tsh_106, tzero_106, telem_106, lenK_106, nilK_106, srcT_106, byt_106, tsh_107, tzero_107, telem_107, lenK_107, nilK_107, srcT_107, byt_107, tsh_108, tzero_108, telem_108, lenK_108, nilK_108, srcT_108, byt_108, cv_3_55

end Go.Ev.F31
end
section
namespace Go.Ev.F31
open Go.Proofs Go.Ev
set_option maxRecDepth 100000
theorem pWorks : PS Cf okf 7 [4] [] (fun r => r = .bool true) := run_true extMono 400 (by decide +kernel)
end Go.Ev.F31
end
