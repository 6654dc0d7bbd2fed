/- A part of the proof: walks of the functions that the law calls. No condition. -/
import Derived.Test.YtafkblkenoelhaaProg
import Derived.Test.YtafkblkenoelhaaRun
import Derived.Test.YtafkblkenoelhaaEvC
import Derived.Test.YtafkblkenoelhaaCon
set_option linter.all false
section
namespace Go.Ev.F34
open Go.Proofs Go.Ev
set_option maxRecDepth 100000
set_option linter.all false

/- the seat's configuration and facts -/
noncomputable def Cf : Cfg := { P := Try.prog, md := fun f => match f with | 3 => .imp | 4 => .imp | 5 => .imp | 6 => .pure | 7 => .pure | 8 => .imp | 9 => .pure | 10 => .imp | 11 => .imp | 12 => .imp | 13 => .imp | 14 => .pure | 15 => .imp | 16 => .imp | 17 => .pure | 18 => .imp | 19 => .imp | 20 => .imp | 21 => .imp | 22 => .ext clRSpec | 23 => .imp | 24 => .ext clSSpec | 25 => .pure | 26 => .pure | 27 => .pure | 28 => .pure | 29 => .pure | 30 => .imp | 31 => .imp | 32 => .imp | 33 => .imp | 34 => .own | 35 => .pure | 37 => .pure | 38 => .pure | 39 => .pure | 40 => .ext dfSSpec | 41 => .imp | 42 => .imp | 43 => .imp | 44 => .pure | 45 => .imp | 46 => .pure | 47 => .ext soRSpec | 48 => .imp | 49 => .pure | 50 => .pure | 51 => .pure | 52 => .pure | 53 => .pure | 54 => .pure | 55 => .pure | 56 => .pure | 57 => .imp | 58 => .imp | 59 => .imp | 61 => .pure | 62 => .pure | _ => .no }
def okf (f : FuncId) : Bool := [3, 4, 5, 6, 7, 8, 9, 10, 11, 12, 13, 14, 15, 16, 17, 18, 19, 20, 21, 23, 25, 26, 27, 28, 29, 30, 31, 32, 33, 34, 35, 37, 38, 39, 41, 42, 43, 44, 45, 46, 48, 49, 50, 51, 52, 53, 54, 55, 56, 57, 58, 59, 61, 62].contains f
theorem CfP : Cf.P = Try.prog := rfl
theorem okfOK : ∀ f, okf f = true → okFn Cf.P f = true := by
  have h : ([3, 4, 5, 6, 7, 8, 9, 10, 11, 12, 13, 14, 15, 16, 17, 18, 19, 20, 21, 23, 25, 26, 27, 28, 29, 30, 31, 32, 33, 34, 35, 37, 38, 39, 41, 42, 43, 44, 45, 46, 48, 49, 50, 51, 52, 53, 54, 55, 56, 57, 58, 59, 61, 62].all fun f => okFn Try.prog f) = true := by decide +kernel
  intro f hf
  exact List.all_eq_true.1 h f (by simpa [okf] using hf)
theorem extOK : ExtOK Cf := by
  intro f spec h
  unfold Cf at h
  dsimp only at h
  split at h <;> cases h
  · exact fun args H Q h => clR_ext h
  · exact fun args H Q h => clS_ext h
  · exact fun args H Q h => dfS_ext h
  · exact fun args H Q h => soR_ext h
theorem md_22 : Cf.md 22 = .ext clRSpec := rfl
theorem md_24 : Cf.md 24 = .ext clSSpec := rfl
theorem md_40 : Cf.md 40 = .ext dfSSpec := rfl
theorem md_47 : Cf.md 47 = .ext soRSpec := rfl
theorem extMono : ExtMono Cf := by
  intro f spec h
  unfold Cf at h
  dsimp only at h
  split at h <;> cases h
  · exact fun args H Q Q' hq h => clRSpec_mono hq h
  · exact fun args H Q Q' hq h => clSSpec_mono hq h
  · exact fun args H Q Q' hq h => dfSSpec_mono hq h
  · exact fun args H Q Q' hq h => soRSpec_mono hq h
theorem md_3 : Cf.md 3 = .imp := rfl
noncomputable def c3 : Code := Try.f3.body.getD .skip
theorem body3 : Try.f3.body = some c3 := by kernel_rfl
theorem md_4 : Cf.md 4 = .imp := rfl
noncomputable def c4 : Code := Try.f4.body.getD .skip
theorem body4 : Try.f4.body = some c4 := by kernel_rfl
theorem md_5 : Cf.md 5 = .imp := rfl
noncomputable def c5 : Code := Try.f5.body.getD .skip
theorem body5 : Try.f5.body = some c5 := by kernel_rfl
theorem md_6 : Cf.md 6 = .pure := rfl
noncomputable def c6 : Code := Try.f6.body.getD .skip
theorem body6 : Try.f6.body = some c6 := by kernel_rfl
theorem md_7 : Cf.md 7 = .pure := rfl
noncomputable def c7 : Code := Try.f7.body.getD .skip
theorem body7 : Try.f7.body = some c7 := by kernel_rfl
theorem md_8 : Cf.md 8 = .imp := rfl
noncomputable def c8 : Code := Try.f8.body.getD .skip
theorem body8 : Try.f8.body = some c8 := by kernel_rfl
theorem md_9 : Cf.md 9 = .pure := rfl
noncomputable def c9 : Code := Try.f9.body.getD .skip
theorem body9 : Try.f9.body = some c9 := by kernel_rfl
theorem md_10 : Cf.md 10 = .imp := rfl
noncomputable def c10 : Code := Try.f10.body.getD .skip
theorem body10 : Try.f10.body = some c10 := by kernel_rfl
theorem md_11 : Cf.md 11 = .imp := rfl
noncomputable def c11 : Code := Try.f11.body.getD .skip
theorem body11 : Try.f11.body = some c11 := by kernel_rfl
theorem md_12 : Cf.md 12 = .imp := rfl
noncomputable def c12 : Code := Try.f12.body.getD .skip
theorem body12 : Try.f12.body = some c12 := by kernel_rfl
theorem md_13 : Cf.md 13 = .imp := rfl
noncomputable def c13 : Code := Try.f13.body.getD .skip
theorem body13 : Try.f13.body = some c13 := by kernel_rfl
theorem md_14 : Cf.md 14 = .pure := rfl
noncomputable def c14 : Code := Try.f14.body.getD .skip
theorem body14 : Try.f14.body = some c14 := by kernel_rfl
theorem md_15 : Cf.md 15 = .imp := rfl
noncomputable def c15 : Code := Try.f15.body.getD .skip
theorem body15 : Try.f15.body = some c15 := by kernel_rfl
theorem md_16 : Cf.md 16 = .imp := rfl
noncomputable def c16 : Code := Try.f16.body.getD .skip
theorem body16 : Try.f16.body = some c16 := by kernel_rfl
theorem md_17 : Cf.md 17 = .pure := rfl
noncomputable def c17 : Code := Try.f17.body.getD .skip
theorem body17 : Try.f17.body = some c17 := by kernel_rfl
theorem md_18 : Cf.md 18 = .imp := rfl
noncomputable def c18 : Code := Try.f18.body.getD .skip
theorem body18 : Try.f18.body = some c18 := by kernel_rfl
theorem md_19 : Cf.md 19 = .imp := rfl
noncomputable def c19 : Code := Try.f19.body.getD .skip
theorem body19 : Try.f19.body = some c19 := by kernel_rfl
theorem md_20 : Cf.md 20 = .imp := rfl
noncomputable def c20 : Code := Try.f20.body.getD .skip
theorem body20 : Try.f20.body = some c20 := by kernel_rfl
theorem md_21 : Cf.md 21 = .imp := rfl
noncomputable def c21 : Code := Try.f21.body.getD .skip
theorem body21 : Try.f21.body = some c21 := by kernel_rfl
theorem md_23 : Cf.md 23 = .imp := rfl
noncomputable def c23 : Code := Try.f23.body.getD .skip
theorem body23 : Try.f23.body = some c23 := by kernel_rfl
theorem md_25 : Cf.md 25 = .pure := rfl
noncomputable def c25 : Code := Try.f25.body.getD .skip
theorem body25 : Try.f25.body = some c25 := by kernel_rfl
theorem md_26 : Cf.md 26 = .pure := rfl
noncomputable def c26 : Code := Try.f26.body.getD .skip
theorem body26 : Try.f26.body = some c26 := by kernel_rfl
theorem md_27 : Cf.md 27 = .pure := rfl
noncomputable def c27 : Code := Try.f27.body.getD .skip
theorem body27 : Try.f27.body = some c27 := by kernel_rfl
theorem md_28 : Cf.md 28 = .pure := rfl
noncomputable def c28 : Code := Try.f28.body.getD .skip
theorem body28 : Try.f28.body = some c28 := by kernel_rfl
theorem md_29 : Cf.md 29 = .pure := rfl
noncomputable def c29 : Code := Try.f29.body.getD .skip
theorem body29 : Try.f29.body = some c29 := by kernel_rfl
theorem md_30 : Cf.md 30 = .imp := rfl
noncomputable def c30 : Code := Try.f30.body.getD .skip
theorem body30 : Try.f30.body = some c30 := by kernel_rfl
theorem md_31 : Cf.md 31 = .imp := rfl
noncomputable def c31 : Code := Try.f31.body.getD .skip
theorem body31 : Try.f31.body = some c31 := by kernel_rfl
theorem md_32 : Cf.md 32 = .imp := rfl
noncomputable def c32 : Code := Try.f32.body.getD .skip
theorem body32 : Try.f32.body = some c32 := by kernel_rfl
theorem md_33 : Cf.md 33 = .imp := rfl
noncomputable def c33 : Code := Try.f33.body.getD .skip
theorem body33 : Try.f33.body = some c33 := by kernel_rfl
theorem md_34 : Cf.md 34 = .own := rfl
noncomputable def c34 : Code := Try.f34.body.getD .skip
theorem body34 : Try.f34.body = some c34 := by kernel_rfl
theorem md_35 : Cf.md 35 = .pure := rfl
noncomputable def c35 : Code := Try.f35.body.getD .skip
theorem body35 : Try.f35.body = some c35 := by kernel_rfl
theorem md_37 : Cf.md 37 = .pure := rfl
noncomputable def c37 : Code := Try.f37.body.getD .skip
theorem body37 : Try.f37.body = some c37 := by kernel_rfl
theorem md_38 : Cf.md 38 = .pure := rfl
noncomputable def c38 : Code := Try.f38.body.getD .skip
theorem body38 : Try.f38.body = some c38 := by kernel_rfl
theorem md_39 : Cf.md 39 = .pure := rfl
noncomputable def c39 : Code := Try.f39.body.getD .skip
theorem body39 : Try.f39.body = some c39 := by kernel_rfl
theorem md_41 : Cf.md 41 = .imp := rfl
noncomputable def c41 : Code := Try.f41.body.getD .skip
theorem body41 : Try.f41.body = some c41 := by kernel_rfl
theorem md_42 : Cf.md 42 = .imp := rfl
noncomputable def c42 : Code := Try.f42.body.getD .skip
theorem body42 : Try.f42.body = some c42 := by kernel_rfl
theorem md_43 : Cf.md 43 = .imp := rfl
noncomputable def c43 : Code := Try.f43.body.getD .skip
theorem body43 : Try.f43.body = some c43 := by kernel_rfl
theorem md_44 : Cf.md 44 = .pure := rfl
noncomputable def c44 : Code := Try.f44.body.getD .skip
theorem body44 : Try.f44.body = some c44 := by kernel_rfl
theorem md_45 : Cf.md 45 = .imp := rfl
noncomputable def c45 : Code := Try.f45.body.getD .skip
theorem body45 : Try.f45.body = some c45 := by kernel_rfl
theorem md_46 : Cf.md 46 = .pure := rfl
noncomputable def c46 : Code := Try.f46.body.getD .skip
theorem body46 : Try.f46.body = some c46 := by kernel_rfl
theorem md_48 : Cf.md 48 = .imp := rfl
noncomputable def c48 : Code := Try.f48.body.getD .skip
theorem body48 : Try.f48.body = some c48 := by kernel_rfl
theorem md_49 : Cf.md 49 = .pure := rfl
noncomputable def c49 : Code := Try.f49.body.getD .skip
theorem body49 : Try.f49.body = some c49 := by kernel_rfl
theorem md_50 : Cf.md 50 = .pure := rfl
noncomputable def c50 : Code := Try.f50.body.getD .skip
theorem body50 : Try.f50.body = some c50 := by kernel_rfl
theorem md_51 : Cf.md 51 = .pure := rfl
noncomputable def c51 : Code := Try.f51.body.getD .skip
theorem body51 : Try.f51.body = some c51 := by kernel_rfl
theorem md_52 : Cf.md 52 = .pure := rfl
noncomputable def c52 : Code := Try.f52.body.getD .skip
theorem body52 : Try.f52.body = some c52 := by kernel_rfl
theorem md_53 : Cf.md 53 = .pure := rfl
noncomputable def c53 : Code := Try.f53.body.getD .skip
theorem body53 : Try.f53.body = some c53 := by kernel_rfl
theorem md_54 : Cf.md 54 = .pure := rfl
noncomputable def c54 : Code := Try.f54.body.getD .skip
theorem body54 : Try.f54.body = some c54 := by kernel_rfl
theorem md_55 : Cf.md 55 = .pure := rfl
noncomputable def c55 : Code := Try.f55.body.getD .skip
theorem body55 : Try.f55.body = some c55 := by kernel_rfl
theorem md_56 : Cf.md 56 = .pure := rfl
noncomputable def c56 : Code := Try.f56.body.getD .skip
theorem body56 : Try.f56.body = some c56 := by kernel_rfl
theorem md_57 : Cf.md 57 = .imp := rfl
noncomputable def c57 : Code := Try.f57.body.getD .skip
theorem body57 : Try.f57.body = some c57 := by kernel_rfl
theorem md_58 : Cf.md 58 = .imp := rfl
noncomputable def c58 : Code := Try.f58.body.getD .skip
theorem body58 : Try.f58.body = some c58 := by kernel_rfl
theorem md_59 : Cf.md 59 = .imp := rfl
noncomputable def c59 : Code := Try.f59.body.getD .skip
theorem body59 : Try.f59.body = some c59 := by kernel_rfl
theorem md_61 : Cf.md 61 = .pure := rfl
noncomputable def c61 : Code := Try.f61.body.getD .skip
theorem body61 : Try.f61.body = some c61 := by kernel_rfl
theorem md_62 : Cf.md 62 = .pure := rfl
noncomputable def c62 : Code := Try.f62.body.getD .skip
theorem body62 : Try.f62.body = some c62 := by kernel_rfl
def pl_4_19 : Pl := (.r 0 (.r 2 (.r 3 (.o 1 [3] (.o 4 [] (.r 5 .done) .stop) .stop))))
def pl_4_24 : Pl := (.r 0 (.r 1 (.r 3 (.r 4 (.o 2 [3] (.o 5 [] (.o 6 [] (.r 7 .done) .stop) .stop) .stop)))))
def pl_10_5 : Pl := (.r 0 (.r 1 (.r 2 (.r 3 (.r 4 (.r 5 (.r 6 (.r 7 (.r 8 (.r 10 (.r 11 (.r 12 (.r 13 (.o 9 [13, 3] (.o 14 [3] (.r 15 (.o 16 [3] (.o 17 [] .done .stop) .stop)) .stop) .stop))))))))))))))
def pl_11_13 : Pl := (.r 0 (.r 1 (.r 2 (.r 3 (.r 4 (.r 6 (.o 5 [6, 0] (.o 7 [0] (.o 8 [] (.r 9 .done) .stop) .stop) .stop)))))))
def pl_12_1 : Pl := (.r 0 (.r 2 (.r 3 (.o 1 [3] (.o 4 [] (.r 5 .done) .stop) .stop))))
def pl_12_6 : Pl := (.r 0 (.r 1 (.r 3 (.r 4 (.r 5 (.r 6 (.r 7 (.r 8 (.o 2 [8, 6, 4] (.r 9 (.r 10 (.r 11 (.r 12 (.r 14 (.r 15 (.o 13 [14] (.o 16 [] (.o 17 [] (.r 18 (.r 19 .done)) .stop) .stop) .stop))))))) .stop)))))))))
def pl_13_19 : Pl := (.r 0 (.r 1 (.r 2 (.r 3 (.r 4 (.r 5 (.r 6 (.r 7 (.r 8 (.r 9 (.r 10 (.r 11 (.r 12 (.r 13 (.r 14 (.r 15 (.r 16 (.o 17 [4] (.o 18 [] (.r 19 (.r 20 (.o 21 [] .done .stop))) .stop) .stop))))))))))))))))))
def pl_13_28 : Pl := (.r 0 (.r 1 (.r 2 (.r 3 (.r 4 (.r 5 (.r 6 (.r 7 (.r 8 (.o 9 [4] (.o 10 [] (.r 11 (.r 12 (.o 13 [] .done .stop))) .stop) .stop))))))))))
def pl_13_30 : Pl := (.r 0 (.r 2 (.r 3 (.o 1 [3] (.o 4 [] (.r 5 .done) .stop) .stop))))
def pl_27_1 : Pl := (.r 0 (.r 1 (.r 2 (.r 3 (.r 4 (.o 5 [1] (.r 6 (.o 7 [] .done .stop)) .stop))))))
def pl_28_22 : Pl := (.r 0 (.r 1 (.o 2 [1] (.o 3 [] .done .stop) .stop)))
def pl_30_6 : Pl := (.r 0 (.r 1 (.r 2 (.r 3 (.r 4 (.r 5 (.r 6 (.r 7 (.r 8 (.r 9 (.o 10 [6, 5, 3] (.o 11 [] (.r 12 .done) .stop) .stop)))))))))))
def pl_37_9 : Pl := (.r 0 (.r 1 (.r 2 (.r 3 (.r 4 (.r 5 (.r 6 (.o 7 [1] (.o 8 [] (.r 9 (.o 10 [] .done .stop)) .stop) .stop))))))))
def pl_37_22 : Pl := (.r 0 (.r 1 (.r 2 (.r 3 (.r 4 (.r 5 (.r 6 (.o 7 [1] (.o 8 [] (.r 9 (.o 10 [] .done .stop)) .stop) .stop))))))))
def pl_38_12 : Pl := (.r 0 (.r 1 (.r 2 (.r 3 (.r 4 (.r 5 (.r 7 (.r 8 (.r 9 (.r 10 (.o 6 [10, 9] (.o 11 [4, 3, 0] (.r 12 (.o 13 [10, 9] (.o 14 [] .done .stop) .stop)) (.o 13 [10, 9] (.o 11 [4, 3, 0] (.r 12 (.o 14 [] .done .stop)) .stop) .stop)) (.o 11 [4, 3, 0] (.r 12 (.o 6 [10, 9] (.o 13 [10, 9] (.o 14 [] .done .stop) .stop) .stop)) .stop))))))))))))
theorem tsh_3 : tsh Try.prog 3 = some 0 := by decide +kernel
theorem tzero_3 : tzero Try.prog 3 = some (.p (.int .i64 0)) := by kernel_rfl
theorem telem_3 : telem Try.prog 3 = none := by decide +kernel
theorem lenK_3 : lenKind Try.prog 3 = (0, 0) := by decide +kernel
theorem nilK_3 : nilK Try.prog 3 = 0 := by decide +kernel
theorem srcT_3 : isSrcT Try.prog 3 = false := by decide +kernel
theorem byt_3 : Program.bytesOf Try.prog 3 = 8 := by decide +kernel
theorem und_3 : Program.underlying Try.prog 3 = some (.int .i64) := by kernel_rfl
theorem tsh_4 : tsh Try.prog 4 = some 0 := by decide +kernel
theorem tzero_4 : tzero Try.prog 4 = some (.p (.bool false)) := by kernel_rfl
theorem telem_4 : telem Try.prog 4 = none := by decide +kernel
theorem lenK_4 : lenKind Try.prog 4 = (0, 0) := by decide +kernel
theorem nilK_4 : nilK Try.prog 4 = 5 := by decide +kernel
theorem srcT_4 : isSrcT Try.prog 4 = false := by decide +kernel
theorem byt_4 : Program.bytesOf Try.prog 4 = 1 := by decide +kernel
theorem und_4 : Program.underlying Try.prog 4 = some .bool := by kernel_rfl
theorem tsh_5 : tsh Try.prog 5 = some 0 := by decide +kernel
theorem tzero_5 : tzero Try.prog 5 = some (.p (.int .u8 0)) := by kernel_rfl
theorem telem_5 : telem Try.prog 5 = none := by decide +kernel
theorem lenK_5 : lenKind Try.prog 5 = (0, 0) := by decide +kernel
theorem nilK_5 : nilK Try.prog 5 = 0 := by decide +kernel
theorem srcT_5 : isSrcT Try.prog 5 = false := by decide +kernel
theorem byt_5 : Program.bytesOf Try.prog 5 = 1 := by decide +kernel
theorem und_5 : Program.underlying Try.prog 5 = some (.int .u8) := by kernel_rfl
theorem tsh_9 : tsh Try.prog 9 = some 0 := by decide +kernel
theorem tzero_9 : tzero Try.prog 9 = some (.p (.str [])) := by kernel_rfl
theorem telem_9 : telem Try.prog 9 = none := by decide +kernel
theorem lenK_9 : lenKind Try.prog 9 = (2, 0) := by decide +kernel
theorem nilK_9 : nilK Try.prog 9 = 0 := by decide +kernel
theorem srcT_9 : isSrcT Try.prog 9 = true := by decide +kernel
theorem byt_9 : Program.bytesOf Try.prog 9 = 16 := by decide +kernel
theorem und_9 : Program.underlying Try.prog 9 = some .string := by kernel_rfl
theorem tsh_22 : tsh Try.prog 22 = some 0 := by decide +kernel
theorem tzero_22 : tzero Try.prog 22 = some (.nsl) := by kernel_rfl
theorem telem_22 : telem Try.prog 22 = some (41, 12) := by decide +kernel
theorem lenK_22 : lenKind Try.prog 22 = (3, 0) := by decide +kernel
theorem nilK_22 : nilK Try.prog 22 = 4 := by decide +kernel
theorem srcT_22 : isSrcT Try.prog 22 = true := by decide +kernel
theorem byt_22 : Program.bytesOf Try.prog 22 = 24 := by decide +kernel
theorem und_22 : Program.underlying Try.prog 22 = some (.slice 41) := by kernel_rfl
theorem tsh_25 : tsh Try.prog 25 = some 0 := by decide +kernel
theorem tzero_25 : tzero Try.prog 25 = some (.p (.nptr)) := by kernel_rfl
theorem telem_25 : telem Try.prog 25 = none := by decide +kernel
theorem lenK_25 : lenKind Try.prog 25 = (0, 0) := by decide +kernel
theorem nilK_25 : nilK Try.prog 25 = 1 := by decide +kernel
theorem srcT_25 : isSrcT Try.prog 25 = false := by decide +kernel
theorem byt_25 : Program.bytesOf Try.prog 25 = 8 := by decide +kernel
theorem tsh_27 : tsh Try.prog 27 = some 0 := by decide +kernel
theorem tzero_27 : tzero Try.prog 27 = some (.nsl) := by kernel_rfl
theorem telem_27 : telem Try.prog 27 = some (63, 6) := by decide +kernel
theorem lenK_27 : lenKind Try.prog 27 = (3, 0) := by decide +kernel
theorem nilK_27 : nilK Try.prog 27 = 4 := by decide +kernel
theorem srcT_27 : isSrcT Try.prog 27 = true := by decide +kernel
theorem byt_27 : Program.bytesOf Try.prog 27 = 24 := by decide +kernel
theorem und_27 : Program.underlying Try.prog 27 = some (.slice 63) := by kernel_rfl
theorem tsh_28 : tsh Try.prog 28 = some 0 := by decide +kernel
theorem tzero_28 : tzero Try.prog 28 = some (.nsl) := by kernel_rfl
theorem telem_28 : telem Try.prog 28 = some (81, 3) := by decide +kernel
theorem lenK_28 : lenKind Try.prog 28 = (3, 0) := by decide +kernel
theorem nilK_28 : nilK Try.prog 28 = 4 := by decide +kernel
theorem srcT_28 : isSrcT Try.prog 28 = true := by decide +kernel
theorem byt_28 : Program.bytesOf Try.prog 28 = 24 := by decide +kernel
theorem und_28 : Program.underlying Try.prog 28 = some (.slice 81) := by kernel_rfl
theorem tsh_30 : tsh Try.prog 30 = some 2 := by decide +kernel
theorem tzero_30 : tzero Try.prog 30 = some (.agg [.nsl, .nsl]) := by kernel_rfl
theorem telem_30 : telem Try.prog 30 = none := by decide +kernel
theorem lenK_30 : lenKind Try.prog 30 = (0, 0) := by decide +kernel
theorem nilK_30 : nilK Try.prog 30 = 0 := by decide +kernel
theorem srcT_30 : isSrcT Try.prog 30 = false := by decide +kernel
theorem byt_30 : Program.bytesOf Try.prog 30 = 48 := by decide +kernel
theorem tpl_30 : tplaces Try.prog 30 = some (.inl [(0, 1), (1, 1)]) := by kernel_rfl
theorem tf_30_0 : tfield Try.prog 30 0 = some (0, 0) := by decide +kernel
theorem tf_30_1 : tfield Try.prog 30 1 = some (1, 0) := by decide +kernel
theorem tsh_34 : tsh Try.prog 34 = some 0 := by decide +kernel
theorem tzero_34 : tzero Try.prog 34 = some (.p (.int .u64 0)) := by kernel_rfl
theorem telem_34 : telem Try.prog 34 = none := by decide +kernel
theorem lenK_34 : lenKind Try.prog 34 = (0, 0) := by decide +kernel
theorem nilK_34 : nilK Try.prog 34 = 0 := by decide +kernel
theorem srcT_34 : isSrcT Try.prog 34 = false := by decide +kernel
theorem byt_34 : Program.bytesOf Try.prog 34 = 8 := by decide +kernel
theorem und_34 : Program.underlying Try.prog 34 = some (.int .u64) := by kernel_rfl
theorem tsh_35 : tsh Try.prog 35 = some 0 := by decide +kernel
theorem tzero_35 : tzero Try.prog 35 = some (.p (.int .u32 0)) := by kernel_rfl
theorem telem_35 : telem Try.prog 35 = none := by decide +kernel
theorem lenK_35 : lenKind Try.prog 35 = (0, 0) := by decide +kernel
theorem nilK_35 : nilK Try.prog 35 = 0 := by decide +kernel
theorem srcT_35 : isSrcT Try.prog 35 = false := by decide +kernel
theorem byt_35 : Program.bytesOf Try.prog 35 = 4 := by decide +kernel
theorem und_35 : Program.underlying Try.prog 35 = some (.int .u32) := by kernel_rfl
theorem tsh_37 : tsh Try.prog 37 = some 4 := by decide +kernel
theorem tzero_37 : tzero Try.prog 37 = some (.p (.agg [.int .u32 0, .int .u32 0, .int .u32 0, .int .u32 0])) := by kernel_rfl
theorem telem_37 : telem Try.prog 37 = none := by decide +kernel
theorem lenK_37 : lenKind Try.prog 37 = (0, 0) := by decide +kernel
theorem nilK_37 : nilK Try.prog 37 = 0 := by decide +kernel
theorem srcT_37 : isSrcT Try.prog 37 = false := by decide +kernel
theorem byt_37 : Program.bytesOf Try.prog 37 = 16 := by decide +kernel
theorem eqKs_37 : eqKs Try.prog 37 = some [2, 2, 2, 2] := by decide +kernel
theorem tpl_37 : tplaces Try.prog 37 = some (.inl [(0, 1), (1, 1), (2, 1), (3, 1)]) := by kernel_rfl
theorem tf_37_0 : tfield Try.prog 37 0 = some (0, 0) := by decide +kernel
theorem tf_37_1 : tfield Try.prog 37 1 = some (1, 0) := by decide +kernel
theorem tf_37_2 : tfield Try.prog 37 2 = some (2, 0) := by decide +kernel
theorem tf_37_3 : tfield Try.prog 37 3 = some (3, 0) := by decide +kernel
theorem tsh_39 : tsh Try.prog 39 = some 10 := by decide +kernel
theorem tzero_39 : tzero Try.prog 39 = some (.p (.agg [.int .i64 0, .int .u64 0, .int .u32 0, .int .u32 0, .str [], .int .u32 0, .int .u32 0, .int .u32 0, .int .u32 0, .int .i64 0])) := by kernel_rfl
theorem telem_39 : telem Try.prog 39 = none := by decide +kernel
theorem lenK_39 : lenKind Try.prog 39 = (0, 0) := by decide +kernel
theorem nilK_39 : nilK Try.prog 39 = 0 := by decide +kernel
theorem srcT_39 : isSrcT Try.prog 39 = false := by decide +kernel
theorem byt_39 : Program.bytesOf Try.prog 39 = 64 := by decide +kernel
theorem eqKs_39 : eqKs Try.prog 39 = some [2, 2, 2, 2, 3, 2, 2, 2, 2, 2] := by decide +kernel
theorem tpl_39 : tplaces Try.prog 39 = some (.inl [(0, 1), (1, 1), (2, 1), (3, 1), (4, 1), (5, 4), (9, 1)]) := by kernel_rfl
theorem tf_39_0 : tfield Try.prog 39 0 = some (0, 0) := by decide +kernel
theorem tf_39_1 : tfield Try.prog 39 1 = some (1, 0) := by decide +kernel
theorem tf_39_2 : tfield Try.prog 39 2 = some (2, 0) := by decide +kernel
theorem tf_39_3 : tfield Try.prog 39 3 = some (3, 0) := by decide +kernel
theorem tf_39_4 : tfield Try.prog 39 4 = some (4, 0) := by decide +kernel
theorem tf_39_5 : tfield Try.prog 39 5 = some (5, 4) := by decide +kernel
theorem tf_39_6 : tfield Try.prog 39 6 = some (9, 0) := by decide +kernel
theorem tsh_41 : tsh Try.prog 41 = some 12 := by decide +kernel
theorem tzero_41 : tzero Try.prog 41 = some (.p (.agg [.int .i64 0, .int .u8 0, .int .i64 0, .int .u64 0, .int .u32 0, .int .u32 0, .str [], .int .u32 0, .int .u32 0, .int .u32 0, .int .u32 0, .int .i64 0])) := by kernel_rfl
theorem telem_41 : telem Try.prog 41 = none := by decide +kernel
theorem lenK_41 : lenKind Try.prog 41 = (0, 0) := by decide +kernel
theorem nilK_41 : nilK Try.prog 41 = 0 := by decide +kernel
theorem srcT_41 : isSrcT Try.prog 41 = false := by decide +kernel
theorem byt_41 : Program.bytesOf Try.prog 41 = 80 := by decide +kernel
theorem eqKs_41 : eqKs Try.prog 41 = some [2, 2, 2, 2, 2, 2, 3, 2, 2, 2, 2, 2] := by decide +kernel
theorem tpl_41 : tplaces Try.prog 41 = some (.inl [(0, 1), (1, 1), (2, 10)]) := by kernel_rfl
theorem tf_41_0 : tfield Try.prog 41 0 = some (0, 0) := by decide +kernel
theorem tf_41_1 : tfield Try.prog 41 1 = some (1, 0) := by decide +kernel
theorem tf_41_2 : tfield Try.prog 41 2 = some (2, 10) := by decide +kernel
theorem tsh_44 : tsh Try.prog 44 = some 0 := by decide +kernel
theorem tzero_44 : tzero Try.prog 44 = some (.nsl) := by kernel_rfl
theorem telem_44 : telem Try.prog 44 = some (39, 10) := by decide +kernel
theorem lenK_44 : lenKind Try.prog 44 = (3, 0) := by decide +kernel
theorem nilK_44 : nilK Try.prog 44 = 4 := by decide +kernel
theorem srcT_44 : isSrcT Try.prog 44 = true := by decide +kernel
theorem byt_44 : Program.bytesOf Try.prog 44 = 24 := by decide +kernel
theorem und_44 : Program.underlying Try.prog 44 = some (.slice 39) := by kernel_rfl
theorem tsh_45 : tsh Try.prog 45 = some 0 := by decide +kernel
theorem tzero_45 : tzero Try.prog 45 = some (.p (.int .i64 0)) := by kernel_rfl
theorem telem_45 : telem Try.prog 45 = none := by decide +kernel
theorem lenK_45 : lenKind Try.prog 45 = (0, 0) := by decide +kernel
theorem nilK_45 : nilK Try.prog 45 = 0 := by decide +kernel
theorem srcT_45 : isSrcT Try.prog 45 = false := by decide +kernel
theorem byt_45 : Program.bytesOf Try.prog 45 = 8 := by decide +kernel
theorem und_45 : Program.underlying Try.prog 45 = some (.int .i64) := by kernel_rfl
theorem tsh_47 : tsh Try.prog 47 = some 3 := by decide +kernel
theorem tzero_47 : tzero Try.prog 47 = some (.agg [.p (.int .i64 0), .nsl, .p (.int .i64 0)]) := by kernel_rfl
theorem telem_47 : telem Try.prog 47 = none := by decide +kernel
theorem lenK_47 : lenKind Try.prog 47 = (0, 0) := by decide +kernel
theorem nilK_47 : nilK Try.prog 47 = 0 := by decide +kernel
theorem srcT_47 : isSrcT Try.prog 47 = false := by decide +kernel
theorem byt_47 : Program.bytesOf Try.prog 47 = 40 := by decide +kernel
theorem tpl_47 : tplaces Try.prog 47 = some (.inl [(0, 1), (1, 1), (2, 1)]) := by kernel_rfl
theorem tf_47_0 : tfield Try.prog 47 0 = some (0, 0) := by decide +kernel
theorem tf_47_1 : tfield Try.prog 47 1 = some (1, 0) := by decide +kernel
theorem tf_47_2 : tfield Try.prog 47 2 = some (2, 0) := by decide +kernel
theorem tsh_57 : tsh Try.prog 57 = some 0 := by decide +kernel
theorem tzero_57 : tzero Try.prog 57 = some (.p (.nmap)) := by kernel_rfl
theorem telem_57 : telem Try.prog 57 = none := by decide +kernel
theorem lenK_57 : lenKind Try.prog 57 = (4, 0) := by decide +kernel
theorem nilK_57 : nilK Try.prog 57 = 3 := by decide +kernel
theorem srcT_57 : isSrcT Try.prog 57 = false := by decide +kernel
theorem byt_57 : Program.bytesOf Try.prog 57 = 8 := by decide +kernel
theorem tmap_57 : tmap Try.prog 57 = some (34, 63, .plain 2) := by kernel_rfl
theorem tsh_58 : tsh Try.prog 58 = some 0 := by decide +kernel
theorem tzero_58 : tzero Try.prog 58 = some (.p (.nmap)) := by kernel_rfl
theorem telem_58 : telem Try.prog 58 = none := by decide +kernel
theorem lenK_58 : lenKind Try.prog 58 = (4, 0) := by decide +kernel
theorem nilK_58 : nilK Try.prog 58 = 3 := by decide +kernel
theorem srcT_58 : isSrcT Try.prog 58 = false := by decide +kernel
theorem byt_58 : Program.bytesOf Try.prog 58 = 8 := by decide +kernel
theorem tmap_58 : tmap Try.prog 58 = some (3, 64, .plain 2) := by kernel_rfl
theorem tsh_60 : tsh Try.prog 60 = some 2 := by decide +kernel
theorem tzero_60 : tzero Try.prog 60 = some (.p (.agg [.nmap, .nmap])) := by kernel_rfl
theorem telem_60 : telem Try.prog 60 = none := by decide +kernel
theorem lenK_60 : lenKind Try.prog 60 = (0, 0) := by decide +kernel
theorem nilK_60 : nilK Try.prog 60 = 0 := by decide +kernel
theorem srcT_60 : isSrcT Try.prog 60 = false := by decide +kernel
theorem byt_60 : Program.bytesOf Try.prog 60 = 16 := by decide +kernel
theorem tpl_60 : tplaces Try.prog 60 = some (.inl [(0, 1), (1, 1)]) := by kernel_rfl
theorem tf_60_0 : tfield Try.prog 60 0 = some (0, 0) := by decide +kernel
theorem tf_60_1 : tfield Try.prog 60 1 = some (1, 0) := by decide +kernel
theorem tsh_63 : tsh Try.prog 63 = some 6 := by decide +kernel
theorem tzero_63 : tzero Try.prog 63 = some (.p (.agg [.int .u64 0, .int .u64 0, .int .u32 0, .int .u32 0, .str [], .bool false])) := by kernel_rfl
theorem telem_63 : telem Try.prog 63 = none := by decide +kernel
theorem lenK_63 : lenKind Try.prog 63 = (0, 0) := by decide +kernel
theorem nilK_63 : nilK Try.prog 63 = 0 := by decide +kernel
theorem srcT_63 : isSrcT Try.prog 63 = false := by decide +kernel
theorem byt_63 : Program.bytesOf Try.prog 63 = 48 := by decide +kernel
theorem eqKs_63 : eqKs Try.prog 63 = some [2, 2, 2, 2, 3, 1] := by decide +kernel
theorem tpl_63 : tplaces Try.prog 63 = some (.inl [(0, 1), (1, 1), (2, 1), (3, 1), (4, 1), (5, 1)]) := by kernel_rfl
theorem tf_63_0 : tfield Try.prog 63 0 = some (0, 0) := by decide +kernel
theorem tf_63_1 : tfield Try.prog 63 1 = some (1, 0) := by decide +kernel
theorem tf_63_2 : tfield Try.prog 63 2 = some (2, 0) := by decide +kernel
theorem tf_63_3 : tfield Try.prog 63 3 = some (3, 0) := by decide +kernel
theorem tf_63_4 : tfield Try.prog 63 4 = some (4, 0) := by decide +kernel
theorem tf_63_5 : tfield Try.prog 63 5 = some (5, 0) := by decide +kernel
theorem tsh_64 : tsh Try.prog 64 = some 0 := by decide +kernel
theorem tzero_64 : tzero Try.prog 64 = some (.p (.nptr)) := by kernel_rfl
theorem telem_64 : telem Try.prog 64 = none := by decide +kernel
theorem lenK_64 : lenKind Try.prog 64 = (0, 0) := by decide +kernel
theorem nilK_64 : nilK Try.prog 64 = 1 := by decide +kernel
theorem srcT_64 : isSrcT Try.prog 64 = false := by decide +kernel
theorem byt_64 : Program.bytesOf Try.prog 64 = 8 := by decide +kernel
theorem tsh_65 : tsh Try.prog 65 = some 0 := by decide +kernel
theorem tzero_65 : tzero Try.prog 65 = some (.nsl) := by kernel_rfl
theorem telem_65 : telem Try.prog 65 = some (68, 8) := by decide +kernel
theorem lenK_65 : lenKind Try.prog 65 = (3, 0) := by decide +kernel
theorem nilK_65 : nilK Try.prog 65 = 4 := by decide +kernel
theorem srcT_65 : isSrcT Try.prog 65 = true := by decide +kernel
theorem byt_65 : Program.bytesOf Try.prog 65 = 24 := by decide +kernel
theorem und_65 : Program.underlying Try.prog 65 = some (.slice 68) := by kernel_rfl
theorem tsh_68 : tsh Try.prog 68 = some 8 := by decide +kernel
theorem tzero_68 : tzero Try.prog 68 = some (.p (.agg [.int .u64 0, .int .u64 0, .int .u64 0, .int .u32 0, .int .u32 0, .str [], .bool false, .bool false])) := by kernel_rfl
theorem telem_68 : telem Try.prog 68 = none := by decide +kernel
theorem lenK_68 : lenKind Try.prog 68 = (0, 0) := by decide +kernel
theorem nilK_68 : nilK Try.prog 68 = 0 := by decide +kernel
theorem srcT_68 : isSrcT Try.prog 68 = false := by decide +kernel
theorem byt_68 : Program.bytesOf Try.prog 68 = 64 := by decide +kernel
theorem eqKs_68 : eqKs Try.prog 68 = some [2, 2, 2, 2, 2, 3, 1, 1] := by decide +kernel
theorem tpl_68 : tplaces Try.prog 68 = some (.inl [(0, 1), (1, 6), (7, 1)]) := by kernel_rfl
theorem tf_68_0 : tfield Try.prog 68 0 = some (0, 0) := by decide +kernel
theorem tf_68_1 : tfield Try.prog 68 1 = some (1, 6) := by decide +kernel
theorem tf_68_2 : tfield Try.prog 68 2 = some (7, 0) := by decide +kernel
theorem tsh_69 : tsh Try.prog 69 = some 0 := by decide +kernel
theorem tzero_69 : tzero Try.prog 69 = some (.p (.nmap)) := by kernel_rfl
theorem telem_69 : telem Try.prog 69 = none := by decide +kernel
theorem lenK_69 : lenKind Try.prog 69 = (4, 0) := by decide +kernel
theorem nilK_69 : nilK Try.prog 69 = 3 := by decide +kernel
theorem srcT_69 : isSrcT Try.prog 69 = false := by decide +kernel
theorem byt_69 : Program.bytesOf Try.prog 69 = 8 := by decide +kernel
theorem tmap_69 : tmap Try.prog 69 = some (3, 3, .plain 2) := by kernel_rfl
theorem tsh_71 : tsh Try.prog 71 = some 2 := by decide +kernel
theorem tzero_71 : tzero Try.prog 71 = some (.agg [.nsl, .p (.nmap)]) := by kernel_rfl
theorem telem_71 : telem Try.prog 71 = none := by decide +kernel
theorem lenK_71 : lenKind Try.prog 71 = (0, 0) := by decide +kernel
theorem nilK_71 : nilK Try.prog 71 = 0 := by decide +kernel
theorem srcT_71 : isSrcT Try.prog 71 = false := by decide +kernel
theorem byt_71 : Program.bytesOf Try.prog 71 = 32 := by decide +kernel
theorem tpl_71 : tplaces Try.prog 71 = some (.inl [(0, 1), (1, 1)]) := by kernel_rfl
theorem tf_71_0 : tfield Try.prog 71 0 = some (0, 0) := by decide +kernel
theorem tf_71_1 : tfield Try.prog 71 1 = some (1, 0) := by decide +kernel
theorem tsh_78 : tsh Try.prog 78 = some 0 := by decide +kernel
theorem tzero_78 : tzero Try.prog 78 = some (.nsl) := by kernel_rfl
theorem telem_78 : telem Try.prog 78 = some (109, 7) := by decide +kernel
theorem lenK_78 : lenKind Try.prog 78 = (3, 0) := by decide +kernel
theorem nilK_78 : nilK Try.prog 78 = 4 := by decide +kernel
theorem srcT_78 : isSrcT Try.prog 78 = true := by decide +kernel
theorem byt_78 : Program.bytesOf Try.prog 78 = 24 := by decide +kernel
theorem und_78 : Program.underlying Try.prog 78 = some (.slice 109) := by kernel_rfl
theorem tsh_79 : tsh Try.prog 79 = some 0 := by decide +kernel
theorem tzero_79 : tzero Try.prog 79 = some (.nsl) := by kernel_rfl
theorem telem_79 : telem Try.prog 79 = some (113, 2) := by decide +kernel
theorem lenK_79 : lenKind Try.prog 79 = (3, 0) := by decide +kernel
theorem nilK_79 : nilK Try.prog 79 = 4 := by decide +kernel
theorem srcT_79 : isSrcT Try.prog 79 = true := by decide +kernel
theorem byt_79 : Program.bytesOf Try.prog 79 = 24 := by decide +kernel
theorem und_79 : Program.underlying Try.prog 79 = some (.slice 113) := by kernel_rfl
theorem tsh_81 : tsh Try.prog 81 = some 3 := by decide +kernel
theorem tzero_81 : tzero Try.prog 81 = some (.agg [.p (.bool false), .nsl, .nsl]) := by kernel_rfl
theorem telem_81 : telem Try.prog 81 = none := by decide +kernel
theorem lenK_81 : lenKind Try.prog 81 = (0, 0) := by decide +kernel
theorem nilK_81 : nilK Try.prog 81 = 0 := by decide +kernel
theorem srcT_81 : isSrcT Try.prog 81 = false := by decide +kernel
theorem byt_81 : Program.bytesOf Try.prog 81 = 56 := by decide +kernel
theorem tpl_81 : tplaces Try.prog 81 = some (.inl [(0, 1), (1, 1), (2, 1)]) := by kernel_rfl
theorem tf_81_0 : tfield Try.prog 81 0 = some (0, 0) := by decide +kernel
theorem tf_81_1 : tfield Try.prog 81 1 = some (1, 0) := by decide +kernel
theorem tf_81_2 : tfield Try.prog 81 2 = some (2, 0) := by decide +kernel
theorem tsh_97 : tsh Try.prog 97 = some 0 := by decide +kernel
theorem tzero_97 : tzero Try.prog 97 = some (.p (.nfn)) := by kernel_rfl
theorem telem_97 : telem Try.prog 97 = none := by decide +kernel
theorem lenK_97 : lenKind Try.prog 97 = (0, 0) := by decide +kernel
theorem nilK_97 : nilK Try.prog 97 = 2 := by decide +kernel
theorem srcT_97 : isSrcT Try.prog 97 = false := by decide +kernel
theorem byt_97 : Program.bytesOf Try.prog 97 = 8 := by decide +kernel
theorem tsh_100 : tsh Try.prog 100 = some 0 := by decide +kernel
theorem tzero_100 : tzero Try.prog 100 = some (.p (.nfn)) := by kernel_rfl
theorem telem_100 : telem Try.prog 100 = none := by decide +kernel
theorem lenK_100 : lenKind Try.prog 100 = (0, 0) := by decide +kernel
theorem nilK_100 : nilK Try.prog 100 = 2 := by decide +kernel
theorem srcT_100 : isSrcT Try.prog 100 = false := by decide +kernel
theorem byt_100 : Program.bytesOf Try.prog 100 = 8 := by decide +kernel
theorem tsh_103 : tsh Try.prog 103 = some 0 := by decide +kernel
theorem tzero_103 : tzero Try.prog 103 = some (.p (.nfn)) := by kernel_rfl
theorem telem_103 : telem Try.prog 103 = none := by decide +kernel
theorem lenK_103 : lenKind Try.prog 103 = (0, 0) := by decide +kernel
theorem nilK_103 : nilK Try.prog 103 = 2 := by decide +kernel
theorem srcT_103 : isSrcT Try.prog 103 = false := by decide +kernel
theorem byt_103 : Program.bytesOf Try.prog 103 = 8 := by decide +kernel
theorem tsh_107 : tsh Try.prog 107 = some 0 := by decide +kernel
theorem tzero_107 : tzero Try.prog 107 = some (.p (.nfn)) := by kernel_rfl
theorem telem_107 : telem Try.prog 107 = none := by decide +kernel
theorem lenK_107 : lenKind Try.prog 107 = (0, 0) := by decide +kernel
theorem nilK_107 : nilK Try.prog 107 = 2 := by decide +kernel
theorem srcT_107 : isSrcT Try.prog 107 = false := by decide +kernel
theorem byt_107 : Program.bytesOf Try.prog 107 = 8 := by decide +kernel
theorem tsh_109 : tsh Try.prog 109 = some 7 := by decide +kernel
theorem tzero_109 : tzero Try.prog 109 = some (.p (.agg [.bool false, .int .u64 0, .int .u64 0, .int .u32 0, .int .u32 0, .str [], .bool false])) := by kernel_rfl
theorem telem_109 : telem Try.prog 109 = none := by decide +kernel
theorem lenK_109 : lenKind Try.prog 109 = (0, 0) := by decide +kernel
theorem nilK_109 : nilK Try.prog 109 = 0 := by decide +kernel
theorem srcT_109 : isSrcT Try.prog 109 = false := by decide +kernel
theorem byt_109 : Program.bytesOf Try.prog 109 = 56 := by decide +kernel
theorem eqKs_109 : eqKs Try.prog 109 = some [1, 2, 2, 2, 2, 3, 1] := by decide +kernel
theorem tpl_109 : tplaces Try.prog 109 = some (.inl [(0, 1), (1, 6)]) := by kernel_rfl
theorem tf_109_0 : tfield Try.prog 109 0 = some (0, 0) := by decide +kernel
theorem tf_109_1 : tfield Try.prog 109 1 = some (1, 6) := by decide +kernel
theorem tsh_113 : tsh Try.prog 113 = some 2 := by decide +kernel
theorem tzero_113 : tzero Try.prog 113 = some (.p (.agg [.int .i64 0, .int .i64 0])) := by kernel_rfl
theorem telem_113 : telem Try.prog 113 = none := by decide +kernel
theorem lenK_113 : lenKind Try.prog 113 = (0, 0) := by decide +kernel
theorem nilK_113 : nilK Try.prog 113 = 0 := by decide +kernel
theorem srcT_113 : isSrcT Try.prog 113 = false := by decide +kernel
theorem byt_113 : Program.bytesOf Try.prog 113 = 16 := by decide +kernel
theorem eqKs_113 : eqKs Try.prog 113 = some [2, 2] := by decide +kernel
theorem tpl_113 : tplaces Try.prog 113 = some (.inl [(0, 1), (1, 1)]) := by kernel_rfl
theorem tf_113_0 : tfield Try.prog 113 0 = some (0, 0) := by decide +kernel
theorem tf_113_1 : tfield Try.prog 113 1 = some (1, 0) := by decide +kernel
theorem tsh_122 : tsh Try.prog 122 = some 0 := by decide +kernel
theorem tzero_122 : tzero Try.prog 122 = some (.p (.int .u64 0)) := by kernel_rfl
theorem telem_122 : telem Try.prog 122 = none := by decide +kernel
theorem lenK_122 : lenKind Try.prog 122 = (0, 0) := by decide +kernel
theorem nilK_122 : nilK Try.prog 122 = 0 := by decide +kernel
theorem srcT_122 : isSrcT Try.prog 122 = false := by decide +kernel
theorem byt_122 : Program.bytesOf Try.prog 122 = 8 := by decide +kernel
theorem und_122 : Program.underlying Try.prog 122 = some (.int .u64) := by kernel_rfl
theorem cv_3_122 : cvKind Try.prog 3 122 = .plain := by kernel_rfl
theorem cv_5_3 : cvKind Try.prog 5 3 = .plain := by kernel_rfl
theorem cv_122_35 : cvKind Try.prog 122 35 = .plain := by kernel_rfl
def wkF := (And.intro (And.intro (And.intro (And.intro (And.intro (And.intro (And.intro (And.intro tsh_3 tzero_3) (And.intro telem_3 (And.intro lenK_3 nilK_3))) (And.intro (And.intro srcT_3 byt_3) (And.intro und_3 (And.intro tsh_4 tzero_4)))) (And.intro (And.intro (And.intro telem_4 lenK_4) (And.intro nilK_4 (And.intro srcT_4 byt_4))) (And.intro (And.intro und_4 tsh_5) (And.intro tzero_5 (And.intro telem_5 lenK_5))))) (And.intro (And.intro (And.intro (And.intro nilK_5 srcT_5) (And.intro byt_5 (And.intro und_5 tsh_9))) (And.intro (And.intro tzero_9 telem_9) (And.intro lenK_9 (And.intro nilK_9 srcT_9)))) (And.intro (And.intro (And.intro byt_9 und_9) (And.intro tsh_22 (And.intro tzero_22 telem_22))) (And.intro (And.intro lenK_22 (And.intro nilK_22 srcT_22)) (And.intro byt_22 (And.intro und_22 tsh_25)))))) (And.intro (And.intro (And.intro (And.intro (And.intro tzero_25 telem_25) (And.intro lenK_25 (And.intro nilK_25 srcT_25))) (And.intro (And.intro byt_25 tsh_27) (And.intro tzero_27 (And.intro telem_27 lenK_27)))) (And.intro (And.intro (And.intro nilK_27 srcT_27) (And.intro byt_27 (And.intro und_27 tsh_28))) (And.intro (And.intro tzero_28 (And.intro telem_28 lenK_28)) (And.intro nilK_28 (And.intro srcT_28 byt_28))))) (And.intro (And.intro (And.intro (And.intro und_28 tsh_30) (And.intro tzero_30 (And.intro telem_30 lenK_30))) (And.intro (And.intro nilK_30 srcT_30) (And.intro byt_30 (And.intro tpl_30 tf_30_0)))) (And.intro (And.intro (And.intro tf_30_1 tsh_34) (And.intro tzero_34 (And.intro telem_34 lenK_34))) (And.intro (And.intro nilK_34 (And.intro srcT_34 byt_34)) (And.intro und_34 (And.intro tsh_35 tzero_35))))))) (And.intro (And.intro (And.intro (And.intro (And.intro (And.intro telem_35 lenK_35) (And.intro nilK_35 (And.intro srcT_35 byt_35))) (And.intro (And.intro und_35 tsh_37) (And.intro tzero_37 (And.intro telem_37 lenK_37)))) (And.intro (And.intro (And.intro nilK_37 srcT_37) (And.intro byt_37 (And.intro eqKs_37 tpl_37))) (And.intro (And.intro tf_37_0 tf_37_1) (And.intro tf_37_2 (And.intro tf_37_3 tsh_39))))) (And.intro (And.intro (And.intro (And.intro tzero_39 telem_39) (And.intro lenK_39 (And.intro nilK_39 srcT_39))) (And.intro (And.intro byt_39 eqKs_39) (And.intro tpl_39 (And.intro tf_39_0 tf_39_1)))) (And.intro (And.intro (And.intro tf_39_2 tf_39_3) (And.intro tf_39_4 (And.intro tf_39_5 tf_39_6))) (And.intro (And.intro tsh_41 (And.intro tzero_41 telem_41)) (And.intro lenK_41 (And.intro nilK_41 srcT_41)))))) (And.intro (And.intro (And.intro (And.intro (And.intro byt_41 eqKs_41) (And.intro tpl_41 (And.intro tf_41_0 tf_41_1))) (And.intro (And.intro tf_41_2 tsh_44) (And.intro tzero_44 (And.intro telem_44 lenK_44)))) (And.intro (And.intro (And.intro nilK_44 srcT_44) (And.intro byt_44 (And.intro und_44 tsh_45))) (And.intro (And.intro tzero_45 (And.intro telem_45 lenK_45)) (And.intro nilK_45 (And.intro srcT_45 byt_45))))) (And.intro (And.intro (And.intro (And.intro und_45 tsh_47) (And.intro tzero_47 (And.intro telem_47 lenK_47))) (And.intro (And.intro nilK_47 srcT_47) (And.intro byt_47 (And.intro tpl_47 tf_47_0)))) (And.intro (And.intro (And.intro tf_47_1 tf_47_2) (And.intro tsh_57 (And.intro tzero_57 telem_57))) (And.intro (And.intro lenK_57 (And.intro nilK_57 srcT_57)) (And.intro byt_57 (And.intro tmap_57 tsh_58)))))))) (And.intro (And.intro (And.intro (And.intro (And.intro (And.intro (And.intro tzero_58 telem_58) (And.intro lenK_58 (And.intro nilK_58 srcT_58))) (And.intro (And.intro byt_58 tmap_58) (And.intro tsh_60 (And.intro tzero_60 telem_60)))) (And.intro (And.intro (And.intro lenK_60 nilK_60) (And.intro srcT_60 (And.intro byt_60 tpl_60))) (And.intro (And.intro tf_60_0 tf_60_1) (And.intro tsh_63 (And.intro tzero_63 telem_63))))) (And.intro (And.intro (And.intro (And.intro lenK_63 nilK_63) (And.intro srcT_63 (And.intro byt_63 eqKs_63))) (And.intro (And.intro tpl_63 tf_63_0) (And.intro tf_63_1 (And.intro tf_63_2 tf_63_3)))) (And.intro (And.intro (And.intro tf_63_4 tf_63_5) (And.intro tsh_64 (And.intro tzero_64 telem_64))) (And.intro (And.intro lenK_64 (And.intro nilK_64 srcT_64)) (And.intro byt_64 (And.intro tsh_65 tzero_65)))))) (And.intro (And.intro (And.intro (And.intro (And.intro telem_65 lenK_65) (And.intro nilK_65 (And.intro srcT_65 byt_65))) (And.intro (And.intro und_65 tsh_68) (And.intro tzero_68 (And.intro telem_68 lenK_68)))) (And.intro (And.intro (And.intro nilK_68 srcT_68) (And.intro byt_68 (And.intro eqKs_68 tpl_68))) (And.intro (And.intro tf_68_0 (And.intro tf_68_1 tf_68_2)) (And.intro tsh_69 (And.intro tzero_69 telem_69))))) (And.intro (And.intro (And.intro (And.intro lenK_69 nilK_69) (And.intro srcT_69 (And.intro byt_69 tmap_69))) (And.intro (And.intro tsh_71 tzero_71) (And.intro telem_71 (And.intro lenK_71 nilK_71)))) (And.intro (And.intro (And.intro srcT_71 byt_71) (And.intro tpl_71 (And.intro tf_71_0 tf_71_1))) (And.intro (And.intro tsh_78 (And.intro tzero_78 telem_78)) (And.intro lenK_78 (And.intro nilK_78 srcT_78))))))) (And.intro (And.intro (And.intro (And.intro (And.intro (And.intro byt_78 und_78) (And.intro tsh_79 (And.intro tzero_79 telem_79))) (And.intro (And.intro lenK_79 nilK_79) (And.intro srcT_79 (And.intro byt_79 und_79)))) (And.intro (And.intro (And.intro tsh_81 tzero_81) (And.intro telem_81 (And.intro lenK_81 nilK_81))) (And.intro (And.intro srcT_81 byt_81) (And.intro tpl_81 (And.intro tf_81_0 tf_81_1))))) (And.intro (And.intro (And.intro (And.intro tf_81_2 tsh_97) (And.intro tzero_97 (And.intro telem_97 lenK_97))) (And.intro (And.intro nilK_97 srcT_97) (And.intro byt_97 (And.intro tsh_100 tzero_100)))) (And.intro (And.intro (And.intro telem_100 lenK_100) (And.intro nilK_100 (And.intro srcT_100 byt_100))) (And.intro (And.intro tsh_103 (And.intro tzero_103 telem_103)) (And.intro lenK_103 (And.intro nilK_103 srcT_103)))))) (And.intro (And.intro (And.intro (And.intro (And.intro byt_103 tsh_107) (And.intro tzero_107 (And.intro telem_107 lenK_107))) (And.intro (And.intro nilK_107 srcT_107) (And.intro byt_107 (And.intro tsh_109 tzero_109)))) (And.intro (And.intro (And.intro telem_109 lenK_109) (And.intro nilK_109 (And.intro srcT_109 byt_109))) (And.intro (And.intro eqKs_109 (And.intro tpl_109 tf_109_0)) (And.intro tf_109_1 (And.intro tsh_113 tzero_113))))) (And.intro (And.intro (And.intro (And.intro telem_113 lenK_113) (And.intro nilK_113 (And.intro srcT_113 byt_113))) (And.intro (And.intro eqKs_113 tpl_113) (And.intro tf_113_0 (And.intro tf_113_1 tsh_122)))) (And.intro (And.intro (And.intro tzero_122 telem_122) (And.intro lenK_122 (And.intro nilK_122 srcT_122))) (And.intro (And.intro byt_122 (And.intro und_122 cv_3_122)) (And.intro cv_5_3 (And.intro cv_122_35 CfP)))))))))
-- FACTS: tsh_3, tzero_3, telem_3, lenK_3, nilK_3, srcT_3, byt_3, und_3, tsh_4, tzero_4, telem_4, lenK_4, nilK_4, srcT_4, byt_4, und_4, tsh_5, tzero_5, telem_5, lenK_5, nilK_5, srcT_5, byt_5, und_5, tsh_9, tzero_9, telem_9, lenK_9, nilK_9, srcT_9, byt_9, und_9, tsh_22, tzero_22, telem_22, lenK_22, nilK_22, srcT_22, byt_22, und_22, tsh_25, tzero_25, telem_25, lenK_25, nilK_25, srcT_25, byt_25, tsh_27, tzero_27, telem_27, lenK_27, nilK_27, srcT_27, byt_27, und_27, tsh_28, tzero_28, telem_28, lenK_28, nilK_28, srcT_28, byt_28, und_28, tsh_30, tzero_30, telem_30, lenK_30, nilK_30, srcT_30, byt_30, tpl_30, tf_30_0, tf_30_1, tsh_34, tzero_34, telem_34, lenK_34, nilK_34, srcT_34, byt_34, und_34, tsh_35, tzero_35, telem_35, lenK_35, nilK_35, srcT_35, byt_35, und_35, tsh_37, tzero_37, telem_37, lenK_37, nilK_37, srcT_37, byt_37, eqKs_37, tpl_37, tf_37_0, tf_37_1, tf_37_2, tf_37_3, tsh_39, tzero_39, telem_39, lenK_39, nilK_39, srcT_39, byt_39, eqKs_39, tpl_39, tf_39_0, tf_39_1, tf_39_2, tf_39_3, tf_39_4, tf_39_5, tf_39_6, tsh_41, tzero_41, telem_41, lenK_41, nilK_41, srcT_41, byt_41, eqKs_41, tpl_41, tf_41_0, tf_41_1, tf_41_2, tsh_44, tzero_44, telem_44, lenK_44, nilK_44, srcT_44, byt_44, und_44, tsh_45, tzero_45, telem_45, lenK_45, nilK_45, srcT_45, byt_45, und_45, tsh_47, tzero_47, telem_47, lenK_47, nilK_47, srcT_47, byt_47, tpl_47, tf_47_0, tf_47_1, tf_47_2, tsh_57, tzero_57, telem_57, lenK_57, nilK_57, srcT_57, byt_57, tmap_57, tsh_58, tzero_58, telem_58, lenK_58, nilK_58, srcT_58, byt_58, tmap_58, tsh_60, tzero_60, telem_60, lenK_60, nilK_60, srcT_60, byt_60, tpl_60, tf_60_0, tf_60_1, tsh_63, tzero_63, telem_63, lenK_63, nilK_63, srcT_63, byt_63, eqKs_63, tpl_63, tf_63_0, tf_63_1, tf_63_2, tf_63_3, tf_63_4, tf_63_5, tsh_64, tzero_64, telem_64, lenK_64, nilK_64, srcT_64, byt_64, tsh_65, tzero_65, telem_65, lenK_65, nilK_65, srcT_65, byt_65, und_65, tsh_68, tzero_68, telem_68, lenK_68, nilK_68, srcT_68, byt_68, eqKs_68, tpl_68, tf_68_0, tf_68_1, tf_68_2, tsh_69, tzero_69, telem_69, lenK_69, nilK_69, srcT_69, byt_69, tmap_69, tsh_71, tzero_71, telem_71, lenK_71, nilK_71, srcT_71, byt_71, tpl_71, tf_71_0, tf_71_1, tsh_78, tzero_78, telem_78, lenK_78, nilK_78, srcT_78, byt_78, und_78, tsh_79, tzero_79, telem_79, lenK_79, nilK_79, srcT_79, byt_79, und_79, tsh_81, tzero_81, telem_81, lenK_81, nilK_81, srcT_81, byt_81, tpl_81, tf_81_0, tf_81_1, tf_81_2, tsh_97, tzero_97, telem_97, lenK_97, nilK_97, srcT_97, byt_97, tsh_100, tzero_100, telem_100, lenK_100, nilK_100, srcT_100, byt_100, tsh_103, tzero_103, telem_103, lenK_103, nilK_103, srcT_103, byt_103, tsh_107, tzero_107, telem_107, lenK_107, nilK_107, srcT_107, byt_107, tsh_109, tzero_109, telem_109, lenK_109, nilK_109, srcT_109, byt_109, eqKs_109, tpl_109, tf_109_0, tf_109_1, tsh_113, tzero_113, telem_113, lenK_113, nilK_113, srcT_113, byt_113, eqKs_113, tpl_113, tf_113_0, tf_113_1, tsh_122, tzero_122, telem_122, lenK_122, nilK_122, srcT_122, byt_122, und_122, cv_3_122, cv_5_3, cv_122_35

end Go.Ev.F34
end
