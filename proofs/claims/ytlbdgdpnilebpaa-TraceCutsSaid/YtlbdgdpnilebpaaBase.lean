/- A part of the proof: walks of the functions that the law calls. No condition. -/
import Derived.Test.YtlbdgdpnilebpaaProg
import Derived.Test.YtlbdgdpnilebpaaRun
import Derived.Test.YtlbdgdpnilebpaaEvC
import Derived.Test.YtlbdgdpnilebpaaCon
set_option linter.all false
section
namespace Go.Ev.F35
open Go.Proofs Go.Ev
set_option maxRecDepth 100000
set_option linter.all false

/- the seat's configuration and facts -/
noncomputable def Cf : Cfg := { P := Try.prog, md := fun f => match f with | 3 => .imp | 4 => .imp | 5 => .imp | 6 => .pure | 7 => .pure | 8 => .pure | 9 => .pure | 10 => .pure | 11 => .pure | 12 => .pure | 13 => .pure | 14 => .imp | 15 => .pure | 16 => .pure | 17 => .pure | 18 => .pure | 19 => .pure | 20 => .pure | 21 => .pure | 22 => .pure | 23 => .pure | 24 => .pure | 25 => .pure | 26 => .ext srtSpec | 27 => .imp | 28 => .imp | 29 => .imp | 30 => .imp | 31 => .imp | 32 => .imp | 33 => .imp | 34 => .pure | 35 => .pure | 36 => .imp | 37 => .pure | 40 => .imp | 41 => .imp | 42 => .imp | 43 => .imp | 44 => .imp | 45 => .own | 46 => .pure | 47 => .pure | 48 => .pure | 49 => .pure | 61 => .ext dfSSpec | 62 => .imp | 63 => .ext clRSpec | 64 => .imp | 65 => .imp | 66 => .pure | 67 => .imp | 68 => .pure | 69 => .ext soRSpec | 70 => .imp | 71 => .pure | 72 => .pure | 73 => .pure | 74 => .pure | 75 => .pure | 76 => .pure | 77 => .pure | 78 => .pure | 86 => .imp | 87 => .imp | 88 => .imp | _ => .no }
def okf (f : FuncId) : Bool := [3, 4, 5, 6, 7, 8, 9, 10, 11, 12, 13, 14, 15, 16, 17, 18, 19, 20, 21, 22, 23, 24, 25, 27, 28, 29, 30, 31, 32, 33, 34, 35, 36, 37, 40, 41, 42, 43, 44, 45, 46, 47, 48, 49, 62, 64, 65, 66, 67, 68, 70, 71, 72, 73, 74, 75, 76, 77, 78, 86, 87, 88].contains f
theorem CfP : Cf.P = Try.prog := rfl
theorem okfOK : ∀ f, okf f = true → okFn Cf.P f = true := by
  have h : ([3, 4, 5, 6, 7, 8, 9, 10, 11, 12, 13, 14, 15, 16, 17, 18, 19, 20, 21, 22, 23, 24, 25, 27, 28, 29, 30, 31, 32, 33, 34, 35, 36, 37, 40, 41, 42, 43, 44, 45, 46, 47, 48, 49, 62, 64, 65, 66, 67, 68, 70, 71, 72, 73, 74, 75, 76, 77, 78, 86, 87, 88].all fun f => okFn Try.prog f) = true := by decide +kernel
  intro f hf
  exact List.all_eq_true.1 h f (by simpa [okf] using hf)
theorem extOK : ExtOK Cf := by
  intro f spec h
  unfold Cf at h
  dsimp only at h
  split at h <;> cases h
  · exact fun args H Q h => srt_ext h
  · exact fun args H Q h => dfS_ext h
  · exact fun args H Q h => clR_ext h
  · exact fun args H Q h => soR_ext h
theorem md_26 : Cf.md 26 = .ext srtSpec := rfl
theorem md_61 : Cf.md 61 = .ext dfSSpec := rfl
theorem md_63 : Cf.md 63 = .ext clRSpec := rfl
theorem md_69 : Cf.md 69 = .ext soRSpec := rfl
theorem extMono : ExtMono Cf := by
  intro f spec h
  unfold Cf at h
  dsimp only at h
  split at h <;> cases h
  · exact fun args H Q Q' hq h => srtSpec_mono hq h
  · exact fun args H Q Q' hq h => dfSSpec_mono hq h
  · exact fun args H Q Q' hq h => clRSpec_mono hq h
  · exact fun args H Q Q' hq h => soRSpec_mono hq h
theorem md_3 : Cf.md 3 = .imp := rfl
noncomputable def c3 : Code := Try.f3.body.getD .skip
theorem body3 : Try.f3.body = some c3 := by kernel_rfl
theorem md_4 : Cf.md 4 = .imp := rfl
noncomputable def c4 : Code := Try.f4.body.getD .skip
theorem body4 : Try.f4.body = some c4 := by kernel_rfl
theorem md_5 : Cf.md 5 = .imp := rfl
noncomputable def c5 : Code := Try.f5.body.getD .skip
theorem body5 : Try.f5.body = some c5 := by kernel_rfl
theorem md_6 : Cf.md 6 = .pure := rfl
noncomputable def c6 : Code := Try.f6.body.getD .skip
theorem body6 : Try.f6.body = some c6 := by kernel_rfl
theorem md_7 : Cf.md 7 = .pure := rfl
noncomputable def c7 : Code := Try.f7.body.getD .skip
theorem body7 : Try.f7.body = some c7 := by kernel_rfl
theorem md_8 : Cf.md 8 = .pure := rfl
noncomputable def c8 : Code := Try.f8.body.getD .skip
theorem body8 : Try.f8.body = some c8 := by kernel_rfl
theorem md_9 : Cf.md 9 = .pure := rfl
noncomputable def c9 : Code := Try.f9.body.getD .skip
theorem body9 : Try.f9.body = some c9 := by kernel_rfl
theorem md_10 : Cf.md 10 = .pure := rfl
noncomputable def c10 : Code := Try.f10.body.getD .skip
theorem body10 : Try.f10.body = some c10 := by kernel_rfl
theorem md_11 : Cf.md 11 = .pure := rfl
noncomputable def c11 : Code := Try.f11.body.getD .skip
theorem body11 : Try.f11.body = some c11 := by kernel_rfl
theorem md_12 : Cf.md 12 = .pure := rfl
noncomputable def c12 : Code := Try.f12.body.getD .skip
theorem body12 : Try.f12.body = some c12 := by kernel_rfl
theorem md_13 : Cf.md 13 = .pure := rfl
noncomputable def c13 : Code := Try.f13.body.getD .skip
theorem body13 : Try.f13.body = some c13 := by kernel_rfl
theorem md_14 : Cf.md 14 = .imp := rfl
noncomputable def c14 : Code := Try.f14.body.getD .skip
theorem body14 : Try.f14.body = some c14 := by kernel_rfl
theorem md_15 : Cf.md 15 = .pure := rfl
noncomputable def c15 : Code := Try.f15.body.getD .skip
theorem body15 : Try.f15.body = some c15 := by kernel_rfl
theorem md_16 : Cf.md 16 = .pure := rfl
noncomputable def c16 : Code := Try.f16.body.getD .skip
theorem body16 : Try.f16.body = some c16 := by kernel_rfl
theorem md_17 : Cf.md 17 = .pure := rfl
noncomputable def c17 : Code := Try.f17.body.getD .skip
theorem body17 : Try.f17.body = some c17 := by kernel_rfl
theorem md_18 : Cf.md 18 = .pure := rfl
noncomputable def c18 : Code := Try.f18.body.getD .skip
theorem body18 : Try.f18.body = some c18 := by kernel_rfl
theorem md_19 : Cf.md 19 = .pure := rfl
noncomputable def c19 : Code := Try.f19.body.getD .skip
theorem body19 : Try.f19.body = some c19 := by kernel_rfl
theorem md_20 : Cf.md 20 = .pure := rfl
noncomputable def c20 : Code := Try.f20.body.getD .skip
theorem body20 : Try.f20.body = some c20 := by kernel_rfl
theorem md_21 : Cf.md 21 = .pure := rfl
noncomputable def c21 : Code := Try.f21.body.getD .skip
theorem body21 : Try.f21.body = some c21 := by kernel_rfl
theorem md_22 : Cf.md 22 = .pure := rfl
noncomputable def c22 : Code := Try.f22.body.getD .skip
theorem body22 : Try.f22.body = some c22 := by kernel_rfl
theorem md_23 : Cf.md 23 = .pure := rfl
noncomputable def c23 : Code := Try.f23.body.getD .skip
theorem body23 : Try.f23.body = some c23 := by kernel_rfl
theorem md_24 : Cf.md 24 = .pure := rfl
noncomputable def c24 : Code := Try.f24.body.getD .skip
theorem body24 : Try.f24.body = some c24 := by kernel_rfl
theorem md_25 : Cf.md 25 = .pure := rfl
noncomputable def c25 : Code := Try.f25.body.getD .skip
theorem body25 : Try.f25.body = some c25 := by kernel_rfl
theorem md_27 : Cf.md 27 = .imp := rfl
noncomputable def c27 : Code := Try.f27.body.getD .skip
theorem body27 : Try.f27.body = some c27 := by kernel_rfl
theorem md_28 : Cf.md 28 = .imp := rfl
noncomputable def c28 : Code := Try.f28.body.getD .skip
theorem body28 : Try.f28.body = some c28 := by kernel_rfl
theorem md_29 : Cf.md 29 = .imp := rfl
noncomputable def c29 : Code := Try.f29.body.getD .skip
theorem body29 : Try.f29.body = some c29 := by kernel_rfl
theorem md_30 : Cf.md 30 = .imp := rfl
noncomputable def c30 : Code := Try.f30.body.getD .skip
theorem body30 : Try.f30.body = some c30 := by kernel_rfl
theorem md_31 : Cf.md 31 = .imp := rfl
noncomputable def c31 : Code := Try.f31.body.getD .skip
theorem body31 : Try.f31.body = some c31 := by kernel_rfl
theorem md_32 : Cf.md 32 = .imp := rfl
noncomputable def c32 : Code := Try.f32.body.getD .skip
theorem body32 : Try.f32.body = some c32 := by kernel_rfl
theorem md_33 : Cf.md 33 = .imp := rfl
noncomputable def c33 : Code := Try.f33.body.getD .skip
theorem body33 : Try.f33.body = some c33 := by kernel_rfl
theorem md_34 : Cf.md 34 = .pure := rfl
noncomputable def c34 : Code := Try.f34.body.getD .skip
theorem body34 : Try.f34.body = some c34 := by kernel_rfl
theorem md_35 : Cf.md 35 = .pure := rfl
noncomputable def c35 : Code := Try.f35.body.getD .skip
theorem body35 : Try.f35.body = some c35 := by kernel_rfl
theorem md_36 : Cf.md 36 = .imp := rfl
noncomputable def c36 : Code := Try.f36.body.getD .skip
theorem body36 : Try.f36.body = some c36 := by kernel_rfl
theorem md_37 : Cf.md 37 = .pure := rfl
noncomputable def c37 : Code := Try.f37.body.getD .skip
theorem body37 : Try.f37.body = some c37 := by kernel_rfl
theorem md_40 : Cf.md 40 = .imp := rfl
noncomputable def c40 : Code := Try.f40.body.getD .skip
theorem body40 : Try.f40.body = some c40 := by kernel_rfl
theorem md_41 : Cf.md 41 = .imp := rfl
noncomputable def c41 : Code := Try.f41.body.getD .skip
theorem body41 : Try.f41.body = some c41 := by kernel_rfl
theorem md_42 : Cf.md 42 = .imp := rfl
noncomputable def c42 : Code := Try.f42.body.getD .skip
theorem body42 : Try.f42.body = some c42 := by kernel_rfl
theorem md_43 : Cf.md 43 = .imp := rfl
noncomputable def c43 : Code := Try.f43.body.getD .skip
theorem body43 : Try.f43.body = some c43 := by kernel_rfl
theorem md_44 : Cf.md 44 = .imp := rfl
noncomputable def c44 : Code := Try.f44.body.getD .skip
theorem body44 : Try.f44.body = some c44 := by kernel_rfl
theorem md_45 : Cf.md 45 = .own := rfl
noncomputable def c45 : Code := Try.f45.body.getD .skip
theorem body45 : Try.f45.body = some c45 := by kernel_rfl
theorem md_46 : Cf.md 46 = .pure := rfl
noncomputable def c46 : Code := Try.f46.body.getD .skip
theorem body46 : Try.f46.body = some c46 := by kernel_rfl
theorem md_47 : Cf.md 47 = .pure := rfl
noncomputable def c47 : Code := Try.f47.body.getD .skip
theorem body47 : Try.f47.body = some c47 := by kernel_rfl
theorem md_48 : Cf.md 48 = .pure := rfl
noncomputable def c48 : Code := Try.f48.body.getD .skip
theorem body48 : Try.f48.body = some c48 := by kernel_rfl
theorem md_49 : Cf.md 49 = .pure := rfl
noncomputable def c49 : Code := Try.f49.body.getD .skip
theorem body49 : Try.f49.body = some c49 := by kernel_rfl
theorem md_62 : Cf.md 62 = .imp := rfl
noncomputable def c62 : Code := Try.f62.body.getD .skip
theorem body62 : Try.f62.body = some c62 := by kernel_rfl
theorem md_64 : Cf.md 64 = .imp := rfl
noncomputable def c64 : Code := Try.f64.body.getD .skip
theorem body64 : Try.f64.body = some c64 := by kernel_rfl
theorem md_65 : Cf.md 65 = .imp := rfl
noncomputable def c65 : Code := Try.f65.body.getD .skip
theorem body65 : Try.f65.body = some c65 := by kernel_rfl
theorem md_66 : Cf.md 66 = .pure := rfl
noncomputable def c66 : Code := Try.f66.body.getD .skip
theorem body66 : Try.f66.body = some c66 := by kernel_rfl
theorem md_67 : Cf.md 67 = .imp := rfl
noncomputable def c67 : Code := Try.f67.body.getD .skip
theorem body67 : Try.f67.body = some c67 := by kernel_rfl
theorem md_68 : Cf.md 68 = .pure := rfl
noncomputable def c68 : Code := Try.f68.body.getD .skip
theorem body68 : Try.f68.body = some c68 := by kernel_rfl
theorem md_70 : Cf.md 70 = .imp := rfl
noncomputable def c70 : Code := Try.f70.body.getD .skip
theorem body70 : Try.f70.body = some c70 := by kernel_rfl
theorem md_71 : Cf.md 71 = .pure := rfl
noncomputable def c71 : Code := Try.f71.body.getD .skip
theorem body71 : Try.f71.body = some c71 := by kernel_rfl
theorem md_72 : Cf.md 72 = .pure := rfl
noncomputable def c72 : Code := Try.f72.body.getD .skip
theorem body72 : Try.f72.body = some c72 := by kernel_rfl
theorem md_73 : Cf.md 73 = .pure := rfl
noncomputable def c73 : Code := Try.f73.body.getD .skip
theorem body73 : Try.f73.body = some c73 := by kernel_rfl
theorem md_74 : Cf.md 74 = .pure := rfl
noncomputable def c74 : Code := Try.f74.body.getD .skip
theorem body74 : Try.f74.body = some c74 := by kernel_rfl
theorem md_75 : Cf.md 75 = .pure := rfl
noncomputable def c75 : Code := Try.f75.body.getD .skip
theorem body75 : Try.f75.body = some c75 := by kernel_rfl
theorem md_76 : Cf.md 76 = .pure := rfl
noncomputable def c76 : Code := Try.f76.body.getD .skip
theorem body76 : Try.f76.body = some c76 := by kernel_rfl
theorem md_77 : Cf.md 77 = .pure := rfl
noncomputable def c77 : Code := Try.f77.body.getD .skip
theorem body77 : Try.f77.body = some c77 := by kernel_rfl
theorem md_78 : Cf.md 78 = .pure := rfl
noncomputable def c78 : Code := Try.f78.body.getD .skip
theorem body78 : Try.f78.body = some c78 := by kernel_rfl
theorem md_86 : Cf.md 86 = .imp := rfl
noncomputable def c86 : Code := Try.f86.body.getD .skip
theorem body86 : Try.f86.body = some c86 := by kernel_rfl
theorem md_87 : Cf.md 87 = .imp := rfl
noncomputable def c87 : Code := Try.f87.body.getD .skip
theorem body87 : Try.f87.body = some c87 := by kernel_rfl
theorem md_88 : Cf.md 88 = .imp := rfl
noncomputable def c88 : Code := Try.f88.body.getD .skip
theorem body88 : Try.f88.body = some c88 := by kernel_rfl
def pl_3_18 : Pl := (.r 0 (.r 1 (.r 2 (.r 3 (.r 4 (.r 5 (.r 6 (.r 7 (.r 8 (.r 9 (.r 10 (.r 11 (.r 12 (.r 13 (.r 14 (.r 15 (.r 16 (.r 17 (.r 18 (.r 19 (.r 20 (.r 21 (.r 22 (.r 23 (.r 24 (.r 25 (.r 26 (.r 27 (.r 28 (.r 29 (.r 30 (.r 31 (.r 32 (.r 33 (.r 34 (.r 35 (.r 36 (.o 37 [] (.r 38 (.r 39 (.r 40 (.r 41 (.r 42 (.r 43 (.r 44 (.o 45 [] (.r 46 (.r 47 (.r 48 (.r 49 (.r 50 (.r 51 (.r 52 (.r 53 (.r 54 (.r 55 (.o 56 [53, 52, 50] (.r 57 (.r 58 (.r 59 .done))) .stop))))))))))) .stop)))))))) .stop))))))))))))))))))))))))))))))))))))))
def pl_4_9 : Pl := (.r 0 (.r 1 (.r 2 (.r 3 (.r 4 (.r 5 (.o 6 [] (.r 7 (.r 8 (.r 9 (.o 10 [5, 3, 0] (.o 11 [] (.r 12 .done) .stop) .stop)))) (.o 10 [5, 3, 0] (.o 6 [] (.r 7 (.r 8 (.r 9 (.o 11 [] (.r 12 .done) .stop)))) .stop) .stop))))))))
def pl_4_13 : Pl := (.r 0 (.r 1 (.r 2 (.r 3 (.r 4 (.r 5 (.r 6 (.r 7 (.r 9 (.r 10 (.o 8 [10] (.o 11 [] (.r 12 (.r 13 (.o 14 [] (.r 15 (.r 16 .done)) .stop))) .stop) .stop)))))))))))
def pl_8_11 : Pl := (.r 0 (.r 1 (.r 2 (.r 3 (.r 4 (.r 5 (.o 6 [4] (.o 7 [] (.r 8 (.r 9 (.o 10 [] .done .stop))) .stop) .stop)))))))
def pl_16_11 : Pl := (.r 0 (.r 1 (.r 2 (.r 3 (.r 4 (.r 5 (.o 6 [] (.r 7 (.r 8 (.r 9 (.o 10 [5, 3, 0] (.o 11 [5, 3, 0] (.o 12 [] (.o 13 [] .done .stop) .stop) .stop) (.o 11 [5, 3, 0] (.o 10 [5, 3, 0] (.o 12 [] (.o 13 [] .done .stop) .stop) .stop) .stop))))) (.o 10 [5, 3, 0] (.o 6 [] (.r 7 (.r 8 (.r 9 (.o 11 [5, 3, 0] (.o 12 [] (.o 13 [] .done .stop) .stop) .stop)))) (.o 11 [5, 3, 0] (.o 6 [] (.r 7 (.r 8 (.r 9 (.o 12 [] (.o 13 [] .done .stop) .stop)))) .stop) .stop)) (.o 11 [5, 3, 0] (.o 6 [] (.r 7 (.r 8 (.r 9 (.o 10 [5, 3, 0] (.o 12 [] (.o 13 [] .done .stop) .stop) .stop)))) (.o 10 [5, 3, 0] (.o 6 [] (.r 7 (.r 8 (.r 9 (.o 12 [] (.o 13 [] .done .stop) .stop)))) .stop) .stop)) .stop)))))))))
def pl_32_19 : Pl := (.r 0 (.r 1 (.r 2 (.r 3 (.r 4 (.r 5 (.r 6 (.r 7 (.r 8 (.r 9 (.r 10 (.r 11 (.r 12 (.r 13 (.r 14 (.r 15 (.r 16 (.o 17 [4] (.o 18 [] (.r 19 (.r 20 (.o 21 [] .done .stop))) .stop) .stop))))))))))))))))))
def pl_32_28 : Pl := (.r 0 (.r 1 (.r 2 (.r 3 (.r 4 (.r 5 (.r 6 (.r 7 (.r 8 (.o 9 [4] (.o 10 [] (.r 11 (.r 12 (.o 13 [] .done .stop))) .stop) .stop))))))))))
def pl_32_30 : Pl := (.r 0 (.r 2 (.r 3 (.o 1 [3] (.o 4 [] (.r 5 .done) .stop) .stop))))
def pl_34_22 : Pl := (.r 0 (.r 1 (.o 2 [1] (.o 3 [] .done .stop) .stop)))
def pl_41_6 : Pl := (.r 0 (.r 1 (.r 2 (.r 3 (.r 4 (.r 5 (.r 6 (.r 7 (.r 8 (.r 9 (.o 10 [6, 5, 3] (.o 11 [] (.r 12 .done) .stop) .stop)))))))))))
def pl_47_9 : Pl := (.r 0 (.r 1 (.r 2 (.r 3 (.r 4 (.r 5 (.r 6 (.o 7 [1] (.o 8 [] (.r 9 (.o 10 [] .done .stop)) .stop) .stop))))))))
def pl_47_22 : Pl := (.r 0 (.r 1 (.r 2 (.r 3 (.r 4 (.r 5 (.r 6 (.o 7 [1] (.o 8 [] (.r 9 (.o 10 [] .done .stop)) .stop) .stop))))))))
def pl_48_12 : Pl := (.r 0 (.r 1 (.r 2 (.r 3 (.r 4 (.r 5 (.r 7 (.r 8 (.r 9 (.r 10 (.o 6 [10, 9] (.o 11 [4, 3, 0] (.r 12 (.o 13 [10, 9] (.o 14 [] .done .stop) .stop)) (.o 13 [10, 9] (.o 11 [4, 3, 0] (.r 12 (.o 14 [] .done .stop)) .stop) .stop)) (.o 11 [4, 3, 0] (.r 12 (.o 6 [10, 9] (.o 13 [10, 9] (.o 14 [] .done .stop) .stop) .stop)) .stop))))))))))))
theorem tsh_3 : tsh Try.prog 3 = some 0 := by decide +kernel
theorem tzero_3 : tzero Try.prog 3 = some (.p (.int .i64 0)) := by kernel_rfl
theorem telem_3 : telem Try.prog 3 = none := by decide +kernel
theorem lenK_3 : lenKind Try.prog 3 = (0, 0) := by decide +kernel
theorem nilK_3 : nilK Try.prog 3 = 0 := by decide +kernel
theorem srcT_3 : isSrcT Try.prog 3 = false := by decide +kernel
theorem byt_3 : Program.bytesOf Try.prog 3 = 8 := by decide +kernel
theorem und_3 : Program.underlying Try.prog 3 = some (.int .i64) := by kernel_rfl
theorem tsh_4 : tsh Try.prog 4 = some 0 := by decide +kernel
theorem tzero_4 : tzero Try.prog 4 = some (.p (.bool false)) := by kernel_rfl
theorem telem_4 : telem Try.prog 4 = none := by decide +kernel
theorem lenK_4 : lenKind Try.prog 4 = (0, 0) := by decide +kernel
theorem nilK_4 : nilK Try.prog 4 = 5 := by decide +kernel
theorem srcT_4 : isSrcT Try.prog 4 = false := by decide +kernel
theorem byt_4 : Program.bytesOf Try.prog 4 = 1 := by decide +kernel
theorem und_4 : Program.underlying Try.prog 4 = some .bool := by kernel_rfl
theorem tsh_9 : tsh Try.prog 9 = some 0 := by decide +kernel
theorem tzero_9 : tzero Try.prog 9 = some (.p (.str [])) := by kernel_rfl
theorem telem_9 : telem Try.prog 9 = none := by decide +kernel
theorem lenK_9 : lenKind Try.prog 9 = (2, 0) := by decide +kernel
theorem nilK_9 : nilK Try.prog 9 = 0 := by decide +kernel
theorem srcT_9 : isSrcT Try.prog 9 = true := by decide +kernel
theorem byt_9 : Program.bytesOf Try.prog 9 = 16 := by decide +kernel
theorem und_9 : Program.underlying Try.prog 9 = some .string := by kernel_rfl
theorem tsh_22 : tsh Try.prog 22 = some 0 := by decide +kernel
theorem tzero_22 : tzero Try.prog 22 = some (.nsl) := by kernel_rfl
theorem telem_22 : telem Try.prog 22 = some (40, 16) := by decide +kernel
theorem lenK_22 : lenKind Try.prog 22 = (3, 0) := by decide +kernel
theorem nilK_22 : nilK Try.prog 22 = 4 := by decide +kernel
theorem srcT_22 : isSrcT Try.prog 22 = true := by decide +kernel
theorem byt_22 : Program.bytesOf Try.prog 22 = 24 := by decide +kernel
theorem und_22 : Program.underlying Try.prog 22 = some (.slice 40) := by kernel_rfl
theorem tsh_25 : tsh Try.prog 25 = some 0 := by decide +kernel
theorem tzero_25 : tzero Try.prog 25 = some (.nsl) := by kernel_rfl
theorem telem_25 : telem Try.prog 25 = some (44, 4) := by decide +kernel
theorem lenK_25 : lenKind Try.prog 25 = (3, 0) := by decide +kernel
theorem nilK_25 : nilK Try.prog 25 = 4 := by decide +kernel
theorem srcT_25 : isSrcT Try.prog 25 = true := by decide +kernel
theorem byt_25 : Program.bytesOf Try.prog 25 = 24 := by decide +kernel
theorem und_25 : Program.underlying Try.prog 25 = some (.slice 44) := by kernel_rfl
theorem tsh_29 : tsh Try.prog 29 = some 0 := by decide +kernel
theorem tzero_29 : tzero Try.prog 29 = some (.p (.int .u64 0)) := by kernel_rfl
theorem telem_29 : telem Try.prog 29 = none := by decide +kernel
theorem lenK_29 : lenKind Try.prog 29 = (0, 0) := by decide +kernel
theorem nilK_29 : nilK Try.prog 29 = 0 := by decide +kernel
theorem srcT_29 : isSrcT Try.prog 29 = false := by decide +kernel
theorem byt_29 : Program.bytesOf Try.prog 29 = 8 := by decide +kernel
theorem und_29 : Program.underlying Try.prog 29 = some (.int .u64) := by kernel_rfl
theorem tsh_30 : tsh Try.prog 30 = some 0 := by decide +kernel
theorem tzero_30 : tzero Try.prog 30 = some (.p (.int .u32 0)) := by kernel_rfl
theorem telem_30 : telem Try.prog 30 = none := by decide +kernel
theorem lenK_30 : lenKind Try.prog 30 = (0, 0) := by decide +kernel
theorem nilK_30 : nilK Try.prog 30 = 0 := by decide +kernel
theorem srcT_30 : isSrcT Try.prog 30 = false := by decide +kernel
theorem byt_30 : Program.bytesOf Try.prog 30 = 4 := by decide +kernel
theorem und_30 : Program.underlying Try.prog 30 = some (.int .u32) := by kernel_rfl
theorem tsh_32 : tsh Try.prog 32 = some 4 := by decide +kernel
theorem tzero_32 : tzero Try.prog 32 = some (.p (.agg [.int .u32 0, .int .u32 0, .int .u32 0, .int .u32 0])) := by kernel_rfl
theorem telem_32 : telem Try.prog 32 = none := by decide +kernel
theorem lenK_32 : lenKind Try.prog 32 = (0, 0) := by decide +kernel
theorem nilK_32 : nilK Try.prog 32 = 0 := by decide +kernel
theorem srcT_32 : isSrcT Try.prog 32 = false := by decide +kernel
theorem byt_32 : Program.bytesOf Try.prog 32 = 16 := by decide +kernel
theorem eqKs_32 : eqKs Try.prog 32 = some [2, 2, 2, 2] := by decide +kernel
theorem tpl_32 : tplaces Try.prog 32 = some (.inl [(0, 1), (1, 1), (2, 1), (3, 1)]) := by kernel_rfl
theorem tf_32_0 : tfield Try.prog 32 0 = some (0, 0) := by decide +kernel
theorem tf_32_1 : tfield Try.prog 32 1 = some (1, 0) := by decide +kernel
theorem tf_32_2 : tfield Try.prog 32 2 = some (2, 0) := by decide +kernel
theorem tf_32_3 : tfield Try.prog 32 3 = some (3, 0) := by decide +kernel
theorem tsh_34 : tsh Try.prog 34 = some 10 := by decide +kernel
theorem tzero_34 : tzero Try.prog 34 = some (.p (.agg [.int .i64 0, .int .u64 0, .int .u32 0, .int .u32 0, .str [], .int .u32 0, .int .u32 0, .int .u32 0, .int .u32 0, .int .i64 0])) := by kernel_rfl
theorem telem_34 : telem Try.prog 34 = none := by decide +kernel
theorem lenK_34 : lenKind Try.prog 34 = (0, 0) := by decide +kernel
theorem nilK_34 : nilK Try.prog 34 = 0 := by decide +kernel
theorem srcT_34 : isSrcT Try.prog 34 = false := by decide +kernel
theorem byt_34 : Program.bytesOf Try.prog 34 = 64 := by decide +kernel
theorem eqKs_34 : eqKs Try.prog 34 = some [2, 2, 2, 2, 3, 2, 2, 2, 2, 2] := by decide +kernel
theorem tpl_34 : tplaces Try.prog 34 = some (.inl [(0, 1), (1, 1), (2, 1), (3, 1), (4, 1), (5, 4), (9, 1)]) := by kernel_rfl
theorem tf_34_0 : tfield Try.prog 34 0 = some (0, 0) := by decide +kernel
theorem tf_34_1 : tfield Try.prog 34 1 = some (1, 0) := by decide +kernel
theorem tf_34_2 : tfield Try.prog 34 2 = some (2, 0) := by decide +kernel
theorem tf_34_3 : tfield Try.prog 34 3 = some (3, 0) := by decide +kernel
theorem tf_34_4 : tfield Try.prog 34 4 = some (4, 0) := by decide +kernel
theorem tf_34_5 : tfield Try.prog 34 5 = some (5, 4) := by decide +kernel
theorem tf_34_6 : tfield Try.prog 34 6 = some (9, 0) := by decide +kernel
theorem tsh_35 : tsh Try.prog 35 = some 0 := by decide +kernel
theorem tzero_35 : tzero Try.prog 35 = some (.p (.int .i64 0)) := by kernel_rfl
theorem telem_35 : telem Try.prog 35 = none := by decide +kernel
theorem lenK_35 : lenKind Try.prog 35 = (0, 0) := by decide +kernel
theorem nilK_35 : nilK Try.prog 35 = 0 := by decide +kernel
theorem srcT_35 : isSrcT Try.prog 35 = false := by decide +kernel
theorem byt_35 : Program.bytesOf Try.prog 35 = 8 := by decide +kernel
theorem und_35 : Program.underlying Try.prog 35 = some (.int .i64) := by kernel_rfl
theorem tsh_36 : tsh Try.prog 36 = some 0 := by decide +kernel
theorem tzero_36 : tzero Try.prog 36 = some (.nsl) := by kernel_rfl
theorem telem_36 : telem Try.prog 36 = some (64, 6) := by decide +kernel
theorem lenK_36 : lenKind Try.prog 36 = (3, 0) := by decide +kernel
theorem nilK_36 : nilK Try.prog 36 = 4 := by decide +kernel
theorem srcT_36 : isSrcT Try.prog 36 = true := by decide +kernel
theorem byt_36 : Program.bytesOf Try.prog 36 = 24 := by decide +kernel
theorem und_36 : Program.underlying Try.prog 36 = some (.slice 64) := by kernel_rfl
theorem tsh_38 : tsh Try.prog 38 = some 3 := by decide +kernel
theorem tzero_38 : tzero Try.prog 38 = some (.agg [.p (.int .i64 0), .nsl, .p (.int .i64 0)]) := by kernel_rfl
theorem telem_38 : telem Try.prog 38 = none := by decide +kernel
theorem lenK_38 : lenKind Try.prog 38 = (0, 0) := by decide +kernel
theorem nilK_38 : nilK Try.prog 38 = 0 := by decide +kernel
theorem srcT_38 : isSrcT Try.prog 38 = false := by decide +kernel
theorem byt_38 : Program.bytesOf Try.prog 38 = 40 := by decide +kernel
theorem tpl_38 : tplaces Try.prog 38 = some (.inl [(0, 1), (1, 1), (2, 1)]) := by kernel_rfl
theorem tf_38_0 : tfield Try.prog 38 0 = some (0, 0) := by decide +kernel
theorem tf_38_1 : tfield Try.prog 38 1 = some (1, 0) := by decide +kernel
theorem tf_38_2 : tfield Try.prog 38 2 = some (2, 0) := by decide +kernel
theorem tsh_40 : tsh Try.prog 40 = some 16 := by decide +kernel
theorem tzero_40 : tzero Try.prog 40 = some (.agg [.p (.int .i64 0), .p (.int .i64 0), .p (.int .i64 0), .p (.int .i64 0), .p (.int .u64 0), .p (.int .u32 0), .p (.int .u32 0), .p (.str []), .p (.int .u32 0), .p (.int .u32 0), .p (.int .u32 0), .p (.int .u32 0), .p (.int .i64 0), .p (.int .i64 0), .nsl, .p (.int .i64 0)]) := by kernel_rfl
theorem telem_40 : telem Try.prog 40 = none := by decide +kernel
theorem lenK_40 : lenKind Try.prog 40 = (0, 0) := by decide +kernel
theorem nilK_40 : nilK Try.prog 40 = 0 := by decide +kernel
theorem srcT_40 : isSrcT Try.prog 40 = false := by decide +kernel
theorem byt_40 : Program.bytesOf Try.prog 40 = 128 := by decide +kernel
theorem tpl_40 : tplaces Try.prog 40 = some (.inl [(0, 1), (1, 1), (2, 1), (3, 10), (13, 3)]) := by kernel_rfl
theorem tf_40_0 : tfield Try.prog 40 0 = some (0, 0) := by decide +kernel
theorem tf_40_1 : tfield Try.prog 40 1 = some (1, 0) := by decide +kernel
theorem tf_40_2 : tfield Try.prog 40 2 = some (2, 0) := by decide +kernel
theorem tf_40_3 : tfield Try.prog 40 3 = some (3, 10) := by decide +kernel
theorem tf_40_4 : tfield Try.prog 40 4 = some (13, 3) := by decide +kernel
theorem tsh_41 : tsh Try.prog 41 = some 0 := by decide +kernel
theorem tzero_41 : tzero Try.prog 41 = some (.nsl) := by kernel_rfl
theorem telem_41 : telem Try.prog 41 = some (3, 0) := by decide +kernel
theorem lenK_41 : lenKind Try.prog 41 = (3, 0) := by decide +kernel
theorem nilK_41 : nilK Try.prog 41 = 4 := by decide +kernel
theorem srcT_41 : isSrcT Try.prog 41 = true := by decide +kernel
theorem byt_41 : Program.bytesOf Try.prog 41 = 24 := by decide +kernel
theorem und_41 : Program.underlying Try.prog 41 = some (.slice 3) := by kernel_rfl
theorem tsh_44 : tsh Try.prog 44 = some 4 := by decide +kernel
theorem tzero_44 : tzero Try.prog 44 = some (.agg [.p (.int .i64 0), .nsl, .p (.bool false), .p (.int .i64 0)]) := by kernel_rfl
theorem telem_44 : telem Try.prog 44 = none := by decide +kernel
theorem lenK_44 : lenKind Try.prog 44 = (0, 0) := by decide +kernel
theorem nilK_44 : nilK Try.prog 44 = 0 := by decide +kernel
theorem srcT_44 : isSrcT Try.prog 44 = false := by decide +kernel
theorem byt_44 : Program.bytesOf Try.prog 44 = 48 := by decide +kernel
theorem tpl_44 : tplaces Try.prog 44 = some (.inl [(0, 1), (1, 1), (2, 1), (3, 1)]) := by kernel_rfl
theorem tf_44_0 : tfield Try.prog 44 0 = some (0, 0) := by decide +kernel
theorem tf_44_1 : tfield Try.prog 44 1 = some (1, 0) := by decide +kernel
theorem tf_44_2 : tfield Try.prog 44 2 = some (2, 0) := by decide +kernel
theorem tf_44_3 : tfield Try.prog 44 3 = some (3, 0) := by decide +kernel
theorem tsh_46 : tsh Try.prog 46 = some 0 := by decide +kernel
theorem tzero_46 : tzero Try.prog 46 = some (.nsl) := by kernel_rfl
theorem telem_46 : telem Try.prog 46 = some (79, 3) := by decide +kernel
theorem lenK_46 : lenKind Try.prog 46 = (3, 0) := by decide +kernel
theorem nilK_46 : nilK Try.prog 46 = 4 := by decide +kernel
theorem srcT_46 : isSrcT Try.prog 46 = true := by decide +kernel
theorem byt_46 : Program.bytesOf Try.prog 46 = 24 := by decide +kernel
theorem und_46 : Program.underlying Try.prog 46 = some (.slice 79) := by kernel_rfl
theorem tsh_48 : tsh Try.prog 48 = some 2 := by decide +kernel
theorem tzero_48 : tzero Try.prog 48 = some (.agg [.nsl, .nsl]) := by kernel_rfl
theorem telem_48 : telem Try.prog 48 = none := by decide +kernel
theorem lenK_48 : lenKind Try.prog 48 = (0, 0) := by decide +kernel
theorem nilK_48 : nilK Try.prog 48 = 0 := by decide +kernel
theorem srcT_48 : isSrcT Try.prog 48 = false := by decide +kernel
theorem byt_48 : Program.bytesOf Try.prog 48 = 48 := by decide +kernel
theorem tpl_48 : tplaces Try.prog 48 = some (.inl [(0, 1), (1, 1)]) := by kernel_rfl
theorem tf_48_0 : tfield Try.prog 48 0 = some (0, 0) := by decide +kernel
theorem tf_48_1 : tfield Try.prog 48 1 = some (1, 0) := by decide +kernel
theorem tsh_57 : tsh Try.prog 57 = some 15 := by decide +kernel
theorem tzero_57 : tzero Try.prog 57 = some (.p (.agg [.int .i64 0, .int .i64 0, .int .i64 0, .int .i64 0, .int .i64 0, .int .i64 0, .int .i64 0, .int .i64 0, .int .i64 0, .int .i64 0, .int .i64 0, .int .i64 0, .int .i64 0, .int .i64 0, .int .i64 0])) := by kernel_rfl
theorem telem_57 : telem Try.prog 57 = none := by decide +kernel
theorem tarr_57 : tarr Try.prog 57 = some (15, 0) := by decide +kernel
theorem lenK_57 : lenKind Try.prog 57 = (1, 15) := by decide +kernel
theorem nilK_57 : nilK Try.prog 57 = 0 := by decide +kernel
theorem srcT_57 : isSrcT Try.prog 57 = false := by decide +kernel
theorem byt_57 : Program.bytesOf Try.prog 57 = 120 := by decide +kernel
theorem eqKs_57 : eqKs Try.prog 57 = some [2, 2, 2, 2, 2, 2, 2, 2, 2, 2, 2, 2, 2, 2, 2] := by decide +kernel
theorem tpl_57 : tplaces Try.prog 57 = some (.inr 1) := by kernel_rfl
theorem tsh_59 : tsh Try.prog 59 = some 0 := by decide +kernel
theorem tzero_59 : tzero Try.prog 59 = some (.nsl) := by kernel_rfl
theorem telem_59 : telem Try.prog 59 = some (62, 3) := by decide +kernel
theorem lenK_59 : lenKind Try.prog 59 = (3, 0) := by decide +kernel
theorem nilK_59 : nilK Try.prog 59 = 4 := by decide +kernel
theorem srcT_59 : isSrcT Try.prog 59 = true := by decide +kernel
theorem byt_59 : Program.bytesOf Try.prog 59 = 24 := by decide +kernel
theorem und_59 : Program.underlying Try.prog 59 = some (.slice 62) := by kernel_rfl
theorem tsh_62 : tsh Try.prog 62 = some 3 := by decide +kernel
theorem tzero_62 : tzero Try.prog 62 = some (.p (.agg [.int .i64 0, .int .u64 0, .bool false])) := by kernel_rfl
theorem telem_62 : telem Try.prog 62 = none := by decide +kernel
theorem lenK_62 : lenKind Try.prog 62 = (0, 0) := by decide +kernel
theorem nilK_62 : nilK Try.prog 62 = 0 := by decide +kernel
theorem srcT_62 : isSrcT Try.prog 62 = false := by decide +kernel
theorem byt_62 : Program.bytesOf Try.prog 62 = 24 := by decide +kernel
theorem eqKs_62 : eqKs Try.prog 62 = some [2, 2, 1] := by decide +kernel
theorem tpl_62 : tplaces Try.prog 62 = some (.inl [(0, 1), (1, 1), (2, 1)]) := by kernel_rfl
theorem tf_62_0 : tfield Try.prog 62 0 = some (0, 0) := by decide +kernel
theorem tf_62_1 : tfield Try.prog 62 1 = some (1, 0) := by decide +kernel
theorem tf_62_2 : tfield Try.prog 62 2 = some (2, 0) := by decide +kernel
theorem tsh_64 : tsh Try.prog 64 = some 6 := by decide +kernel
theorem tzero_64 : tzero Try.prog 64 = some (.p (.agg [.int .u64 0, .int .u64 0, .int .u32 0, .int .u32 0, .str [], .bool false])) := by kernel_rfl
theorem telem_64 : telem Try.prog 64 = none := by decide +kernel
theorem lenK_64 : lenKind Try.prog 64 = (0, 0) := by decide +kernel
theorem nilK_64 : nilK Try.prog 64 = 0 := by decide +kernel
theorem srcT_64 : isSrcT Try.prog 64 = false := by decide +kernel
theorem byt_64 : Program.bytesOf Try.prog 64 = 48 := by decide +kernel
theorem eqKs_64 : eqKs Try.prog 64 = some [2, 2, 2, 2, 3, 1] := by decide +kernel
theorem tpl_64 : tplaces Try.prog 64 = some (.inl [(0, 1), (1, 1), (2, 1), (3, 1), (4, 1), (5, 1)]) := by kernel_rfl
theorem tf_64_0 : tfield Try.prog 64 0 = some (0, 0) := by decide +kernel
theorem tf_64_1 : tfield Try.prog 64 1 = some (1, 0) := by decide +kernel
theorem tf_64_2 : tfield Try.prog 64 2 = some (2, 0) := by decide +kernel
theorem tf_64_3 : tfield Try.prog 64 3 = some (3, 0) := by decide +kernel
theorem tf_64_4 : tfield Try.prog 64 4 = some (4, 0) := by decide +kernel
theorem tf_64_5 : tfield Try.prog 64 5 = some (5, 0) := by decide +kernel
theorem tsh_67 : tsh Try.prog 67 = some 0 := by decide +kernel
theorem tzero_67 : tzero Try.prog 67 = some (.p (.nmap)) := by kernel_rfl
theorem telem_67 : telem Try.prog 67 = none := by decide +kernel
theorem lenK_67 : lenKind Try.prog 67 = (4, 0) := by decide +kernel
theorem nilK_67 : nilK Try.prog 67 = 3 := by decide +kernel
theorem srcT_67 : isSrcT Try.prog 67 = false := by decide +kernel
theorem byt_67 : Program.bytesOf Try.prog 67 = 8 := by decide +kernel
theorem tmap_67 : tmap Try.prog 67 = some (3, 68, .plain 2) := by kernel_rfl
theorem tsh_68 : tsh Try.prog 68 = some 0 := by decide +kernel
theorem tzero_68 : tzero Try.prog 68 = some (.p (.nptr)) := by kernel_rfl
theorem telem_68 : telem Try.prog 68 = none := by decide +kernel
theorem lenK_68 : lenKind Try.prog 68 = (0, 0) := by decide +kernel
theorem nilK_68 : nilK Try.prog 68 = 1 := by decide +kernel
theorem srcT_68 : isSrcT Try.prog 68 = false := by decide +kernel
theorem byt_68 : Program.bytesOf Try.prog 68 = 8 := by decide +kernel
theorem tsh_71 : tsh Try.prog 71 = some 0 := by decide +kernel
theorem tzero_71 : tzero Try.prog 71 = some (.p (.nfn)) := by kernel_rfl
theorem telem_71 : telem Try.prog 71 = none := by decide +kernel
theorem lenK_71 : lenKind Try.prog 71 = (0, 0) := by decide +kernel
theorem nilK_71 : nilK Try.prog 71 = 2 := by decide +kernel
theorem srcT_71 : isSrcT Try.prog 71 = false := by decide +kernel
theorem byt_71 : Program.bytesOf Try.prog 71 = 8 := by decide +kernel
theorem tsh_72 : tsh Try.prog 72 = some 0 := by decide +kernel
theorem tzero_72 : tzero Try.prog 72 = some (.p (.nptr)) := by kernel_rfl
theorem telem_72 : telem Try.prog 72 = none := by decide +kernel
theorem lenK_72 : lenKind Try.prog 72 = (0, 0) := by decide +kernel
theorem nilK_72 : nilK Try.prog 72 = 1 := by decide +kernel
theorem srcT_72 : isSrcT Try.prog 72 = false := by decide +kernel
theorem byt_72 : Program.bytesOf Try.prog 72 = 8 := by decide +kernel
theorem tsh_76 : tsh Try.prog 76 = some 0 := by decide +kernel
theorem tzero_76 : tzero Try.prog 76 = some (.nsl) := by kernel_rfl
theorem telem_76 : telem Try.prog 76 = some (134, 7) := by decide +kernel
theorem lenK_76 : lenKind Try.prog 76 = (3, 0) := by decide +kernel
theorem nilK_76 : nilK Try.prog 76 = 4 := by decide +kernel
theorem srcT_76 : isSrcT Try.prog 76 = true := by decide +kernel
theorem byt_76 : Program.bytesOf Try.prog 76 = 24 := by decide +kernel
theorem und_76 : Program.underlying Try.prog 76 = some (.slice 134) := by kernel_rfl
theorem tsh_77 : tsh Try.prog 77 = some 0 := by decide +kernel
theorem tzero_77 : tzero Try.prog 77 = some (.nsl) := by kernel_rfl
theorem telem_77 : telem Try.prog 77 = some (138, 2) := by decide +kernel
theorem lenK_77 : lenKind Try.prog 77 = (3, 0) := by decide +kernel
theorem nilK_77 : nilK Try.prog 77 = 4 := by decide +kernel
theorem srcT_77 : isSrcT Try.prog 77 = true := by decide +kernel
theorem byt_77 : Program.bytesOf Try.prog 77 = 24 := by decide +kernel
theorem und_77 : Program.underlying Try.prog 77 = some (.slice 138) := by kernel_rfl
theorem tsh_79 : tsh Try.prog 79 = some 3 := by decide +kernel
theorem tzero_79 : tzero Try.prog 79 = some (.agg [.p (.bool false), .nsl, .nsl]) := by kernel_rfl
theorem telem_79 : telem Try.prog 79 = none := by decide +kernel
theorem lenK_79 : lenKind Try.prog 79 = (0, 0) := by decide +kernel
theorem nilK_79 : nilK Try.prog 79 = 0 := by decide +kernel
theorem srcT_79 : isSrcT Try.prog 79 = false := by decide +kernel
theorem byt_79 : Program.bytesOf Try.prog 79 = 56 := by decide +kernel
theorem tpl_79 : tplaces Try.prog 79 = some (.inl [(0, 1), (1, 1), (2, 1)]) := by kernel_rfl
theorem tf_79_0 : tfield Try.prog 79 0 = some (0, 0) := by decide +kernel
theorem tf_79_1 : tfield Try.prog 79 1 = some (1, 0) := by decide +kernel
theorem tf_79_2 : tfield Try.prog 79 2 = some (2, 0) := by decide +kernel
theorem tsh_85 : tsh Try.prog 85 = some 0 := by decide +kernel
theorem tzero_85 : tzero Try.prog 85 = some (.p (.int .u64 0)) := by kernel_rfl
theorem telem_85 : telem Try.prog 85 = none := by decide +kernel
theorem lenK_85 : lenKind Try.prog 85 = (0, 0) := by decide +kernel
theorem nilK_85 : nilK Try.prog 85 = 0 := by decide +kernel
theorem srcT_85 : isSrcT Try.prog 85 = false := by decide +kernel
theorem byt_85 : Program.bytesOf Try.prog 85 = 8 := by decide +kernel
theorem und_85 : Program.underlying Try.prog 85 = some (.int .u64) := by kernel_rfl
theorem tsh_87 : tsh Try.prog 87 = some 0 := by decide +kernel
theorem tzero_87 : tzero Try.prog 87 = some (.p (.nmap)) := by kernel_rfl
theorem telem_87 : telem Try.prog 87 = none := by decide +kernel
theorem lenK_87 : lenKind Try.prog 87 = (4, 0) := by decide +kernel
theorem nilK_87 : nilK Try.prog 87 = 3 := by decide +kernel
theorem srcT_87 : isSrcT Try.prog 87 = false := by decide +kernel
theorem byt_87 : Program.bytesOf Try.prog 87 = 8 := by decide +kernel
theorem tmap_87 : tmap Try.prog 87 = some (29, 64, .plain 2) := by kernel_rfl
theorem tsh_88 : tsh Try.prog 88 = some 0 := by decide +kernel
theorem tzero_88 : tzero Try.prog 88 = some (.p (.nmap)) := by kernel_rfl
theorem telem_88 : telem Try.prog 88 = none := by decide +kernel
theorem lenK_88 : lenKind Try.prog 88 = (4, 0) := by decide +kernel
theorem nilK_88 : nilK Try.prog 88 = 3 := by decide +kernel
theorem srcT_88 : isSrcT Try.prog 88 = false := by decide +kernel
theorem byt_88 : Program.bytesOf Try.prog 88 = 8 := by decide +kernel
theorem tmap_88 : tmap Try.prog 88 = some (3, 91, .plain 2) := by kernel_rfl
theorem tsh_90 : tsh Try.prog 90 = some 2 := by decide +kernel
theorem tzero_90 : tzero Try.prog 90 = some (.p (.agg [.nmap, .nmap])) := by kernel_rfl
theorem telem_90 : telem Try.prog 90 = none := by decide +kernel
theorem lenK_90 : lenKind Try.prog 90 = (0, 0) := by decide +kernel
theorem nilK_90 : nilK Try.prog 90 = 0 := by decide +kernel
theorem srcT_90 : isSrcT Try.prog 90 = false := by decide +kernel
theorem byt_90 : Program.bytesOf Try.prog 90 = 16 := by decide +kernel
theorem tpl_90 : tplaces Try.prog 90 = some (.inl [(0, 1), (1, 1)]) := by kernel_rfl
theorem tf_90_0 : tfield Try.prog 90 0 = some (0, 0) := by decide +kernel
theorem tf_90_1 : tfield Try.prog 90 1 = some (1, 0) := by decide +kernel
theorem tsh_91 : tsh Try.prog 91 = some 0 := by decide +kernel
theorem tzero_91 : tzero Try.prog 91 = some (.p (.nptr)) := by kernel_rfl
theorem telem_91 : telem Try.prog 91 = none := by decide +kernel
theorem lenK_91 : lenKind Try.prog 91 = (0, 0) := by decide +kernel
theorem nilK_91 : nilK Try.prog 91 = 1 := by decide +kernel
theorem srcT_91 : isSrcT Try.prog 91 = false := by decide +kernel
theorem byt_91 : Program.bytesOf Try.prog 91 = 8 := by decide +kernel
theorem tsh_92 : tsh Try.prog 92 = some 0 := by decide +kernel
theorem tzero_92 : tzero Try.prog 92 = some (.p (.nmap)) := by kernel_rfl
theorem telem_92 : telem Try.prog 92 = none := by decide +kernel
theorem lenK_92 : lenKind Try.prog 92 = (4, 0) := by decide +kernel
theorem nilK_92 : nilK Try.prog 92 = 3 := by decide +kernel
theorem srcT_92 : isSrcT Try.prog 92 = false := by decide +kernel
theorem byt_92 : Program.bytesOf Try.prog 92 = 8 := by decide +kernel
theorem tmap_92 : tmap Try.prog 92 = some (3, 3, .plain 2) := by kernel_rfl
theorem tsh_93 : tsh Try.prog 93 = some 0 := by decide +kernel
theorem tzero_93 : tzero Try.prog 93 = some (.nsl) := by kernel_rfl
theorem telem_93 : telem Try.prog 93 = some (100, 8) := by decide +kernel
theorem lenK_93 : lenKind Try.prog 93 = (3, 0) := by decide +kernel
theorem nilK_93 : nilK Try.prog 93 = 4 := by decide +kernel
theorem srcT_93 : isSrcT Try.prog 93 = true := by decide +kernel
theorem byt_93 : Program.bytesOf Try.prog 93 = 24 := by decide +kernel
theorem und_93 : Program.underlying Try.prog 93 = some (.slice 100) := by kernel_rfl
theorem tsh_95 : tsh Try.prog 95 = some 2 := by decide +kernel
theorem tzero_95 : tzero Try.prog 95 = some (.agg [.nsl, .p (.nmap)]) := by kernel_rfl
theorem telem_95 : telem Try.prog 95 = none := by decide +kernel
theorem lenK_95 : lenKind Try.prog 95 = (0, 0) := by decide +kernel
theorem nilK_95 : nilK Try.prog 95 = 0 := by decide +kernel
theorem srcT_95 : isSrcT Try.prog 95 = false := by decide +kernel
theorem byt_95 : Program.bytesOf Try.prog 95 = 32 := by decide +kernel
theorem tpl_95 : tplaces Try.prog 95 = some (.inl [(0, 1), (1, 1)]) := by kernel_rfl
theorem tf_95_0 : tfield Try.prog 95 0 = some (0, 0) := by decide +kernel
theorem tf_95_1 : tfield Try.prog 95 1 = some (1, 0) := by decide +kernel
theorem tsh_100 : tsh Try.prog 100 = some 8 := by decide +kernel
theorem tzero_100 : tzero Try.prog 100 = some (.p (.agg [.int .u64 0, .int .u64 0, .int .u64 0, .int .u32 0, .int .u32 0, .str [], .bool false, .bool false])) := by kernel_rfl
theorem telem_100 : telem Try.prog 100 = none := by decide +kernel
theorem lenK_100 : lenKind Try.prog 100 = (0, 0) := by decide +kernel
theorem nilK_100 : nilK Try.prog 100 = 0 := by decide +kernel
theorem srcT_100 : isSrcT Try.prog 100 = false := by decide +kernel
theorem byt_100 : Program.bytesOf Try.prog 100 = 64 := by decide +kernel
theorem eqKs_100 : eqKs Try.prog 100 = some [2, 2, 2, 2, 2, 3, 1, 1] := by decide +kernel
theorem tpl_100 : tplaces Try.prog 100 = some (.inl [(0, 1), (1, 6), (7, 1)]) := by kernel_rfl
theorem tf_100_0 : tfield Try.prog 100 0 = some (0, 0) := by decide +kernel
theorem tf_100_1 : tfield Try.prog 100 1 = some (1, 6) := by decide +kernel
theorem tf_100_2 : tfield Try.prog 100 2 = some (7, 0) := by decide +kernel
theorem tsh_115 : tsh Try.prog 115 = some 0 := by decide +kernel
theorem tzero_115 : tzero Try.prog 115 = some (.p (.nfn)) := by kernel_rfl
theorem telem_115 : telem Try.prog 115 = none := by decide +kernel
theorem lenK_115 : lenKind Try.prog 115 = (0, 0) := by decide +kernel
theorem nilK_115 : nilK Try.prog 115 = 2 := by decide +kernel
theorem srcT_115 : isSrcT Try.prog 115 = false := by decide +kernel
theorem byt_115 : Program.bytesOf Try.prog 115 = 8 := by decide +kernel
theorem tsh_125 : tsh Try.prog 125 = some 0 := by decide +kernel
theorem tzero_125 : tzero Try.prog 125 = some (.p (.nfn)) := by kernel_rfl
theorem telem_125 : telem Try.prog 125 = none := by decide +kernel
theorem lenK_125 : lenKind Try.prog 125 = (0, 0) := by decide +kernel
theorem nilK_125 : nilK Try.prog 125 = 2 := by decide +kernel
theorem srcT_125 : isSrcT Try.prog 125 = false := by decide +kernel
theorem byt_125 : Program.bytesOf Try.prog 125 = 8 := by decide +kernel
theorem tsh_128 : tsh Try.prog 128 = some 0 := by decide +kernel
theorem tzero_128 : tzero Try.prog 128 = some (.p (.nfn)) := by kernel_rfl
theorem telem_128 : telem Try.prog 128 = none := by decide +kernel
theorem lenK_128 : lenKind Try.prog 128 = (0, 0) := by decide +kernel
theorem nilK_128 : nilK Try.prog 128 = 2 := by decide +kernel
theorem srcT_128 : isSrcT Try.prog 128 = false := by decide +kernel
theorem byt_128 : Program.bytesOf Try.prog 128 = 8 := by decide +kernel
theorem tsh_132 : tsh Try.prog 132 = some 0 := by decide +kernel
theorem tzero_132 : tzero Try.prog 132 = some (.p (.nfn)) := by kernel_rfl
theorem telem_132 : telem Try.prog 132 = none := by decide +kernel
theorem lenK_132 : lenKind Try.prog 132 = (0, 0) := by decide +kernel
theorem nilK_132 : nilK Try.prog 132 = 2 := by decide +kernel
theorem srcT_132 : isSrcT Try.prog 132 = false := by decide +kernel
theorem byt_132 : Program.bytesOf Try.prog 132 = 8 := by decide +kernel
theorem tsh_134 : tsh Try.prog 134 = some 7 := by decide +kernel
theorem tzero_134 : tzero Try.prog 134 = some (.p (.agg [.bool false, .int .u64 0, .int .u64 0, .int .u32 0, .int .u32 0, .str [], .bool false])) := by kernel_rfl
theorem telem_134 : telem Try.prog 134 = none := by decide +kernel
theorem lenK_134 : lenKind Try.prog 134 = (0, 0) := by decide +kernel
theorem nilK_134 : nilK Try.prog 134 = 0 := by decide +kernel
theorem srcT_134 : isSrcT Try.prog 134 = false := by decide +kernel
theorem byt_134 : Program.bytesOf Try.prog 134 = 56 := by decide +kernel
theorem eqKs_134 : eqKs Try.prog 134 = some [1, 2, 2, 2, 2, 3, 1] := by decide +kernel
theorem tpl_134 : tplaces Try.prog 134 = some (.inl [(0, 1), (1, 6)]) := by kernel_rfl
theorem tf_134_0 : tfield Try.prog 134 0 = some (0, 0) := by decide +kernel
theorem tf_134_1 : tfield Try.prog 134 1 = some (1, 6) := by decide +kernel
theorem tsh_138 : tsh Try.prog 138 = some 2 := by decide +kernel
theorem tzero_138 : tzero Try.prog 138 = some (.p (.agg [.int .i64 0, .int .i64 0])) := by kernel_rfl
theorem telem_138 : telem Try.prog 138 = none := by decide +kernel
theorem lenK_138 : lenKind Try.prog 138 = (0, 0) := by decide +kernel
theorem nilK_138 : nilK Try.prog 138 = 0 := by decide +kernel
theorem srcT_138 : isSrcT Try.prog 138 = false := by decide +kernel
theorem byt_138 : Program.bytesOf Try.prog 138 = 16 := by decide +kernel
theorem eqKs_138 : eqKs Try.prog 138 = some [2, 2] := by decide +kernel
theorem tpl_138 : tplaces Try.prog 138 = some (.inl [(0, 1), (1, 1)]) := by kernel_rfl
theorem tf_138_0 : tfield Try.prog 138 0 = some (0, 0) := by decide +kernel
theorem tf_138_1 : tfield Try.prog 138 1 = some (1, 0) := by decide +kernel
theorem cv_3_85 : cvKind Try.prog 3 85 = .plain := by kernel_rfl
def wkF := (And.intro (And.intro (And.intro (And.intro (And.intro (And.intro (And.intro (And.intro tsh_3 (And.intro tzero_3 telem_3)) (And.intro lenK_3 (And.intro nilK_3 srcT_3))) (And.intro (And.intro byt_3 (And.intro und_3 tsh_4)) (And.intro tzero_4 (And.intro telem_4 lenK_4)))) (And.intro (And.intro (And.intro nilK_4 (And.intro srcT_4 byt_4)) (And.intro und_4 (And.intro tsh_9 tzero_9))) (And.intro (And.intro telem_9 (And.intro lenK_9 nilK_9)) (And.intro srcT_9 (And.intro byt_9 und_9))))) (And.intro (And.intro (And.intro (And.intro tsh_22 (And.intro tzero_22 telem_22)) (And.intro lenK_22 (And.intro nilK_22 srcT_22))) (And.intro (And.intro byt_22 (And.intro und_22 tsh_25)) (And.intro tzero_25 (And.intro telem_25 lenK_25)))) (And.intro (And.intro (And.intro nilK_25 (And.intro srcT_25 byt_25)) (And.intro und_25 (And.intro tsh_29 tzero_29))) (And.intro (And.intro telem_29 (And.intro lenK_29 nilK_29)) (And.intro (And.intro srcT_29 byt_29) (And.intro und_29 tsh_30)))))) (And.intro (And.intro (And.intro (And.intro (And.intro tzero_30 (And.intro telem_30 lenK_30)) (And.intro nilK_30 (And.intro srcT_30 byt_30))) (And.intro (And.intro und_30 (And.intro tsh_32 tzero_32)) (And.intro telem_32 (And.intro lenK_32 nilK_32)))) (And.intro (And.intro (And.intro srcT_32 (And.intro byt_32 eqKs_32)) (And.intro tpl_32 (And.intro tf_32_0 tf_32_1))) (And.intro (And.intro tf_32_2 (And.intro tf_32_3 tsh_34)) (And.intro tzero_34 (And.intro telem_34 lenK_34))))) (And.intro (And.intro (And.intro (And.intro nilK_34 (And.intro srcT_34 byt_34)) (And.intro eqKs_34 (And.intro tpl_34 tf_34_0))) (And.intro (And.intro tf_34_1 (And.intro tf_34_2 tf_34_3)) (And.intro tf_34_4 (And.intro tf_34_5 tf_34_6)))) (And.intro (And.intro (And.intro tsh_35 (And.intro tzero_35 telem_35)) (And.intro lenK_35 (And.intro nilK_35 srcT_35))) (And.intro (And.intro byt_35 (And.intro und_35 tsh_36)) (And.intro (And.intro tzero_36 telem_36) (And.intro lenK_36 nilK_36))))))) (And.intro (And.intro (And.intro (And.intro (And.intro (And.intro srcT_36 (And.intro byt_36 und_36)) (And.intro tsh_38 (And.intro tzero_38 telem_38))) (And.intro (And.intro lenK_38 (And.intro nilK_38 srcT_38)) (And.intro byt_38 (And.intro tpl_38 tf_38_0)))) (And.intro (And.intro (And.intro tf_38_1 (And.intro tf_38_2 tsh_40)) (And.intro tzero_40 (And.intro telem_40 lenK_40))) (And.intro (And.intro nilK_40 (And.intro srcT_40 byt_40)) (And.intro tpl_40 (And.intro tf_40_0 tf_40_1))))) (And.intro (And.intro (And.intro (And.intro tf_40_2 (And.intro tf_40_3 tf_40_4)) (And.intro tsh_41 (And.intro tzero_41 telem_41))) (And.intro (And.intro lenK_41 (And.intro nilK_41 srcT_41)) (And.intro byt_41 (And.intro und_41 tsh_44)))) (And.intro (And.intro (And.intro tzero_44 (And.intro telem_44 lenK_44)) (And.intro nilK_44 (And.intro srcT_44 byt_44))) (And.intro (And.intro tpl_44 (And.intro tf_44_0 tf_44_1)) (And.intro (And.intro tf_44_2 tf_44_3) (And.intro tsh_46 tzero_46)))))) (And.intro (And.intro (And.intro (And.intro (And.intro telem_46 (And.intro lenK_46 nilK_46)) (And.intro srcT_46 (And.intro byt_46 und_46))) (And.intro (And.intro tsh_48 (And.intro tzero_48 telem_48)) (And.intro lenK_48 (And.intro nilK_48 srcT_48)))) (And.intro (And.intro (And.intro byt_48 (And.intro tpl_48 tf_48_0)) (And.intro tf_48_1 (And.intro tsh_57 tzero_57))) (And.intro (And.intro telem_57 (And.intro tarr_57 lenK_57)) (And.intro (And.intro nilK_57 srcT_57) (And.intro byt_57 eqKs_57))))) (And.intro (And.intro (And.intro (And.intro tpl_57 (And.intro tsh_59 tzero_59)) (And.intro telem_59 (And.intro lenK_59 nilK_59))) (And.intro (And.intro srcT_59 (And.intro byt_59 und_59)) (And.intro tsh_62 (And.intro tzero_62 telem_62)))) (And.intro (And.intro (And.intro lenK_62 (And.intro nilK_62 srcT_62)) (And.intro byt_62 (And.intro eqKs_62 tpl_62))) (And.intro (And.intro tf_62_0 (And.intro tf_62_1 tf_62_2)) (And.intro (And.intro tsh_64 tzero_64) (And.intro telem_64 lenK_64)))))))) (And.intro (And.intro (And.intro (And.intro (And.intro (And.intro (And.intro nilK_64 (And.intro srcT_64 byt_64)) (And.intro eqKs_64 (And.intro tpl_64 tf_64_0))) (And.intro (And.intro tf_64_1 (And.intro tf_64_2 tf_64_3)) (And.intro tf_64_4 (And.intro tf_64_5 tsh_67)))) (And.intro (And.intro (And.intro tzero_67 (And.intro telem_67 lenK_67)) (And.intro nilK_67 (And.intro srcT_67 byt_67))) (And.intro (And.intro tmap_67 (And.intro tsh_68 tzero_68)) (And.intro telem_68 (And.intro lenK_68 nilK_68))))) (And.intro (And.intro (And.intro (And.intro srcT_68 (And.intro byt_68 tsh_71)) (And.intro tzero_71 (And.intro telem_71 lenK_71))) (And.intro (And.intro nilK_71 (And.intro srcT_71 byt_71)) (And.intro tsh_72 (And.intro tzero_72 telem_72)))) (And.intro (And.intro (And.intro lenK_72 (And.intro nilK_72 srcT_72)) (And.intro byt_72 (And.intro tsh_76 tzero_76))) (And.intro (And.intro telem_76 (And.intro lenK_76 nilK_76)) (And.intro (And.intro srcT_76 byt_76) (And.intro und_76 tsh_77)))))) (And.intro (And.intro (And.intro (And.intro (And.intro tzero_77 (And.intro telem_77 lenK_77)) (And.intro nilK_77 (And.intro srcT_77 byt_77))) (And.intro (And.intro und_77 (And.intro tsh_79 tzero_79)) (And.intro telem_79 (And.intro lenK_79 nilK_79)))) (And.intro (And.intro (And.intro srcT_79 (And.intro byt_79 tpl_79)) (And.intro tf_79_0 (And.intro tf_79_1 tf_79_2))) (And.intro (And.intro tsh_85 (And.intro tzero_85 telem_85)) (And.intro (And.intro lenK_85 nilK_85) (And.intro srcT_85 byt_85))))) (And.intro (And.intro (And.intro (And.intro und_85 (And.intro tsh_87 tzero_87)) (And.intro telem_87 (And.intro lenK_87 nilK_87))) (And.intro (And.intro srcT_87 (And.intro byt_87 tmap_87)) (And.intro tsh_88 (And.intro tzero_88 telem_88)))) (And.intro (And.intro (And.intro lenK_88 (And.intro nilK_88 srcT_88)) (And.intro byt_88 (And.intro tmap_88 tsh_90))) (And.intro (And.intro tzero_90 (And.intro telem_90 lenK_90)) (And.intro (And.intro nilK_90 srcT_90) (And.intro byt_90 tpl_90))))))) (And.intro (And.intro (And.intro (And.intro (And.intro (And.intro tf_90_0 (And.intro tf_90_1 tsh_91)) (And.intro tzero_91 (And.intro telem_91 lenK_91))) (And.intro (And.intro nilK_91 (And.intro srcT_91 byt_91)) (And.intro tsh_92 (And.intro tzero_92 telem_92)))) (And.intro (And.intro (And.intro lenK_92 (And.intro nilK_92 srcT_92)) (And.intro byt_92 (And.intro tmap_92 tsh_93))) (And.intro (And.intro tzero_93 (And.intro telem_93 lenK_93)) (And.intro nilK_93 (And.intro srcT_93 byt_93))))) (And.intro (And.intro (And.intro (And.intro und_93 (And.intro tsh_95 tzero_95)) (And.intro telem_95 (And.intro lenK_95 nilK_95))) (And.intro (And.intro srcT_95 (And.intro byt_95 tpl_95)) (And.intro tf_95_0 (And.intro tf_95_1 tsh_100)))) (And.intro (And.intro (And.intro tzero_100 (And.intro telem_100 lenK_100)) (And.intro nilK_100 (And.intro srcT_100 byt_100))) (And.intro (And.intro eqKs_100 (And.intro tpl_100 tf_100_0)) (And.intro (And.intro tf_100_1 tf_100_2) (And.intro tsh_115 tzero_115)))))) (And.intro (And.intro (And.intro (And.intro (And.intro telem_115 (And.intro lenK_115 nilK_115)) (And.intro srcT_115 (And.intro byt_115 tsh_125))) (And.intro (And.intro tzero_125 (And.intro telem_125 lenK_125)) (And.intro nilK_125 (And.intro srcT_125 byt_125)))) (And.intro (And.intro (And.intro tsh_128 (And.intro tzero_128 telem_128)) (And.intro lenK_128 (And.intro nilK_128 srcT_128))) (And.intro (And.intro byt_128 (And.intro tsh_132 tzero_132)) (And.intro (And.intro telem_132 lenK_132) (And.intro nilK_132 srcT_132))))) (And.intro (And.intro (And.intro (And.intro byt_132 (And.intro tsh_134 tzero_134)) (And.intro telem_134 (And.intro lenK_134 nilK_134))) (And.intro (And.intro srcT_134 (And.intro byt_134 eqKs_134)) (And.intro tpl_134 (And.intro tf_134_0 tf_134_1)))) (And.intro (And.intro (And.intro tsh_138 (And.intro tzero_138 telem_138)) (And.intro lenK_138 (And.intro nilK_138 srcT_138))) (And.intro (And.intro byt_138 (And.intro eqKs_138 tpl_138)) (And.intro (And.intro tf_138_0 tf_138_1) (And.intro cv_3_85 CfP)))))))))
-- FACTS: tsh_3, tzero_3, telem_3, lenK_3, nilK_3, srcT_3, byt_3, und_3, tsh_4, tzero_4, telem_4, lenK_4, nilK_4, srcT_4, byt_4, und_4, tsh_9, tzero_9, telem_9, lenK_9, nilK_9, srcT_9, byt_9, und_9, tsh_22, tzero_22, telem_22, lenK_22, nilK_22, srcT_22, byt_22, und_22, tsh_25, tzero_25, telem_25, lenK_25, nilK_25, srcT_25, byt_25, und_25, tsh_29, tzero_29, telem_29, lenK_29, nilK_29, srcT_29, byt_29, und_29, tsh_30, tzero_30, telem_30, lenK_30, nilK_30, srcT_30, byt_30, und_30, tsh_32, tzero_32, telem_32, lenK_32, nilK_32, srcT_32, byt_32, eqKs_32, tpl_32, tf_32_0, tf_32_1, tf_32_2, tf_32_3, tsh_34, tzero_34, telem_34, lenK_34, nilK_34, srcT_34, byt_34, eqKs_34, tpl_34, tf_34_0, tf_34_1, tf_34_2, tf_34_3, tf_34_4, tf_34_5, tf_34_6, tsh_35, tzero_35, telem_35, lenK_35, nilK_35, srcT_35, byt_35, und_35, tsh_36, tzero_36, telem_36, lenK_36, nilK_36, srcT_36, byt_36, und_36, tsh_38, tzero_38, telem_38, lenK_38, nilK_38, srcT_38, byt_38, tpl_38, tf_38_0, tf_38_1, tf_38_2, tsh_40, tzero_40, telem_40, lenK_40, nilK_40, srcT_40, byt_40, tpl_40, tf_40_0, tf_40_1, tf_40_2, tf_40_3, tf_40_4, tsh_41, tzero_41, telem_41, lenK_41, nilK_41, srcT_41, byt_41, und_41, tsh_44, tzero_44, telem_44, lenK_44, nilK_44, srcT_44, byt_44, tpl_44, tf_44_0, tf_44_1, tf_44_2, tf_44_3, tsh_46, tzero_46, telem_46, lenK_46, nilK_46, srcT_46, byt_46, und_46, tsh_48, tzero_48, telem_48, lenK_48, nilK_48, srcT_48, byt_48, tpl_48, tf_48_0, tf_48_1, tsh_57, tzero_57, telem_57, tarr_57, lenK_57, nilK_57, srcT_57, byt_57, eqKs_57, tpl_57, tsh_59, tzero_59, telem_59, lenK_59, nilK_59, srcT_59, byt_59, und_59, tsh_62, tzero_62, telem_62, lenK_62, nilK_62, srcT_62, byt_62, eqKs_62, tpl_62, tf_62_0, tf_62_1, tf_62_2, tsh_64, tzero_64, telem_64, lenK_64, nilK_64, srcT_64, byt_64, eqKs_64, tpl_64, tf_64_0, tf_64_1, tf_64_2, tf_64_3, tf_64_4, tf_64_5, tsh_67, tzero_67, telem_67, lenK_67, nilK_67, srcT_67, byt_67, tmap_67, tsh_68, tzero_68, telem_68, lenK_68, nilK_68, srcT_68, byt_68, tsh_71, tzero_71, telem_71, lenK_71, nilK_71, srcT_71, byt_71, tsh_72, tzero_72, telem_72, lenK_72, nilK_72, srcT_72, byt_72, tsh_76, tzero_76, telem_76, lenK_76, nilK_76, srcT_76, byt_76, und_76, tsh_77, tzero_77, telem_77, lenK_77, nilK_77, srcT_77, byt_77, und_77, tsh_79, tzero_79, telem_79, lenK_79, nilK_79, srcT_79, byt_79, tpl_79, tf_79_0, tf_79_1, tf_79_2, tsh_85, tzero_85, telem_85, lenK_85, nilK_85, srcT_85, byt_85, und_85, tsh_87, tzero_87, telem_87, lenK_87, nilK_87, srcT_87, byt_87, tmap_87, tsh_88, tzero_88, telem_88, lenK_88, nilK_88, srcT_88, byt_88, tmap_88, tsh_90, tzero_90, telem_90, lenK_90, nilK_90, srcT_90, byt_90, tpl_90, tf_90_0, tf_90_1, tsh_91, tzero_91, telem_91, lenK_91, nilK_91, srcT_91, byt_91, tsh_92, tzero_92, telem_92, lenK_92, nilK_92, srcT_92, byt_92, tmap_92, tsh_93, tzero_93, telem_93, lenK_93, nilK_93, srcT_93, byt_93, und_93, tsh_95, tzero_95, telem_95, lenK_95, nilK_95, srcT_95, byt_95, tpl_95, tf_95_0, tf_95_1, tsh_100, tzero_100, telem_100, lenK_100, nilK_100, srcT_100, byt_100, eqKs_100, tpl_100, tf_100_0, tf_100_1, tf_100_2, tsh_115, tzero_115, telem_115, lenK_115, nilK_115, srcT_115, byt_115, tsh_125, tzero_125, telem_125, lenK_125, nilK_125, srcT_125, byt_125, tsh_128, tzero_128, telem_128, lenK_128, nilK_128, srcT_128, byt_128, tsh_132, tzero_132, telem_132, lenK_132, nilK_132, srcT_132, byt_132, tsh_134, tzero_134, telem_134, lenK_134, nilK_134, srcT_134, byt_134, eqKs_134, tpl_134, tf_134_0, tf_134_1, tsh_138, tzero_138, telem_138, lenK_138, nilK_138, srcT_138, byt_138, eqKs_138, tpl_138, tf_138_0, tf_138_1, cv_3_85

end Go.Ev.F35
end
