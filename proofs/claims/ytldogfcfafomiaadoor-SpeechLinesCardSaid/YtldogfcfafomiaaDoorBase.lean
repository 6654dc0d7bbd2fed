/- A part of the proof: walks of the functions that the law calls. No condition. -/
import Derived.Test.YtldogfcfafomiaaDoorRun
import Derived.Test.YtldogfcfafomiaaDoorEvC
import Derived.Test.YtldogfcfafomiaaDoorCtr
set_option linter.all false
section
namespace Go.Ev.F32
open Go.Proofs Go.Ev
set_option maxRecDepth 100000
set_option linter.all false

/- the seat's configuration and facts -/
noncomputable def Cf : Cfg := { P := Tryd.prog, md := fun f => match f with | 3 => .imp | 4 => .imp | 5 => .imp | 6 => .imp | 7 => .pure | 8 => .pure | 9 => .pure | 10 => .pure | 11 => .pure | 12 => .pure | 13 => .pure | 14 => .pure | 15 => .pure | 16 => .pure | 17 => .pure | 18 => .ext sJSpec | 19 => .pure | 20 => .ext sSSpec | 21 => .imp | 22 => .pure | 26 => .pure | 27 => .pure | 28 => .pure | 30 => .pure | 31 => .imp | 32 => .pure | 33 => .pure | 39 => .ext sISpec | 40 => .ext sCSpec | _ => .no }
def okf (f : FuncId) : Bool := [3, 4, 5, 6, 7, 8, 9, 10, 11, 12, 13, 14, 15, 16, 17, 19, 21, 22, 26, 27, 28, 30, 31, 32, 33].contains f
theorem CfP : Cf.P = Tryd.prog := rfl
theorem okfOK : ∀ f, okf f = true → okFn Cf.P f = true := by
  have h : ([3, 4, 5, 6, 7, 8, 9, 10, 11, 12, 13, 14, 15, 16, 17, 19, 21, 22, 26, 27, 28, 30, 31, 32, 33].all fun f => okFn Tryd.prog f) = true := by decide +kernel
  intro f hf
  exact List.all_eq_true.1 h f (by simpa [okf] using hf)
theorem extOK : ExtOK Cf := by
  intro f spec h
  unfold Cf at h
  dsimp only at h
  split at h <;> cases h
  · exact fun args H Q h => sJ_ext h
  · exact fun args H Q h => sS_ext h
  · exact fun args H Q h => sI_ext h
  · exact fun args H Q h => sC_ext h
theorem md_18 : Cf.md 18 = .ext sJSpec := rfl
theorem md_20 : Cf.md 20 = .ext sSSpec := rfl
theorem md_39 : Cf.md 39 = .ext sISpec := rfl
theorem md_40 : Cf.md 40 = .ext sCSpec := rfl
theorem extMono : ExtMono Cf := by
  intro f spec h
  unfold Cf at h
  dsimp only at h
  split at h <;> cases h
  · exact fun args H Q Q' hq h => sJSpec_mono hq h
  · exact fun args H Q Q' hq h => sSSpec_mono hq h
  · exact fun args H Q Q' hq h => sISpec_mono hq h
  · exact fun args H Q Q' hq h => sCSpec_mono hq h
theorem md_3 : Cf.md 3 = .imp := rfl
noncomputable def c3 : Code := Tryd.f3.body.getD .skip
theorem body3 : Tryd.f3.body = some c3 := by kernel_rfl
theorem md_4 : Cf.md 4 = .imp := rfl
noncomputable def c4 : Code := Tryd.f4.body.getD .skip
theorem body4 : Tryd.f4.body = some c4 := by kernel_rfl
theorem md_5 : Cf.md 5 = .imp := rfl
noncomputable def c5 : Code := Tryd.f5.body.getD .skip
theorem body5 : Tryd.f5.body = some c5 := by kernel_rfl
theorem md_6 : Cf.md 6 = .imp := rfl
noncomputable def c6 : Code := Tryd.f6.body.getD .skip
theorem body6 : Tryd.f6.body = some c6 := by kernel_rfl
theorem md_7 : Cf.md 7 = .pure := rfl
noncomputable def c7 : Code := Tryd.f7.body.getD .skip
theorem body7 : Tryd.f7.body = some c7 := by kernel_rfl
theorem md_8 : Cf.md 8 = .pure := rfl
noncomputable def c8 : Code := Tryd.f8.body.getD .skip
theorem body8 : Tryd.f8.body = some c8 := by kernel_rfl
theorem md_9 : Cf.md 9 = .pure := rfl
noncomputable def c9 : Code := Tryd.f9.body.getD .skip
theorem body9 : Tryd.f9.body = some c9 := by kernel_rfl
theorem md_10 : Cf.md 10 = .pure := rfl
noncomputable def c10 : Code := Tryd.f10.body.getD .skip
theorem body10 : Tryd.f10.body = some c10 := by kernel_rfl
theorem md_11 : Cf.md 11 = .pure := rfl
noncomputable def c11 : Code := Tryd.f11.body.getD .skip
theorem body11 : Tryd.f11.body = some c11 := by kernel_rfl
theorem md_12 : Cf.md 12 = .pure := rfl
noncomputable def c12 : Code := Tryd.f12.body.getD .skip
theorem body12 : Tryd.f12.body = some c12 := by kernel_rfl
theorem md_13 : Cf.md 13 = .pure := rfl
noncomputable def c13 : Code := Tryd.f13.body.getD .skip
theorem body13 : Tryd.f13.body = some c13 := by kernel_rfl
theorem md_14 : Cf.md 14 = .pure := rfl
noncomputable def c14 : Code := Tryd.f14.body.getD .skip
theorem body14 : Tryd.f14.body = some c14 := by kernel_rfl
theorem md_15 : Cf.md 15 = .pure := rfl
noncomputable def c15 : Code := Tryd.f15.body.getD .skip
theorem body15 : Tryd.f15.body = some c15 := by kernel_rfl
theorem md_16 : Cf.md 16 = .pure := rfl
noncomputable def c16 : Code := Tryd.f16.body.getD .skip
theorem body16 : Tryd.f16.body = some c16 := by kernel_rfl
theorem md_17 : Cf.md 17 = .pure := rfl
noncomputable def c17 : Code := Tryd.f17.body.getD .skip
theorem body17 : Tryd.f17.body = some c17 := by kernel_rfl
theorem md_19 : Cf.md 19 = .pure := rfl
noncomputable def c19 : Code := Tryd.f19.body.getD .skip
theorem body19 : Tryd.f19.body = some c19 := by kernel_rfl
theorem md_21 : Cf.md 21 = .imp := rfl
noncomputable def c21 : Code := Tryd.f21.body.getD .skip
theorem body21 : Tryd.f21.body = some c21 := by kernel_rfl
theorem md_22 : Cf.md 22 = .pure := rfl
noncomputable def c22 : Code := Tryd.f22.body.getD .skip
theorem body22 : Tryd.f22.body = some c22 := by kernel_rfl
theorem md_26 : Cf.md 26 = .pure := rfl
noncomputable def c26 : Code := Tryd.f26.body.getD .skip
theorem body26 : Tryd.f26.body = some c26 := by kernel_rfl
theorem md_27 : Cf.md 27 = .pure := rfl
noncomputable def c27 : Code := Tryd.f27.body.getD .skip
theorem body27 : Tryd.f27.body = some c27 := by kernel_rfl
theorem md_28 : Cf.md 28 = .pure := rfl
noncomputable def c28 : Code := Tryd.f28.body.getD .skip
theorem body28 : Tryd.f28.body = some c28 := by kernel_rfl
theorem md_30 : Cf.md 30 = .pure := rfl
noncomputable def c30 : Code := Tryd.f30.body.getD .skip
theorem body30 : Tryd.f30.body = some c30 := by kernel_rfl
theorem md_31 : Cf.md 31 = .imp := rfl
noncomputable def c31 : Code := Tryd.f31.body.getD .skip
theorem body31 : Tryd.f31.body = some c31 := by kernel_rfl
theorem md_32 : Cf.md 32 = .pure := rfl
noncomputable def c32 : Code := Tryd.f32.body.getD .skip
theorem body32 : Tryd.f32.body = some c32 := by kernel_rfl
theorem md_33 : Cf.md 33 = .pure := rfl
noncomputable def c33 : Code := Tryd.f33.body.getD .skip
theorem body33 : Tryd.f33.body = some c33 := by kernel_rfl
def pl_4_7 : Pl := (.r 0 (.r 1 (.r 2 (.r 3 (.r 4 (.o 5 [3] (.r 6 (.r 7 (.r 8 (.o 9 [] (.r 10 (.r 11 .done)) .stop)))) .stop))))))
def pl_8_3 : Pl := (.r 1 (.r 2 (.o 0 [2] (.r 3 (.o 4 [] (.r 5 .done) .stop)) .stop)))
def pl_8_4 : Pl := (.r 1 (.r 2 (.r 6 (.o 0 [2] (.r 3 (.o 4 [] (.r 5 .done) .stop)) .stop))))
def pl_9_4 : Pl := (.r 0 (.r 1 (.r 2 (.r 3 (.r 4 (.r 5 (.o 6 [4, 3, 2] (.r 7 (.r 8 .done)) .stop)))))))
def pl_10_14 : Pl := (.r 1 (.r 2 (.r 6 (.o 0 [2] (.r 3 (.o 4 [] (.r 5 .done) .stop)) .stop))))
def pl_15_3 : Pl := (.r 0 (.r 1 (.r 3 (.r 4 (.r 5 (.r 6 (.o 2 [6] (.o 7 [] (.r 8 (.r 9 (.r 10 .done))) .stop) (.o 7 [] (.r 8 (.o 2 [8, 6] (.r 9 (.r 10 .done)) .stop)) .stop))))))))
def pl_19_4 : Pl := (.r 0 (.r 1 (.r 2 (.r 3 (.r 4 (.r 8 (.r 9 (.r 10 (.r 14 (.r 15 (.o 5 [15, 10, 9] (.r 6 (.r 7 (.o 11 [15] (.r 12 (.r 13 (.o 16 [] (.r 17 (.r 18 .done)) .stop))) .stop))) .stop)))))))))))
def pl_19_10 : Pl := (.r 0 (.r 1 (.r 2 (.r 3 (.r 7 (.r 8 (.r 9 (.r 10 (.r 14 (.r 15 (.r 16 (.r 17 (.r 21 (.r 22 (.r 23 (.r 24 (.o 4 [24, 23, 17, 16, 10, 9] (.r 5 (.r 6 (.o 11 [24, 23, 17, 16] (.r 12 (.r 13 (.o 18 [24, 23] (.r 19 (.r 20 (.o 25 [] (.r 26 (.r 27 .done)) .stop))) .stop))) .stop))) .stop)))))))))))))))))
def pl_32_14 : Pl := (.r 0 (.r 1 (.r 2 (.r 3 (.r 5 (.r 6 (.r 7 (.r 8 (.o 4 [] (.o 9 [] (.r 10 (.r 11 .done)) .stop) .stop)))))))))
theorem tsh_3 : tsh Tryd.prog 3 = some 0 := by decide +kernel
theorem tzero_3 : tzero Tryd.prog 3 = some (.p (.int .i64 0)) := by kernel_rfl
theorem telem_3 : telem Tryd.prog 3 = none := by decide +kernel
theorem lenK_3 : lenKind Tryd.prog 3 = (0, 0) := by decide +kernel
theorem nilK_3 : nilK Tryd.prog 3 = 0 := by decide +kernel
theorem srcT_3 : isSrcT Tryd.prog 3 = false := by decide +kernel
theorem byt_3 : Program.bytesOf Tryd.prog 3 = 8 := by decide +kernel
theorem und_3 : Program.underlying Tryd.prog 3 = some (.int .i64) := by kernel_rfl
theorem tsh_4 : tsh Tryd.prog 4 = some 0 := by decide +kernel
theorem tzero_4 : tzero Tryd.prog 4 = some (.p (.bool false)) := by kernel_rfl
theorem telem_4 : telem Tryd.prog 4 = none := by decide +kernel
theorem lenK_4 : lenKind Tryd.prog 4 = (0, 0) := by decide +kernel
theorem nilK_4 : nilK Tryd.prog 4 = 5 := by decide +kernel
theorem srcT_4 : isSrcT Tryd.prog 4 = false := by decide +kernel
theorem byt_4 : Program.bytesOf Tryd.prog 4 = 1 := by decide +kernel
theorem und_4 : Program.underlying Tryd.prog 4 = some .bool := by kernel_rfl
theorem tsh_5 : tsh Tryd.prog 5 = some 0 := by decide +kernel
theorem tzero_5 : tzero Tryd.prog 5 = some (.p (.int .u8 0)) := by kernel_rfl
theorem telem_5 : telem Tryd.prog 5 = none := by decide +kernel
theorem lenK_5 : lenKind Tryd.prog 5 = (0, 0) := by decide +kernel
theorem nilK_5 : nilK Tryd.prog 5 = 0 := by decide +kernel
theorem srcT_5 : isSrcT Tryd.prog 5 = false := by decide +kernel
theorem byt_5 : Program.bytesOf Tryd.prog 5 = 1 := by decide +kernel
theorem und_5 : Program.underlying Tryd.prog 5 = some (.int .u8) := by kernel_rfl
theorem tsh_9 : tsh Tryd.prog 9 = some 0 := by decide +kernel
theorem tzero_9 : tzero Tryd.prog 9 = some (.p (.str [])) := by kernel_rfl
theorem telem_9 : telem Tryd.prog 9 = none := by decide +kernel
theorem lenK_9 : lenKind Tryd.prog 9 = (2, 0) := by decide +kernel
theorem nilK_9 : nilK Tryd.prog 9 = 0 := by decide +kernel
theorem srcT_9 : isSrcT Tryd.prog 9 = true := by decide +kernel
theorem byt_9 : Program.bytesOf Tryd.prog 9 = 16 := by decide +kernel
theorem und_9 : Program.underlying Tryd.prog 9 = some .string := by kernel_rfl
theorem tsh_22 : tsh Tryd.prog 22 = some 0 := by decide +kernel
theorem tzero_22 : tzero Tryd.prog 22 = some (.p (.int .u64 0)) := by kernel_rfl
theorem telem_22 : telem Tryd.prog 22 = none := by decide +kernel
theorem lenK_22 : lenKind Tryd.prog 22 = (0, 0) := by decide +kernel
theorem nilK_22 : nilK Tryd.prog 22 = 0 := by decide +kernel
theorem srcT_22 : isSrcT Tryd.prog 22 = false := by decide +kernel
theorem byt_22 : Program.bytesOf Tryd.prog 22 = 8 := by decide +kernel
theorem und_22 : Program.underlying Tryd.prog 22 = some (.int .u64) := by kernel_rfl
theorem tsh_23 : tsh Tryd.prog 23 = some 0 := by decide +kernel
theorem tzero_23 : tzero Tryd.prog 23 = some (.p (.int .u32 0)) := by kernel_rfl
theorem telem_23 : telem Tryd.prog 23 = none := by decide +kernel
theorem lenK_23 : lenKind Tryd.prog 23 = (0, 0) := by decide +kernel
theorem nilK_23 : nilK Tryd.prog 23 = 0 := by decide +kernel
theorem srcT_23 : isSrcT Tryd.prog 23 = false := by decide +kernel
theorem byt_23 : Program.bytesOf Tryd.prog 23 = 4 := by decide +kernel
theorem und_23 : Program.underlying Tryd.prog 23 = some (.int .u32) := by kernel_rfl
theorem tsh_25 : tsh Tryd.prog 25 = some 4 := by decide +kernel
theorem tzero_25 : tzero Tryd.prog 25 = some (.p (.agg [.int .u32 0, .int .u32 0, .int .u32 0, .int .u32 0])) := by kernel_rfl
theorem telem_25 : telem Tryd.prog 25 = none := by decide +kernel
theorem lenK_25 : lenKind Tryd.prog 25 = (0, 0) := by decide +kernel
theorem nilK_25 : nilK Tryd.prog 25 = 0 := by decide +kernel
theorem srcT_25 : isSrcT Tryd.prog 25 = false := by decide +kernel
theorem byt_25 : Program.bytesOf Tryd.prog 25 = 16 := by decide +kernel
theorem eqKs_25 : eqKs Tryd.prog 25 = some [2, 2, 2, 2] := by decide +kernel
theorem tpl_25 : tplaces Tryd.prog 25 = some (.inl [(0, 1), (1, 1), (2, 1), (3, 1)]) := by kernel_rfl
theorem tf_25_0 : tfield Tryd.prog 25 0 = some (0, 0) := by decide +kernel
theorem tf_25_1 : tfield Tryd.prog 25 1 = some (1, 0) := by decide +kernel
theorem tf_25_2 : tfield Tryd.prog 25 2 = some (2, 0) := by decide +kernel
theorem tf_25_3 : tfield Tryd.prog 25 3 = some (3, 0) := by decide +kernel
theorem tsh_27 : tsh Tryd.prog 27 = some 10 := by decide +kernel
theorem tzero_27 : tzero Tryd.prog 27 = some (.p (.agg [.int .i64 0, .int .u64 0, .int .u32 0, .int .u32 0, .str [], .int .u32 0, .int .u32 0, .int .u32 0, .int .u32 0, .int .i64 0])) := by kernel_rfl
theorem telem_27 : telem Tryd.prog 27 = none := by decide +kernel
theorem lenK_27 : lenKind Tryd.prog 27 = (0, 0) := by decide +kernel
theorem nilK_27 : nilK Tryd.prog 27 = 0 := by decide +kernel
theorem srcT_27 : isSrcT Tryd.prog 27 = false := by decide +kernel
theorem byt_27 : Program.bytesOf Tryd.prog 27 = 64 := by decide +kernel
theorem eqKs_27 : eqKs Tryd.prog 27 = some [2, 2, 2, 2, 3, 2, 2, 2, 2, 2] := by decide +kernel
theorem tpl_27 : tplaces Tryd.prog 27 = some (.inl [(0, 1), (1, 1), (2, 1), (3, 1), (4, 1), (5, 4), (9, 1)]) := by kernel_rfl
theorem tf_27_0 : tfield Tryd.prog 27 0 = some (0, 0) := by decide +kernel
theorem tf_27_1 : tfield Tryd.prog 27 1 = some (1, 0) := by decide +kernel
theorem tf_27_2 : tfield Tryd.prog 27 2 = some (2, 0) := by decide +kernel
theorem tf_27_3 : tfield Tryd.prog 27 3 = some (3, 0) := by decide +kernel
theorem tf_27_4 : tfield Tryd.prog 27 4 = some (4, 0) := by decide +kernel
theorem tf_27_5 : tfield Tryd.prog 27 5 = some (5, 4) := by decide +kernel
theorem tf_27_6 : tfield Tryd.prog 27 6 = some (9, 0) := by decide +kernel
theorem tsh_29 : tsh Tryd.prog 29 = some 0 := by decide +kernel
theorem tzero_29 : tzero Tryd.prog 29 = some (.p (.int .i64 0)) := by kernel_rfl
theorem telem_29 : telem Tryd.prog 29 = none := by decide +kernel
theorem lenK_29 : lenKind Tryd.prog 29 = (0, 0) := by decide +kernel
theorem nilK_29 : nilK Tryd.prog 29 = 0 := by decide +kernel
theorem srcT_29 : isSrcT Tryd.prog 29 = false := by decide +kernel
theorem byt_29 : Program.bytesOf Tryd.prog 29 = 8 := by decide +kernel
theorem und_29 : Program.underlying Tryd.prog 29 = some (.int .i64) := by kernel_rfl
theorem tsh_37 : tsh Tryd.prog 37 = some 0 := by decide +kernel
theorem tzero_37 : tzero Tryd.prog 37 = some (.nsl) := by kernel_rfl
theorem telem_37 : telem Tryd.prog 37 = some (9, 0) := by decide +kernel
theorem lenK_37 : lenKind Tryd.prog 37 = (3, 0) := by decide +kernel
theorem nilK_37 : nilK Tryd.prog 37 = 4 := by decide +kernel
theorem srcT_37 : isSrcT Tryd.prog 37 = true := by decide +kernel
theorem byt_37 : Program.bytesOf Tryd.prog 37 = 24 := by decide +kernel
theorem und_37 : Program.underlying Tryd.prog 37 = some (.slice 9) := by kernel_rfl
theorem tsh_38 : tsh Tryd.prog 38 = some 0 := by decide +kernel
theorem tzero_38 : tzero Tryd.prog 38 = some (.nsl) := by kernel_rfl
theorem telem_38 : telem Tryd.prog 38 = some (27, 10) := by decide +kernel
theorem lenK_38 : lenKind Tryd.prog 38 = (3, 0) := by decide +kernel
theorem nilK_38 : nilK Tryd.prog 38 = 4 := by decide +kernel
theorem srcT_38 : isSrcT Tryd.prog 38 = true := by decide +kernel
theorem byt_38 : Program.bytesOf Tryd.prog 38 = 24 := by decide +kernel
theorem und_38 : Program.underlying Tryd.prog 38 = some (.slice 27) := by kernel_rfl
theorem tsh_42 : tsh Tryd.prog 42 = some 10 := by decide +kernel
theorem tzero_42 : tzero Tryd.prog 42 = some (.p (.agg [.str [], .str [], .str [], .str [], .str [], .str [], .str [], .str [], .str [], .str []])) := by kernel_rfl
theorem telem_42 : telem Tryd.prog 42 = none := by decide +kernel
theorem tarr_42 : tarr Tryd.prog 42 = some (10, 0) := by decide +kernel
theorem lenK_42 : lenKind Tryd.prog 42 = (1, 10) := by decide +kernel
theorem nilK_42 : nilK Tryd.prog 42 = 0 := by decide +kernel
theorem srcT_42 : isSrcT Tryd.prog 42 = false := by decide +kernel
theorem byt_42 : Program.bytesOf Tryd.prog 42 = 160 := by decide +kernel
theorem eqKs_42 : eqKs Tryd.prog 42 = some [3, 3, 3, 3, 3, 3, 3, 3, 3, 3] := by decide +kernel
theorem tpl_42 : tplaces Tryd.prog 42 = some (.inr 1) := by kernel_rfl
theorem tsh_44 : tsh Tryd.prog 44 = some 0 := by decide +kernel
theorem tzero_44 : tzero Tryd.prog 44 = some (.nsl) := by kernel_rfl
theorem telem_44 : telem Tryd.prog 44 = some (5, 0) := by decide +kernel
theorem lenK_44 : lenKind Tryd.prog 44 = (3, 0) := by decide +kernel
theorem nilK_44 : nilK Tryd.prog 44 = 4 := by decide +kernel
theorem srcT_44 : isSrcT Tryd.prog 44 = true := by decide +kernel
theorem byt_44 : Program.bytesOf Tryd.prog 44 = 24 := by decide +kernel
theorem und_44 : Program.underlying Tryd.prog 44 = some (.slice 5) := by kernel_rfl
theorem tsh_48 : tsh Tryd.prog 48 = some 4 := by decide +kernel
theorem tzero_48 : tzero Tryd.prog 48 = some (.p (.agg [.int .u32 0, .int .u32 0, .int .u32 0, .int .u32 0])) := by kernel_rfl
theorem telem_48 : telem Tryd.prog 48 = none := by decide +kernel
theorem tarr_48 : tarr Tryd.prog 48 = some (4, 0) := by decide +kernel
theorem lenK_48 : lenKind Tryd.prog 48 = (1, 4) := by decide +kernel
theorem nilK_48 : nilK Tryd.prog 48 = 0 := by decide +kernel
theorem srcT_48 : isSrcT Tryd.prog 48 = false := by decide +kernel
theorem byt_48 : Program.bytesOf Tryd.prog 48 = 16 := by decide +kernel
theorem eqKs_48 : eqKs Tryd.prog 48 = some [2, 2, 2, 2] := by decide +kernel
theorem tpl_48 : tplaces Tryd.prog 48 = some (.inr 1) := by kernel_rfl
theorem tsh_53 : tsh Tryd.prog 53 = some 0 := by decide +kernel
theorem tzero_53 : tzero Tryd.prog 53 = some (.p (.nptr)) := by kernel_rfl
theorem telem_53 : telem Tryd.prog 53 = none := by decide +kernel
theorem lenK_53 : lenKind Tryd.prog 53 = (0, 0) := by decide +kernel
theorem nilK_53 : nilK Tryd.prog 53 = 1 := by decide +kernel
theorem srcT_53 : isSrcT Tryd.prog 53 = false := by decide +kernel
theorem byt_53 : Program.bytesOf Tryd.prog 53 = 8 := by decide +kernel
theorem tsh_55 : tsh Tryd.prog 55 = some 0 := by decide +kernel
theorem tzero_55 : tzero Tryd.prog 55 = some (.p (.int .u64 0)) := by kernel_rfl
theorem telem_55 : telem Tryd.prog 55 = none := by decide +kernel
theorem lenK_55 : lenKind Tryd.prog 55 = (0, 0) := by decide +kernel
theorem nilK_55 : nilK Tryd.prog 55 = 0 := by decide +kernel
theorem srcT_55 : isSrcT Tryd.prog 55 = false := by decide +kernel
theorem byt_55 : Program.bytesOf Tryd.prog 55 = 8 := by decide +kernel
theorem und_55 : Program.underlying Tryd.prog 55 = some (.int .u64) := by kernel_rfl
theorem tsh_58 : tsh Tryd.prog 58 = some 2 := by decide +kernel
theorem tzero_58 : tzero Tryd.prog 58 = some (.agg [.p (.nptr), .nsl]) := by kernel_rfl
theorem telem_58 : telem Tryd.prog 58 = none := by decide +kernel
theorem lenK_58 : lenKind Tryd.prog 58 = (0, 0) := by decide +kernel
theorem nilK_58 : nilK Tryd.prog 58 = 0 := by decide +kernel
theorem srcT_58 : isSrcT Tryd.prog 58 = false := by decide +kernel
theorem byt_58 : Program.bytesOf Tryd.prog 58 = 32 := by decide +kernel
theorem tpl_58 : tplaces Tryd.prog 58 = some (.inl [(0, 1), (1, 1)]) := by kernel_rfl
theorem tf_58_0 : tfield Tryd.prog 58 0 = some (0, 0) := by decide +kernel
theorem tf_58_1 : tfield Tryd.prog 58 1 = some (1, 0) := by decide +kernel
theorem tsh_69 : tsh Tryd.prog 69 = some 0 := by decide +kernel
theorem tzero_69 : tzero Tryd.prog 69 = some (.p (.nptr)) := by kernel_rfl
theorem telem_69 : telem Tryd.prog 69 = none := by decide +kernel
theorem lenK_69 : lenKind Tryd.prog 69 = (0, 0) := by decide +kernel
theorem nilK_69 : nilK Tryd.prog 69 = 1 := by decide +kernel
theorem srcT_69 : isSrcT Tryd.prog 69 = false := by decide +kernel
theorem byt_69 : Program.bytesOf Tryd.prog 69 = 8 := by decide +kernel
theorem cv_3_5 : cvKind Tryd.prog 3 5 = .plain := by kernel_rfl
theorem cv_3_22 : cvKind Tryd.prog 3 22 = .plain := by kernel_rfl
theorem cv_5_22 : cvKind Tryd.prog 5 22 = .plain := by kernel_rfl
theorem cv_9_44 : cvKind Tryd.prog 9 44 = .toBytes := by kernel_rfl
theorem cv_22_3 : cvKind Tryd.prog 22 3 = .plain := by kernel_rfl
theorem cv_22_5 : cvKind Tryd.prog 22 5 = .plain := by kernel_rfl
theorem cv_22_23 : cvKind Tryd.prog 22 23 = .plain := by kernel_rfl
theorem cv_23_22 : cvKind Tryd.prog 23 22 = .plain := by kernel_rfl
theorem cv_44_9 : cvKind Tryd.prog 44 9 = .toStr := by kernel_rfl
def wkF := (And.intro (And.intro (And.intro (And.intro (And.intro (And.intro (And.intro tsh_3 tzero_3) (And.intro telem_3 (And.intro lenK_3 nilK_3))) (And.intro (And.intro srcT_3 byt_3) (And.intro und_3 (And.intro tsh_4 tzero_4)))) (And.intro (And.intro (And.intro telem_4 lenK_4) (And.intro nilK_4 (And.intro srcT_4 byt_4))) (And.intro (And.intro und_4 (And.intro tsh_5 tzero_5)) (And.intro telem_5 (And.intro lenK_5 nilK_5))))) (And.intro (And.intro (And.intro (And.intro srcT_5 byt_5) (And.intro und_5 (And.intro tsh_9 tzero_9))) (And.intro (And.intro telem_9 lenK_9) (And.intro nilK_9 (And.intro srcT_9 byt_9)))) (And.intro (And.intro (And.intro und_9 tsh_22) (And.intro tzero_22 (And.intro telem_22 lenK_22))) (And.intro (And.intro nilK_22 (And.intro srcT_22 byt_22)) (And.intro und_22 (And.intro tsh_23 tzero_23)))))) (And.intro (And.intro (And.intro (And.intro (And.intro telem_23 lenK_23) (And.intro nilK_23 (And.intro srcT_23 byt_23))) (And.intro (And.intro und_23 tsh_25) (And.intro tzero_25 (And.intro telem_25 lenK_25)))) (And.intro (And.intro (And.intro nilK_25 srcT_25) (And.intro byt_25 (And.intro eqKs_25 tpl_25))) (And.intro (And.intro tf_25_0 (And.intro tf_25_1 tf_25_2)) (And.intro tf_25_3 (And.intro tsh_27 tzero_27))))) (And.intro (And.intro (And.intro (And.intro telem_27 lenK_27) (And.intro nilK_27 (And.intro srcT_27 byt_27))) (And.intro (And.intro eqKs_27 (And.intro tpl_27 tf_27_0)) (And.intro tf_27_1 (And.intro tf_27_2 tf_27_3)))) (And.intro (And.intro (And.intro tf_27_4 tf_27_5) (And.intro tf_27_6 (And.intro tsh_29 tzero_29))) (And.intro (And.intro telem_29 (And.intro lenK_29 nilK_29)) (And.intro srcT_29 (And.intro byt_29 und_29))))))) (And.intro (And.intro (And.intro (And.intro (And.intro (And.intro tsh_37 tzero_37) (And.intro telem_37 (And.intro lenK_37 nilK_37))) (And.intro (And.intro srcT_37 byt_37) (And.intro und_37 (And.intro tsh_38 tzero_38)))) (And.intro (And.intro (And.intro telem_38 lenK_38) (And.intro nilK_38 (And.intro srcT_38 byt_38))) (And.intro (And.intro und_38 (And.intro tsh_42 tzero_42)) (And.intro telem_42 (And.intro tarr_42 lenK_42))))) (And.intro (And.intro (And.intro (And.intro nilK_42 srcT_42) (And.intro byt_42 (And.intro eqKs_42 tpl_42))) (And.intro (And.intro tsh_44 (And.intro tzero_44 telem_44)) (And.intro lenK_44 (And.intro nilK_44 srcT_44)))) (And.intro (And.intro (And.intro byt_44 und_44) (And.intro tsh_48 (And.intro tzero_48 telem_48))) (And.intro (And.intro tarr_48 (And.intro lenK_48 nilK_48)) (And.intro srcT_48 (And.intro byt_48 eqKs_48)))))) (And.intro (And.intro (And.intro (And.intro (And.intro tpl_48 tsh_53) (And.intro tzero_53 (And.intro telem_53 lenK_53))) (And.intro (And.intro nilK_53 srcT_53) (And.intro byt_53 (And.intro tsh_55 tzero_55)))) (And.intro (And.intro (And.intro telem_55 lenK_55) (And.intro nilK_55 (And.intro srcT_55 byt_55))) (And.intro (And.intro und_55 (And.intro tsh_58 tzero_58)) (And.intro telem_58 (And.intro lenK_58 nilK_58))))) (And.intro (And.intro (And.intro (And.intro srcT_58 byt_58) (And.intro tpl_58 (And.intro tf_58_0 tf_58_1))) (And.intro (And.intro tsh_69 (And.intro tzero_69 telem_69)) (And.intro lenK_69 (And.intro nilK_69 srcT_69)))) (And.intro (And.intro (And.intro byt_69 cv_3_5) (And.intro cv_3_22 (And.intro cv_5_22 cv_9_44))) (And.intro (And.intro cv_22_3 (And.intro cv_22_5 cv_22_23)) (And.intro cv_23_22 (And.intro cv_44_9 CfP))))))))
-- FACTS: tsh_3, tzero_3, telem_3, lenK_3, nilK_3, srcT_3, byt_3, und_3, tsh_4, tzero_4, telem_4, lenK_4, nilK_4, srcT_4, byt_4, und_4, tsh_5, tzero_5, telem_5, lenK_5, nilK_5, srcT_5, byt_5, und_5, tsh_9, tzero_9, telem_9, lenK_9, nilK_9, srcT_9, byt_9, und_9, tsh_22, tzero_22, telem_22, lenK_22, nilK_22, srcT_22, byt_22, und_22, tsh_23, tzero_23, telem_23, lenK_23, nilK_23, srcT_23, byt_23, und_23, tsh_25, tzero_25, telem_25, lenK_25, nilK_25, srcT_25, byt_25, eqKs_25, tpl_25, tf_25_0, tf_25_1, tf_25_2, tf_25_3, tsh_27, tzero_27, telem_27, lenK_27, nilK_27, srcT_27, byt_27, eqKs_27, tpl_27, tf_27_0, tf_27_1, tf_27_2, tf_27_3, tf_27_4, tf_27_5, tf_27_6, tsh_29, tzero_29, telem_29, lenK_29, nilK_29, srcT_29, byt_29, und_29, tsh_37, tzero_37, telem_37, lenK_37, nilK_37, srcT_37, byt_37, und_37, tsh_38, tzero_38, telem_38, lenK_38, nilK_38, srcT_38, byt_38, und_38, tsh_42, tzero_42, telem_42, tarr_42, lenK_42, nilK_42, srcT_42, byt_42, eqKs_42, tpl_42, tsh_44, tzero_44, telem_44, lenK_44, nilK_44, srcT_44, byt_44, und_44, tsh_48, tzero_48, telem_48, tarr_48, lenK_48, nilK_48, srcT_48, byt_48, eqKs_48, tpl_48, tsh_53, tzero_53, telem_53, lenK_53, nilK_53, srcT_53, byt_53, tsh_55, tzero_55, telem_55, lenK_55, nilK_55, srcT_55, byt_55, und_55, tsh_58, tzero_58, telem_58, lenK_58, nilK_58, srcT_58, byt_58, tpl_58, tf_58_0, tf_58_1, tsh_69, tzero_69, telem_69, lenK_69, nilK_69, srcT_69, byt_69, cv_3_5, cv_3_22, cv_5_22, cv_9_44, cv_22_3, cv_22_5, cv_22_23, cv_23_22, cv_44_9

end Go.Ev.F32
end
