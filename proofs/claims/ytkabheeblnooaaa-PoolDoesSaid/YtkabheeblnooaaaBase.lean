/- A part of the proof: walks of the functions that the law calls. No condition. -/
import Derived.Test.YtkabheeblnooaaaProg
import Derived.Test.YtkabheeblnooaaaRun
import Derived.Test.YtkabheeblnooaaaEvC
set_option linter.all false
section
namespace Go.Ev.F28
open Go.Ev
set_option linter.all false
/-- A page's cells: one byte, and zeros. -/
def pgL (b : UInt8) : List PV := .int .u8 b.toNat :: List.replicate 223 (.int .u8 0)
def KS : List Nat := List.replicate 224 2
theorem pgL_len (b : UInt8) : (pgL b).length = 224 := by unfold pgL; rw [List.length_cons, List.length_replicate]
theorem allP_map : ∀ l : List PV, allP (l.map AV.p) = some l
  | [] => rfl
  | x :: l => by simp [allP, allP_map l]
theorem flatL_rep : ∀ n, flatL (List.replicate n (.int .u8 0)) = true
  | 0 => rfl
  | n + 1 => by simp [List.replicate_succ, flatL, PV.flat, flatL_rep n]
theorem flatL_app : ∀ a b : List PV, flatL (a ++ b) = (flatL a && flatL b)
  | [], b => by simp [flatL]
  | x :: a, b => by simp [flatL, flatL_app a b, Bool.and_assoc]
theorem flat_pg (b : UInt8) : flatL (pgL b) = true := by unfold pgL; rw [flatL, flatL_rep]; rfl
theorem take_pg (b : UInt8) (r : List PV) : List.take 224 (pgL b ++ r) = pgL b := List.take_left' (pgL_len b)
theorem take_pgm (b : UInt8) (r : List PV) : List.take 224 (List.map AV.p (pgL b ++ r)) = List.map AV.p (pgL b) := by rw [← List.map_take, take_pg]
theorem get_pg (b : UInt8) (r : List PV) (k : Nat) : (pgL b ++ r)[224 + k]? = r[k]? := by rw [List.getElem?_append_right (by rw [pgL_len]; omega), pgL_len, Nat.add_sub_cancel_left]
theorem get0 (b : UInt8) (x : PV) (r : List PV) : (pgL b ++ x :: r)[224]? = some x := get_pg b _ 0
theorem get1 (b : UInt8) (x y : PV) (r : List PV) : (pgL b ++ x :: y :: r)[225]? = some y := get_pg b _ 1
theorem get2 (b : UInt8) (x y z : PV) (r : List PV) : (pgL b ++ x :: y :: z :: r)[226]? = some z := get_pg b _ 2
theorem getm0 (b : UInt8) (x : PV) (r : List PV) : (List.map AV.p (pgL b ++ x :: r))[224]? = some (.p x) := by rw [List.getElem?_map, get0]; rfl
theorem getm1 (b : UInt8) (x y : PV) (r : List PV) : (List.map AV.p (pgL b ++ x :: y :: r))[225]? = some (.p y) := by rw [List.getElem?_map, get1]; rfl
theorem getm2 (b : UInt8) (x y z : PV) (r : List PV) : (List.map AV.p (pgL b ++ x :: y :: z :: r))[226]? = some (.p z) := by rw [List.getElem?_map, get2]; rfl
theorem get00 (b : UInt8) : (pgL b)[0]? = some (.int .u8 b.toNat) := rfl
theorem getm00 (b : UInt8) : (List.map AV.p (pgL b))[0]? = some (.p (.int .u8 b.toNat)) := rfl
theorem set_pg (b : UInt8) (r : List PV) (k : Nat) (x : PV) : (pgL b ++ r).set (224 + k) x = pgL b ++ r.set k x := by
  rw [List.set_append_right _ _ (by rw [pgL_len]; omega), pgL_len, Nat.add_sub_cancel_left]
theorem setm0 (b : UInt8) (x x' : PV) (r : List PV) : (List.map AV.p (pgL b ++ x :: r)).set 224 (.p x') = List.map AV.p (pgL b ++ x' :: r) := by rw [← List.map_set, set_pg b _ 0]; rfl
theorem setm1 (b : UInt8) (x y y' : PV) (r : List PV) : (List.map AV.p (pgL b ++ x :: y :: r)).set 225 (.p y') = List.map AV.p (pgL b ++ x :: y' :: r) := by rw [← List.map_set, set_pg b _ 1]; rfl
theorem setm2 (b : UInt8) (x y z z' : PV) (r : List PV) : (List.map AV.p (pgL b ++ x :: y :: z :: r)).set 226 (.p z') = List.map AV.p (pgL b ++ x :: y :: z' :: r) := by rw [← List.map_set, set_pg b _ 2]; rfl
theorem setm00 (b c : UInt8) : (List.map AV.p (pgL b)).set 0 (.p (.int .u8 c.toNat)) = List.map AV.p (pgL c) := rfl
theorem setR_app {α : Type} : ∀ (ys a b : List α) (pre : List α), ys.length = a.length → setR (pre ++ (a ++ b)) pre.length ys = pre ++ (ys ++ b)
  | [], a, b, pre, h => by
    have : a = [] := List.length_eq_zero_iff.1 h.symm
    subst this; rfl
  | y :: ys, a, b, pre, h => by
    cases a with
    | nil => simp at h
    | cons x a =>
      simp only [setR]
      have e : (pre ++ (x :: a ++ b)).set pre.length y = (pre ++ [y]) ++ (a ++ b) := by simp
      have l : pre.length + 1 = (pre ++ [y]).length := by simp
      rw [e, l, setR_app ys a b (pre ++ [y]) (by simpa using h)]
      simp
theorem setR_pg (b c : UInt8) (r : List PV) : setR (List.map AV.p (pgL b ++ r)) 0 (List.map AV.p (pgL c)) = List.map AV.p (pgL c ++ r) := by
  rw [List.map_append, List.map_append]
  exact setR_app (List.map AV.p (pgL c)) (List.map AV.p (pgL b)) (List.map AV.p r) [] (by simp [pgL_len])
theorem setR_pg1 (x : AV) (b c : UInt8) (r : List PV) : setR (x :: List.map AV.p (pgL b ++ r)) 1 (List.map AV.p (pgL c)) = x :: List.map AV.p (pgL c ++ r) := by
  rw [List.map_append, List.map_append]
  exact setR_app (List.map AV.p (pgL c)) (List.map AV.p (pgL b)) (List.map AV.p r) [x] (by simp [pgL_len])
theorem cellsEq_rep : ∀ n, cellsEq (List.replicate n 2) (List.replicate n (.int .u8 0)) (List.replicate n (.int .u8 0)) = some true
  | 0 => rfl
  | n + 1 => by simp [List.replicate_succ, cellsEq, leafEq, cellsEq_rep n]
theorem eq_pg (b c : UInt8) : cellsEq KS (pgL b) (pgL c) = some (decide (b = c)) := by
  show cellsEq (List.replicate (223 + 1) 2) _ _ = _
  rw [List.replicate_succ]
  simp only [pgL, cellsEq, leafEq, cellsEq_rep, if_true]
  congr 1
  simp only [Bool.and_true]
  by_cases h : b = c
  · subst h; simp
  · have : ¬ b.toNat = c.toNat := fun e => h (UInt8.toNat_inj.1 e)
    simp only [h, decide_false, beq_eq_false_iff_ne, ne_eq]
    omega
theorem pg_inj {b c : UInt8} (h : pgL b = pgL c) : b = c := by
  simp only [pgL, List.cons.injEq, PV.int.injEq] at h
  exact UInt8.toNat_inj.1 (by omega)
end Go.Ev.F28
end
section
namespace Go.Ev.F28
open Go.Proofs Go.Ev
set_option maxRecDepth 100000
set_option linter.all false

/- the seat's configuration and facts -/
noncomputable def Cf : Cfg := { P := Try.prog, md := fun f => match f with | 3 => .imp | 4 => .imp | 5 => .imp | 6 => .pure | 7 => .imp | 8 => .imp | 9 => .imp | 10 => .imp | 11 => .imp | 12 => .pure | 13 => .imp | 14 => .imp | 15 => .imp | 16 => .imp | 17 => .imp | 18 => .imp | 19 => .imp | 20 => .imp | 21 => .imp | 22 => .imp | 23 => .imp | 24 => .imp | 25 => .imp | 26 => .imp | 27 => .pure | 28 => .pure | 29 => .pure | 30 => .pure | 31 => .imp | 32 => .pure | 33 => .imp | 34 => .imp | 35 => .imp | 36 => .pure | 37 => .pure | 38 => .imp | 39 => .pure | 40 => .pure | 41 => .imp | 42 => .imp | 43 => .pure | 44 => .imp | 45 => .imp | 46 => .imp | 47 => .imp | 48 => .imp | 49 => .imp | 50 => .pure | 51 => .imp | 52 => .imp | 54 => .pure | 55 => .imp | 56 => .pure | 57 => .imp | 59 => .imp | 60 => .pure | 61 => .imp | _ => .no }
def okf (f : FuncId) : Bool := [3, 4, 5, 6, 7, 8, 9, 10, 11, 12, 13, 14, 15, 16, 17, 18, 19, 20, 21, 22, 23, 24, 25, 26, 27, 28, 29, 30, 31, 32, 33, 34, 35, 36, 37, 38, 39, 40, 41, 42, 43, 44, 45, 46, 47, 48, 49, 50, 51, 52, 54, 55, 56, 57, 59, 60, 61].contains f
theorem CfP : Cf.P = Try.prog := rfl
theorem okfOK : ∀ f, okf f = true → okFn Cf.P f = true := by
  have h : ([3, 4, 5, 6, 7, 8, 9, 10, 11, 12, 13, 14, 15, 16, 17, 18, 19, 20, 21, 22, 23, 24, 25, 26, 27, 28, 29, 30, 31, 32, 33, 34, 35, 36, 37, 38, 39, 40, 41, 42, 43, 44, 45, 46, 47, 48, 49, 50, 51, 52, 54, 55, 56, 57, 59, 60, 61].all fun f => okFn Try.prog f) = true := by decide +kernel
  intro f hf
  exact List.all_eq_true.1 h f (by simpa [okf] using hf)
theorem extOK : ExtOK Cf := by
  intro f spec h
  unfold Cf at h
  dsimp only at h
  split at h <;> cases h
theorem extMono : ExtMono Cf := by
  intro f spec h
  unfold Cf at h
  dsimp only at h
  split at h <;> cases h
theorem md_3 : Cf.md 3 = .imp := rfl
noncomputable def c3 : Code := Try.f3.body.getD .skip
theorem body3 : Try.f3.body = some c3 := by kernel_rfl
theorem md_4 : Cf.md 4 = .imp := rfl
noncomputable def c4 : Code := Try.f4.body.getD .skip
theorem body4 : Try.f4.body = some c4 := by kernel_rfl
theorem md_5 : Cf.md 5 = .imp := rfl
noncomputable def c5 : Code := Try.f5.body.getD .skip
theorem body5 : Try.f5.body = some c5 := by kernel_rfl
theorem md_6 : Cf.md 6 = .pure := rfl
noncomputable def c6 : Code := Try.f6.body.getD .skip
theorem body6 : Try.f6.body = some c6 := by kernel_rfl
theorem md_7 : Cf.md 7 = .imp := rfl
noncomputable def c7 : Code := Try.f7.body.getD .skip
theorem body7 : Try.f7.body = some c7 := by kernel_rfl
theorem md_8 : Cf.md 8 = .imp := rfl
noncomputable def c8 : Code := Try.f8.body.getD .skip
theorem body8 : Try.f8.body = some c8 := by kernel_rfl
theorem md_9 : Cf.md 9 = .imp := rfl
noncomputable def c9 : Code := Try.f9.body.getD .skip
theorem body9 : Try.f9.body = some c9 := by kernel_rfl
theorem md_10 : Cf.md 10 = .imp := rfl
noncomputable def c10 : Code := Try.f10.body.getD .skip
theorem body10 : Try.f10.body = some c10 := by kernel_rfl
theorem md_11 : Cf.md 11 = .imp := rfl
noncomputable def c11 : Code := Try.f11.body.getD .skip
theorem body11 : Try.f11.body = some c11 := by kernel_rfl
theorem md_12 : Cf.md 12 = .pure := rfl
noncomputable def c12 : Code := Try.f12.body.getD .skip
theorem body12 : Try.f12.body = some c12 := by kernel_rfl
theorem md_13 : Cf.md 13 = .imp := rfl
noncomputable def c13 : Code := Try.f13.body.getD .skip
theorem body13 : Try.f13.body = some c13 := by kernel_rfl
theorem md_14 : Cf.md 14 = .imp := rfl
noncomputable def c14 : Code := Try.f14.body.getD .skip
theorem body14 : Try.f14.body = some c14 := by kernel_rfl
theorem md_15 : Cf.md 15 = .imp := rfl
noncomputable def c15 : Code := Try.f15.body.getD .skip
theorem body15 : Try.f15.body = some c15 := by kernel_rfl
theorem md_16 : Cf.md 16 = .imp := rfl
noncomputable def c16 : Code := Try.f16.body.getD .skip
theorem body16 : Try.f16.body = some c16 := by kernel_rfl
theorem md_17 : Cf.md 17 = .imp := rfl
noncomputable def c17 : Code := Try.f17.body.getD .skip
theorem body17 : Try.f17.body = some c17 := by kernel_rfl
theorem md_18 : Cf.md 18 = .imp := rfl
noncomputable def c18 : Code := Try.f18.body.getD .skip
theorem body18 : Try.f18.body = some c18 := by kernel_rfl
theorem md_19 : Cf.md 19 = .imp := rfl
noncomputable def c19 : Code := Try.f19.body.getD .skip
theorem body19 : Try.f19.body = some c19 := by kernel_rfl
theorem md_20 : Cf.md 20 = .imp := rfl
noncomputable def c20 : Code := Try.f20.body.getD .skip
theorem body20 : Try.f20.body = some c20 := by kernel_rfl
theorem md_21 : Cf.md 21 = .imp := rfl
noncomputable def c21 : Code := Try.f21.body.getD .skip
theorem body21 : Try.f21.body = some c21 := by kernel_rfl
theorem md_22 : Cf.md 22 = .imp := rfl
noncomputable def c22 : Code := Try.f22.body.getD .skip
theorem body22 : Try.f22.body = some c22 := by kernel_rfl
theorem md_23 : Cf.md 23 = .imp := rfl
noncomputable def c23 : Code := Try.f23.body.getD .skip
theorem body23 : Try.f23.body = some c23 := by kernel_rfl
theorem md_24 : Cf.md 24 = .imp := rfl
noncomputable def c24 : Code := Try.f24.body.getD .skip
theorem body24 : Try.f24.body = some c24 := by kernel_rfl
theorem md_25 : Cf.md 25 = .imp := rfl
noncomputable def c25 : Code := Try.f25.body.getD .skip
theorem body25 : Try.f25.body = some c25 := by kernel_rfl
theorem md_26 : Cf.md 26 = .imp := rfl
noncomputable def c26 : Code := Try.f26.body.getD .skip
theorem body26 : Try.f26.body = some c26 := by kernel_rfl
theorem md_27 : Cf.md 27 = .pure := rfl
noncomputable def c27 : Code := Try.f27.body.getD .skip
theorem body27 : Try.f27.body = some c27 := by kernel_rfl
theorem md_28 : Cf.md 28 = .pure := rfl
noncomputable def c28 : Code := Try.f28.body.getD .skip
theorem body28 : Try.f28.body = some c28 := by kernel_rfl
theorem md_29 : Cf.md 29 = .pure := rfl
noncomputable def c29 : Code := Try.f29.body.getD .skip
theorem body29 : Try.f29.body = some c29 := by kernel_rfl
theorem md_30 : Cf.md 30 = .pure := rfl
noncomputable def c30 : Code := Try.f30.body.getD .skip
theorem body30 : Try.f30.body = some c30 := by kernel_rfl
theorem md_31 : Cf.md 31 = .imp := rfl
noncomputable def c31 : Code := Try.f31.body.getD .skip
theorem body31 : Try.f31.body = some c31 := by kernel_rfl
theorem md_32 : Cf.md 32 = .pure := rfl
noncomputable def c32 : Code := Try.f32.body.getD .skip
theorem body32 : Try.f32.body = some c32 := by kernel_rfl
theorem md_33 : Cf.md 33 = .imp := rfl
noncomputable def c33 : Code := Try.f33.body.getD .skip
theorem body33 : Try.f33.body = some c33 := by kernel_rfl
theorem md_34 : Cf.md 34 = .imp := rfl
noncomputable def c34 : Code := Try.f34.body.getD .skip
theorem body34 : Try.f34.body = some c34 := by kernel_rfl
theorem md_35 : Cf.md 35 = .imp := rfl
noncomputable def c35 : Code := Try.f35.body.getD .skip
theorem body35 : Try.f35.body = some c35 := by kernel_rfl
theorem md_36 : Cf.md 36 = .pure := rfl
noncomputable def c36 : Code := Try.f36.body.getD .skip
theorem body36 : Try.f36.body = some c36 := by kernel_rfl
theorem md_37 : Cf.md 37 = .pure := rfl
noncomputable def c37 : Code := Try.f37.body.getD .skip
theorem body37 : Try.f37.body = some c37 := by kernel_rfl
theorem md_38 : Cf.md 38 = .imp := rfl
noncomputable def c38 : Code := Try.f38.body.getD .skip
theorem body38 : Try.f38.body = some c38 := by kernel_rfl
theorem md_39 : Cf.md 39 = .pure := rfl
noncomputable def c39 : Code := Try.f39.body.getD .skip
theorem body39 : Try.f39.body = some c39 := by kernel_rfl
theorem md_40 : Cf.md 40 = .pure := rfl
noncomputable def c40 : Code := Try.f40.body.getD .skip
theorem body40 : Try.f40.body = some c40 := by kernel_rfl
theorem md_41 : Cf.md 41 = .imp := rfl
noncomputable def c41 : Code := Try.f41.body.getD .skip
theorem body41 : Try.f41.body = some c41 := by kernel_rfl
theorem md_42 : Cf.md 42 = .imp := rfl
noncomputable def c42 : Code := Try.f42.body.getD .skip
theorem body42 : Try.f42.body = some c42 := by kernel_rfl
theorem md_43 : Cf.md 43 = .pure := rfl
noncomputable def c43 : Code := Try.f43.body.getD .skip
theorem body43 : Try.f43.body = some c43 := by kernel_rfl
theorem md_44 : Cf.md 44 = .imp := rfl
noncomputable def c44 : Code := Try.f44.body.getD .skip
theorem body44 : Try.f44.body = some c44 := by kernel_rfl
theorem md_45 : Cf.md 45 = .imp := rfl
noncomputable def c45 : Code := Try.f45.body.getD .skip
theorem body45 : Try.f45.body = some c45 := by kernel_rfl
theorem md_46 : Cf.md 46 = .imp := rfl
noncomputable def c46 : Code := Try.f46.body.getD .skip
theorem body46 : Try.f46.body = some c46 := by kernel_rfl
theorem md_47 : Cf.md 47 = .imp := rfl
noncomputable def c47 : Code := Try.f47.body.getD .skip
theorem body47 : Try.f47.body = some c47 := by kernel_rfl
theorem md_48 : Cf.md 48 = .imp := rfl
noncomputable def c48 : Code := Try.f48.body.getD .skip
theorem body48 : Try.f48.body = some c48 := by kernel_rfl
theorem md_49 : Cf.md 49 = .imp := rfl
noncomputable def c49 : Code := Try.f49.body.getD .skip
theorem body49 : Try.f49.body = some c49 := by kernel_rfl
theorem md_50 : Cf.md 50 = .pure := rfl
noncomputable def c50 : Code := Try.f50.body.getD .skip
theorem body50 : Try.f50.body = some c50 := by kernel_rfl
theorem md_51 : Cf.md 51 = .imp := rfl
noncomputable def c51 : Code := Try.f51.body.getD .skip
theorem body51 : Try.f51.body = some c51 := by kernel_rfl
theorem md_52 : Cf.md 52 = .imp := rfl
noncomputable def c52 : Code := Try.f52.body.getD .skip
theorem body52 : Try.f52.body = some c52 := by kernel_rfl
theorem md_54 : Cf.md 54 = .pure := rfl
noncomputable def c54 : Code := Try.f54.body.getD .skip
theorem body54 : Try.f54.body = some c54 := by kernel_rfl
theorem md_55 : Cf.md 55 = .imp := rfl
noncomputable def c55 : Code := Try.f55.body.getD .skip
theorem body55 : Try.f55.body = some c55 := by kernel_rfl
theorem md_56 : Cf.md 56 = .pure := rfl
noncomputable def c56 : Code := Try.f56.body.getD .skip
theorem body56 : Try.f56.body = some c56 := by kernel_rfl
theorem md_57 : Cf.md 57 = .imp := rfl
noncomputable def c57 : Code := Try.f57.body.getD .skip
theorem body57 : Try.f57.body = some c57 := by kernel_rfl
theorem md_59 : Cf.md 59 = .imp := rfl
noncomputable def c59 : Code := Try.f59.body.getD .skip
theorem body59 : Try.f59.body = some c59 := by kernel_rfl
theorem md_60 : Cf.md 60 = .pure := rfl
noncomputable def c60 : Code := Try.f60.body.getD .skip
theorem body60 : Try.f60.body = some c60 := by kernel_rfl
theorem md_61 : Cf.md 61 = .imp := rfl
noncomputable def c61 : Code := Try.f61.body.getD .skip
theorem body61 : Try.f61.body = some c61 := by kernel_rfl
def pl_4_23 : Pl := (.r 0 (.r 1 (.r 2 (.r 3 (.r 4 (.o 5 [2] (.o 6 [] (.r 7 .done) .stop) .stop))))))
def pl_4_24 : Pl := (.r 0 (.r 1 (.r 2 (.r 3 (.r 4 (.o 5 [2] (.r 6 (.o 7 [] .done .stop)) .stop))))))
def pl_4_27 : Pl := (.r 0 (.r 1 (.r 2 (.r 3 (.r 4 (.r 5 (.r 6 (.r 7 (.r 8 (.r 9 (.r 10 (.r 11 (.o 12 [2] (.r 13 (.o 14 [] .done .stop)) .stop)))))))))))))
def pl_5_22 : Pl := (.r 0 (.r 1 (.r 2 (.r 3 (.r 4 (.r 5 (.r 6 (.o 7 [] (.r 8 (.r 9 (.r 10 (.r 11 (.r 15 (.r 16 (.r 17 (.o 12 [17, 16] (.r 13 (.r 14 (.r 18 (.r 19 (.r 20 (.r 21 (.r 25 (.r 26 (.r 27 (.o 22 [27, 26] (.r 23 (.r 24 (.r 28 (.r 29 (.r 30 .done))))) .stop)))))))))) .stop)))))))) .stop))))))))
def pl_7_5 : Pl := (.r 0 (.r 1 (.r 2 (.r 3 (.r 4 (.r 5 (.r 6 (.r 7 (.o 8 [4, 1, 0] (.o 9 [4, 1, 0] (.o 10 [0] (.r 11 (.r 12 (.o 13 [] .done .stop))) .stop) .stop) .stop)))))))))
def pl_8_7 : Pl := (.r 0 (.r 1 (.r 2 (.r 3 (.r 4 (.r 5 (.r 6 (.r 7 (.r 8 (.o 9 [6, 5] (.r 10 .done) .stop))))))))))
def pl_8_10 : Pl := (.r 0 (.r 1 (.r 2 (.r 3 (.r 5 (.o 4 [0] (.r 6 (.o 7 [] (.r 8 .done) .stop)) .stop))))))
def pl_8_12 : Pl := (.r 0 (.r 1 (.r 2 (.r 3 (.r 4 (.o 5 [2, 0] (.o 6 [] (.r 7 (.r 8 (.r 9 (.o 10 [4, 2, 0] (.o 11 [] (.r 12 .done) .stop) .stop)))) (.o 10 [4, 2, 0] (.o 6 [] (.r 7 (.r 8 (.r 9 (.o 11 [] (.r 12 .done) .stop)))) .stop) .stop)) (.o 10 [4, 2, 0] (.o 5 [2, 0] (.o 6 [] (.r 7 (.r 8 (.r 9 (.o 11 [] (.r 12 .done) .stop)))) .stop) .stop) .stop)))))))
def pl_8_13 : Pl := (.r 0 (.r 1 (.r 2 (.r 3 (.r 4 (.r 5 (.r 8 (.o 6 [3, 0] (.o 7 [0] (.r 9 (.o 10 [] (.r 11 .done) .stop)) .stop) .stop))))))))
def pl_8_16 : Pl := (.r 0 (.r 1 (.r 2 (.r 3 (.r 5 (.o 4 [0] (.r 6 (.o 7 [] (.r 8 .done) .stop)) .stop))))))
def pl_8_23 : Pl := (.r 0 (.r 1 (.o 2 [0] (.r 3 (.o 4 [] (.r 5 .done) .stop)) .stop)))
def pl_8_28 : Pl := (.r 0 (.r 1 (.r 2 (.r 3 (.r 4 (.r 5 (.r 6 (.r 7 (.o 8 [2, 0] (.o 9 [] (.r 10 (.r 11 (.r 12 (.o 13 [] .done .stop)))) .stop) .stop)))))))))
def pl_9_2 : Pl := (.r 0 (.r 2 (.r 3 (.r 4 (.o 1 [4, 3] (.r 5 (.r 6 (.r 7 (.r 10 (.r 11 (.r 12 (.o 8 [12, 11] (.r 9 (.r 13 (.r 14 (.r 15 (.r 16 (.r 17 (.r 18 (.r 19 (.r 20 (.r 21 (.r 22 (.r 23 (.r 24 (.r 25 (.r 26 (.r 27 (.r 28 (.r 30 (.r 31 (.o 29 [31] (.r 32 (.r 33 .done)) .stop)))))))))))))))))))) .stop))))))) .stop)))))
def pl_9_7 : Pl := (.r 0 (.r 1 (.r 2 (.r 3 (.r 4 (.r 5 (.r 6 (.r 8 (.r 9 (.r 10 (.r 11 (.r 12 (.r 13 (.o 7 [13, 11, 9] (.r 14 (.r 15 (.r 16 (.r 17 (.r 18 (.r 19 (.r 20 (.r 21 (.r 22 (.r 24 (.r 25 (.r 26 (.r 27 (.r 28 (.r 29 (.o 23 [29, 27, 25] (.r 30 (.r 31 .done)) .stop)))))))))))))))) .stop))))))))))))))
def pl_27_7 : Pl := (.r 0 (.r 1 (.r 2 (.r 4 (.r 5 (.o 3 [5] (.o 6 [5] (.o 7 [] (.r 8 .done) .stop) .stop) .stop))))))
def pl_27_15 : Pl := (.r 0 (.r 1 (.r 3 (.o 2 [3] (.o 4 [1] (.o 5 [] (.r 6 (.o 7 [] .done .stop)) .stop) .stop) (.o 4 [1] (.o 2 [3] (.o 5 [] (.r 6 (.o 7 [] .done .stop)) .stop) .stop) .stop)))))
def pl_27_16 : Pl := (.r 0 (.r 1 (.r 2 (.o 3 [2] (.o 4 [] (.r 5 .done) .stop) .stop))))
def pl_36_2 : Pl := (.r 0 (.r 1 (.r 2 (.r 4 (.o 3 [4] (.o 5 [1] (.o 6 [] (.r 7 (.o 8 [] .done .stop)) .stop) .stop) (.o 5 [1] (.o 3 [4] (.o 6 [] (.r 7 (.o 8 [] .done .stop)) .stop) .stop) .stop))))))
def pl_37_7 : Pl := (.r 0 (.r 1 (.r 2 (.r 3 (.r 4 (.r 5 (.r 6 (.o 7 [] (.r 8 (.r 9 (.r 10 (.o 11 [6, 4, 2, 0] (.o 12 [] (.r 13 .done) .stop) .stop)))) (.o 11 [6, 4, 2, 0] (.o 7 [] (.r 8 (.r 9 (.r 10 (.o 12 [] (.r 13 .done) .stop)))) .stop) .stop)))))))))
theorem tsh_3 : tsh Try.prog 3 = some 0 := by decide +kernel
theorem tzero_3 : tzero Try.prog 3 = some (.p (.int .i64 0)) := by kernel_rfl
theorem telem_3 : telem Try.prog 3 = none := by decide +kernel
theorem lenK_3 : lenKind Try.prog 3 = (0, 0) := by decide +kernel
theorem nilK_3 : nilK Try.prog 3 = 0 := by decide +kernel
theorem srcT_3 : isSrcT Try.prog 3 = false := by decide +kernel
theorem byt_3 : Program.bytesOf Try.prog 3 = 8 := by decide +kernel
theorem und_3 : Program.underlying Try.prog 3 = some (.int .i64) := by kernel_rfl
theorem tsh_4 : tsh Try.prog 4 = some 0 := by decide +kernel
theorem tzero_4 : tzero Try.prog 4 = some (.p (.bool false)) := by kernel_rfl
theorem telem_4 : telem Try.prog 4 = none := by decide +kernel
theorem lenK_4 : lenKind Try.prog 4 = (0, 0) := by decide +kernel
theorem nilK_4 : nilK Try.prog 4 = 5 := by decide +kernel
theorem srcT_4 : isSrcT Try.prog 4 = false := by decide +kernel
theorem byt_4 : Program.bytesOf Try.prog 4 = 1 := by decide +kernel
theorem und_4 : Program.underlying Try.prog 4 = some .bool := by kernel_rfl
theorem tsh_5 : tsh Try.prog 5 = some 0 := by decide +kernel
theorem tzero_5 : tzero Try.prog 5 = some (.p (.int .u8 0)) := by kernel_rfl
theorem telem_5 : telem Try.prog 5 = none := by decide +kernel
theorem lenK_5 : lenKind Try.prog 5 = (0, 0) := by decide +kernel
theorem nilK_5 : nilK Try.prog 5 = 0 := by decide +kernel
theorem srcT_5 : isSrcT Try.prog 5 = false := by decide +kernel
theorem byt_5 : Program.bytesOf Try.prog 5 = 1 := by decide +kernel
theorem und_5 : Program.underlying Try.prog 5 = some (.int .u8) := by kernel_rfl
theorem tsh_9 : tsh Try.prog 9 = some 0 := by decide +kernel
theorem tzero_9 : tzero Try.prog 9 = some (.p (.str [])) := by kernel_rfl
theorem telem_9 : telem Try.prog 9 = none := by decide +kernel
theorem lenK_9 : lenKind Try.prog 9 = (2, 0) := by decide +kernel
theorem nilK_9 : nilK Try.prog 9 = 0 := by decide +kernel
theorem srcT_9 : isSrcT Try.prog 9 = true := by decide +kernel
theorem byt_9 : Program.bytesOf Try.prog 9 = 16 := by decide +kernel
theorem und_9 : Program.underlying Try.prog 9 = some .string := by kernel_rfl
theorem tsh_22 : tsh Try.prog 22 = some 0 := by decide +kernel
theorem tzero_22 : tzero Try.prog 22 = some (.nsl) := by kernel_rfl
theorem telem_22 : telem Try.prog 22 = some (37, 3) := by decide +kernel
theorem lenK_22 : lenKind Try.prog 22 = (3, 0) := by decide +kernel
theorem nilK_22 : nilK Try.prog 22 = 4 := by decide +kernel
theorem srcT_22 : isSrcT Try.prog 22 = true := by decide +kernel
theorem byt_22 : Program.bytesOf Try.prog 22 = 24 := by decide +kernel
theorem und_22 : Program.underlying Try.prog 22 = some (.slice 37) := by kernel_rfl
theorem tsh_24 : tsh Try.prog 24 = some 0 := by decide +kernel
theorem tzero_24 : tzero Try.prog 24 = some (.p (.nptr)) := by kernel_rfl
theorem telem_24 : telem Try.prog 24 = none := by decide +kernel
theorem lenK_24 : lenKind Try.prog 24 = (0, 0) := by decide +kernel
theorem nilK_24 : nilK Try.prog 24 = 1 := by decide +kernel
theorem srcT_24 : isSrcT Try.prog 24 = false := by decide +kernel
theorem byt_24 : Program.bytesOf Try.prog 24 = 8 := by decide +kernel
theorem tsh_25 : tsh Try.prog 25 = some 0 := by decide +kernel
theorem tzero_25 : tzero Try.prog 25 = some (.p (.nptr)) := by kernel_rfl
theorem telem_25 : telem Try.prog 25 = none := by decide +kernel
theorem lenK_25 : lenKind Try.prog 25 = (0, 0) := by decide +kernel
theorem nilK_25 : nilK Try.prog 25 = 1 := by decide +kernel
theorem srcT_25 : isSrcT Try.prog 25 = false := by decide +kernel
theorem byt_25 : Program.bytesOf Try.prog 25 = 8 := by decide +kernel
theorem tsh_28 : tsh Try.prog 28 = some 0 := by decide +kernel
theorem tzero_28 : tzero Try.prog 28 = some (.nsl) := by kernel_rfl
theorem telem_28 : telem Try.prog 28 = some (66, 227) := by decide +kernel
theorem lenK_28 : lenKind Try.prog 28 = (3, 0) := by decide +kernel
theorem nilK_28 : nilK Try.prog 28 = 4 := by decide +kernel
theorem srcT_28 : isSrcT Try.prog 28 = true := by decide +kernel
theorem byt_28 : Program.bytesOf Try.prog 28 = 24 := by decide +kernel
theorem und_28 : Program.underlying Try.prog 28 = some (.slice 66) := by kernel_rfl
theorem tsh_29 : tsh Try.prog 29 = some 0 := by decide +kernel
theorem tzero_29 : tzero Try.prog 29 = some (.nsl) := by kernel_rfl
theorem telem_29 : telem Try.prog 29 = some (40, 224) := by decide +kernel
theorem lenK_29 : lenKind Try.prog 29 = (3, 0) := by decide +kernel
theorem nilK_29 : nilK Try.prog 29 = 4 := by decide +kernel
theorem srcT_29 : isSrcT Try.prog 29 = true := by decide +kernel
theorem byt_29 : Program.bytesOf Try.prog 29 = 24 := by decide +kernel
theorem und_29 : Program.underlying Try.prog 29 = some (.slice 40) := by kernel_rfl
theorem tsh_31 : tsh Try.prog 31 = some 5 := by decide +kernel
theorem tzero_31 : tzero Try.prog 31 = some (.agg [.p (.int .i64 0), .nsl, .nsl, .p (.int .i64 0), .p (.int .i64 0)]) := by kernel_rfl
theorem telem_31 : telem Try.prog 31 = none := by decide +kernel
theorem lenK_31 : lenKind Try.prog 31 = (0, 0) := by decide +kernel
theorem nilK_31 : nilK Try.prog 31 = 0 := by decide +kernel
theorem srcT_31 : isSrcT Try.prog 31 = false := by decide +kernel
theorem byt_31 : Program.bytesOf Try.prog 31 = 72 := by decide +kernel
theorem tpl_31 : tplaces Try.prog 31 = some (.inl [(0, 1), (1, 1), (2, 1), (3, 1), (4, 1)]) := by kernel_rfl
theorem tf_31_0 : tfield Try.prog 31 0 = some (0, 0) := by decide +kernel
theorem tf_31_1 : tfield Try.prog 31 1 = some (1, 0) := by decide +kernel
theorem tf_31_2 : tfield Try.prog 31 2 = some (2, 0) := by decide +kernel
theorem tf_31_3 : tfield Try.prog 31 3 = some (3, 0) := by decide +kernel
theorem tf_31_4 : tfield Try.prog 31 4 = some (4, 0) := by decide +kernel
theorem tsh_33 : tsh Try.prog 33 = some 2 := by decide +kernel
theorem tzero_33 : tzero Try.prog 33 = some (.agg [.nsl, .p (.int .i64 0)]) := by kernel_rfl
theorem telem_33 : telem Try.prog 33 = none := by decide +kernel
theorem lenK_33 : lenKind Try.prog 33 = (0, 0) := by decide +kernel
theorem nilK_33 : nilK Try.prog 33 = 0 := by decide +kernel
theorem srcT_33 : isSrcT Try.prog 33 = false := by decide +kernel
theorem byt_33 : Program.bytesOf Try.prog 33 = 32 := by decide +kernel
theorem tpl_33 : tplaces Try.prog 33 = some (.inl [(0, 1), (1, 1)]) := by kernel_rfl
theorem tf_33_0 : tfield Try.prog 33 0 = some (0, 0) := by decide +kernel
theorem tf_33_1 : tfield Try.prog 33 1 = some (1, 0) := by decide +kernel
theorem tsh_37 : tsh Try.prog 37 = some 3 := by decide +kernel
theorem tzero_37 : tzero Try.prog 37 = some (.p (.agg [.int .i64 0, .int .i64 0, .int .u8 0])) := by kernel_rfl
theorem telem_37 : telem Try.prog 37 = none := by decide +kernel
theorem lenK_37 : lenKind Try.prog 37 = (0, 0) := by decide +kernel
theorem nilK_37 : nilK Try.prog 37 = 0 := by decide +kernel
theorem srcT_37 : isSrcT Try.prog 37 = false := by decide +kernel
theorem byt_37 : Program.bytesOf Try.prog 37 = 24 := by decide +kernel
theorem eqKs_37 : eqKs Try.prog 37 = some [2, 2, 2] := by decide +kernel
theorem tpl_37 : tplaces Try.prog 37 = some (.inl [(0, 1), (1, 1), (2, 1)]) := by kernel_rfl
theorem tf_37_0 : tfield Try.prog 37 0 = some (0, 0) := by decide +kernel
theorem tf_37_1 : tfield Try.prog 37 1 = some (1, 0) := by decide +kernel
theorem tf_37_2 : tfield Try.prog 37 2 = some (2, 0) := by decide +kernel
theorem tsh_40 : tsh Try.prog 40 = some 224 := by decide +kernel
theorem tzero_40 : tzero Try.prog 40 = some (.p (.agg (pgL 0))) := by kernel_rfl
theorem telem_40 : telem Try.prog 40 = none := by decide +kernel
theorem tarr_40 : tarr Try.prog 40 = some (224, 0) := by decide +kernel
theorem lenK_40 : lenKind Try.prog 40 = (1, 224) := by decide +kernel
theorem nilK_40 : nilK Try.prog 40 = 0 := by decide +kernel
theorem srcT_40 : isSrcT Try.prog 40 = false := by decide +kernel
theorem byt_40 : Program.bytesOf Try.prog 40 = 224 := by decide +kernel
theorem eqKs_40 : eqKs Try.prog 40 = some KS := by decide +kernel
theorem tpl_40 : tplaces Try.prog 40 = some (.inr 1) := by kernel_rfl
theorem tsh_41 : tsh Try.prog 41 = some 0 := by decide +kernel
theorem tzero_41 : tzero Try.prog 41 = some (.p (.int .i64 0)) := by kernel_rfl
theorem telem_41 : telem Try.prog 41 = none := by decide +kernel
theorem lenK_41 : lenKind Try.prog 41 = (0, 0) := by decide +kernel
theorem nilK_41 : nilK Try.prog 41 = 0 := by decide +kernel
theorem srcT_41 : isSrcT Try.prog 41 = false := by decide +kernel
theorem byt_41 : Program.bytesOf Try.prog 41 = 8 := by decide +kernel
theorem und_41 : Program.underlying Try.prog 41 = some (.int .i64) := by kernel_rfl
theorem tsh_43 : tsh Try.prog 43 = some 0 := by decide +kernel
theorem tzero_43 : tzero Try.prog 43 = some (.p (.nfn)) := by kernel_rfl
theorem telem_43 : telem Try.prog 43 = none := by decide +kernel
theorem lenK_43 : lenKind Try.prog 43 = (0, 0) := by decide +kernel
theorem nilK_43 : nilK Try.prog 43 = 2 := by decide +kernel
theorem srcT_43 : isSrcT Try.prog 43 = false := by decide +kernel
theorem byt_43 : Program.bytesOf Try.prog 43 = 8 := by decide +kernel
theorem tsh_44 : tsh Try.prog 44 = some 0 := by decide +kernel
theorem tzero_44 : tzero Try.prog 44 = some (.p (.nfn)) := by kernel_rfl
theorem telem_44 : telem Try.prog 44 = none := by decide +kernel
theorem lenK_44 : lenKind Try.prog 44 = (0, 0) := by decide +kernel
theorem nilK_44 : nilK Try.prog 44 = 2 := by decide +kernel
theorem srcT_44 : isSrcT Try.prog 44 = false := by decide +kernel
theorem byt_44 : Program.bytesOf Try.prog 44 = 8 := by decide +kernel
theorem tsh_47 : tsh Try.prog 47 = some 0 := by decide +kernel
theorem tzero_47 : tzero Try.prog 47 = some (.p (.nfn)) := by kernel_rfl
theorem telem_47 : telem Try.prog 47 = none := by decide +kernel
theorem lenK_47 : lenKind Try.prog 47 = (0, 0) := by decide +kernel
theorem nilK_47 : nilK Try.prog 47 = 2 := by decide +kernel
theorem srcT_47 : isSrcT Try.prog 47 = false := by decide +kernel
theorem byt_47 : Program.bytesOf Try.prog 47 = 8 := by decide +kernel
theorem tsh_52 : tsh Try.prog 52 = some 0 := by decide +kernel
theorem tzero_52 : tzero Try.prog 52 = some (.nsl) := by kernel_rfl
theorem telem_52 : telem Try.prog 52 = some (3, 0) := by decide +kernel
theorem lenK_52 : lenKind Try.prog 52 = (3, 0) := by decide +kernel
theorem nilK_52 : nilK Try.prog 52 = 4 := by decide +kernel
theorem srcT_52 : isSrcT Try.prog 52 = true := by decide +kernel
theorem byt_52 : Program.bytesOf Try.prog 52 = 24 := by decide +kernel
theorem und_52 : Program.underlying Try.prog 52 = some (.slice 3) := by kernel_rfl
theorem tsh_66 : tsh Try.prog 66 = some 227 := by decide +kernel
theorem tzero_66 : tzero Try.prog 66 = some (.p (.agg (.int .i64 0 :: (pgL 0 ++ [.int .i64 0, .bool false])))) := by kernel_rfl
theorem telem_66 : telem Try.prog 66 = none := by decide +kernel
theorem lenK_66 : lenKind Try.prog 66 = (0, 0) := by decide +kernel
theorem nilK_66 : nilK Try.prog 66 = 0 := by decide +kernel
theorem srcT_66 : isSrcT Try.prog 66 = false := by decide +kernel
theorem byt_66 : Program.bytesOf Try.prog 66 = 248 := by decide +kernel
theorem tpl_66 : tplaces Try.prog 66 = some (.inl [(0, 1), (1, 224), (225, 1), (226, 1)]) := by kernel_rfl
theorem tf_66_0 : tfield Try.prog 66 0 = some (0, 0) := by decide +kernel
theorem tf_66_1 : tfield Try.prog 66 1 = some (1, 224) := by decide +kernel
theorem tf_66_2 : tfield Try.prog 66 2 = some (225, 0) := by decide +kernel
theorem tf_66_3 : tfield Try.prog 66 3 = some (226, 0) := by decide +kernel
theorem tsh_68 : tsh Try.prog 68 = some 0 := by decide +kernel
theorem tzero_68 : tzero Try.prog 68 = some (.p (.nptr)) := by kernel_rfl
theorem telem_68 : telem Try.prog 68 = none := by decide +kernel
theorem lenK_68 : lenKind Try.prog 68 = (0, 0) := by decide +kernel
theorem nilK_68 : nilK Try.prog 68 = 1 := by decide +kernel
theorem srcT_68 : isSrcT Try.prog 68 = false := by decide +kernel
theorem byt_68 : Program.bytesOf Try.prog 68 = 8 := by decide +kernel
theorem tsh_69 : tsh Try.prog 69 = some 0 := by decide +kernel
theorem tzero_69 : tzero Try.prog 69 = some (.p (.nmap)) := by kernel_rfl
theorem telem_69 : telem Try.prog 69 = none := by decide +kernel
theorem lenK_69 : lenKind Try.prog 69 = (4, 0) := by decide +kernel
theorem nilK_69 : nilK Try.prog 69 = 3 := by decide +kernel
theorem srcT_69 : isSrcT Try.prog 69 = false := by decide +kernel
theorem byt_69 : Program.bytesOf Try.prog 69 = 8 := by decide +kernel
theorem tmap_69 : tmap Try.prog 69 = some (3, 68, .plain 2) := by kernel_rfl
theorem tsh_71 : tsh Try.prog 71 = some 7 := by decide +kernel
theorem tzero_71 : tzero Try.prog 71 = some (.p (.agg [.int .i64 0, .nmap, .nfn, .nfn, .int .i64 0, .int .i64 0, .int .i64 0])) := by kernel_rfl
theorem telem_71 : telem Try.prog 71 = none := by decide +kernel
theorem lenK_71 : lenKind Try.prog 71 = (0, 0) := by decide +kernel
theorem nilK_71 : nilK Try.prog 71 = 0 := by decide +kernel
theorem srcT_71 : isSrcT Try.prog 71 = false := by decide +kernel
theorem byt_71 : Program.bytesOf Try.prog 71 = 56 := by decide +kernel
theorem tpl_71 : tplaces Try.prog 71 = some (.inl [(0, 1), (1, 1), (2, 1), (3, 1), (4, 1), (5, 1), (6, 1)]) := by kernel_rfl
theorem tf_71_0 : tfield Try.prog 71 0 = some (0, 0) := by decide +kernel
theorem tf_71_1 : tfield Try.prog 71 1 = some (1, 0) := by decide +kernel
theorem tf_71_2 : tfield Try.prog 71 2 = some (2, 0) := by decide +kernel
theorem tf_71_3 : tfield Try.prog 71 3 = some (3, 0) := by decide +kernel
theorem tf_71_4 : tfield Try.prog 71 4 = some (4, 0) := by decide +kernel
theorem tf_71_5 : tfield Try.prog 71 5 = some (5, 0) := by decide +kernel
theorem tf_71_6 : tfield Try.prog 71 6 = some (6, 0) := by decide +kernel
theorem tsh_73 : tsh Try.prog 73 = some 227 := by decide +kernel
theorem tzero_73 : tzero Try.prog 73 = some (.p (.agg (pgL 0 ++ [.int .i64 0, .bool false, .int .i64 0]))) := by kernel_rfl
theorem telem_73 : telem Try.prog 73 = none := by decide +kernel
theorem lenK_73 : lenKind Try.prog 73 = (0, 0) := by decide +kernel
theorem nilK_73 : nilK Try.prog 73 = 0 := by decide +kernel
theorem srcT_73 : isSrcT Try.prog 73 = false := by decide +kernel
theorem byt_73 : Program.bytesOf Try.prog 73 = 248 := by decide +kernel
theorem tpl_73 : tplaces Try.prog 73 = some (.inl [(0, 224), (224, 1), (225, 1), (226, 1)]) := by kernel_rfl
theorem tf_73_0 : tfield Try.prog 73 0 = some (0, 224) := by decide +kernel
theorem tf_73_1 : tfield Try.prog 73 1 = some (224, 0) := by decide +kernel
theorem tf_73_2 : tfield Try.prog 73 2 = some (225, 0) := by decide +kernel
theorem tf_73_3 : tfield Try.prog 73 3 = some (226, 0) := by decide +kernel
theorem tsh_86 : tsh Try.prog 86 = some 0 := by decide +kernel
theorem tzero_86 : tzero Try.prog 86 = some (.p (.int .u64 0)) := by kernel_rfl
theorem telem_86 : telem Try.prog 86 = none := by decide +kernel
theorem lenK_86 : lenKind Try.prog 86 = (0, 0) := by decide +kernel
theorem nilK_86 : nilK Try.prog 86 = 0 := by decide +kernel
theorem srcT_86 : isSrcT Try.prog 86 = false := by decide +kernel
theorem byt_86 : Program.bytesOf Try.prog 86 = 8 := by decide +kernel
theorem und_86 : Program.underlying Try.prog 86 = some (.int .u64) := by kernel_rfl
theorem tsh_88 : tsh Try.prog 88 = some 0 := by decide +kernel
theorem tzero_88 : tzero Try.prog 88 = some (.p (.int .i64 0)) := by kernel_rfl
theorem telem_88 : telem Try.prog 88 = none := by decide +kernel
theorem lenK_88 : lenKind Try.prog 88 = (0, 0) := by decide +kernel
theorem nilK_88 : nilK Try.prog 88 = 0 := by decide +kernel
theorem srcT_88 : isSrcT Try.prog 88 = false := by decide +kernel
theorem byt_88 : Program.bytesOf Try.prog 88 = 8 := by decide +kernel
theorem und_88 : Program.underlying Try.prog 88 = some (.int .i64) := by kernel_rfl
theorem tsh_96 : tsh Try.prog 96 = some 0 := by decide +kernel
theorem tzero_96 : tzero Try.prog 96 = some (.p (.int .u32 0)) := by kernel_rfl
theorem telem_96 : telem Try.prog 96 = none := by decide +kernel
theorem lenK_96 : lenKind Try.prog 96 = (0, 0) := by decide +kernel
theorem nilK_96 : nilK Try.prog 96 = 0 := by decide +kernel
theorem srcT_96 : isSrcT Try.prog 96 = false := by decide +kernel
theorem byt_96 : Program.bytesOf Try.prog 96 = 4 := by decide +kernel
theorem und_96 : Program.underlying Try.prog 96 = some (.int .u32) := by kernel_rfl
theorem tsh_98 : tsh Try.prog 98 = some 0 := by decide +kernel
theorem tzero_98 : tzero Try.prog 98 = some (.p (.int .u64 0)) := by kernel_rfl
theorem telem_98 : telem Try.prog 98 = none := by decide +kernel
theorem lenK_98 : lenKind Try.prog 98 = (0, 0) := by decide +kernel
theorem nilK_98 : nilK Try.prog 98 = 0 := by decide +kernel
theorem srcT_98 : isSrcT Try.prog 98 = false := by decide +kernel
theorem byt_98 : Program.bytesOf Try.prog 98 = 8 := by decide +kernel
theorem und_98 : Program.underlying Try.prog 98 = some (.int .u64) := by kernel_rfl
theorem tsh_99 : tsh Try.prog 99 = some 0 := by decide +kernel
theorem tzero_99 : tzero Try.prog 99 = some (.p (.int .u64 0)) := by kernel_rfl
theorem telem_99 : telem Try.prog 99 = none := by decide +kernel
theorem lenK_99 : lenKind Try.prog 99 = (0, 0) := by decide +kernel
theorem nilK_99 : nilK Try.prog 99 = 0 := by decide +kernel
theorem srcT_99 : isSrcT Try.prog 99 = false := by decide +kernel
theorem byt_99 : Program.bytesOf Try.prog 99 = 8 := by decide +kernel
theorem und_99 : Program.underlying Try.prog 99 = some (.int .u64) := by kernel_rfl
theorem tsh_103 : tsh Try.prog 103 = some 0 := by decide +kernel
theorem tzero_103 : tzero Try.prog 103 = some (.p (.nptr)) := by kernel_rfl
theorem telem_103 : telem Try.prog 103 = none := by decide +kernel
theorem lenK_103 : lenKind Try.prog 103 = (0, 0) := by decide +kernel
theorem nilK_103 : nilK Try.prog 103 = 1 := by decide +kernel
theorem srcT_103 : isSrcT Try.prog 103 = false := by decide +kernel
theorem byt_103 : Program.bytesOf Try.prog 103 = 8 := by decide +kernel
theorem tsh_105 : tsh Try.prog 105 = some 0 := by decide +kernel
theorem tzero_105 : tzero Try.prog 105 = some (.p (.nptr)) := by kernel_rfl
theorem telem_105 : telem Try.prog 105 = none := by decide +kernel
theorem lenK_105 : lenKind Try.prog 105 = (0, 0) := by decide +kernel
theorem nilK_105 : nilK Try.prog 105 = 1 := by decide +kernel
theorem srcT_105 : isSrcT Try.prog 105 = false := by decide +kernel
theorem byt_105 : Program.bytesOf Try.prog 105 = 8 := by decide +kernel
theorem cv_3_5 : cvKind Try.prog 3 5 = .plain := by kernel_rfl
theorem cv_3_86 : cvKind Try.prog 3 86 = .plain := by kernel_rfl
theorem cv_3_99 : cvKind Try.prog 3 99 = .plain := by kernel_rfl
theorem cv_5_3 : cvKind Try.prog 5 3 = .plain := by kernel_rfl
theorem cv_86_3 : cvKind Try.prog 86 3 = .plain := by kernel_rfl
theorem cv_86_96 : cvKind Try.prog 86 96 = .plain := by kernel_rfl
theorem cv_98_5 : cvKind Try.prog 98 5 = .plain := by kernel_rfl
def wkF := (And.intro (And.intro (And.intro (And.intro (And.intro (And.intro (And.intro (And.intro tsh_3 tzero_3) (And.intro telem_3 lenK_3)) (And.intro (And.intro nilK_3 srcT_3) (And.intro byt_3 und_3))) (And.intro (And.intro (And.intro tsh_4 tzero_4) (And.intro telem_4 lenK_4)) (And.intro (And.intro nilK_4 srcT_4) (And.intro byt_4 und_4)))) (And.intro (And.intro (And.intro (And.intro tsh_5 tzero_5) (And.intro telem_5 lenK_5)) (And.intro (And.intro nilK_5 srcT_5) (And.intro byt_5 und_5))) (And.intro (And.intro (And.intro tsh_9 tzero_9) (And.intro telem_9 lenK_9)) (And.intro (And.intro nilK_9 srcT_9) (And.intro byt_9 (And.intro und_9 tsh_22)))))) (And.intro (And.intro (And.intro (And.intro (And.intro tzero_22 telem_22) (And.intro lenK_22 nilK_22)) (And.intro (And.intro srcT_22 byt_22) (And.intro und_22 tsh_24))) (And.intro (And.intro (And.intro tzero_24 telem_24) (And.intro lenK_24 nilK_24)) (And.intro (And.intro srcT_24 byt_24) (And.intro tsh_25 (And.intro tzero_25 telem_25))))) (And.intro (And.intro (And.intro (And.intro lenK_25 nilK_25) (And.intro srcT_25 byt_25)) (And.intro (And.intro tsh_28 tzero_28) (And.intro telem_28 lenK_28))) (And.intro (And.intro (And.intro nilK_28 srcT_28) (And.intro byt_28 und_28)) (And.intro (And.intro tsh_29 tzero_29) (And.intro telem_29 (And.intro lenK_29 nilK_29))))))) (And.intro (And.intro (And.intro (And.intro (And.intro (And.intro srcT_29 byt_29) (And.intro und_29 tsh_31)) (And.intro (And.intro tzero_31 telem_31) (And.intro lenK_31 nilK_31))) (And.intro (And.intro (And.intro srcT_31 byt_31) (And.intro tpl_31 tf_31_0)) (And.intro (And.intro tf_31_1 tf_31_2) (And.intro tf_31_3 tf_31_4)))) (And.intro (And.intro (And.intro (And.intro tsh_33 tzero_33) (And.intro telem_33 lenK_33)) (And.intro (And.intro nilK_33 srcT_33) (And.intro byt_33 tpl_33))) (And.intro (And.intro (And.intro tf_33_0 tf_33_1) (And.intro tsh_37 tzero_37)) (And.intro (And.intro telem_37 lenK_37) (And.intro nilK_37 (And.intro srcT_37 byt_37)))))) (And.intro (And.intro (And.intro (And.intro (And.intro eqKs_37 tpl_37) (And.intro tf_37_0 tf_37_1)) (And.intro (And.intro tf_37_2 tsh_40) (And.intro tzero_40 telem_40))) (And.intro (And.intro (And.intro tarr_40 lenK_40) (And.intro nilK_40 srcT_40)) (And.intro (And.intro byt_40 eqKs_40) (And.intro tpl_40 (And.intro tsh_41 tzero_41))))) (And.intro (And.intro (And.intro (And.intro telem_41 lenK_41) (And.intro nilK_41 srcT_41)) (And.intro (And.intro byt_41 und_41) (And.intro tsh_43 tzero_43))) (And.intro (And.intro (And.intro telem_43 lenK_43) (And.intro nilK_43 srcT_43)) (And.intro (And.intro byt_43 tsh_44) (And.intro tzero_44 (And.intro telem_44 lenK_44)))))))) (And.intro (And.intro (And.intro (And.intro (And.intro (And.intro (And.intro nilK_44 srcT_44) (And.intro byt_44 tsh_47)) (And.intro (And.intro tzero_47 telem_47) (And.intro lenK_47 nilK_47))) (And.intro (And.intro (And.intro srcT_47 byt_47) (And.intro tsh_52 tzero_52)) (And.intro (And.intro telem_52 lenK_52) (And.intro nilK_52 srcT_52)))) (And.intro (And.intro (And.intro (And.intro byt_52 und_52) (And.intro tsh_66 tzero_66)) (And.intro (And.intro telem_66 lenK_66) (And.intro nilK_66 srcT_66))) (And.intro (And.intro (And.intro byt_66 tpl_66) (And.intro tf_66_0 tf_66_1)) (And.intro (And.intro tf_66_2 tf_66_3) (And.intro tsh_68 (And.intro tzero_68 telem_68)))))) (And.intro (And.intro (And.intro (And.intro (And.intro lenK_68 nilK_68) (And.intro srcT_68 byt_68)) (And.intro (And.intro tsh_69 tzero_69) (And.intro telem_69 lenK_69))) (And.intro (And.intro (And.intro nilK_69 srcT_69) (And.intro byt_69 tmap_69)) (And.intro (And.intro tsh_71 tzero_71) (And.intro telem_71 (And.intro lenK_71 nilK_71))))) (And.intro (And.intro (And.intro (And.intro srcT_71 byt_71) (And.intro tpl_71 tf_71_0)) (And.intro (And.intro tf_71_1 tf_71_2) (And.intro tf_71_3 tf_71_4))) (And.intro (And.intro (And.intro tf_71_5 tf_71_6) (And.intro tsh_73 tzero_73)) (And.intro (And.intro telem_73 lenK_73) (And.intro nilK_73 (And.intro srcT_73 byt_73))))))) (And.intro (And.intro (And.intro (And.intro (And.intro (And.intro tpl_73 tf_73_0) (And.intro tf_73_1 tf_73_2)) (And.intro (And.intro tf_73_3 tsh_86) (And.intro tzero_86 telem_86))) (And.intro (And.intro (And.intro lenK_86 nilK_86) (And.intro srcT_86 byt_86)) (And.intro (And.intro und_86 tsh_88) (And.intro tzero_88 telem_88)))) (And.intro (And.intro (And.intro (And.intro lenK_88 nilK_88) (And.intro srcT_88 byt_88)) (And.intro (And.intro und_88 tsh_96) (And.intro tzero_96 telem_96))) (And.intro (And.intro (And.intro lenK_96 nilK_96) (And.intro srcT_96 byt_96)) (And.intro (And.intro und_96 tsh_98) (And.intro tzero_98 (And.intro telem_98 lenK_98)))))) (And.intro (And.intro (And.intro (And.intro (And.intro nilK_98 srcT_98) (And.intro byt_98 und_98)) (And.intro (And.intro tsh_99 tzero_99) (And.intro telem_99 lenK_99))) (And.intro (And.intro (And.intro nilK_99 srcT_99) (And.intro byt_99 und_99)) (And.intro (And.intro tsh_103 tzero_103) (And.intro telem_103 (And.intro lenK_103 nilK_103))))) (And.intro (And.intro (And.intro (And.intro srcT_103 byt_103) (And.intro tsh_105 tzero_105)) (And.intro (And.intro telem_105 lenK_105) (And.intro nilK_105 srcT_105))) (And.intro (And.intro (And.intro byt_105 cv_3_5) (And.intro cv_3_86 cv_3_99)) (And.intro (And.intro cv_5_3 cv_86_3) (And.intro cv_86_96 (And.intro cv_98_5 CfP)))))))))
-- FACTS: tsh_3, tzero_3, telem_3, lenK_3, nilK_3, srcT_3, byt_3, und_3, tsh_4, tzero_4, telem_4, lenK_4, nilK_4, srcT_4, byt_4, und_4, tsh_5, tzero_5, telem_5, lenK_5, nilK_5, srcT_5, byt_5, und_5, tsh_9, tzero_9, telem_9, lenK_9, nilK_9, srcT_9, byt_9, und_9, tsh_22, tzero_22, telem_22, lenK_22, nilK_22, srcT_22, byt_22, und_22, tsh_24, tzero_24, telem_24, lenK_24, nilK_24, srcT_24, byt_24, tsh_25, tzero_25, telem_25, lenK_25, nilK_25, srcT_25, byt_25, tsh_28, tzero_28, telem_28, lenK_28, nilK_28, srcT_28, byt_28, und_28, tsh_29, tzero_29, telem_29, lenK_29, nilK_29, srcT_29, byt_29, und_29, tsh_31, tzero_31, telem_31, lenK_31, nilK_31, srcT_31, byt_31, tpl_31, tf_31_0, tf_31_1, tf_31_2, tf_31_3, tf_31_4, tsh_33, tzero_33, telem_33, lenK_33, nilK_33, srcT_33, byt_33, tpl_33, tf_33_0, tf_33_1, tsh_37, tzero_37, telem_37, lenK_37, nilK_37, srcT_37, byt_37, eqKs_37, tpl_37, tf_37_0, tf_37_1, tf_37_2, tsh_40, tzero_40, telem_40, tarr_40, lenK_40, nilK_40, srcT_40, byt_40, eqKs_40, tpl_40, tsh_41, tzero_41, telem_41, lenK_41, nilK_41, srcT_41, byt_41, und_41, tsh_43, tzero_43, telem_43, lenK_43, nilK_43, srcT_43, byt_43, tsh_44, tzero_44, telem_44, lenK_44, nilK_44, srcT_44, byt_44, tsh_47, tzero_47, telem_47, lenK_47, nilK_47, srcT_47, byt_47, tsh_52, tzero_52, telem_52, lenK_52, nilK_52, srcT_52, byt_52, und_52, tsh_66, tzero_66, telem_66, lenK_66, nilK_66, srcT_66, byt_66, tpl_66, tf_66_0, tf_66_1, tf_66_2, tf_66_3, tsh_68, tzero_68, telem_68, lenK_68, nilK_68, srcT_68, byt_68, tsh_69, tzero_69, telem_69, lenK_69, nilK_69, srcT_69, byt_69, tmap_69, tsh_71, tzero_71, telem_71, lenK_71, nilK_71, srcT_71, byt_71, tpl_71, tf_71_0, tf_71_1, tf_71_2, tf_71_3, tf_71_4, tf_71_5, tf_71_6, tsh_73, tzero_73, telem_73, lenK_73, nilK_73, srcT_73, byt_73, tpl_73, tf_73_0, tf_73_1, tf_73_2, tf_73_3, tsh_86, tzero_86, telem_86, lenK_86, nilK_86, srcT_86, byt_86, und_86, tsh_88, tzero_88, telem_88, lenK_88, nilK_88, srcT_88, byt_88, und_88, tsh_96, tzero_96, telem_96, lenK_96, nilK_96, srcT_96, byt_96, und_96, tsh_98, tzero_98, telem_98, lenK_98, nilK_98, srcT_98, byt_98, und_98, tsh_99, tzero_99, telem_99, lenK_99, nilK_99, srcT_99, byt_99, und_99, tsh_103, tzero_103, telem_103, lenK_103, nilK_103, srcT_103, byt_103, tsh_105, tzero_105, telem_105, lenK_105, nilK_105, srcT_105, byt_105, cv_3_5, cv_3_86, cv_3_99, cv_5_3, cv_86_3, cv_86_96, cv_98_5

end Go.Ev.F28
end
