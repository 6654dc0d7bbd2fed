/- The law PoolStays answers true for every input, and its arguments read as before. No condition: the whole of the given statement. -/
import Derived.Test.YtkabheeblnooaaaRows
import Derived.Test.YtkabheeblnooaaaLawE
set_option linter.all false
section
namespace Go.Proofs.Ytkabheeblnooaaa
open Go.Ev Go.Ev.F28
set_option maxRecDepth 100000
theorem own : ownKnob Try.prog.godebug = Option.none := by kernel_rfl
theorem laidOut : laidOutB Try.prog = true := by kernel_rfl
theorem tyPoolStays : Try.f5.params.toList.mapM (tyA Try.prog 8) = some [(0, [Ty.int .u8]), (0, [Ty.sl 3 [Ty.int .i64, Ty.int .i64, Ty.int .u8]]), (0, [Ty.int .i64])] := by kernel_rfl
theorem poolStays_lifted (os : Os) (started : os.Started) (H : Type) (enc : TypeId × Value → H) :
    ReturnsInHanded {} Try.checked os 5 .any (Rows.poolStaysSpec.pre6 enc Try.prog Try.f5 Rows.poolStaysRow.domain false) (Rows.poolStaysSpec.post enc Try.prog Try.f5 false true false false) := by
  refine returnsInHanded_of_change (C := Try.checked) own started (by kernel_rfl) Try.func5
    (ChangeSpec.witness6 (enc := enc) (C := Try.checked) false ⟨#[], #[.int .u8 0, .slice Option.none 0 0, .int .i64 0], []⟩ 8 (by kernel_rfl) (by kernel_rfl) (by kernel_rfl) (by kernel_rfl)) ?_
  intro W base args ds gs before hval hW _ _
  refine law_calls (C := Cf) extOK extMono okfOK (fn := Try.f5) laidOut (by decide +kernel) (s := Rows.poolStaysSpec) rfl ?_ tyPoolStays (bt := 4) (by kernel_rfl) und_4 lawPoolStays hval hW
  intro H ds h
  match ds, h with
  | [_, _, _], _ => rfl
theorem poolStays_holds : Rows.PoolStaysSaid :=
  OpenClaim.holds_of_wide 5 Try.f5 rfl rfl rfl rfl rfl rfl rfl ⟨rfl, rfl, rfl, rfl, rfl⟩ rfl rfl rfl rfl rfl (by kernel_rfl) Try.func5 (by kernel_rfl)
    (of_decide_eq_true (by kernel_rfl)) (by unfold Func.isWrapper; rw [if_neg (by decide +kernel)]; exact ⟨rfl, rfl⟩)
    (fun os started H enc _ => poolStays_lifted os started H enc)
end Go.Proofs.Ytkabheeblnooaaa
#print axioms Go.Proofs.Ytkabheeblnooaaa.poolStays_holds
end
