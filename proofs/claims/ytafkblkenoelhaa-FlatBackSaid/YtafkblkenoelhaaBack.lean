/- The law FlatBack answers true for every input, and its arguments read as before. No condition: the whole of the given statement. -/
import Derived.Test.YtafkblkenoelhaaRows
import Derived.Test.YtafkblkenoelhaaLawE
set_option linter.all false
section
namespace Go.Proofs.Ytafkblkenoelhaa
open Go.Ev Go.Ev.F34
set_option maxRecDepth 100000
theorem own : ownKnob Try.prog.godebug = Option.none := by kernel_rfl
theorem laidOut : laidOutB Try.prog = true := by kernel_rfl
theorem tyFlatBack : Try.f5.params.toList.mapM (tyA Try.prog 8) = some [(0, [Ty.sl 12 (.int .i64 :: .int .u8 :: aoT)]), (0, [Ty.sl 10 aoT]), (0, [Ty.int .i64])] := by kernel_rfl
theorem flatBack_lifted (os : Os) (started : os.Started) (H : Type) (enc : TypeId × Value → H) :
    ReturnsInHanded {} Try.checked os 5 .any (Rows.flatBackSpec.pre6 enc Try.prog Try.f5 Rows.flatBackRow.domain false) (Rows.flatBackSpec.post enc Try.prog Try.f5 false true false false) := by
  refine returnsInHanded_of_change (C := Try.checked) own started (by kernel_rfl) Try.func5
    (ChangeSpec.witness6 (enc := enc) (C := Try.checked) false ⟨#[], #[.slice Option.none 0 0, .slice Option.none 0 0, .int .i64 0], []⟩ 8 (by kernel_rfl) (by kernel_rfl) (by kernel_rfl) (by kernel_rfl)) ?_
  intro W base args ds gs before hval hW _ _
  refine law_calls (C := Cf) extOK extMono okfOK (fn := Try.f5) laidOut (by decide +kernel) (s := Rows.flatBackSpec) rfl ?_ tyFlatBack (bt := 4) (by kernel_rfl) und_4 lawFlatBack hval hW
  intro H ds h
  match ds, h with
  | [_, _, _], _ => rfl
theorem flatBack_holds : Rows.FlatBackSaid :=
  OpenClaim.holds_of_wide 5 Try.f5 rfl rfl rfl rfl rfl rfl rfl ⟨rfl, rfl, rfl, rfl, rfl⟩ rfl rfl rfl rfl rfl (by kernel_rfl) Try.func5 (by kernel_rfl)
    (of_decide_eq_true (by kernel_rfl)) (by unfold Func.isWrapper; rw [if_neg (by decide +kernel)]; exact ⟨rfl, rfl⟩)
    (fun os started H enc _ => flatBack_lifted os started H enc)
end Go.Proofs.Ytafkblkenoelhaa
#print axioms Go.Proofs.Ytafkblkenoelhaa.flatBack_holds
end
