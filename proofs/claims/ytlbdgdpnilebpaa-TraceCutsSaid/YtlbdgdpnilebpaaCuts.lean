/- The law TraceCuts answers true for every input, and its arguments read as before. No condition: the whole of the given statement. -/
import Derived.Test.YtlbdgdpnilebpaaRows
import Derived.Test.YtlbdgdpnilebpaaLawC
set_option linter.all false
section
namespace Go.Proofs.Ytlbdgdpnilebpaa
open Go.Ev Go.Ev.F35
set_option maxRecDepth 100000
theorem own : ownKnob Try.prog.godebug = Option.none := by kernel_rfl
theorem laidOut : laidOutB Try.prog = true := by kernel_rfl
theorem tyTraceCuts : Try.f3.params.toList.mapM (tyA Try.prog 8) = some [(0, [Ty.sl 16 vtT])] := by kernel_rfl
theorem traceCuts_lifted (os : Os) (started : os.Started) (H : Type) (enc : TypeId × Value → H) :
    ReturnsInHanded {} Try.checked os 3 .any (Rows.traceCutsSpec.pre6 enc Try.prog Try.f3 Rows.traceCutsRow.domain false) (Rows.traceCutsSpec.post enc Try.prog Try.f3 false true false false) := by
  refine returnsInHanded_of_change (C := Try.checked) own started (by kernel_rfl) Try.func3
    (ChangeSpec.witness6 (enc := enc) (C := Try.checked) false ⟨#[], #[.slice Option.none 0 0], []⟩ 8 (by kernel_rfl) (by kernel_rfl) (by kernel_rfl) (by kernel_rfl)) ?_
  intro W base args ds gs before hval hW _ _
  refine law_calls (C := Cf) extOK extMono okfOK (fn := Try.f3) laidOut (by decide +kernel) (s := Rows.traceCutsSpec) rfl ?_ tyTraceCuts (bt := 4) (by kernel_rfl) und_4 lawTraceCuts hval hW
  intro H ds h
  match ds, h with
  | [_], _ => rfl
theorem traceCuts_holds : Rows.TraceCutsSaid :=
  OpenClaim.holds_of_wide 3 Try.f3 rfl rfl rfl rfl rfl rfl rfl ⟨rfl, rfl, rfl, rfl, rfl⟩ rfl rfl rfl rfl rfl (by kernel_rfl) Try.func3 (by kernel_rfl)
    (of_decide_eq_true (by kernel_rfl)) (by unfold Func.isWrapper; rw [if_neg (by decide +kernel)]; exact ⟨rfl, rfl⟩)
    (fun os started H enc _ => traceCuts_lifted os started H enc)
end Go.Proofs.Ytlbdgdpnilebpaa
#print axioms Go.Proofs.Ytlbdgdpnilebpaa.traceCuts_holds
end
