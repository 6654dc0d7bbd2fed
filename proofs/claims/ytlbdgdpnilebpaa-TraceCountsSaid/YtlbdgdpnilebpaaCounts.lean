/- The law TraceCounts answers true for every input, and its arguments read as before. No condition: the whole of the given statement. -/
import Derived.Test.YtlbdgdpnilebpaaRows
import Derived.Test.YtlbdgdpnilebpaaLawE
set_option linter.all false
section
namespace Go.Proofs.Ytlbdgdpnilebpaa
open Go.Ev Go.Ev.F35
set_option maxRecDepth 100000
theorem own : ownKnob Try.prog.godebug = Option.none := by kernel_rfl
theorem laidOut : laidOutB Try.prog = true := by kernel_rfl
theorem tyTraceCounts : Try.f5.params.toList.mapM (tyA Try.prog 8) = some [(0, [Ty.sl 16 vtT])] := by kernel_rfl
theorem traceCounts_lifted (os : Os) (started : os.Started) (H : Type) (enc : TypeId × Value → H) :
    ReturnsInHanded {} Try.checked os 5 .any (Rows.traceCountsSpec.pre6 enc Try.prog Try.f5 Rows.traceCountsRow.domain false) (Rows.traceCountsSpec.post enc Try.prog Try.f5 false true false false) := by
  refine returnsInHanded_of_change (C := Try.checked) own started (by kernel_rfl) Try.func5
    (ChangeSpec.witness6 (enc := enc) (C := Try.checked) false ⟨#[], #[.slice Option.none 0 0], []⟩ 8 (by kernel_rfl) (by kernel_rfl) (by kernel_rfl) (by kernel_rfl)) ?_
  intro W base args ds gs before hval hW _ _
  refine law_calls (C := Cf) extOK extMono okfOK (fn := Try.f5) laidOut (by decide +kernel) (s := Rows.traceCountsSpec) rfl ?_ tyTraceCounts (bt := 4) (by kernel_rfl) und_4 lawTraceCounts hval hW
  intro H ds h
  match ds, h with
  | [_], _ => rfl
theorem traceCounts_holds : Rows.TraceCountsSaid :=
  OpenClaim.holds_of_wide 5 Try.f5 rfl rfl rfl rfl rfl rfl rfl ⟨rfl, rfl, rfl, rfl, rfl⟩ rfl rfl rfl rfl rfl (by kernel_rfl) Try.func5 (by kernel_rfl)
    (of_decide_eq_true (by kernel_rfl)) (by unfold Func.isWrapper; rw [if_neg (by decide +kernel)]; exact ⟨rfl, rfl⟩)
    (fun os started H enc _ => traceCounts_lifted os started H enc)
end Go.Proofs.Ytlbdgdpnilebpaa
#print axioms Go.Proofs.Ytlbdgdpnilebpaa.traceCounts_holds
end
