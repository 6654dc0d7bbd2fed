/- The law SpeechLines answers true for every input, and its argument reads as before; the two listed tables are tied to the program's text. No condition: the whole of the given statement. -/
import Derived.Test.YtldogfcfafomiaaDoorCards
import Derived.Test.YtldogfcfafomiaaDoorTie
import Derived.ProofKit
import Derived.OpenShut
import Derived.LaidMore
import Derived.Lay
import Derived.SevenTiedAt
import Derived.Stop.Joined
import Derived.Test.YtldogfcfafomiaaDoorLawL
set_option linter.all false
section
namespace Go.Proofs.YtldogfcfafomiaaDoor
open Go.Ev Go.Ev.F32 Go.ChangeShapes Go.WideShapes Go.ChangeAt Go.RowKit
set_option maxRecDepth 100000
theorem own : ownKnob Tryd.prog.godebug = Option.none := by kernel_rfl
theorem laidOut : laidOutB Tryd.prog = true := by kernel_rfl
theorem tySpeechLines : Tryd.f6.params.toList.mapM (tyA Tryd.prog 8) = some [(0, [Ty.sl 0 [Ty.str]])] := by kernel_rfl
theorem speechLines_lifted (os : Os) (started : os.Started) (H : Type) (enc : TypeId × Value → H) :
    ReturnsInHanded {} Tryd.checked os 6 .any (fun w args => (Rows.speechLinesSpec.pre enc Tryd.prog Tryd.f6 Rows.speechLinesRow.domain false w args ∧ laidMetH Tryd.prog Rows.speechLinesRow.laid w) ∧ sizedMet enc Tryd.prog Tryd.f6 (OpenSpec.ofChange Rows.speechLinesSpec) false w args)
      (Rows.speechLinesSpec.post enc Tryd.prog Tryd.f6 false true false false) := by
  refine returnsInHanded_of_change_and (C := Tryd.checked) (X := fun w _ => laidMetH Tryd.prog Rows.speechLinesRow.laid w) (fun _ _ _ hh h => h.of_heap hh) own started (by kernel_rfl) Tryd.func6
    (ChangeSpec.witness_shaped (enc := enc) (C := Tryd.checked) (os := os) (X := fun w _ => laidMetH Tryd.prog Rows.speechLinesRow.laid w) false (World.laidAll Tryd.prog os Rows.speechLinesRow.laid) #[.slice Option.none 0 0] 8 (World.laidAll_os _ _ _)
      (World.shaped_of_ZipB (by kernel_rfl) (by kernel_rfl)) (by kernel_rfl) (by kernel_rfl) (by kernel_rfl)
      (by rw [MakeChecks.laidMetH_plain _ _ _ (by kernel_rfl)]; exact laidMet_laidAll _ (by kernel_rfl) (by kernel_rfl))) ?_
  intro W base args ds gs before hval hW _ _ _ _
  refine law_calls (C := Cf) extOK extMono okfOK (fn := Tryd.f6) laidOut (by decide +kernel) (s := Rows.speechLinesSpec) rfl ?_ tySpeechLines (bt := 4) (by kernel_rfl) und_4 lawSpeechLines hval hW
  intro H ds h
  match ds, h with
  | [_], _ => rfl
theorem speechLines_row : Rows.SpeechLinesSaid :=
  OpenClaim.holds_of_wide 6 Tryd.f6 rfl rfl rfl rfl rfl rfl rfl ⟨rfl, rfl, rfl, rfl, rfl⟩ rfl rfl rfl rfl rfl (by kernel_rfl) Tryd.func6 (by kernel_rfl)
    (of_decide_eq_true (by kernel_rfl)) (by unfold Func.isWrapper; rw [if_neg (by decide +kernel)]; exact ⟨rfl, rfl⟩)
    (fun os started H enc _ => speechLines_lifted os started H enc)
theorem speechLines_holds : Rows.SpeechLinesCardSaid :=
  Claim7.holds_tied_plain_at .later [] [.data, .pinned] true (true, "68753b9784317035982dabfb218a4a09f2a8db9f53a9d96d62a22b4134232de3") false speechLines_row (fun _ h => by cases h) (by kernel_rfl) (fun _ h => by cases h) speechLines_row_tie rfl ⟨rfl, rfl⟩ (by kernel_rfl) rfl
    (fun f fn hf hfn => by
      obtain rfl : f = 6 := Option.some.inj ((show Tryd.prog.funcNamed "counterpane/counterpanelaw32.SpeechLines" = some 6 by kernel_rfl).symm.trans hf) |>.symm
      obtain rfl : fn = Tryd.f6 := (Option.some.inj (Tryd.func6.symm.trans hfn)).symm
      exact ⟨by kernel_rfl, fun j t ht => by
        rw [Tryd.params6] at ht
        have hm : t ∈ [37] := by simpa using Array.mem_of_getElem? ht
        have hall : ([37].all fun u => !Tryd.prog.wantsStandIn u) = true := by kernel_rfl
        exact (show Tryd.prog.wantsStandIn t = false by simpa using List.all_eq_true.1 hall t hm)⟩)
    (by kernel_rfl)
end Go.Proofs.YtldogfcfafomiaaDoor
#print axioms Go.Proofs.YtldogfcfafomiaaDoor.speechLines_holds
end
