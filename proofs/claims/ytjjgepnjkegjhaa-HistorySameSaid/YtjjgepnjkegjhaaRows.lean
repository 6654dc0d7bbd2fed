/-
  No cell of these rows narrows 'for every input' (looked for: loops, veiled, ifaces, maps, wideKeys, modest, calm, conditions, laid).
  DERIVED. THE GIVEN ROWS OF THIS SEAT. 4 by the template 'for every input the law returns true; each argument reads behind the call as it read before'; 0 by the template 'total and deterministic' (their statements: YtjjgepnjkegjhaaTotals.lean).
  GIVEN WITH THE SEED: the statements are not yours to turn. If you find one false, say at which input.
  Laid BY PROGRAM, IN A SANDBOX (cutbox-rows.mjs): the forced cells as the released guide's own fill.sh prints them over the translation 4a8a7b77ad7c70bb… (all of the seat's roots in one cut). By AI agents, Wed Nov 11 2026. No macro, syntax, notation, axiom, sorry.
-/
import Derived.Test.YtjjgepnjkegjhaaChecked
import GoSem.Claim
import GoSem.ClaimJoined
import GoSem.ClaimMapViews
import Derived.JoinedTies
import Derived.KernelRfl
namespace Go.Proofs.Ytjjgepnjkegjhaa
/- THE CELL 'sum', in the pinned program and in every row, IS THE sha256 OF THE DUMP (.gsa) THAT YtjjgepnjkegjhaaProg.lean LOADS. Nothing in Lean hashes anything: it is a label: what it is worth is what the hold of that sum in a sandbox is worth. -/
noncomputable def Try.pinned : Pinned := { name := "ytjjgepnjkegjhaa", sum := "4a8a7b77ad7c70bbed0801f8558aaa332862478700acbecffc804f13a5fc973b", checked := Try.checked }
namespace Rows
def none {H : Type} : Left H := { results := [], args := [] }

/-- 'counterpanelaw23.HistoryOrders': WHATEVER THE INPUT: true; the input reads as it did. -/
def historyOrdersSpec : ChangeSpec := { name := "historyOrders", fn := fun _ => fun
  | [d] => { results := [.lit (.bool true)], args := [d] }
  | _ => none }
def historyOrdersRow : OpenClaim := { program := "ytjjgepnjkegjhaa", sum := "4a8a7b77ad7c70bbed0801f8558aaa332862478700acbecffc804f13a5fc973b", func := "counterpane/counterpanelaw23.HistoryOrders", spec := "historyOrders", unfollowed := true, recurses := true, plainKeys := false, apart := false }
def HistoryOrdersSaid : Prop := historyOrdersRow.holds Try.pinned (OpenSpec.ofChange historyOrdersSpec)

/-- ITS FALSE NEIGHBOUR: 'it returns false'. Refute it at one input. -/
def historyOrdersWrong : ChangeSpec := { name := "historyOrders", fn := fun _ => fun
  | [d] => { results := [.lit (.bool false)], args := [d] }
  | _ => none }
def HistoryOrdersWrongFalsely : Prop := historyOrdersRow.holds Try.pinned (OpenSpec.ofChange historyOrdersWrong)

/-- 'counterpanelaw23.HistoryArcs': WHATEVER THE INPUT: true; the input reads as it did. -/
def historyArcsSpec : ChangeSpec := { name := "historyArcs", fn := fun _ => fun
  | [d] => { results := [.lit (.bool true)], args := [d] }
  | _ => none }
def historyArcsRow : OpenClaim := { program := "ytjjgepnjkegjhaa", sum := "4a8a7b77ad7c70bbed0801f8558aaa332862478700acbecffc804f13a5fc973b", func := "counterpane/counterpanelaw23.HistoryArcs", spec := "historyArcs", unfollowed := true, recurses := true, plainKeys := false, apart := false }
def HistoryArcsSaid : Prop := historyArcsRow.holds Try.pinned (OpenSpec.ofChange historyArcsSpec)

/-- ITS FALSE NEIGHBOUR: 'it returns false'. Refute it at one input. -/
def historyArcsWrong : ChangeSpec := { name := "historyArcs", fn := fun _ => fun
  | [d] => { results := [.lit (.bool false)], args := [d] }
  | _ => none }
def HistoryArcsWrongFalsely : Prop := historyArcsRow.holds Try.pinned (OpenSpec.ofChange historyArcsWrong)

/-- 'counterpanelaw23.HistorySame': WHATEVER THE INPUT: true; the input reads as it did. -/
def historySameSpec : ChangeSpec := { name := "historySame", fn := fun _ => fun
  | [d] => { results := [.lit (.bool true)], args := [d] }
  | _ => none }
def historySameRow : OpenClaim := { program := "ytjjgepnjkegjhaa", sum := "4a8a7b77ad7c70bbed0801f8558aaa332862478700acbecffc804f13a5fc973b", func := "counterpane/counterpanelaw23.HistorySame", spec := "historySame", unfollowed := true, recurses := true, plainKeys := false, apart := false }
def HistorySameSaid : Prop := historySameRow.holds Try.pinned (OpenSpec.ofChange historySameSpec)

/-- ITS FALSE NEIGHBOUR: 'it returns false'. Refute it at one input. -/
def historySameWrong : ChangeSpec := { name := "historySame", fn := fun _ => fun
  | [d] => { results := [.lit (.bool false)], args := [d] }
  | _ => none }
def HistorySameWrongFalsely : Prop := historySameRow.holds Try.pinned (OpenSpec.ofChange historySameWrong)

/-- 'counterpanelaw23.HistorySources': WHATEVER THE INPUT: true; the input reads as it did. -/
def historySourcesSpec : ChangeSpec := { name := "historySources", fn := fun _ => fun
  | [d] => { results := [.lit (.bool true)], args := [d] }
  | _ => none }
def historySourcesRow : OpenClaim := { program := "ytjjgepnjkegjhaa", sum := "4a8a7b77ad7c70bbed0801f8558aaa332862478700acbecffc804f13a5fc973b", func := "counterpane/counterpanelaw23.HistorySources", spec := "historySources", unfollowed := true, recurses := true, plainKeys := false, apart := false }
def HistorySourcesSaid : Prop := historySourcesRow.holds Try.pinned (OpenSpec.ofChange historySourcesSpec)

/-- ITS FALSE NEIGHBOUR: 'it returns false'. Refute it at one input. -/
def historySourcesWrong : ChangeSpec := { name := "historySources", fn := fun _ => fun
  | [d] => { results := [.lit (.bool false)], args := [d] }
  | _ => none }
def HistorySourcesWrongFalsely : Prop := historySourcesRow.holds Try.pinned (OpenSpec.ofChange historySourcesWrong)

/- THE SECOND FORM. 'bulk': how many values and letters a reading holds, each counted each time it is reached (what is shared counts as often as it is met; a slice's spare places count too). A statement '..UptoSaid' is the law's where the arguments, and the package variables that the reading takes, are together of bulk at most 1048576: NARROWER than '..Said'. Prove '..Said' where nothing that the law and all that it calls make is longer than what came in: it says more and counts as full. Else prove '..UptoSaid'. A law counts once. -/
mutual
def uptoBulk {H : Type} : DataW H → Nat
  | .lit (.string bytes) => bytes.length + 1
  | .lit _ => 1
  | .nil => 1
  | .ptr d => uptoBulk d + 1
  | .slice elems spare => uptoBulkAll elems + uptoBulkAll spare + 1
  | .agg parts => uptoBulkAll parts + 1
  | .iface _ d => uptoBulk d + 1
  | .map entries => uptoBulkEntries entries + 1
  | .held _ => 1
def uptoBulkAll {H : Type} : List (DataW H) → Nat
  | [] => 0
  | d :: r => uptoBulk d + uptoBulkAll r
def uptoBulkEntries {H : Type} : List (Lit × DataW H) → Nat
  | [] => 0
  | x :: r => uptoBulkEntry x + uptoBulkEntries r
def uptoBulkEntry {H : Type} : Lit × DataW H → Nat
  | (.string bytes, d) => bytes.length + uptoBulk d + 1
  | (_, d) => uptoBulk d + 1
 end
def uptoSmall : (H : Type) → List (DataW H) → Bool := fun _ ds => decide (uptoBulkAll ds ≤ 1048576)
def OpenSpec.upto (s : _root_.Go.ChangeSpec) : _root_.Go.OpenSpec := { _root_.Go.OpenSpec.ofChange s with cond := some uptoSmall }

/-- 'counterpanelaw23.HistoryOrders', WHERE WHAT IT READS IS OF BULK AT MOST 1048576: true; the input reads as it did. -/
def historyOrdersUptoRow : OpenClaim := { program := "ytjjgepnjkegjhaa", sum := "4a8a7b77ad7c70bbed0801f8558aaa332862478700acbecffc804f13a5fc973b", func := "counterpane/counterpanelaw23.HistoryOrders", spec := "historyOrders", unfollowed := true, recurses := true, plainKeys := false, apart := false, narrowed := true }
def HistoryOrdersUptoSaid : Prop := historyOrdersUptoRow.holds Try.pinned (OpenSpec.upto historyOrdersSpec)

/-- 'counterpanelaw23.HistoryArcs', WHERE WHAT IT READS IS OF BULK AT MOST 1048576: true; the input reads as it did. -/
def historyArcsUptoRow : OpenClaim := { program := "ytjjgepnjkegjhaa", sum := "4a8a7b77ad7c70bbed0801f8558aaa332862478700acbecffc804f13a5fc973b", func := "counterpane/counterpanelaw23.HistoryArcs", spec := "historyArcs", unfollowed := true, recurses := true, plainKeys := false, apart := false, narrowed := true }
def HistoryArcsUptoSaid : Prop := historyArcsUptoRow.holds Try.pinned (OpenSpec.upto historyArcsSpec)

/-- 'counterpanelaw23.HistorySame', WHERE WHAT IT READS IS OF BULK AT MOST 1048576: true; the input reads as it did. -/
def historySameUptoRow : OpenClaim := { program := "ytjjgepnjkegjhaa", sum := "4a8a7b77ad7c70bbed0801f8558aaa332862478700acbecffc804f13a5fc973b", func := "counterpane/counterpanelaw23.HistorySame", spec := "historySame", unfollowed := true, recurses := true, plainKeys := false, apart := false, narrowed := true }
def HistorySameUptoSaid : Prop := historySameUptoRow.holds Try.pinned (OpenSpec.upto historySameSpec)

/-- 'counterpanelaw23.HistorySources', WHERE WHAT IT READS IS OF BULK AT MOST 1048576: true; the input reads as it did. -/
def historySourcesUptoRow : OpenClaim := { program := "ytjjgepnjkegjhaa", sum := "4a8a7b77ad7c70bbed0801f8558aaa332862478700acbecffc804f13a5fc973b", func := "counterpane/counterpanelaw23.HistorySources", spec := "historySources", unfollowed := true, recurses := true, plainKeys := false, apart := false, narrowed := true }
def HistorySourcesUptoSaid : Prop := historySourcesUptoRow.holds Try.pinned (OpenSpec.upto historySourcesSpec)

end Rows
end Go.Proofs.Ytjjgepnjkegjhaa
