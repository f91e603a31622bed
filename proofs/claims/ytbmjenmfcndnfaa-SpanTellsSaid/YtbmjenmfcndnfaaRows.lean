/-
  No cell of these rows narrows 'for every input' (looked for: loops, veiled, ifaces, maps, wideKeys, modest, calm, conditions, laid).
  DERIVED. THE GIVEN ROWS OF THIS SEAT. 5 by the template 'for every input the law returns true; each argument reads behind the call as it read before'; 0 by the template 'total and deterministic' (their statements: YtbmjenmfcndnfaaTotals.lean).
  GIVEN WITH THE SEED: the statements are not yours to turn. If you find one false, say at which input.
  Laid BY PROGRAM, IN A SANDBOX (cutbox-rows.mjs): the forced cells as the released guide's own fill.sh prints them over the translation 4eeb496855c7a530… (all of the seat's roots in one cut). By AI agents, Wed Nov 11 2026. No macro, syntax, notation, axiom, sorry.
-/
import Derived.Test.YtbmjenmfcndnfaaChecked
import GoSem.Claim
import GoSem.ClaimJoined
import GoSem.ClaimMapViews
import Derived.JoinedTies
import Derived.KernelRfl
namespace Go.Proofs.Ytbmjenmfcndnfaa
/- THE CELL 'sum', in the pinned program and in every row, IS THE sha256 OF THE DUMP (.gsa) THAT YtbmjenmfcndnfaaProg.lean LOADS. Nothing in Lean hashes anything: it is a label: what it is worth is what the hold of that sum in a sandbox is worth. -/
noncomputable def Try.pinned : Pinned := { name := "ytbmjenmfcndnfaa", sum := "4eeb496855c7a53089b3a9155f4dd2c6529731b56de184fb11bd77f8746c3609", checked := Try.checked }
namespace Rows
def none {H : Type} : Left H := { results := [], args := [] }

/-- 'bournelaw09.SpanEncloses': WHATEVER THE INPUT: true; the input reads as it did. -/
def spanEnclosesSpec : ChangeSpec := { name := "spanEncloses", fn := fun _ => fun
  | [d1, d2, d3, d4, d5, d6] => { results := [.lit (.bool true)], args := [d1, d2, d3, d4, d5, d6] }
  | _ => none }
def spanEnclosesRow : OpenClaim := { program := "ytbmjenmfcndnfaa", sum := "4eeb496855c7a53089b3a9155f4dd2c6529731b56de184fb11bd77f8746c3609", func := "bourne/bournelaw09.SpanEncloses", spec := "spanEncloses", named := ["math/bits.divideError", "math/bits.overflowError"], apart := false }
def SpanEnclosesSaid : Prop := spanEnclosesRow.holds Try.pinned (OpenSpec.ofChange spanEnclosesSpec)

/-- ITS FALSE NEIGHBOUR: 'it returns false'. Refute it at one input. -/
def spanEnclosesWrong : ChangeSpec := { name := "spanEncloses", fn := fun _ => fun
  | [d1, d2, d3, d4, d5, d6] => { results := [.lit (.bool false)], args := [d1, d2, d3, d4, d5, d6] }
  | _ => none }
def SpanEnclosesWrongFalsely : Prop := spanEnclosesRow.holds Try.pinned (OpenSpec.ofChange spanEnclosesWrong)

/-- 'bournelaw09.SpanMeets': WHATEVER THE INPUT: true; the input reads as it did. -/
def spanMeetsSpec : ChangeSpec := { name := "spanMeets", fn := fun _ => fun
  | [d1, d2, d3] => { results := [.lit (.bool true)], args := [d1, d2, d3] }
  | _ => none }
def spanMeetsRow : OpenClaim := { program := "ytbmjenmfcndnfaa", sum := "4eeb496855c7a53089b3a9155f4dd2c6529731b56de184fb11bd77f8746c3609", func := "bourne/bournelaw09.SpanMeets", spec := "spanMeets", named := ["math/bits.divideError", "math/bits.overflowError"], apart := false }
def SpanMeetsSaid : Prop := spanMeetsRow.holds Try.pinned (OpenSpec.ofChange spanMeetsSpec)

/-- ITS FALSE NEIGHBOUR: 'it returns false'. Refute it at one input. -/
def spanMeetsWrong : ChangeSpec := { name := "spanMeets", fn := fun _ => fun
  | [d1, d2, d3] => { results := [.lit (.bool false)], args := [d1, d2, d3] }
  | _ => none }
def SpanMeetsWrongFalsely : Prop := spanMeetsRow.holds Try.pinned (OpenSpec.ofChange spanMeetsWrong)

/-- 'bournelaw09.SpanGrows': WHATEVER THE INPUT: true; the input reads as it did. -/
def spanGrowsSpec : ChangeSpec := { name := "spanGrows", fn := fun _ => fun
  | [d1, d2, d3, d4, d5, d6] => { results := [.lit (.bool true)], args := [d1, d2, d3, d4, d5, d6] }
  | _ => none }
def spanGrowsRow : OpenClaim := { program := "ytbmjenmfcndnfaa", sum := "4eeb496855c7a53089b3a9155f4dd2c6529731b56de184fb11bd77f8746c3609", func := "bourne/bournelaw09.SpanGrows", spec := "spanGrows", named := ["math/bits.divideError", "math/bits.overflowError"], apart := false }
def SpanGrowsSaid : Prop := spanGrowsRow.holds Try.pinned (OpenSpec.ofChange spanGrowsSpec)

/-- ITS FALSE NEIGHBOUR: 'it returns false'. Refute it at one input. -/
def spanGrowsWrong : ChangeSpec := { name := "spanGrows", fn := fun _ => fun
  | [d1, d2, d3, d4, d5, d6] => { results := [.lit (.bool false)], args := [d1, d2, d3, d4, d5, d6] }
  | _ => none }
def SpanGrowsWrongFalsely : Prop := spanGrowsRow.holds Try.pinned (OpenSpec.ofChange spanGrowsWrong)

/-- 'bournelaw09.SpanTells': WHATEVER THE INPUT: true; the input reads as it did. -/
def spanTellsSpec : ChangeSpec := { name := "spanTells", fn := fun _ => fun
  | [d1, d2, d3, d4, d5] => { results := [.lit (.bool true)], args := [d1, d2, d3, d4, d5] }
  | _ => none }
def spanTellsRow : OpenClaim := { program := "ytbmjenmfcndnfaa", sum := "4eeb496855c7a53089b3a9155f4dd2c6529731b56de184fb11bd77f8746c3609", func := "bourne/bournelaw09.SpanTells", spec := "spanTells", named := ["math/bits.divideError", "math/bits.overflowError"], apart := false }
def SpanTellsSaid : Prop := spanTellsRow.holds Try.pinned (OpenSpec.ofChange spanTellsSpec)

/-- ITS FALSE NEIGHBOUR: 'it returns false'. Refute it at one input. -/
def spanTellsWrong : ChangeSpec := { name := "spanTells", fn := fun _ => fun
  | [d1, d2, d3, d4, d5] => { results := [.lit (.bool false)], args := [d1, d2, d3, d4, d5] }
  | _ => none }
def SpanTellsWrongFalsely : Prop := spanTellsRow.holds Try.pinned (OpenSpec.ofChange spanTellsWrong)

/-- 'bournelaw09.SpanOrders': WHATEVER THE INPUT: true; the input reads as it did. -/
def spanOrdersSpec : ChangeSpec := { name := "spanOrders", fn := fun _ => fun
  | [d1, d2, d3, d4] => { results := [.lit (.bool true)], args := [d1, d2, d3, d4] }
  | _ => none }
def spanOrdersRow : OpenClaim := { program := "ytbmjenmfcndnfaa", sum := "4eeb496855c7a53089b3a9155f4dd2c6529731b56de184fb11bd77f8746c3609", func := "bourne/bournelaw09.SpanOrders", spec := "spanOrders", named := ["math/bits.divideError", "math/bits.overflowError"], apart := false }
def SpanOrdersSaid : Prop := spanOrdersRow.holds Try.pinned (OpenSpec.ofChange spanOrdersSpec)

/-- ITS FALSE NEIGHBOUR: 'it returns false'. Refute it at one input. -/
def spanOrdersWrong : ChangeSpec := { name := "spanOrders", fn := fun _ => fun
  | [d1, d2, d3, d4] => { results := [.lit (.bool false)], args := [d1, d2, d3, d4] }
  | _ => none }
def SpanOrdersWrongFalsely : Prop := spanOrdersRow.holds Try.pinned (OpenSpec.ofChange spanOrdersWrong)

/- THE SECOND FORM. 'bulk': how many values and letters a reading holds, each counted each time it is reached (what is shared counts as often as it is met; a slice's spare places count too). A statement '..UptoSaid' is the law's where the arguments, and the package variables that the reading takes, are together of bulk at most 1048576: NARROWER than '..Said'. Prove '..Said' where nothing that the law and all that it calls make is longer than what came in: it says more and counts as full. Else prove '..UptoSaid'. A law counts once. -/
mutual
def uptoBulk {H : Type} : DataW H → Nat
  | .lit (.string bytes) => bytes.length + 1
  | .lit _ => 1
  | .nil => 1
  | .ptr d => uptoBulk d + 1
  | .slice elems spare => uptoBulkAll elems + uptoBulkAll spare + 1
  | .agg parts => uptoBulkAll parts + 1
  | .iface _ d => uptoBulk d + 1
  | .map entries => uptoBulkEntries entries + 1
  | .held _ => 1
def uptoBulkAll {H : Type} : List (DataW H) → Nat
  | [] => 0
  | d :: r => uptoBulk d + uptoBulkAll r
def uptoBulkEntries {H : Type} : List (Lit × DataW H) → Nat
  | [] => 0
  | x :: r => uptoBulkEntry x + uptoBulkEntries r
def uptoBulkEntry {H : Type} : Lit × DataW H → Nat
  | (.string bytes, d) => bytes.length + uptoBulk d + 1
  | (_, d) => uptoBulk d + 1
 end
def uptoSmall : (H : Type) → List (DataW H) → Bool := fun _ ds => decide (uptoBulkAll ds ≤ 1048576)
def OpenSpec.upto (s : _root_.Go.ChangeSpec) : _root_.Go.OpenSpec := { _root_.Go.OpenSpec.ofChange s with cond := some uptoSmall }

/-- 'bournelaw09.SpanEncloses', WHERE WHAT IT READS IS OF BULK AT MOST 1048576: true; the input reads as it did. -/
def spanEnclosesUptoRow : OpenClaim := { program := "ytbmjenmfcndnfaa", sum := "4eeb496855c7a53089b3a9155f4dd2c6529731b56de184fb11bd77f8746c3609", func := "bourne/bournelaw09.SpanEncloses", spec := "spanEncloses", named := ["math/bits.divideError", "math/bits.overflowError"], apart := false, narrowed := true }
def SpanEnclosesUptoSaid : Prop := spanEnclosesUptoRow.holds Try.pinned (OpenSpec.upto spanEnclosesSpec)

/-- 'bournelaw09.SpanMeets', WHERE WHAT IT READS IS OF BULK AT MOST 1048576: true; the input reads as it did. -/
def spanMeetsUptoRow : OpenClaim := { program := "ytbmjenmfcndnfaa", sum := "4eeb496855c7a53089b3a9155f4dd2c6529731b56de184fb11bd77f8746c3609", func := "bourne/bournelaw09.SpanMeets", spec := "spanMeets", named := ["math/bits.divideError", "math/bits.overflowError"], apart := false, narrowed := true }
def SpanMeetsUptoSaid : Prop := spanMeetsUptoRow.holds Try.pinned (OpenSpec.upto spanMeetsSpec)

/-- 'bournelaw09.SpanGrows', WHERE WHAT IT READS IS OF BULK AT MOST 1048576: true; the input reads as it did. -/
def spanGrowsUptoRow : OpenClaim := { program := "ytbmjenmfcndnfaa", sum := "4eeb496855c7a53089b3a9155f4dd2c6529731b56de184fb11bd77f8746c3609", func := "bourne/bournelaw09.SpanGrows", spec := "spanGrows", named := ["math/bits.divideError", "math/bits.overflowError"], apart := false, narrowed := true }
def SpanGrowsUptoSaid : Prop := spanGrowsUptoRow.holds Try.pinned (OpenSpec.upto spanGrowsSpec)

/-- 'bournelaw09.SpanTells', WHERE WHAT IT READS IS OF BULK AT MOST 1048576: true; the input reads as it did. -/
def spanTellsUptoRow : OpenClaim := { program := "ytbmjenmfcndnfaa", sum := "4eeb496855c7a53089b3a9155f4dd2c6529731b56de184fb11bd77f8746c3609", func := "bourne/bournelaw09.SpanTells", spec := "spanTells", named := ["math/bits.divideError", "math/bits.overflowError"], apart := false, narrowed := true }
def SpanTellsUptoSaid : Prop := spanTellsUptoRow.holds Try.pinned (OpenSpec.upto spanTellsSpec)

/-- 'bournelaw09.SpanOrders', WHERE WHAT IT READS IS OF BULK AT MOST 1048576: true; the input reads as it did. -/
def spanOrdersUptoRow : OpenClaim := { program := "ytbmjenmfcndnfaa", sum := "4eeb496855c7a53089b3a9155f4dd2c6529731b56de184fb11bd77f8746c3609", func := "bourne/bournelaw09.SpanOrders", spec := "spanOrders", named := ["math/bits.divideError", "math/bits.overflowError"], apart := false, narrowed := true }
def SpanOrdersUptoSaid : Prop := spanOrdersUptoRow.holds Try.pinned (OpenSpec.upto spanOrdersSpec)

end Rows
end Go.Proofs.Ytbmjenmfcndnfaa
