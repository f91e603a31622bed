/-
  No cell of these rows narrows 'for every input' (looked for: loops, veiled, ifaces, maps, wideKeys, modest, calm, conditions, laid).
  DERIVED. THE GIVEN ROWS OF THIS SEAT. 5 by the template 'for every input the law returns true; each argument reads behind the call as it read before'; 0 by the template 'total and deterministic' (their statements: YthbjechgdjcogaaTotals.lean).
  GIVEN WITH THE SEED: the statements are not yours to turn. If you find one false, say at which input.
  Laid BY PROGRAM, IN A SANDBOX (cutbox-rows.mjs): the forced cells as the released guide's own fill.sh prints them over the translation 6b648e8dc93cfe49… (all of the seat's roots in one cut). By AI agents, Wed Nov 11 2026. No macro, syntax, notation, axiom, sorry.
-/
import Derived.Test.YthbjechgdjcogaaChecked
import GoSem.Claim
import GoSem.ClaimJoined
import GoSem.ClaimMapViews
import Derived.JoinedTies
import Derived.KernelRfl
namespace Go.Proofs.Ythbjechgdjcogaa
/- THE CELL 'sum', in the pinned program and in every row, IS THE sha256 OF THE DUMP (.gsa) THAT YthbjechgdjcogaaProg.lean LOADS. Nothing in Lean hashes anything: it is a label: what it is worth is what the hold of that sum in a sandbox is worth. -/
noncomputable def Try.pinned : Pinned := { name := "ythbjechgdjcogaa", sum := "6b648e8dc93cfe4903aaabb632e811ca00a22b9c20090cef8c883a5edaba4f51", checked := Try.checked }
namespace Rows
def none {H : Type} : Left H := { results := [], args := [] }

/-- 'bournelaw18.ReachTells': WHATEVER THE INPUT: true; the input reads as it did. -/
def reachTellsSpec : ChangeSpec := { name := "reachTells", fn := fun _ => fun
  | [d1, d2, d3, d4, d5, d6, d7, d8] => { results := [.lit (.bool true)], args := [d1, d2, d3, d4, d5, d6, d7, d8] }
  | _ => none }
def reachTellsRow : OpenClaim := { program := "ythbjechgdjcogaa", sum := "6b648e8dc93cfe4903aaabb632e811ca00a22b9c20090cef8c883a5edaba4f51", func := "bourne/bournelaw18.ReachTells", spec := "reachTells", unfollowed := true, recurses := true, named := ["math/bits.divideError", "math/bits.overflowError"], apart := false }
def ReachTellsSaid : Prop := reachTellsRow.holds Try.pinned (OpenSpec.ofChange reachTellsSpec)

/-- ITS FALSE NEIGHBOUR: 'it returns false'. Refute it at one input. -/
def reachTellsWrong : ChangeSpec := { name := "reachTells", fn := fun _ => fun
  | [d1, d2, d3, d4, d5, d6, d7, d8] => { results := [.lit (.bool false)], args := [d1, d2, d3, d4, d5, d6, d7, d8] }
  | _ => none }
def ReachTellsWrongFalsely : Prop := reachTellsRow.holds Try.pinned (OpenSpec.ofChange reachTellsWrong)

/-- 'bournelaw18.ReachRoutes': WHATEVER THE INPUT: true; the input reads as it did. -/
def reachRoutesSpec : ChangeSpec := { name := "reachRoutes", fn := fun _ => fun
  | [d1, d2, d3] => { results := [.lit (.bool true)], args := [d1, d2, d3] }
  | _ => none }
def reachRoutesRow : OpenClaim := { program := "ythbjechgdjcogaa", sum := "6b648e8dc93cfe4903aaabb632e811ca00a22b9c20090cef8c883a5edaba4f51", func := "bourne/bournelaw18.ReachRoutes", spec := "reachRoutes", unfollowed := true, recurses := true, named := ["math/bits.divideError", "math/bits.overflowError"], apart := false }
def ReachRoutesSaid : Prop := reachRoutesRow.holds Try.pinned (OpenSpec.ofChange reachRoutesSpec)

/-- ITS FALSE NEIGHBOUR: 'it returns false'. Refute it at one input. -/
def reachRoutesWrong : ChangeSpec := { name := "reachRoutes", fn := fun _ => fun
  | [d1, d2, d3] => { results := [.lit (.bool false)], args := [d1, d2, d3] }
  | _ => none }
def ReachRoutesWrongFalsely : Prop := reachRoutesRow.holds Try.pinned (OpenSpec.ofChange reachRoutesWrong)

/-- 'bournelaw18.ReachConserves': WHATEVER THE INPUT: true; the input reads as it did. -/
def reachConservesSpec : ChangeSpec := { name := "reachConserves", fn := fun _ => fun
  | [d1, d2, d3, d4] => { results := [.lit (.bool true)], args := [d1, d2, d3, d4] }
  | _ => none }
def reachConservesRow : OpenClaim := { program := "ythbjechgdjcogaa", sum := "6b648e8dc93cfe4903aaabb632e811ca00a22b9c20090cef8c883a5edaba4f51", func := "bourne/bournelaw18.ReachConserves", spec := "reachConserves", unfollowed := true, recurses := true, named := ["math/bits.divideError", "math/bits.overflowError"], apart := false }
def ReachConservesSaid : Prop := reachConservesRow.holds Try.pinned (OpenSpec.ofChange reachConservesSpec)

/-- ITS FALSE NEIGHBOUR: 'it returns false'. Refute it at one input. -/
def reachConservesWrong : ChangeSpec := { name := "reachConserves", fn := fun _ => fun
  | [d1, d2, d3, d4] => { results := [.lit (.bool false)], args := [d1, d2, d3, d4] }
  | _ => none }
def ReachConservesWrongFalsely : Prop := reachConservesRow.holds Try.pinned (OpenSpec.ofChange reachConservesWrong)

/-- 'bournelaw18.ReachLater': WHATEVER THE INPUT: true; the input reads as it did. -/
def reachLaterSpec : ChangeSpec := { name := "reachLater", fn := fun _ => fun
  | [d1, d2, d3, d4, d5] => { results := [.lit (.bool true)], args := [d1, d2, d3, d4, d5] }
  | _ => none }
def reachLaterRow : OpenClaim := { program := "ythbjechgdjcogaa", sum := "6b648e8dc93cfe4903aaabb632e811ca00a22b9c20090cef8c883a5edaba4f51", func := "bourne/bournelaw18.ReachLater", spec := "reachLater", unfollowed := true, recurses := true, named := ["math/bits.divideError", "math/bits.overflowError"], apart := false }
def ReachLaterSaid : Prop := reachLaterRow.holds Try.pinned (OpenSpec.ofChange reachLaterSpec)

/-- ITS FALSE NEIGHBOUR: 'it returns false'. Refute it at one input. -/
def reachLaterWrong : ChangeSpec := { name := "reachLater", fn := fun _ => fun
  | [d1, d2, d3, d4, d5] => { results := [.lit (.bool false)], args := [d1, d2, d3, d4, d5] }
  | _ => none }
def ReachLaterWrongFalsely : Prop := reachLaterRow.holds Try.pinned (OpenSpec.ofChange reachLaterWrong)

/-- 'bournelaw18.ReachUnder': WHATEVER THE INPUT: true; the input reads as it did. -/
def reachUnderSpec : ChangeSpec := { name := "reachUnder", fn := fun _ => fun
  | [d1, d2, d3, d4, d5] => { results := [.lit (.bool true)], args := [d1, d2, d3, d4, d5] }
  | _ => none }
def reachUnderRow : OpenClaim := { program := "ythbjechgdjcogaa", sum := "6b648e8dc93cfe4903aaabb632e811ca00a22b9c20090cef8c883a5edaba4f51", func := "bourne/bournelaw18.ReachUnder", spec := "reachUnder", unfollowed := true, recurses := true, named := ["math/bits.divideError", "math/bits.overflowError"], apart := false }
def ReachUnderSaid : Prop := reachUnderRow.holds Try.pinned (OpenSpec.ofChange reachUnderSpec)

/-- ITS FALSE NEIGHBOUR: 'it returns false'. Refute it at one input. -/
def reachUnderWrong : ChangeSpec := { name := "reachUnder", fn := fun _ => fun
  | [d1, d2, d3, d4, d5] => { results := [.lit (.bool false)], args := [d1, d2, d3, d4, d5] }
  | _ => none }
def ReachUnderWrongFalsely : Prop := reachUnderRow.holds Try.pinned (OpenSpec.ofChange reachUnderWrong)

/- THE SECOND FORM. 'bulk': how many values and letters a reading holds, each counted each time it is reached (what is shared counts as often as it is met; a slice's spare places count too). A statement '..UptoSaid' is the law's where the arguments, and the package variables that the reading takes, are together of bulk at most 1048576: NARROWER than '..Said'. Prove '..Said' where nothing that the law and all that it calls make is longer than what came in: it says more and counts as full. Else prove '..UptoSaid'. A law counts once. -/
mutual
def uptoBulk {H : Type} : DataW H → Nat
  | .lit (.string bytes) => bytes.length + 1
  | .lit _ => 1
  | .nil => 1
  | .ptr d => uptoBulk d + 1
  | .slice elems spare => uptoBulkAll elems + uptoBulkAll spare + 1
  | .agg parts => uptoBulkAll parts + 1
  | .iface _ d => uptoBulk d + 1
  | .map entries => uptoBulkEntries entries + 1
  | .held _ => 1
def uptoBulkAll {H : Type} : List (DataW H) → Nat
  | [] => 0
  | d :: r => uptoBulk d + uptoBulkAll r
def uptoBulkEntries {H : Type} : List (Lit × DataW H) → Nat
  | [] => 0
  | x :: r => uptoBulkEntry x + uptoBulkEntries r
def uptoBulkEntry {H : Type} : Lit × DataW H → Nat
  | (.string bytes, d) => bytes.length + uptoBulk d + 1
  | (_, d) => uptoBulk d + 1
 end
def uptoSmall : (H : Type) → List (DataW H) → Bool := fun _ ds => decide (uptoBulkAll ds ≤ 1048576)
def OpenSpec.upto (s : _root_.Go.ChangeSpec) : _root_.Go.OpenSpec := { _root_.Go.OpenSpec.ofChange s with cond := some uptoSmall }

/-- 'bournelaw18.ReachTells', WHERE WHAT IT READS IS OF BULK AT MOST 1048576: true; the input reads as it did. -/
def reachTellsUptoRow : OpenClaim := { program := "ythbjechgdjcogaa", sum := "6b648e8dc93cfe4903aaabb632e811ca00a22b9c20090cef8c883a5edaba4f51", func := "bourne/bournelaw18.ReachTells", spec := "reachTells", unfollowed := true, recurses := true, named := ["math/bits.divideError", "math/bits.overflowError"], apart := false, narrowed := true }
def ReachTellsUptoSaid : Prop := reachTellsUptoRow.holds Try.pinned (OpenSpec.upto reachTellsSpec)

/-- 'bournelaw18.ReachRoutes', WHERE WHAT IT READS IS OF BULK AT MOST 1048576: true; the input reads as it did. -/
def reachRoutesUptoRow : OpenClaim := { program := "ythbjechgdjcogaa", sum := "6b648e8dc93cfe4903aaabb632e811ca00a22b9c20090cef8c883a5edaba4f51", func := "bourne/bournelaw18.ReachRoutes", spec := "reachRoutes", unfollowed := true, recurses := true, named := ["math/bits.divideError", "math/bits.overflowError"], apart := false, narrowed := true }
def ReachRoutesUptoSaid : Prop := reachRoutesUptoRow.holds Try.pinned (OpenSpec.upto reachRoutesSpec)

/-- 'bournelaw18.ReachConserves', WHERE WHAT IT READS IS OF BULK AT MOST 1048576: true; the input reads as it did. -/
def reachConservesUptoRow : OpenClaim := { program := "ythbjechgdjcogaa", sum := "6b648e8dc93cfe4903aaabb632e811ca00a22b9c20090cef8c883a5edaba4f51", func := "bourne/bournelaw18.ReachConserves", spec := "reachConserves", unfollowed := true, recurses := true, named := ["math/bits.divideError", "math/bits.overflowError"], apart := false, narrowed := true }
def ReachConservesUptoSaid : Prop := reachConservesUptoRow.holds Try.pinned (OpenSpec.upto reachConservesSpec)

/-- 'bournelaw18.ReachLater', WHERE WHAT IT READS IS OF BULK AT MOST 1048576: true; the input reads as it did. -/
def reachLaterUptoRow : OpenClaim := { program := "ythbjechgdjcogaa", sum := "6b648e8dc93cfe4903aaabb632e811ca00a22b9c20090cef8c883a5edaba4f51", func := "bourne/bournelaw18.ReachLater", spec := "reachLater", unfollowed := true, recurses := true, named := ["math/bits.divideError", "math/bits.overflowError"], apart := false, narrowed := true }
def ReachLaterUptoSaid : Prop := reachLaterUptoRow.holds Try.pinned (OpenSpec.upto reachLaterSpec)

/-- 'bournelaw18.ReachUnder', WHERE WHAT IT READS IS OF BULK AT MOST 1048576: true; the input reads as it did. -/
def reachUnderUptoRow : OpenClaim := { program := "ythbjechgdjcogaa", sum := "6b648e8dc93cfe4903aaabb632e811ca00a22b9c20090cef8c883a5edaba4f51", func := "bourne/bournelaw18.ReachUnder", spec := "reachUnder", unfollowed := true, recurses := true, named := ["math/bits.divideError", "math/bits.overflowError"], apart := false, narrowed := true }
def ReachUnderUptoSaid : Prop := reachUnderUptoRow.holds Try.pinned (OpenSpec.upto reachUnderSpec)

end Rows
end Go.Proofs.Ythbjechgdjcogaa
