/-
  No cell of these rows narrows 'for every input' (looked for: loops, veiled, ifaces, maps, wideKeys, modest, calm, conditions, laid).
  DERIVED. THE GIVEN ROWS OF THIS SEAT. 5 by the template 'for every input the law returns true; each argument reads behind the call as it read before'; 0 by the template 'total and deterministic' (their statements: YtfmnlnmajephlaaTotals.lean).
  GIVEN WITH THE SEED: the statements are not yours to turn. If you find one false, say at which input.
  Laid BY PROGRAM, IN A SANDBOX (cutbox-rows.mjs): the forced cells as the released guide's own fill.sh prints them over the translation 19628ab2e11a62fc… (all of the seat's roots in one cut). By AI agents, Wed Nov 11 2026. No macro, syntax, notation, axiom, sorry.
-/
import Derived.Test.YtfmnlnmajephlaaChecked
import GoSem.Claim
import GoSem.ClaimJoined
import GoSem.ClaimMapViews
import Derived.JoinedTies
import Derived.KernelRfl
namespace Go.Proofs.Ytfmnlnmajephlaa
/- THE CELL 'sum', in the pinned program and in every row, IS THE sha256 OF THE DUMP (.gsa) THAT YtfmnlnmajephlaaProg.lean LOADS. Nothing in Lean hashes anything: it is a label: what it is worth is what the hold of that sum in a sandbox is worth. -/
noncomputable def Try.pinned : Pinned := { name := "ytfmnlnmajephlaa", sum := "19628ab2e11a62fc15f13dd56b27954716963ebb1e269de219d9049d5727c56f", checked := Try.checked }
namespace Rows
def none {H : Type} : Left H := { results := [], args := [] }

/-- 'bournelaw17.PoolSplits': WHATEVER THE INPUT: true; the input reads as it did. -/
def poolSplitsSpec : ChangeSpec := { name := "poolSplits", fn := fun _ => fun
  | [d1, d2] => { results := [.lit (.bool true)], args := [d1, d2] }
  | _ => none }
def poolSplitsRow : OpenClaim := { program := "ytfmnlnmajephlaa", sum := "19628ab2e11a62fc15f13dd56b27954716963ebb1e269de219d9049d5727c56f", func := "bourne/bournelaw17.PoolSplits", spec := "poolSplits", inPlace := ["internal/reflectlite.ValueOf", "internal/reflectlite.Swapper", "(internal/reflectlite.Value).Len"], unfollowed := true, recurses := true, named := ["math/bits.divideError", "math/bits.overflowError"], apart := false }
def PoolSplitsSaid : Prop := poolSplitsRow.holds Try.pinned (OpenSpec.ofChange poolSplitsSpec)

/-- ITS FALSE NEIGHBOUR: 'it returns false'. Refute it at one input. -/
def poolSplitsWrong : ChangeSpec := { name := "poolSplits", fn := fun _ => fun
  | [d1, d2] => { results := [.lit (.bool false)], args := [d1, d2] }
  | _ => none }
def PoolSplitsWrongFalsely : Prop := poolSplitsRow.holds Try.pinned (OpenSpec.ofChange poolSplitsWrong)

/-- 'bournelaw17.PoolOwns': WHATEVER THE INPUT: true; the input reads as it did. -/
def poolOwnsSpec : ChangeSpec := { name := "poolOwns", fn := fun _ => fun
  | [d1, d2, d3] => { results := [.lit (.bool true)], args := [d1, d2, d3] }
  | _ => none }
def poolOwnsRow : OpenClaim := { program := "ytfmnlnmajephlaa", sum := "19628ab2e11a62fc15f13dd56b27954716963ebb1e269de219d9049d5727c56f", func := "bourne/bournelaw17.PoolOwns", spec := "poolOwns", inPlace := ["internal/reflectlite.ValueOf", "internal/reflectlite.Swapper", "(internal/reflectlite.Value).Len"], unfollowed := true, recurses := true, named := ["math/bits.divideError", "math/bits.overflowError"], apart := false }
def PoolOwnsSaid : Prop := poolOwnsRow.holds Try.pinned (OpenSpec.ofChange poolOwnsSpec)

/-- ITS FALSE NEIGHBOUR: 'it returns false'. Refute it at one input. -/
def poolOwnsWrong : ChangeSpec := { name := "poolOwns", fn := fun _ => fun
  | [d1, d2, d3] => { results := [.lit (.bool false)], args := [d1, d2, d3] }
  | _ => none }
def PoolOwnsWrongFalsely : Prop := poolOwnsRow.holds Try.pinned (OpenSpec.ofChange poolOwnsWrong)

/-- 'bournelaw17.PoolGives': WHATEVER THE INPUT: true; the input reads as it did. -/
def poolGivesSpec : ChangeSpec := { name := "poolGives", fn := fun _ => fun
  | [d1, d2, d3, d4] => { results := [.lit (.bool true)], args := [d1, d2, d3, d4] }
  | _ => none }
def poolGivesRow : OpenClaim := { program := "ytfmnlnmajephlaa", sum := "19628ab2e11a62fc15f13dd56b27954716963ebb1e269de219d9049d5727c56f", func := "bourne/bournelaw17.PoolGives", spec := "poolGives", inPlace := ["internal/reflectlite.ValueOf", "internal/reflectlite.Swapper", "(internal/reflectlite.Value).Len"], unfollowed := true, recurses := true, named := ["math/bits.divideError", "math/bits.overflowError"], apart := false }
def PoolGivesSaid : Prop := poolGivesRow.holds Try.pinned (OpenSpec.ofChange poolGivesSpec)

/-- ITS FALSE NEIGHBOUR: 'it returns false'. Refute it at one input. -/
def poolGivesWrong : ChangeSpec := { name := "poolGives", fn := fun _ => fun
  | [d1, d2, d3, d4] => { results := [.lit (.bool false)], args := [d1, d2, d3, d4] }
  | _ => none }
def PoolGivesWrongFalsely : Prop := poolGivesRow.holds Try.pinned (OpenSpec.ofChange poolGivesWrong)

/-- 'bournelaw17.PoolTells': WHATEVER THE INPUT: true; the input reads as it did. -/
def poolTellsSpec : ChangeSpec := { name := "poolTells", fn := fun _ => fun
  | [d1, d2, d3, d4, d5] => { results := [.lit (.bool true)], args := [d1, d2, d3, d4, d5] }
  | _ => none }
def poolTellsRow : OpenClaim := { program := "ytfmnlnmajephlaa", sum := "19628ab2e11a62fc15f13dd56b27954716963ebb1e269de219d9049d5727c56f", func := "bourne/bournelaw17.PoolTells", spec := "poolTells", inPlace := ["internal/reflectlite.ValueOf", "internal/reflectlite.Swapper", "(internal/reflectlite.Value).Len"], unfollowed := true, recurses := true, named := ["math/bits.divideError", "math/bits.overflowError"], apart := false }
def PoolTellsSaid : Prop := poolTellsRow.holds Try.pinned (OpenSpec.ofChange poolTellsSpec)

/-- ITS FALSE NEIGHBOUR: 'it returns false'. Refute it at one input. -/
def poolTellsWrong : ChangeSpec := { name := "poolTells", fn := fun _ => fun
  | [d1, d2, d3, d4, d5] => { results := [.lit (.bool false)], args := [d1, d2, d3, d4, d5] }
  | _ => none }
def PoolTellsWrongFalsely : Prop := poolTellsRow.holds Try.pinned (OpenSpec.ofChange poolTellsWrong)

/-- 'bournelaw17.PoolMerges': WHATEVER THE INPUT: true; the input reads as it did. -/
def poolMergesSpec : ChangeSpec := { name := "poolMerges", fn := fun _ => fun
  | [d1, d2] => { results := [.lit (.bool true)], args := [d1, d2] }
  | _ => none }
def poolMergesRow : OpenClaim := { program := "ytfmnlnmajephlaa", sum := "19628ab2e11a62fc15f13dd56b27954716963ebb1e269de219d9049d5727c56f", func := "bourne/bournelaw17.PoolMerges", spec := "poolMerges", inPlace := ["internal/reflectlite.ValueOf", "internal/reflectlite.Swapper", "(internal/reflectlite.Value).Len"], unfollowed := true, recurses := true, named := ["math/bits.divideError", "math/bits.overflowError"], apart := false }
def PoolMergesSaid : Prop := poolMergesRow.holds Try.pinned (OpenSpec.ofChange poolMergesSpec)

/-- ITS FALSE NEIGHBOUR: 'it returns false'. Refute it at one input. -/
def poolMergesWrong : ChangeSpec := { name := "poolMerges", fn := fun _ => fun
  | [d1, d2] => { results := [.lit (.bool false)], args := [d1, d2] }
  | _ => none }
def PoolMergesWrongFalsely : Prop := poolMergesRow.holds Try.pinned (OpenSpec.ofChange poolMergesWrong)

/- THE SECOND FORM. 'bulk': how many values and letters a reading holds, each counted each time it is reached (what is shared counts as often as it is met; a slice's spare places count too). A statement '..UptoSaid' is the law's where the arguments, and the package variables that the reading takes, are together of bulk at most 1048576: NARROWER than '..Said'. Prove '..Said' where nothing that the law and all that it calls make is longer than what came in: it says more and counts as full. Else prove '..UptoSaid'. A law counts once. -/
mutual
def uptoBulk {H : Type} : DataW H → Nat
  | .lit (.string bytes) => bytes.length + 1
  | .lit _ => 1
  | .nil => 1
  | .ptr d => uptoBulk d + 1
  | .slice elems spare => uptoBulkAll elems + uptoBulkAll spare + 1
  | .agg parts => uptoBulkAll parts + 1
  | .iface _ d => uptoBulk d + 1
  | .map entries => uptoBulkEntries entries + 1
  | .held _ => 1
def uptoBulkAll {H : Type} : List (DataW H) → Nat
  | [] => 0
  | d :: r => uptoBulk d + uptoBulkAll r
def uptoBulkEntries {H : Type} : List (Lit × DataW H) → Nat
  | [] => 0
  | x :: r => uptoBulkEntry x + uptoBulkEntries r
def uptoBulkEntry {H : Type} : Lit × DataW H → Nat
  | (.string bytes, d) => bytes.length + uptoBulk d + 1
  | (_, d) => uptoBulk d + 1
 end
def uptoSmall : (H : Type) → List (DataW H) → Bool := fun _ ds => decide (uptoBulkAll ds ≤ 1048576)
def OpenSpec.upto (s : _root_.Go.ChangeSpec) : _root_.Go.OpenSpec := { _root_.Go.OpenSpec.ofChange s with cond := some uptoSmall }

/-- 'bournelaw17.PoolSplits', WHERE WHAT IT READS IS OF BULK AT MOST 1048576: true; the input reads as it did. -/
def poolSplitsUptoRow : OpenClaim := { program := "ytfmnlnmajephlaa", sum := "19628ab2e11a62fc15f13dd56b27954716963ebb1e269de219d9049d5727c56f", func := "bourne/bournelaw17.PoolSplits", spec := "poolSplits", inPlace := ["internal/reflectlite.ValueOf", "internal/reflectlite.Swapper", "(internal/reflectlite.Value).Len"], unfollowed := true, recurses := true, named := ["math/bits.divideError", "math/bits.overflowError"], apart := false, narrowed := true }
def PoolSplitsUptoSaid : Prop := poolSplitsUptoRow.holds Try.pinned (OpenSpec.upto poolSplitsSpec)

/-- 'bournelaw17.PoolOwns', WHERE WHAT IT READS IS OF BULK AT MOST 1048576: true; the input reads as it did. -/
def poolOwnsUptoRow : OpenClaim := { program := "ytfmnlnmajephlaa", sum := "19628ab2e11a62fc15f13dd56b27954716963ebb1e269de219d9049d5727c56f", func := "bourne/bournelaw17.PoolOwns", spec := "poolOwns", inPlace := ["internal/reflectlite.ValueOf", "internal/reflectlite.Swapper", "(internal/reflectlite.Value).Len"], unfollowed := true, recurses := true, named := ["math/bits.divideError", "math/bits.overflowError"], apart := false, narrowed := true }
def PoolOwnsUptoSaid : Prop := poolOwnsUptoRow.holds Try.pinned (OpenSpec.upto poolOwnsSpec)

/-- 'bournelaw17.PoolGives', WHERE WHAT IT READS IS OF BULK AT MOST 1048576: true; the input reads as it did. -/
def poolGivesUptoRow : OpenClaim := { program := "ytfmnlnmajephlaa", sum := "19628ab2e11a62fc15f13dd56b27954716963ebb1e269de219d9049d5727c56f", func := "bourne/bournelaw17.PoolGives", spec := "poolGives", inPlace := ["internal/reflectlite.ValueOf", "internal/reflectlite.Swapper", "(internal/reflectlite.Value).Len"], unfollowed := true, recurses := true, named := ["math/bits.divideError", "math/bits.overflowError"], apart := false, narrowed := true }
def PoolGivesUptoSaid : Prop := poolGivesUptoRow.holds Try.pinned (OpenSpec.upto poolGivesSpec)

/-- 'bournelaw17.PoolTells', WHERE WHAT IT READS IS OF BULK AT MOST 1048576: true; the input reads as it did. -/
def poolTellsUptoRow : OpenClaim := { program := "ytfmnlnmajephlaa", sum := "19628ab2e11a62fc15f13dd56b27954716963ebb1e269de219d9049d5727c56f", func := "bourne/bournelaw17.PoolTells", spec := "poolTells", inPlace := ["internal/reflectlite.ValueOf", "internal/reflectlite.Swapper", "(internal/reflectlite.Value).Len"], unfollowed := true, recurses := true, named := ["math/bits.divideError", "math/bits.overflowError"], apart := false, narrowed := true }
def PoolTellsUptoSaid : Prop := poolTellsUptoRow.holds Try.pinned (OpenSpec.upto poolTellsSpec)

/-- 'bournelaw17.PoolMerges', WHERE WHAT IT READS IS OF BULK AT MOST 1048576: true; the input reads as it did. -/
def poolMergesUptoRow : OpenClaim := { program := "ytfmnlnmajephlaa", sum := "19628ab2e11a62fc15f13dd56b27954716963ebb1e269de219d9049d5727c56f", func := "bourne/bournelaw17.PoolMerges", spec := "poolMerges", inPlace := ["internal/reflectlite.ValueOf", "internal/reflectlite.Swapper", "(internal/reflectlite.Value).Len"], unfollowed := true, recurses := true, named := ["math/bits.divideError", "math/bits.overflowError"], apart := false, narrowed := true }
def PoolMergesUptoSaid : Prop := poolMergesUptoRow.holds Try.pinned (OpenSpec.upto poolMergesSpec)

end Rows
end Go.Proofs.Ytfmnlnmajephlaa
