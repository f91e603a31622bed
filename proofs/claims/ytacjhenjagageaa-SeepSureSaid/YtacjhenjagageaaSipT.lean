/- trial: seep.Siphon. -/
import Derived.Test.YtacjhenjagageaaAskT
namespace Go.Proofs.Ytacjhenjagageaa
open Go.RowKit
set_option linter.unusedVariables false
set_option linter.unusedSimpArgs false

/-- the gate's state behind a siphon's step -/
def sipOpen (kind prime brk v : Int) (op : Bool) : Bool := if kind = 3 then (if prime ≤ v then true else if v ≤ brk then false else op) else op
theorem siphon_any (nm : ByteArray) (kind from' to' : Int) (r0 r1 r2 : Option Addr) (n0 n1 n2 c0 c1 c2 : Nat) (pos sp leak crest num den prime brk bnum bden delay : Int) (gp gt : Int) (gs go : Bool) (v : Int) (w : World) :
    Calls Try.prog 14 #[.agg #[.string nm, .int .i64 kind, .int .i64 from', .int .i64 to', .slice r0 n0 c0, .slice r1 n1 c1, .slice r2 n2 c2, .int .i64 pos, .int .i64 sp, .int .i64 leak, .int .i64 crest, .int .i64 num, .int .i64 den, .int .i64 prime, .int .i64 brk, .int .i64 bnum, .int .i64 bden, .int .i64 delay], .agg #[.int .i64 gp, .int .i64 gt, .bool gs, .bool go], .int .i64 v] w fun e w' => e = .returned (.agg #[.int .i64 gp, .int .i64 gt, .bool gs, .bool (sipOpen kind prime brk v go)]) ∧ Below w.heap.size w w' := by
  unfold sipOpen
  by_cases h : kind = 3
  · rw [if_pos h]
    have t1 : (kind != 3) = false := by subst h; rfl
    by_cases h1 : prime ≤ v
    · rw [if_pos h1]
      have t2 : decide (prime ≤ v) = true := decide_eq_true h1
      clear h h1
      go_enter Try.func14, Try.ntmps14
      go_wp2_with fail
      exact bodyPost_ret (v := .agg #[.int .i64 gp, .int .i64 gt, .bool gs, .bool true]) (by simp [results, Try.results14, go_sem]) rfl ⟨rfl, by go_grown⟩
    · rw [if_neg h1]
      have t2 : decide (prime ≤ v) = false := decide_eq_false h1
      by_cases h2 : v ≤ brk
      · rw [if_pos h2]
        have t3 : decide (v ≤ brk) = true := decide_eq_true h2
        clear h h1 h2
        go_enter Try.func14, Try.ntmps14
        go_wp2_with fail
        exact bodyPost_ret (v := .agg #[.int .i64 gp, .int .i64 gt, .bool gs, .bool false]) (by simp [results, Try.results14, go_sem]) rfl ⟨rfl, by go_grown⟩
      · rw [if_neg h2]
        have t3 : decide (v ≤ brk) = false := decide_eq_false h2
        clear h h1 h2
        go_enter Try.func14, Try.ntmps14
        go_wp2_with fail
        exact bodyPost_ret (v := .agg #[.int .i64 gp, .int .i64 gt, .bool gs, .bool go]) (by simp [results, Try.results14, go_sem]) rfl ⟨rfl, by go_grown⟩
  · rw [if_neg h]
    have t1 : (kind != 3) = true := bne_iff_ne.2 h
    clear h
    go_enter Try.func14, Try.ntmps14
    go_wp2_with fail
    exact bodyPost_ret (v := .agg #[.int .i64 gp, .int .i64 gt, .bool gs, .bool go]) (by simp [results, Try.results14, go_sem]) rfl ⟨rfl, by go_grown⟩

end Go.Proofs.Ytacjhenjagageaa
