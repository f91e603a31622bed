/- trial. -/
import Derived.Test.YtacjhenjagageaaSeep
namespace Go.Proofs.Ytacjhenjagageaa
open Go.RowKit
set_option linter.unusedVariables false
set_option linter.unusedSimpArgs false

/-- a link as a value -/
def lk (nm : Value) (kind from' to' : Int) (rate blo bhi : Value) (pos sp leak crest num den prime brk bnum bden delay : Int) : Value :=
  .agg #[nm, .int .i64 kind, .int .i64 from', .int .i64 to', rate, blo, bhi, .int .i64 pos, .int .i64 sp, .int .i64 leak, .int .i64 crest, .int .i64 num, .int .i64 den, .int .i64 prime, .int .i64 brk, .int .i64 bnum, .int .i64 bden, .int .i64 delay]

theorem ask_no (nm : ByteArray) (kind from' to' : Int) (r0 r1 r2 : Option Addr) (n0 n1 n2 c0 c1 c2 : Nat) (pos sp leak crest num den prime brk bnum bden delay x y : Int) (h : ¬ kind = 4) (w : World) :
    Calls Try.prog 10 #[.agg #[.string nm, .int .i64 kind, .int .i64 from', .int .i64 to', .slice r0 n0 c0, .slice r1 n1 c1, .slice r2 n2 c2, .int .i64 pos, .int .i64 sp, .int .i64 leak, .int .i64 crest, .int .i64 num, .int .i64 den, .int .i64 prime, .int .i64 brk, .int .i64 bnum, .int .i64 bden, .int .i64 delay], .int .i64 x, .int .i64 y] w fun e w' => e = .returned (.int .i64 0) ∧ Below w.heap.size w w' := by
  have t1 : (kind != 4) = true := bne_iff_ne.2 h
  clear h
  go_enter Try.func10, Try.ntmps10
  go_wp2_with fail
  go_ret
  exact ⟨rfl, by go_grown⟩

end Go.Proofs.Ytacjhenjagageaa
