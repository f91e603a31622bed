/- A drawn region: two operations stand ready, each may come first; and a last step that is shown once for every order. -/
import Derived.Test.YtafnmaojpheppaaKtail
import Derived.Test.YtafnmaojpheppaaLoad
namespace Go.Proofs.Ytafnmaojpheppaa
open Go.RowKit
set_option linter.unusedVariables false
set_option linter.unusedSimpArgs false

section
variable {P : Program} {l : List Oper} {Q : Exit → Act → World → Prop} {S : World → Prop}
theorem wpK_case {n f : Nat} {o : Oper} {listed : Array Bool} {a : Act} {w : World} (i : Nat) (hi : l.toArray[i]? = some o)
    (h : wpList P l.toArray (onNormal Q (fun a' w' => S w' ∧ KW P l n Q S f (listed.setIfInBounds i true) a' w')) [o] a w) (inv' : HeadInv .any l.toArray n (listed.setIfInBounds i true)) :
    wpOp P l.toArray Q i (fun a' w' => S w' ∧ wpAnyK P .any l.toArray Q S n (TailL P l n Q) f (listed.setIfInBounds i true) a' w') a w := by
  unfold wpOp
  simp only [hi]
  simp only [wpList] at h
  split
  · rename_i hw
    rw [if_pos hw] at h
    rcases h with h | ⟨h, x, y, hl⟩
    · exact .inl (Oper.wp_mono (fun a' w' hk => ⟨hk.1, hk.2 inv'⟩) (wp_onNormal h))
    · exact .inr ⟨h, x, y, hl⟩
  · rename_i hw
    rw [if_neg hw] at h
    exact ⟨h.1, h.2 inv'⟩
theorem wpK_two {n f : Nat} {oi oj : Oper} {listed : Array Bool} {a : Act} {w : World} (i j : Nat) (hi : l.toArray[i]? = some oi) (hj : l.toArray[j]? = some oj) (hin : i < n) (hjn : j < n) (hr : Region.ready .any l.toArray listed = [i, j])
    (h1 : wpList P l.toArray (onNormal Q (fun a' w' => S w' ∧ KW P l n Q S f (listed.setIfInBounds i true) a' w')) [oi] a w)
    (h2 : wpList P l.toArray (onNormal Q (fun a' w' => S w' ∧ KW P l n Q S f (listed.setIfInBounds j true) a' w')) [oj] a w) : KW P l n Q S (f + 1) listed a w := fun inv => by
  have hri : i ∈ Region.ready .any l.toArray listed := by rw [hr]; simp
  have hrj : j ∈ Region.ready .any l.toArray listed := by rw [hr]; simp
  refine ⟨fun h0 => (by rw [h0] at hr; cases hr), fun k hk => ?_⟩
  rw [hr] at hk
  rcases List.mem_cons.1 hk with rfl | hk
  · exact ⟨hin, wpK_case k hi h1 (inv.set hri hin)⟩
  · obtain rfl := List.mem_singleton.1 hk
    exact ⟨hjn, wpK_case k hj h2 (inv.set hrj hjn)⟩
end
theorem yields_load {P : Program} {ops : Array Oper} {S : World → Prop} {o : Oper} {a : Act} (ty : TypeId) (x : Operand) (ho : o.op = .load ty x)
    (b off : Nat) (hx : a.eval x = .pointer (some ⟨b, off, none⟩)) (hw : Region.wanted o (yielded ops a.tmps) = true) (cs : List Value) (d : TypeDesc) (hc : ∀ w, S w → w.rangeAt b off cs)
    (hu : P.underlying ty = some d) (hd : d.isRow = true) (hi : (P.info? ty).map (·.size) = some cs.length) : YieldsIf P ops S o (.agg cs.toArray) a :=
  .inl ⟨hw, fun w hS => by
    unfold execOp
    simp only [ho, hx, Instr.loadAt, Instr.sureAddr, Sem.run_bind, Sem.run_pure, Result.andThen_ok, run_loadVar_mid w b off ty cs d (hc w hS) hu hd hi]⟩
/-- what follows the region is shown once, for every block that was made -/
theorem wp_last {P : Program} {c : Code} {Q : Exit → Act → World → Prop} {a : Act} {w : World} {F : Nat → World → Prop} {A : Nat → Act}
    (hreg : (∀ g w', F g w' → Q .normal (A g) w') → c.wp P Q a w) (h : ∀ g w', F g w' → Q .normal (A g) w') : c.wp P Q a w := hreg h

end Go.Proofs.Ytafnmaojpheppaa
