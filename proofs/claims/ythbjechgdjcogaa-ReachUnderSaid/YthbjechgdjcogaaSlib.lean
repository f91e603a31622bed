/- slices.IndexFunc, ContainsFunc, Clone at ints; appends whose source came in. -/
import Derived.Test.YthbjechgdjcogaaQueue
import Derived.Lib.SliceRun
import Derived.Laws.AppendOwnNone
namespace Go.Proofs.Ythbjechgdjcogaa
open Go.RowKit
set_option linter.unusedVariables false
set_option linter.unusedSimpArgs false

theorem Rd.holds {w : World} {A : Option Addr} {vs : List Value} (h : Rd w A vs) : ∀ b, A = some b → ∀ j u, vs[j]? = some u → w.cell? (b.add j) = some u := fun b e j u hu => by
  obtain ⟨ad, e', _, hc⟩ := h (by have := (List.getElem?_eq_some_iff.1 hu).1; omega)
  rw [e] at e'
  cases e'
  exact hc j u hu

section
variable {P : Program} (w : World)
theorem wpList_append_rd {ops : Array Oper} {rest : List Oper} {o : Oper} {a : Act} {Q : Exit → Act → World → Prop} (hgd : o.guard = none) (s x : Operand) (t : TypeId)
    (ho : o.op = .call { callee := .builtin .append, args := #[s, x], argTypes := #[t, t] })
    (base : Nat) (e : TypeId) (i : TypeInfo) (z : Value) (size bytes : Nat) (ht : P.underlying t = some (.slice e)) (hi : P.info? e = some i) (hz : i.zero = some z)
    (hsize : i.size = size) (hby : i.bytes = bytes) (hzs : z.cells.size = size) (hsz : 0 < size)
    (v : Value) (n : Nat) (xs : List Value) (hs : a.eval s = v) (hown : w.ownsRow base e size v n xs)
    (A : Option Addr) (m c : Nat) (news : List Value) (hx : a.eval x = .slice A m c) (hA : A = none → c = 0) (hl : news.length = m * size) (hr : Rd w A news) (h1 : ∀ u ∈ news, u.oneCell' = true)
    (h63 : n + m ≤ maxLen) (hbytes : (n + m) * bytes ≤ 140737488355328) (hbase : base ≤ w.heap.size)
    (h : ∀ v' w', w'.ownsRow base e size v' (n + m) (xs ++ news) → w.grownBy w' v.ownBlock → (v'.ownBlock = v.ownBlock ∨ v'.ownBlock = some w.heap.size) → wpList P ops Q rest (a.put o.dst v') w') : wpList P ops Q (o :: rest) a w := by
  cases A with
  | none =>
    have hm : m = 0 := by
      rcases Nat.eq_zero_or_pos m with h0 | h0
      · exact h0
      · obtain ⟨ad, e', _⟩ := hr (by rw [hl]; exact Nat.mul_pos h0 hsz)
        cases e'
    subst hm
    have hc := hA rfl
    subst hc
    have hn : news = [] := List.eq_nil_of_length_eq_zero (by simpa using hl)
    subst hn
    exact wpList_append_own_none hgd s x t ho base e i size ht hi v n xs hs hown hx (h v w (by simpa using hown) (World.grownBy.refl w _) (.inl rfl))
  | some ad =>
    exact wpList_append_own_at w hgd s x t ho base e i z size bytes ht hi hz hsize hby hzs hsz v n xs hs hown ad m c news hx hl (hr.holds ad rfl) h1 h63 hbytes hbase fun v' w' h2 h3 _ h5 => h v' w' h2 h3 h5
end

theorem own_rd2 {w : World} {base : Nat} {e : TypeId} {size : Nat} {v : Value} {n : Nat} {xs : List Value} (h : w.ownsRow base e size v n xs) (hn : 0 < n) :
    ∃ g cap, v = .slice (some ⟨g, 0, none⟩) n cap ∧ n ≤ cap ∧ cap ≤ maxLen ∧ base ≤ g ∧ g < w.heap.size ∧ Rd w (some ⟨g, 0, none⟩) xs := by
  have h' := h
  rcases h.2 with ⟨_, h0⟩ | ⟨g, cap, cur, rfl, hb, hg, hc, hm, _⟩
  · omega
  · have hlt : g < w.heap.size := by
      rcases Nat.lt_or_ge g w.heap.size with hlt | hge
      · exact hlt
      · rw [Array.getElem?_eq_none hge] at hg; cases hg
    exact ⟨g, cap, rfl, hc, hm, hb, hlt, fun _ => ⟨⟨g, 0, none⟩, rfl, hlt, fun j u hu => h'.cells (g := g) rfl j u hu⟩⟩
theorem own_empty {w : World} {base : Nat} (e : TypeId) (size : Nat) (hb : base ≤ w.heap.size) : (w.alloc (.cells #[] e)).ownsRow base e size (.slice (some ⟨w.heap.size, 0, none⟩) 0 0) 0 [] :=
  ⟨by simp, .inr ⟨w.heap.size, 0, #[], rfl, hb, heap_alloc_new w _, Nat.le_refl _, Nat.zero_le _, by simp, by simp⟩⟩

/-! slices.Clone -/
def ClPost (p : List Int) (w : World) (e : Ending) (w' : World) : Prop := ∃ A c, e = .returned (.slice A p.length c) ∧ (A = none → c = 0) ∧ p.length ≤ c ∧ w'.ownsRow w.heap.size 3 1 (.slice A p.length c) p.length (ints p) ∧ Rd w' A (ints p) ∧ Below w.heap.size w w'
set_option maxHeartbeats 4000000 in
theorem clone_any (A : Option Addr) (c : Nat) (p : List Int) (n : Nat) (hp : p.length = n) (hA : A = none → c = 0) (hn : n ≤ 1000) (w : World) (hr : Rd w A (ints p)) :
    Calls Try.prog 32 #[.slice A n c] w (ClPost p w) := by
  subst hp
  obtain ⟨i0, hi0, hz0, hz1, hz2⟩ := info_parts info_int2
  have INF := Lib.hid (And.intro hi0 (And.intro hz0 (And.intro hz1 hz2)))
  cases A with
  | none =>
    have hl : p = [] := by
      cases p with
      | nil => rfl
      | cons a l => obtain ⟨ad, e, _⟩ := hr (by simp [ints]); cases e
    subst hl
    have hc := hA rfl
    subst hc
    clear hr hA hn hi0 hz0 hz1 hz2
    have he : ∀ W, (binOp .eql 29 (.slice none 0 0) (.slice none 0 0)).run Try.prog W = .ok (.bool true) W := fun W => Lib.run_eql_slice_nil (P := Try.prog) W 29 3 none 0 0 0 0 Try.underlying29
    show Calls Try.prog 32 #[.slice none 0 0] w _
    go_enter Try.func32, Try.ntmps32
    go_wp2_with fail
    go_ret
    exact ⟨none, 0, rfl, fun _ => rfl, Nat.le_refl _, World.ownsRow_nil _ _ _ _, Rd.nil _ _, Below.refl _ _⟩
  | some ad =>
    have HR := Lib.hid hr
    have he : ∀ W, (binOp .eql 29 (.slice (some ad) p.length c) (.slice none 0 0)).run Try.prog W = .ok (.bool false) W := fun W => Lib.run_eql_slice_nil (P := Try.prog) W 29 3 (some ad) p.length c 0 0 Try.underlying29
    clear hr hA hi0 hz0 hz1 hz2
    go_enter Try.func32, Try.ntmps32
    go_wp2_with (first | (at_builtin; refine wpList_append_rd _ rfl _ _ _ (by rfl) w.heap.size 3 i0 _ 1 8 Try.underlying29 INF.out.1 INF.out.2.1 INF.out.2.2.1 INF.out.2.2.2 rfl (by omega) _ 0 [] (by rfl) (own_empty _ _ (Nat.le_refl _)) (some ad) p.length c (ints p) (by rfl) (fun h => by cases h) (by rw [ints_length, Nat.mul_one]) (HR.out.alloc _) (ints_one p) (by unfold maxLen; omega) (by omega) (by simp) ?_))
    intro v w1 hown hgrow hat
    have hb1 : Below w.heap.size w w1 := (bel_alloc (Below.refl _ _) _).grown hgrow (bel_alloc (Below.refl _ _) _).size (fun k hk => by simp [Value.ownBlock] at hk; omega)
    have hfin : ClPost p w (.returned v) w1 := by
      rcases Nat.eq_zero_or_pos p.length with h0 | h0
      · have hl : p = [] := List.eq_nil_of_length_eq_zero h0
        subst hl
        have hown' := hown
        rcases hown.2 with ⟨rfl, _⟩ | ⟨g, cap, cur, rfl, _⟩
        · exact ⟨_, _, rfl, fun _ => rfl, Nat.le_refl _, World.ownsRow_nil _ _ _ _, Rd.nil _ _, hb1⟩
        · exact ⟨_, _, rfl, (fun h => by cases h), Nat.zero_le _, hown', Rd.nil _ _, hb1⟩
      · obtain ⟨g, cap, rfl, h1, _, _, _, h2⟩ := own_rd2 hown (by omega)
        exact ⟨some ⟨g, 0, none⟩, cap, rfl, (fun h => by cases h), by omega, by simpa using hown, h2, hb1⟩
    have HF := Lib.hid hfin
    clear hown hgrow hat hb1 hfin
    go_wp2_with fail
    go_ret
    exact HF.out

end Go.Proofs.Ythbjechgdjcogaa
