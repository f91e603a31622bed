/-
  SeepSure: the Go function returns true for every input, and each argument reads afterwards as before. No condition.
-/
import Derived.Test.YtacjhenjagageaaRows
import Derived.WalkKit
import Derived.ProofKit
import Derived.OpenShut
import Derived.ChangeOld
import Derived.Below
import Derived.Lib.SmallJoins
import Derived.Deep.Slices
import Derived.Test.YtacjhenjagageaaSureN
namespace Go.Proofs.Ytacjhenjagageaa.seepSure
open Go.ChangeShapes Go.WideShapes Go.ChangeAt Go.RowKit Go.Joins
set_option linter.unusedVariables false
set_option linter.unusedSimpArgs false

theorem own : ownKnob Try.prog.godebug = none := by kernel_rfl
theorem laidOut : laidOutB Try.prog = true := by kernel_rfl
theorem cells3 : Try.prog.cellsOf 3 = 1 := by kernel_rfl
theorem cells9 : Try.prog.cellsOf 9 = 1 := by kernel_rfl
theorem cells22 : Try.prog.cellsOf 22 = 1 := by kernel_rfl
theorem cells24 : Try.prog.cellsOf 24 = 2 := by kernel_rfl
theorem cells26 : Try.prog.cellsOf 26 = 18 := by kernel_rfl
theorem cells30 : Try.prog.cellsOf 30 = 2 := by kernel_rfl
theorem cells86 : Try.prog.cellsOf 86 = 2 := by kernel_rfl
theorem slice_shape {cs : List Value} {α : Type} {P : Prop} {Q R : Addr → Nat → Nat → α → α → Nat → Prop} (h : (cs = [.slice none 0 0] ∧ P) ∨ ∃ (a : Addr) (len cap : Nat) (elems rest : α) (n : Nat), Q a len cap elems rest n ∧ cs = [.slice (some a) len cap] ∧ R a len cap elems rest n) : ∃ r m c, cs = [.slice r m c] := by
  rcases h with h | ⟨a, len, cap, _, _, _, _, h, _⟩
  · exact ⟨_, _, _, h.1⟩
  · exact ⟨_, _, _, h⟩
set_option maxHeartbeats 1000000 in
theorem open26 {H : Type} {enc : TypeId × Value → H} {w : World} {base : Nat} {spare : Nat → Bool} {held : Bool} {r : Reach} {b0 : Nat} {v : Value} {d : DataW H} {p : List MemPlace} (hv : Value.okWide Try.prog w r b0 26 v) (h : DataW.Trod enc Try.prog w base spare held 26 v d p) :
    ∃ (s_0 : ByteArray) (a_1 : Int) (a_2 : Int) (a_3 : Int) (r_4 : Option Addr) (m_4 c_4 : Nat) (r_5 : Option Addr) (m_5 c_5 : Nat) (r_6 : Option Addr) (m_6 c_6 : Nat) (a_7 : Int) (a_8 : Int) (a_9 : Int) (a_10 : Int) (a_11 : Int) (a_12 : Int) (a_13 : Int) (a_14 : Int) (a_15 : Int) (a_16 : Int) (a_17 : Int), v = .agg #[.string s_0, .int .i64 a_1, .int .i64 a_2, .int .i64 a_3, .slice r_4 m_4 c_4, .slice r_5 m_5 c_5, .slice r_6 m_6 c_6, .int .i64 a_7, .int .i64 a_8, .int .i64 a_9, .int .i64 a_10, .int .i64 a_11, .int .i64 a_12, .int .i64 a_13, .int .i64 a_14, .int .i64 a_15, .int .i64 a_16, .int .i64 a_17] ∧ (-9223372036854775808 ≤ a_1 ∧ a_1 ≤ 9223372036854775807) ∧ (-9223372036854775808 ≤ a_2 ∧ a_2 ≤ 9223372036854775807) ∧ (-9223372036854775808 ≤ a_3 ∧ a_3 ≤ 9223372036854775807) ∧ (-9223372036854775808 ≤ a_7 ∧ a_7 ≤ 9223372036854775807) ∧ (-9223372036854775808 ≤ a_8 ∧ a_8 ≤ 9223372036854775807) ∧ (-9223372036854775808 ≤ a_9 ∧ a_9 ≤ 9223372036854775807) ∧ (-9223372036854775808 ≤ a_10 ∧ a_10 ≤ 9223372036854775807) ∧ (-9223372036854775808 ≤ a_11 ∧ a_11 ≤ 9223372036854775807) ∧ (-9223372036854775808 ≤ a_12 ∧ a_12 ≤ 9223372036854775807) ∧ (-9223372036854775808 ≤ a_13 ∧ a_13 ≤ 9223372036854775807) ∧ (-9223372036854775808 ≤ a_14 ∧ a_14 ≤ 9223372036854775807) ∧ (-9223372036854775808 ≤ a_15 ∧ a_15 ≤ 9223372036854775807) ∧ (-9223372036854775808 ≤ a_16 ∧ a_16 ≤ 9223372036854775807) ∧ (-9223372036854775808 ≤ a_17 ∧ a_17 ≤ 9223372036854775807) := by
  obtain ⟨cs, rfl, hsz⟩ := okWide_struct Try.underlying26 hv
  obtain ⟨l⟩ := cs
  obtain ⟨fuel, hf⟩ := h
  have hl : l.length = 18 := hsz.trans cells26
  match l, hl with
  | [x0, x1, x2, x3, x4, x5, x6, x7, x8, x9, x10, x11, x12, x13, x14, x15, x16, x17], _ =>
    obtain ⟨xs0, n0, _, _, _, hlen0, hg0⟩ := DataW.trod_struct Try.underlying26 hf
    have g0_0 := (hg0 0 _ rfl).trans (List.getElem?_eq_getElem (by rw [hlen0]; decide))
    obtain ⟨s_0, e_0, _, _⟩ := DataW.trod_string Try.underlying9 g0_0
    simp [Value.cells, cells3, cells9, cells22, cells24, cells26, cells30, cells86] at e_0
    subst e_0
    have g0_1 := (hg0 1 _ rfl).trans (List.getElem?_eq_getElem (by rw [hlen0]; decide))
    obtain ⟨a_1, e_1, _, w_1⟩ := DataW.trod_int Try.underlying3 g0_1
    simp [Value.cells, cells3, cells9, cells22, cells24, cells26, cells30, cells86] at e_1
    subst e_1
    have g0_2 := (hg0 2 _ rfl).trans (List.getElem?_eq_getElem (by rw [hlen0]; decide))
    obtain ⟨a_2, e_2, _, w_2⟩ := DataW.trod_int Try.underlying3 g0_2
    simp [Value.cells, cells3, cells9, cells22, cells24, cells26, cells30, cells86] at e_2
    subst e_2
    have g0_3 := (hg0 3 _ rfl).trans (List.getElem?_eq_getElem (by rw [hlen0]; decide))
    obtain ⟨a_3, e_3, _, w_3⟩ := DataW.trod_int Try.underlying3 g0_3
    simp [Value.cells, cells3, cells9, cells22, cells24, cells26, cells30, cells86] at e_3
    subst e_3
    have g0_4 := (hg0 4 _ rfl).trans (List.getElem?_eq_getElem (by rw [hlen0]; decide))
    obtain ⟨r_4, m_4, c_4, e_4⟩ := slice_shape (DataW.trod_slice Try.underlying22 g0_4)
    simp [Value.cells, cells3, cells9, cells22, cells24, cells26, cells30, cells86] at e_4
    subst e_4
    have g0_5 := (hg0 5 _ rfl).trans (List.getElem?_eq_getElem (by rw [hlen0]; decide))
    obtain ⟨xs1, n1, _, _, _, hlen1, hg1⟩ := DataW.trod_struct Try.underlying24 g0_5
    have g1_0 := (hg1 0 _ rfl).trans (List.getElem?_eq_getElem (by rw [hlen1]; decide))
    obtain ⟨r_5, m_5, c_5, e_5⟩ := slice_shape (DataW.trod_slice Try.underlying22 g1_0)
    simp [Value.cells, cells3, cells9, cells22, cells24, cells26, cells30, cells86] at e_5
    subst e_5
    have g1_1 := (hg1 1 _ rfl).trans (List.getElem?_eq_getElem (by rw [hlen1]; decide))
    obtain ⟨r_6, m_6, c_6, e_6⟩ := slice_shape (DataW.trod_slice Try.underlying22 g1_1)
    simp [Value.cells, cells3, cells9, cells22, cells24, cells26, cells30, cells86] at e_6
    subst e_6
    have g0_6 := (hg0 6 _ rfl).trans (List.getElem?_eq_getElem (by rw [hlen0]; decide))
    obtain ⟨a_7, e_7, _, w_7⟩ := DataW.trod_int Try.underlying3 g0_6
    simp [Value.cells, cells3, cells9, cells22, cells24, cells26, cells30, cells86] at e_7
    subst e_7
    have g0_7 := (hg0 7 _ rfl).trans (List.getElem?_eq_getElem (by rw [hlen0]; decide))
    obtain ⟨a_8, e_8, _, w_8⟩ := DataW.trod_int Try.underlying3 g0_7
    simp [Value.cells, cells3, cells9, cells22, cells24, cells26, cells30, cells86] at e_8
    subst e_8
    have g0_8 := (hg0 8 _ rfl).trans (List.getElem?_eq_getElem (by rw [hlen0]; decide))
    obtain ⟨a_9, e_9, _, w_9⟩ := DataW.trod_int Try.underlying3 g0_8
    simp [Value.cells, cells3, cells9, cells22, cells24, cells26, cells30, cells86] at e_9
    subst e_9
    have g0_9 := (hg0 9 _ rfl).trans (List.getElem?_eq_getElem (by rw [hlen0]; decide))
    obtain ⟨a_10, e_10, _, w_10⟩ := DataW.trod_int Try.underlying3 g0_9
    simp [Value.cells, cells3, cells9, cells22, cells24, cells26, cells30, cells86] at e_10
    subst e_10
    have g0_10 := (hg0 10 _ rfl).trans (List.getElem?_eq_getElem (by rw [hlen0]; decide))
    obtain ⟨a_11, e_11, _, w_11⟩ := DataW.trod_int Try.underlying3 g0_10
    simp [Value.cells, cells3, cells9, cells22, cells24, cells26, cells30, cells86] at e_11
    subst e_11
    have g0_11 := (hg0 11 _ rfl).trans (List.getElem?_eq_getElem (by rw [hlen0]; decide))
    obtain ⟨a_12, e_12, _, w_12⟩ := DataW.trod_int Try.underlying3 g0_11
    simp [Value.cells, cells3, cells9, cells22, cells24, cells26, cells30, cells86] at e_12
    subst e_12
    have g0_12 := (hg0 12 _ rfl).trans (List.getElem?_eq_getElem (by rw [hlen0]; decide))
    obtain ⟨a_13, e_13, _, w_13⟩ := DataW.trod_int Try.underlying3 g0_12
    simp [Value.cells, cells3, cells9, cells22, cells24, cells26, cells30, cells86] at e_13
    subst e_13
    have g0_13 := (hg0 13 _ rfl).trans (List.getElem?_eq_getElem (by rw [hlen0]; decide))
    obtain ⟨a_14, e_14, _, w_14⟩ := DataW.trod_int Try.underlying3 g0_13
    simp [Value.cells, cells3, cells9, cells22, cells24, cells26, cells30, cells86] at e_14
    subst e_14
    have g0_14 := (hg0 14 _ rfl).trans (List.getElem?_eq_getElem (by rw [hlen0]; decide))
    obtain ⟨a_15, e_15, _, w_15⟩ := DataW.trod_int Try.underlying3 g0_14
    simp [Value.cells, cells3, cells9, cells22, cells24, cells26, cells30, cells86] at e_15
    subst e_15
    have g0_15 := (hg0 15 _ rfl).trans (List.getElem?_eq_getElem (by rw [hlen0]; decide))
    obtain ⟨a_16, e_16, _, w_16⟩ := DataW.trod_int Try.underlying3 g0_15
    simp [Value.cells, cells3, cells9, cells22, cells24, cells26, cells30, cells86] at e_16
    subst e_16
    have g0_16 := (hg0 16 _ rfl).trans (List.getElem?_eq_getElem (by rw [hlen0]; decide))
    obtain ⟨a_17, e_17, _, w_17⟩ := DataW.trod_int Try.underlying3 g0_16
    simp [Value.cells, cells3, cells9, cells22, cells24, cells26, cells30, cells86] at e_17
    subst e_17
    exact ⟨s_0, a_1, a_2, a_3, r_4, m_4, c_4, r_5, m_5, c_5, r_6, m_6, c_6, a_7, a_8, a_9, a_10, a_11, a_12, a_13, a_14, a_15, a_16, a_17, rfl, bounds_i64 w_1, bounds_i64 w_2, bounds_i64 w_3, bounds_i64 w_7, bounds_i64 w_8, bounds_i64 w_9, bounds_i64 w_10, bounds_i64 w_11, bounds_i64 w_12, bounds_i64 w_13, bounds_i64 w_14, bounds_i64 w_15, bounds_i64 w_16, bounds_i64 w_17⟩
set_option maxHeartbeats 1000000 in
theorem open30 {H : Type} {enc : TypeId × Value → H} {w : World} {base : Nat} {spare : Nat → Bool} {held : Bool} {r : Reach} {b0 : Nat} {v : Value} {d : DataW H} {p : List MemPlace} (hv : Value.okWide Try.prog w r b0 30 v) (h : DataW.Trod enc Try.prog w base spare held 30 v d p) :
    ∃ (a_0 : Int) (a_1 : Int), v = .agg #[.int .i64 a_0, .int .i64 a_1] ∧ (-9223372036854775808 ≤ a_0 ∧ a_0 ≤ 9223372036854775807) ∧ (-9223372036854775808 ≤ a_1 ∧ a_1 ≤ 9223372036854775807) := by
  obtain ⟨cs, rfl, hsz⟩ := okWide_struct Try.underlying30 hv
  obtain ⟨l⟩ := cs
  obtain ⟨fuel, hf⟩ := h
  have hl : l.length = 2 := hsz.trans cells30
  match l, hl with
  | [x0, x1], _ =>
    obtain ⟨xs0, n0, _, _, _, hlen0, hg0⟩ := DataW.trod_struct Try.underlying30 hf
    have g0_0 := (hg0 0 _ rfl).trans (List.getElem?_eq_getElem (by rw [hlen0]; decide))
    obtain ⟨a_0, e_0, _, w_0⟩ := DataW.trod_int Try.underlying3 g0_0
    simp [Value.cells, cells3, cells24, cells26, cells30, cells86] at e_0
    subst e_0
    have g0_1 := (hg0 1 _ rfl).trans (List.getElem?_eq_getElem (by rw [hlen0]; decide))
    obtain ⟨a_1, e_1, _, w_1⟩ := DataW.trod_int Try.underlying3 g0_1
    simp [Value.cells, cells3, cells24, cells26, cells30, cells86] at e_1
    subst e_1
    exact ⟨a_0, a_1, rfl, bounds_i64 w_0, bounds_i64 w_1⟩

set_option maxRecDepth 100000 in
set_option maxHeartbeats 1000000 in
theorem lifted (os : Os) (started : os.Started) (H : Type) (enc : TypeId × Value → H) :
    ReturnsInHanded {} Try.checked os 8 .any (Rows.seepSureSpec.pre6 enc Try.prog Try.f8 Rows.seepSureRow.domain false) (Rows.seepSureSpec.post enc Try.prog Try.f8 false true false false) := by
  refine returnsInHanded_of_change (C := Try.checked) own started (by kernel_rfl) Try.func8
    (ChangeSpec.witness6 (enc := enc) (C := Try.checked) false ⟨#[], #[.agg #[.string ⟨#[]⟩, .int .i64 0, .int .i64 0, .int .i64 0, .slice none 0 0, .slice none 0 0, .slice none 0 0, .int .i64 0, .int .i64 0, .int .i64 0, .int .i64 0, .int .i64 0, .int .i64 0, .int .i64 0, .int .i64 0, .int .i64 0, .int .i64 0, .int .i64 0], .bool false, .agg #[.int .i64 0, .int .i64 0], .int .i64 0], []⟩ 8 (by kernel_rfl) (by kernel_rfl) (by kernel_rfl) (by kernel_rfl)) ?_
  intro W base args ds gs before hval0 hW hcnd _
  have hval : ∀ (j : Nat) t v, Try.f8.params[j]? = some t → args[j]? = some v → Value.okWide Try.prog W .any base t v := hval0
  have hW' := hW
  obtain ⟨p, q, hA0, hV, rfl, hfz, hnd⟩ := hW
  have hA : DataW.TrodAll enc Try.prog W 0 (fun _ => true) true Try.f8.params.toList args.toList ds p := hA0
  rw [Try.params8] at hA hval
  obtain ⟨v0, vs0, d0, ds0, p0, q0, hargs, rfl, rfl, h0, rr0⟩ := trodAll_cons hA
  obtain ⟨v1, vs1, d1, ds1, p1, q1, rfl, rfl, rfl, h1, rr1⟩ := trodAll_cons rr0
  obtain ⟨v2, vs2, d2, ds2, p2, q2, rfl, rfl, rfl, h2, rr2⟩ := trodAll_cons rr1
  obtain ⟨v3, vs3, d3, ds3, p3, q3, rfl, rfl, rfl, h3, rr3⟩ := trodAll_cons rr2
  obtain ⟨rfl, rfl, rfl⟩ := trodAll_nil rr3
  obtain rfl : args = #[v0, v1, v2, v3] := by cases args; simp_all
  obtain ⟨rfl, rfl⟩ := trodVars_none hV
  have k0 := h0
  have o0 := hval 0 26 v0 rfl rfl
  have lt0 : ∀ x ∈ p0, x.block < W.heap.size := by obtain ⟨m, hm⟩ := k0; exact DataW.trod_lt m _ _ _ hm
  obtain ⟨s0_0, a0_1, a0_2, a0_3, r0_4, m0_4, c0_4, r0_5, m0_5, c0_5, r0_6, m0_6, c0_6, a0_7, a0_8, a0_9, a0_10, a0_11, a0_12, a0_13, a0_14, a0_15, a0_16, a0_17, rfl, b0_1, b0_2, b0_3, b0_7, b0_8, b0_9, b0_10, b0_11, b0_12, b0_13, b0_14, b0_15, b0_16, b0_17⟩ := open26 o0 h0
  obtain ⟨a1, rfl, rfl, rfl⟩ := open_bool Try.underlying4 (hval 1 4 v1 rfl rfl) h1
  have k2 := h2
  have o2 := hval 2 30 v2 rfl rfl
  have lt2 : ∀ x ∈ p2, x.block < W.heap.size := by obtain ⟨m, hm⟩ := k2; exact DataW.trod_lt m _ _ _ hm
  obtain ⟨a2_0, a2_1, rfl, b2_0, b2_1⟩ := open30 o2 h2
  obtain ⟨a3, rfl, rfl, rfl, w3⟩ := open_int Try.underlying3 (hval 3 3 v3 rfl rfl) h3
  have b3 := bounds_i64 w3
  clear hA0 hval0
  refine (sure_walk s0_0 a0_1 a0_2 a0_3 r0_4 r0_5 r0_6 m0_4 m0_5 m0_6 c0_4 c0_5 c0_6 a0_7 a0_8 a0_9 a0_10 a0_11 a0_12 a0_13 a0_14 a0_15 a0_16 a0_17 b0_14.1 b0_14.2 a1 a2_0 a2_1 a3 b2_1.2 W).mono fun e W' ⟨he, bel⟩ => ?_
  subst he
  exact ⟨_, rfl, _, _, _, [], _, [], hW', trodAll_mk1 (shut_bool Try.underlying4 _), (trodAll_cons_mk (Below.trod laidOut (by kernel_rfl) (of_decide_eq_true (by kernel_rfl)) k0 bel lt0) (trodAll_cons_mk (shut_bool Try.underlying4 a1) (trodAll_cons_mk (Below.trod laidOut (by kernel_rfl) (of_decide_eq_true (by kernel_rfl)) k2 bel lt2) (trodAll_cons_mk (shut_int Try.underlying3 w3) trodAll_mk0)))), rfl, bel.frame _, fun h => by cases h⟩

theorem over : Rows.seepSureRow.holds Try.pinned (OpenSpec.ofChange Rows.seepSureSpec) :=
  OpenClaim.holds_of_wide 8 Try.f8 rfl rfl rfl rfl rfl rfl rfl ⟨rfl, rfl, rfl, rfl, rfl⟩ rfl rfl rfl rfl rfl (by kernel_rfl) Try.func8 (by kernel_rfl)
    (of_decide_eq_true (by kernel_rfl)) (by unfold Func.isWrapper; first | (rw [if_pos (by decide +kernel)]; kernel_rfl) | (rw [if_neg (by decide +kernel)]; exact ⟨rfl, rfl⟩))
    (fun os started H enc _ => lifted os started H enc)

theorem proved : Rows.SeepSureSaid := over
end Go.Proofs.Ytacjhenjagageaa.seepSure
