/- ExactSums: the walk. -/
import Derived.Test.YtemdnfodpijncaaSumsP
import Derived.Deep.AppendLies
namespace Go.Proofs.Ytemdnfodpijncaa
open Go.RowKit
set_option linter.unusedVariables false
set_option linter.unusedSimpArgs false

theorem BelW.below8 {w : World} (x : BelW w) : Below w.heap.size w x.w := x.2
theorem own_shape {w : World} {B : Nat} {e : TypeId} {v : Value} {n : Nat} {xs : List Int} (h : w.ownsRow B e 1 v n (ints xs)) : ∃ A c, v = .slice A n c ∧ Rd w A (ints xs) := by
  by_cases hn : 0 < n
  · obtain ⟨g, cap, rfl, hb, hl⟩ := h.form hn
    exact ⟨_, _, rfl, fun _ => ⟨⟨g, 0, none⟩, rfl, hl, fun j u hu => h.cells (g := g) rfl j u hu⟩⟩
  · have hl : (ints xs).length = 0 := by have := h.1; omega
    have hr : ∀ A, Rd w A (ints xs) := fun A h0 => by omega
    rcases h.2 with ⟨rfl, rfl⟩ | ⟨g, cap, cur, rfl, _⟩
    · exact ⟨_, _, rfl, hr _⟩
    · exact ⟨_, _, rfl, hr _⟩
theorem rd_take {w : World} {ad : Addr} {l : List Int} (h : Rd w (some ad) (ints l)) (m : Nat) : Rd w (some ad) (ints (l.take m)) := fun h0 => by
  rw [ints_length, List.length_take] at h0
  obtain ⟨a, e, hb, hc⟩ := h (by rw [ints_length]; omega)
  cases e
  refine ⟨ad, rfl, hb, fun j u hj => hc j u ?_⟩
  unfold ints at hj ⊢
  rw [List.getElem?_map] at hj ⊢
  obtain ⟨x, hx, rfl⟩ := Option.map_eq_some_iff.1 hj
  rw [List.getElem?_take] at hx
  split at hx
  · rw [hx]; rfl
  · cases hx
theorem rd_drop {w : World} {ad : Addr} {l : List Int} (h : Rd w (some ad) (ints l)) (m : Nat) : Rd w (some (ad.add m)) (ints (l.drop m)) := fun h0 => by
  rw [ints_length, List.length_drop] at h0
  obtain ⟨a, e, hb, hc⟩ := h (by rw [ints_length]; omega)
  cases e
  refine ⟨ad.add m, rfl, by rw [add_block]; exact hb, fun j u hj => ?_⟩
  have hadd : ∀ (a : Addr) (m j : Nat), (a.add m).add j = a.add (m + j) := by
    intro a m j
    unfold Addr.add
    by_cases hm : m = 0
    · subst hm; simp
    · by_cases hj : j = 0
      · subst hj; simp
      · simp [hm, hj, Nat.add_assoc]
  rw [hadd]
  refine hc (m + j) u ?_
  unfold ints at hj ⊢
  rw [List.getElem?_map] at hj ⊢
  rw [List.getElem?_drop] at hj
  exact hj
theorem info_int3 : (Try.prog.info? 3).map (fun i => (i.zero, i.size, i.bytes)) = some (some (.int .i64 0), 1, 8) := by kernel_rfl
def SuA (V : World) (l : List Int) (s8 s9 s11 s12 : Value) (wr : World) : Prop :=
  ∃ (k : Nat) (b : Bool), k ≤ l.length ∧ s12 = .int .i64 ((l.length : Int) - 1 - (k : Int)) ∧ s11 = .bool b ∧ Hid (b = true → FineP l k) ∧ Below V.heap.size V wr ∧
    wr.ownsRow V.heap.size 3 1 s8 k (ints (gl k (backF l))) ∧ wr.ownsRow V.heap.size 3 1 s9 k (ints (gl k (minF l))) ∧ (s8.ownBlock = none ∨ s8.ownBlock ≠ s9.ownBlock)
def SuB (V : World) (l : List Int) (s10 s13 s14 : Value) (wr : World) : Prop :=
  ∃ (k : Nat) (b : Bool), k ≤ l.length ∧ s14 = .int .i64 (k : Int) ∧ s10 = .int .i64 (lim l k) ∧ s13 = .bool b ∧ Hid (b = true → InsP l k) ∧ ∃ y : BelW V, wr = y.w

set_option maxHeartbeats 16000000 in
set_option maxRecDepth 100000 in
theorem sums_any (A : Option Addr) (c : Nat) (l : List Int) (hn : l.length ≤ 9223372036854775807) (hcap : l.length ≤ c) (hf : ∀ i, i < l.length → Fit (gi l i)) (p : Int) (w : World) (hr : Rd w A (ints l)) :
    Calls Try.prog 7 #[.slice A l.length c, .int .i64 p] w fun e w' => e = .returned (.bool true) ∧ Below w.heap.size w w' := by
  obtain ⟨i0, hi0, hz0, hz1, hz2⟩ := info_parts info_int3
  have INF := Lib.hid (And.intro hi0 (And.intro hz0 (And.intro hz1 hz2)))
  clear hi0 hz0 hz1 hz2
  refine rebase w (fun V hV x0 => ?_)
  subst hV
  have CS := Lib.hid (fun u : BelW V => bel_of (small_any u.w))
  by_cases h0 : 200 < l.length
  · have t0 : decide ((200 : Int) < (l.length : Int)) = true := decide_eq_true (by omega)
    clear hr hf
    go_enter Try.func7, Try.ntmps7
    go_wp2_with (first | (go_at_call 9; with_reducible refine (CS.out _).mono ?_; rintro e w' ⟨rfl, yy, rfl⟩))
    go_ret
    exact ⟨rfl, BelW.below8 _⟩
  have t0 : decide ((200 : Int) < (l.length : Int)) = false := decide_eq_false (by omega)
  have h200 : l.length ≤ 200 := by omega
  obtain ⟨S, ok, hS⟩ : ∃ S ok, sumF l = (S, ok) := ⟨_, _, rfl⟩
  have C1 := Lib.hid (fun u : BelW V => sum_c A c l l.length rfl hn hf S ok hS u (hr.bel u))
  have HR := Lib.hid hr
  have HF := Lib.hid hf
  have HS := Lib.hid hS
  have wn : IntKind.i64.wrap ((l.length : Int) - 1) = (l.length : Int) - 1 := IntWalk.i64_in _ (by omega)
  clear hr hf hS h0
  go_enter Try.func7, Try.ntmps7
  go_wp2_with (first | (go_at_call 9; with_reducible refine (CS.out _).mono ?_; rintro e w' ⟨rfl, yy, rfl⟩) | (go_at_call 14; with_reducible refine (C1.out _).mono ?_; rintro e w' ⟨rfl, yy, rfl⟩))
  go_loopw [8, 9, 11, 12] (fun s8 s9 s11 s12 wr => SuA V l s8 s9 s11 s12 wr) (fun _ _ _ i _ => ((intOf i) + 1).toNat)
  case atStart => exact ⟨0, true, by omega, by simp, rfl, Lib.hid (fun _ j hj => absurd hj (Nat.not_lt_zero _)), yy.2, World.ownsRow_nil _ _ _ _, World.ownsRow_nil _ _ _ _, .inl rfl⟩
  case round =>
    obtain ⟨k, b, hk, rfl, rfl, hfine, hB, ho1, ho2, hne⟩ := hrel
    by_cases hlt : k < l.length
    · obtain ⟨j, hj⟩ : ∃ j : Nat, (l.length : Int) - 1 - (k : Int) = (j : Int) := ⟨l.length - 1 - k, by omega⟩
      have hjn : j < l.length := by omega
      have hj' : l.length - 1 - k = j := by omega
      rw [hj]
      have i3 : decide ((0 : Int) ≤ (j : Int)) = true := decide_eq_true (by omega)
      obtain ⟨ad, u, rfl, hadb, e1, e2⟩ := (HR.out.below (Nat.le_refl _) hB).at (k := j) (by rw [ints_length]; exact hjn)
      rw [ints_at hjn] at e1
      cases e1
      have j1 : (0 : Int) ≤ (j : Int) := by omega
      have j2 : (j : Int) < (l.length : Int) := by omega
      have wj : IntKind.i64.wrap ((j : Int) - 1) = (j : Int) - 1 := IntWalk.i64_in _ (by omega)
      have hfx := HF.out j hjn
      have hadV : ad.block < V.heap.size := by
        obtain ⟨ad', e', hb', _⟩ := HR.out (by rw [ints_length]; omega)
        cases e'; exact hb'
      have hfn : Hid ((b && decide (-9223372036854775808 < gi l j)) = true → FineP l (k + 1)) := Lib.hid (fun h i hi => by
        rw [Bool.and_eq_true, decide_eq_true_eq] at h
        by_cases e : i = k
        · subst e; rw [hj']; exact h.2
        · exact hfine.out h.1 i (by omega))
      have hb1 := gl_snoc k (backF l)
      have hb2 := gl_snoc k (minF l)
      rw [show backF l k = gi l j by unfold backF; rw [hj']] at hb1
      rw [show minF l k = Xa.sub 0 (gi l j) by unfold minF; rw [hj']] at hb2
      obtain ⟨x, hx⟩ : ∃ x, gi l j = x := ⟨_, rfl⟩
      obtain ⟨nx, hnx⟩ : ∃ x, Xa.sub 0 (gi l j) = x := ⟨_, rfl⟩
      have CSb := Lib.hid (fun u : World => sub_any 0 (gi l j) (by omega) (by omega) hfx.1 hfx.2 u)
      rw [hnx] at CSb
      rw [hx] at e2 hb1 hfn CSb
      rw [hnx] at hb2
      have HB1 := Lib.hid hb1
      have HB2 := Lib.hid hb2
      have HMX := Lib.hid (show k + 1 ≤ maxLen ∧ (k + 1) * 8 ≤ 140737488355328 by unfold maxLen; constructor <;> omega)
      have HO1 := Lib.hid ho1
      have HO2 := Lib.hid ho2
      have HNE := Lib.hid hne
      have HBY := Lib.hid hB
      clear hx hnx hb1 hb2 ho1 ho2 hne hB hfx hfine
      go_wp2_with (first | (at_builtin; refine wpList_append_lies _ rfl _ _ _ (by rfl) _ 3 i0 _ 1 8 Try.underlying22 INF.out.1 INF.out.2.1 INF.out.2.2.1 INF.out.2.2.2 rfl (by omega) _ k (ints (gl k (backF l))) (by rfl) (HO1.out.alloc _) ⟨wr.heap.size, 0, none⟩ 1 1 [.int .i64 x] (by rfl) (by rfl) (World.news_of_block (heap_alloc_new _ _)) (by simp [Value.oneCell']) (by omega) HMX.out.1 HMX.out.2 (HBY.out.alloc HBY.out.size _).size (wr.heap.size + 1) (by simp) ?_))
      intro g1 cap1 w1 hown1 hgrow1 hat1 hl1
      have ho2 : w1.ownsRow V.heap.size 3 1 u9 k (ints (gl k (minF l))) := (HO2.out.alloc _).kept hgrow1 (by
        rcases HNE.out with h | h
        · rw [h]
          cases u9.ownBlock <;> simp
        · exact .inr (Ne.symm h))
      have hB1 : Below V.heap.size V w1 := (HBY.out.alloc HBY.out.size _).grown hgrow1 (HBY.out.alloc HBY.out.size _).size (fun i hi => (HO1.out.lt i hi).1)
      have hne1 : some g1 ≠ u9.ownBlock := fun h => by
        have h2 := (HO2.out.lt _ h.symm).2
        rcases hat1 with h3 | h3
        · rcases HNE.out with h4 | h4
          · rw [h4] at h3; cases h3
          · exact h4 (h3.trans h)
        · omega
      have HN1 := Lib.hid hown1
      have HN2 := Lib.hid ho2
      have HBB := Lib.hid hB1
      have HNN := Lib.hid hne1
      have p2 := hB1.cell (p := ad.add j) (by rw [add_block]; exact hadV)
      have p3 := HBY.out.cell (p := ad.add j) (by rw [add_block]; exact hadV)
      have e3 : w1.cell? (ad.add j) = some (.int .i64 x) := p2.trans (p3.symm.trans e2)
      have CSd := Lib.hid (CSb.out w1)
      clear hown1 ho2 hgrow1 hB1 hne1 hat1 p2 p3 e2
      go_wp2_with (first | (go_at_call 21; with_reducible refine CSd.out.mono ?_; rintro e w' ⟨rfl, rfl⟩) | (at_builtin; refine wpList_append_lies _ rfl _ _ _ (by rfl) _ 3 i0 _ 1 8 Try.underlying22 INF.out.1 INF.out.2.1 INF.out.2.2.1 INF.out.2.2.2 rfl (by omega) _ k (ints (gl k (minF l))) (by rfl) (HN2.out.alloc _) ⟨w1.heap.size, 0, none⟩ 1 1 [.int .i64 nx] (by rfl) (by rfl) (World.news_of_block (heap_alloc_new _ _)) (by simp [Value.oneCell']) (by omega) HMX.out.1 HMX.out.2 (HBB.out.alloc HBB.out.size _).size (w1.heap.size + 1) (by simp) ?_))
      intro g2 cap2 w2 hown2 hgrow2 hat2 hl2
      have HP1 := Lib.hid (show w2.ownsRow V.heap.size 3 1 (.slice (some ⟨g1, 0, none⟩) (k + 1) cap1) (k + 1) (ints (gl (k + 1) (backF l))) by
        rw [HB1.out]
        exact (HN1.out.alloc _).kept hgrow2 (.inr (HNN.out)))
      have HP2 := Lib.hid (show w2.ownsRow V.heap.size 3 1 (.slice (some ⟨g2, 0, none⟩) (k + 1) cap2) (k + 1) (ints (gl (k + 1) (minF l))) by rw [HB2.out]; exact hown2)
      have HB3 := Lib.hid (show Below V.heap.size V w2 from (HBB.out.alloc HBB.out.size _).grown hgrow2 (HBB.out.alloc HBB.out.size _).size (fun i hi => (HN2.out.lt i hi).1))
      have HN3 := Lib.hid (show some g1 ≠ some g2 from fun h => by
        have h2 := (HN1.out.lt g1 rfl).2
        rcases hat2 with h3 | h3
        · exact HNN.out (h.trans h3.symm)
        · cases h; omega)
      have e4 : w2.cell? (ad.add j) = some (.int .i64 x) := by
        have q2 := HB3.out.cell (p := ad.add j) (by rw [add_block]; exact hadV)
        have q3 := HBB.out.cell (p := ad.add j) (by rw [add_block]; exact hadV)
        exact q2.trans (q3.symm.trans e3)
      clear hown2 hgrow2 hat2 e3 CSd
      cases b
      case false =>
        go_wp2_with fail
        go_roundw
        case rel => exact ⟨k + 1, false, by omega, by rw [show (l.length : Int) - 1 - ((k + 1 : Nat) : Int) = (j : Int) - 1 by omega], rfl, Lib.hid (fun h => by cases h), HB3.out, HP1.out, HP2.out, .inr HN3.out⟩
        case measure => first | (simp [intOf]; done) | (simp [intOf]; omega)
      case true =>
        rw [Bool.true_and] at hfn
        obtain ⟨bb, hbb⟩ : ∃ bb, decide (-9223372036854775808 < x) = bb := ⟨_, rfl⟩
        rw [hbb] at hfn
        go_wp2_with fail
        go_roundw
        case rel => exact ⟨k + 1, bb, by omega, by rw [show (l.length : Int) - 1 - ((k + 1 : Nat) : Int) = (j : Int) - 1 by omega], rfl, hfn, HB3.out, HP1.out, HP2.out, .inr HN3.out⟩
        case measure => first | (simp [intOf]; done) | (simp [intOf]; omega)
    · have i3 : decide ((0 : Int) ≤ (l.length : Int) - 1 - (k : Int)) = false := decide_eq_false (by omega)
      obtain rfl : k = l.length := by omega
      obtain ⟨A1, c1, rfl, hr1⟩ := own_shape ho1
      obtain ⟨A2, c2, rfl, hr2⟩ := own_shape ho2
      clear ho1 ho2 hne
      go_upto_region 15 with fail
      refine wp_rebase _ (fun U hU z0 => ?_)
      subst hU
      have HB := Lib.hid hB
      have HR1 := Lib.hid hr1
      have HR2 := Lib.hid hr2
      have HRU := Lib.hid (HR.out.below (Nat.le_refl _) hB)
      clear hr1 hr2 hB CS C1
      go_wp2_with fail
      go_loopw [10, 13, 14] (fun s10 s13 s14 wr => SuB U l s10 s13 s14 wr) (fun _ _ i _ => l.length - (intOf i).toNat)
      case atStart => exact ⟨0, true, by omega, rfl, rfl, rfl, Lib.hid (fun _ j hj => by obtain rfl : j = 0 := by omega
                                                                                         show -9223372036854775808 < (0 : Int) ∧ (0 : Int) < 9223372036854775807; omega), z0, rfl⟩
      case round =>
        obtain ⟨k, b2, hk, rfl, rfl, rfl, hins, y, rfl⟩ := hrel
        by_cases hlk : k < l.length
        · have k3 : decide ((k : Int) < (l.length : Int)) = true := decide_eq_true (by omega)
          obtain ⟨ad, u, rfl, _, e1, e2⟩ := HRU.out.at (k := k) (by rw [ints_length]; exact hlk)
          rw [ints_at hlk] at e1
          cases e1
          have j1 : (0 : Int) ≤ (k : Int) := by omega
          have j2 : (k : Int) < (l.length : Int) := by omega
          have c1' := fun z : BelW U => BelW.cells e2 z
          have hI : Hid ((b2 = true ∧ -9223372036854775808 < lim l (k + 1) ∧ lim l (k + 1) < 9223372036854775807) → InsP l (k + 1)) := Lib.hid (fun h j hj => by
            by_cases e : j = k + 1
            · subst e; exact h.2
            · exact hins.out h.1 j (by omega))
          have hl1 : lim l (k + 1) = Xa.add (lim l k) (gi l k) := rfl
          have hfx := HF.out k hlk
          have hlf := lim_fit l k
          obtain ⟨T, hT⟩ : ∃ x, lim l k = x := ⟨_, rfl⟩
          obtain ⟨T', hT'⟩ : ∃ x, lim l (k + 1) = x := ⟨_, rfl⟩
          obtain ⟨x, hx⟩ : ∃ x, gi l k = x := ⟨_, rfl⟩
          have HT' := Lib.hid hT'
          rw [hT', hT, hx] at hl1
          rw [hT'] at hI
          rw [hx] at c1' hfx
          rw [hT] at hlf ⊢
          have C4 := Lib.hid (fun u : BelW U => add_c T x T' hlf hfx hl1.symm u)
          clear e2 hT hT' hx hl1 hfx hlf
          cases b2
          case false =>
            go_wp2_with (first | (go_at_call 19; with_reducible refine (C4.out _).mono ?_; rintro e w' ⟨rfl, yy, rfl⟩))
            go_roundw
            case rel => exact ⟨k + 1, false, by omega, by go_num, by rw [HT'.out], rfl, Lib.hid (fun h => by cases h), _, rfl⟩
            case measure => simp [intOf]; omega
          case true =>
            by_cases q1 : -9223372036854775808 < T'
            · have q1' : decide (-9223372036854775808 < T') = true := decide_eq_true q1
              by_cases q2 : T' < 9223372036854775807
              · have q2' : decide (T' < 9223372036854775807) = true := decide_eq_true q2
                go_wp2_with (first | (go_at_call 19; with_reducible refine (C4.out _).mono ?_; rintro e w' ⟨rfl, yy, rfl⟩))
                go_roundw
                case rel => exact ⟨k + 1, true, by omega, by go_num, by rw [HT'.out], rfl, Lib.hid (fun _ => hI.out ⟨by first | rfl | trivial, of_decide_eq_true q1', of_decide_eq_true q2'⟩), _, rfl⟩
                case measure => simp [intOf]; omega
              · have q2' : decide (T' < 9223372036854775807) = false := decide_eq_false q2
                go_wp2_with (first | (go_at_call 19; with_reducible refine (C4.out _).mono ?_; rintro e w' ⟨rfl, yy, rfl⟩))
                go_roundw
                case rel => exact ⟨k + 1, false, by omega, by go_num, by rw [HT'.out], rfl, Lib.hid (fun h => by cases h), _, rfl⟩
                case measure => simp [intOf]; omega
            · have q1' : decide (-9223372036854775808 < T') = false := decide_eq_false q1
              go_wp2_with (first | (go_at_call 19; with_reducible refine (C4.out _).mono ?_; rintro e w' ⟨rfl, yy, rfl⟩))
              go_roundw
              case rel => exact ⟨k + 1, false, by omega, by go_num, by rw [HT'.out], rfl, Lib.hid (fun h => by cases h), _, rfl⟩
              case measure => simp [intOf]; omega
        · have k3 : decide ((k : Int) < (l.length : Int)) = false := decide_eq_false (by omega)
          obtain rfl : k = l.length := by omega
          obtain ⟨K, sa, hK⟩ : ∃ K sa, sumF (gl l.length (minF l)) = (K, sa) := ⟨_, _, rfl⟩
          have hbs : sumF (gl l.length (backF l)) = (S, ok) := by rw [back_sum]; exact HS.out
          have hfb : ∀ i, i < l.length → Fit (gi (gl l.length (backF l)) i) := fun i hi => by rw [gl_at hi]; exact HF.out _ (by omega)
          have hfm : ∀ i, i < l.length → Fit (gi (gl l.length (minF l)) i) := fun i hi => by rw [gl_at hi]; exact Xa.sub_bd _ _
          have C1 := Lib.hid (fun u : BelW U => sum_c A1 c1 (gl l.length (backF l)) l.length (gl_length _ _) hn hfb S ok hbs u (HR1.out.bel u))
          have C2 := Lib.hid (fun u : BelW U => sum_c A2 c2 (gl l.length (minF l)) l.length (gl_length _ _) hn hfm K sa hK u (HR2.out.bel u))
          have HKK := Lib.hid hK
          clear hK hbs hfb hfm
          go_upto_region 23 with (first | (go_at_call 14; with_reducible refine (C1.out _).mono ?_; rintro e w' ⟨rfl, yy, rfl⟩) | (go_at_call 14; with_reducible refine (C2.out _).mono ?_; rintro e w' ⟨rfl, yy, rfl⟩))
          have FIN := Lib.hid (show b = true → ok = true → sa = true → IntKind.i64.wrap (-S) = K from fun h1 h2 h3 => by
            have h := min_sum HF.out (hfine.out h1) (by rw [HS.out]; exact h2) (by rw [HKK.out]; exact h3)
            rw [HS.out, HKK.out] at h
            rw [IntWalk.i64_in _ h.2]
            exact h.1.symm)
          have INS := Lib.hid (show b2 = true → ok = true ∧ S = lim l l.length from fun h => by
            have := ins_sum (hins.out h)
            rw [HS.out] at this
            cases this
            exact ⟨rfl, rfl⟩)
          obtain ⟨L, hL⟩ : ∃ L, lim l l.length = L := ⟨_, rfl⟩
          rw [hL] at INS ⊢
          clear hL hfine hins C1 C2
          have h25 : Hid (p < 0 ∨ (l.length : Int) < p ∨ ∃ m : Nat, p = (m : Int) ∧ m ≤ l.length) := Lib.hid (by
            by_cases a : p < 0
            · exact .inl a
            · by_cases b : (l.length : Int) < p
              · exact .inr (.inl b)
              · exact .inr (.inr ⟨p.toNat, by omega, by omega⟩))
          rcases h25.out with hp | hp | ⟨m, rfl, hm⟩
          · have r1 : decide (0 ≤ p) = false := decide_eq_false (by omega)
            cases b2
            case false =>
              go_upto_region 31 with fail
              cases b
              · go_wp2_with fail
                go_ret
                exact ⟨rfl, below_next HB.out (BelW.below8 _)⟩
              · cases ok
                · go_wp2_with fail
                  go_ret
                  exact ⟨rfl, below_next HB.out (BelW.below8 _)⟩
                · cases sa
                  · go_wp2_with fail
                    go_ret
                    exact ⟨rfl, below_next HB.out (BelW.below8 _)⟩
                  · have hfin := FIN.out (by first | rfl | trivial) (by first | rfl | trivial) (by first | rfl | trivial)
                    clear INS
                    go_wp2_with fail
                    go_ret
                    exact ⟨rfl, below_next HB.out (BelW.below8 _)⟩
            case true =>
              obtain ⟨rfl, rfl⟩ := INS.out rfl
              go_upto_region 31 with fail
              cases b
              · go_wp2_with fail
                go_ret
                exact ⟨rfl, below_next HB.out (BelW.below8 _)⟩
              · cases sa
                · go_wp2_with fail
                  go_ret
                  exact ⟨rfl, below_next HB.out (BelW.below8 _)⟩
                · have hfin := FIN.out (by first | rfl | trivial) (by first | rfl | trivial) (by first | rfl | trivial)
                  clear INS
                  go_wp2_with fail
                  go_ret
                  exact ⟨rfl, below_next HB.out (BelW.below8 _)⟩
          · have r1 : decide (0 ≤ p) = true := decide_eq_true (by omega)
            have r2 : decide (p ≤ (l.length : Int)) = false := decide_eq_false (by omega)
            cases b2
            case false =>
              go_upto_region 31 with fail
              cases b
              · go_wp2_with fail
                go_ret
                exact ⟨rfl, below_next HB.out (BelW.below8 _)⟩
              · cases ok
                · go_wp2_with fail
                  go_ret
                  exact ⟨rfl, below_next HB.out (BelW.below8 _)⟩
                · cases sa
                  · go_wp2_with fail
                    go_ret
                    exact ⟨rfl, below_next HB.out (BelW.below8 _)⟩
                  · have hfin := FIN.out (by first | rfl | trivial) (by first | rfl | trivial) (by first | rfl | trivial)
                    clear INS
                    go_wp2_with fail
                    go_ret
                    exact ⟨rfl, below_next HB.out (BelW.below8 _)⟩
            case true =>
              obtain ⟨rfl, rfl⟩ := INS.out rfl
              go_upto_region 31 with fail
              cases b
              · go_wp2_with fail
                go_ret
                exact ⟨rfl, below_next HB.out (BelW.below8 _)⟩
              · cases sa
                · go_wp2_with fail
                  go_ret
                  exact ⟨rfl, below_next HB.out (BelW.below8 _)⟩
                · have hfin := FIN.out (by first | rfl | trivial) (by first | rfl | trivial) (by first | rfl | trivial)
                  clear INS
                  go_wp2_with fail
                  go_ret
                  exact ⟨rfl, below_next HB.out (BelW.below8 _)⟩
          · have r1 : decide (0 ≤ (m : Int)) = true := decide_eq_true (by omega)
            have r2 : decide ((m : Int) ≤ (l.length : Int)) = true := decide_eq_true (by omega)
            obtain ⟨X, o1, hX⟩ : ∃ XX oo, sumF (l.take m) = (XX, oo) := ⟨_, _, rfl⟩
            obtain ⟨Y, o2, hY⟩ : ∃ XX oo, sumF (l.drop m) = (XX, oo) := ⟨_, _, rfl⟩
            obtain ⟨Z, o3, hZ⟩ : ∃ ZZ oo, sumF [X, Y] = (ZZ, oo) := ⟨_, _, rfl⟩
            have HPS := Lib.hid (show o1 = true → o2 = true → S = Z ∧ ok = o3 from fun h1 h2 => by
              have := parts_sum (l := l) (k := m) (by rw [hX]; exact h1) (by rw [hY]; exact h2)
              rw [hX, hY, HS.out, hZ] at this
              cases this
              exact ⟨rfl, rfl⟩)
            have fX := sumF_fit (l.take m)
            have fY := sumF_fit (l.drop m)
            rw [hX] at fX
            rw [hY] at fY
            have C7 := Lib.hid (show ∀ y : BelW U, Calls Try.prog 14 #[.slice (some ⟨y.w.heap.size, 0, none⟩) 2 2] (y.w.alloc (.cells #[.int .i64 X, .int .i64 Y] 3)) fun e w' => e = .returned (.tuple #[.int .i64 Z, .bool o3]) ∧ ∃ z : BelW U, w' = z.w from
              fun y => sum_c (V := U) _ 2 [X, Y] 2 rfl (by decide) (fun i hi => by
                match i, hi with
                | 0, _ => exact fX
                | 1, _ => exact fY) Z o3 hZ (y.al _) (ints_rd_new y.w [X, Y] 3))
            clear fX fY hZ
            cases b2
            case false =>
              by_cases hml : m < l.length
              · obtain ⟨ad, u, rfl, _, _, _⟩ := HRU.out.at (k := m) (by rw [ints_length]; exact hml)
                have C5 := Lib.hid (fun u : BelW U => sum_c (some ad) c (l.take m) m (by rw [List.length_take]; omega) (by omega) (fun i hi => by
                  have e : gi (l.take m) i = gi l i := by simp [gi, List.getD, List.getElem?_take, hi]
                  rw [e]; exact HF.out i (by omega)) X o1 hX u ((rd_take HRU.out m).bel u))
                have C6 := Lib.hid (fun u : BelW U => sum_c (some (ad.add m)) (c - m) (l.drop m) (l.length - m) (by rw [List.length_drop]) (by omega) (fun i hi => by
                  have e : gi (l.drop m) i = gi l (m + i) := by simp [gi, List.getD, List.getElem?_drop]
                  rw [e]; exact HF.out (m + i) (by omega)) Y o2 hY u ((rd_drop HRU.out m).bel u))
                have m1 : (0 : Int) ≤ (m : Int) := by omega
                have m2 : (m : Int) ≤ (c : Int) := by omega
                have m4 : (l.length : Int) ≤ (c : Int) := by omega
                have m5 : ¬ c = m := by omega
                have m6 : ¬ m = c := by omega
                clear hX hY
                cases o1
                · go_upto_region 31 with (first | (go_at_call 14; with_reducible refine (C5.out _).mono ?_; rintro e w' ⟨rfl, yy, rfl⟩) | (go_at_call 14; with_reducible refine (C6.out _).mono ?_; rintro e w' ⟨rfl, yy, rfl⟩) | (go_at_call 14; with_reducible refine (C7.out _).mono ?_; rintro e w' ⟨rfl, yy, rfl⟩))
                  cases b
                  · go_wp2_with fail
                    go_ret
                    exact ⟨rfl, below_next HB.out (BelW.below8 _)⟩
                  · cases ok
                    · go_wp2_with fail
                      go_ret
                      exact ⟨rfl, below_next HB.out (BelW.below8 _)⟩
                    · cases sa
                      · go_wp2_with fail
                        go_ret
                        exact ⟨rfl, below_next HB.out (BelW.below8 _)⟩
                      · have hfin := FIN.out (by first | rfl | trivial) (by first | rfl | trivial) (by first | rfl | trivial)
                        clear INS
                        go_wp2_with fail
                        go_ret
                        exact ⟨rfl, below_next HB.out (BelW.below8 _)⟩
                · cases o2
                  · go_upto_region 31 with (first | (go_at_call 14; with_reducible refine (C5.out _).mono ?_; rintro e w' ⟨rfl, yy, rfl⟩) | (go_at_call 14; with_reducible refine (C6.out _).mono ?_; rintro e w' ⟨rfl, yy, rfl⟩) | (go_at_call 14; with_reducible refine (C7.out _).mono ?_; rintro e w' ⟨rfl, yy, rfl⟩))
                    cases b
                    · go_wp2_with fail
                      go_ret
                      exact ⟨rfl, below_next HB.out (BelW.below8 _)⟩
                    · cases ok
                      · go_wp2_with fail
                        go_ret
                        exact ⟨rfl, below_next HB.out (BelW.below8 _)⟩
                      · cases sa
                        · go_wp2_with fail
                          go_ret
                          exact ⟨rfl, below_next HB.out (BelW.below8 _)⟩
                        · have hfin := FIN.out (by first | rfl | trivial) (by first | rfl | trivial) (by first | rfl | trivial)
                          clear INS
                          go_wp2_with fail
                          go_ret
                          exact ⟨rfl, below_next HB.out (BelW.below8 _)⟩
                  · obtain ⟨rfl, rfl⟩ := HPS.out (by first | rfl | trivial) (by first | rfl | trivial)
                    go_upto_region 31 with (first | (go_at_call 14; with_reducible refine (C5.out _).mono ?_; rintro e w' ⟨rfl, yy, rfl⟩) | (go_at_call 14; with_reducible refine (C6.out _).mono ?_; rintro e w' ⟨rfl, yy, rfl⟩) | (go_at_call 14; with_reducible refine (C7.out _).mono ?_; rintro e w' ⟨rfl, yy, rfl⟩))
                    cases b
                    · go_wp2_with fail
                      go_ret
                      exact ⟨rfl, below_next HB.out (BelW.below8 _)⟩
                    · cases ok
                      · go_wp2_with fail
                        go_ret
                        exact ⟨rfl, below_next HB.out (BelW.below8 _)⟩
                      · cases sa
                        · go_wp2_with fail
                          go_ret
                          exact ⟨rfl, below_next HB.out (BelW.below8 _)⟩
                        · have hfin := FIN.out (by first | rfl | trivial) (by first | rfl | trivial) (by first | rfl | trivial)
                          clear INS
                          go_wp2_with fail
                          go_ret
                          exact ⟨rfl, below_next HB.out (BelW.below8 _)⟩
              · obtain rfl : m = l.length := by omega
                have hX' := hX
                have hY' := hY
                rw [List.take_length] at hX'
                rw [List.drop_length] at hY'
                have C5 := Lib.hid (fun u : BelW U => sum_c A c l l.length rfl hn HF.out X o1 hX' u (HRU.out.bel u))
                have C6 := Lib.hid (fun (A' : Option Addr) (c' : Nat) (u : BelW U) => sum_c A' c' [] 0 rfl (by omega) (fun i hi => absurd hi (Nat.not_lt_zero _)) Y o2 hY' u (fun h => absurd h (by simp [ints])))
                have m1 : (0 : Int) ≤ (l.length : Int) := by omega
                have m4 : (l.length : Int) ≤ (c : Int) := by omega
                clear hX hY hX' hY'
                by_cases hcl : c = l.length
                · subst hcl
                  cases o1
                  · go_upto_region 31 with (first | (go_at_call 14; with_reducible refine (C5.out _).mono ?_; rintro e w' ⟨rfl, yy, rfl⟩) | (go_at_call 14; with_reducible refine (C6.out _ _ _).mono ?_; rintro e w' ⟨rfl, yy, rfl⟩) | (go_at_call 14; with_reducible refine (C7.out _).mono ?_; rintro e w' ⟨rfl, yy, rfl⟩))
                    cases b
                    · go_wp2_with fail
                      go_ret
                      exact ⟨rfl, below_next HB.out (BelW.below8 _)⟩
                    · cases ok
                      · go_wp2_with fail
                        go_ret
                        exact ⟨rfl, below_next HB.out (BelW.below8 _)⟩
                      · cases sa
                        · go_wp2_with fail
                          go_ret
                          exact ⟨rfl, below_next HB.out (BelW.below8 _)⟩
                        · have hfin := FIN.out (by first | rfl | trivial) (by first | rfl | trivial) (by first | rfl | trivial)
                          clear INS
                          go_wp2_with fail
                          go_ret
                          exact ⟨rfl, below_next HB.out (BelW.below8 _)⟩
                  · cases o2
                    · go_upto_region 31 with (first | (go_at_call 14; with_reducible refine (C5.out _).mono ?_; rintro e w' ⟨rfl, yy, rfl⟩) | (go_at_call 14; with_reducible refine (C6.out _ _ _).mono ?_; rintro e w' ⟨rfl, yy, rfl⟩) | (go_at_call 14; with_reducible refine (C7.out _).mono ?_; rintro e w' ⟨rfl, yy, rfl⟩))
                      cases b
                      · go_wp2_with fail
                        go_ret
                        exact ⟨rfl, below_next HB.out (BelW.below8 _)⟩
                      · cases ok
                        · go_wp2_with fail
                          go_ret
                          exact ⟨rfl, below_next HB.out (BelW.below8 _)⟩
                        · cases sa
                          · go_wp2_with fail
                            go_ret
                            exact ⟨rfl, below_next HB.out (BelW.below8 _)⟩
                          · have hfin := FIN.out (by first | rfl | trivial) (by first | rfl | trivial) (by first | rfl | trivial)
                            clear INS
                            go_wp2_with fail
                            go_ret
                            exact ⟨rfl, below_next HB.out (BelW.below8 _)⟩
                    · obtain ⟨rfl, rfl⟩ := HPS.out (by first | rfl | trivial) (by first | rfl | trivial)
                      go_upto_region 31 with (first | (go_at_call 14; with_reducible refine (C5.out _).mono ?_; rintro e w' ⟨rfl, yy, rfl⟩) | (go_at_call 14; with_reducible refine (C6.out _ _ _).mono ?_; rintro e w' ⟨rfl, yy, rfl⟩) | (go_at_call 14; with_reducible refine (C7.out _).mono ?_; rintro e w' ⟨rfl, yy, rfl⟩))
                      cases b
                      · go_wp2_with fail
                        go_ret
                        exact ⟨rfl, below_next HB.out (BelW.below8 _)⟩
                      · cases ok
                        · go_wp2_with fail
                          go_ret
                          exact ⟨rfl, below_next HB.out (BelW.below8 _)⟩
                        · cases sa
                          · go_wp2_with fail
                            go_ret
                            exact ⟨rfl, below_next HB.out (BelW.below8 _)⟩
                          · have hfin := FIN.out (by first | rfl | trivial) (by first | rfl | trivial) (by first | rfl | trivial)
                            clear INS
                            go_wp2_with fail
                            go_ret
                            exact ⟨rfl, below_next HB.out (BelW.below8 _)⟩
                · have hcl' : ¬ l.length = c := fun h => hcl h.symm
                  cases o1
                  · go_upto_region 31 with (first | (go_at_call 14; with_reducible refine (C5.out _).mono ?_; rintro e w' ⟨rfl, yy, rfl⟩) | (go_at_call 14; with_reducible refine (C6.out _ _ _).mono ?_; rintro e w' ⟨rfl, yy, rfl⟩) | (go_at_call 14; with_reducible refine (C7.out _).mono ?_; rintro e w' ⟨rfl, yy, rfl⟩))
                    cases b
                    · go_wp2_with fail
                      go_ret
                      exact ⟨rfl, below_next HB.out (BelW.below8 _)⟩
                    · cases ok
                      · go_wp2_with fail
                        go_ret
                        exact ⟨rfl, below_next HB.out (BelW.below8 _)⟩
                      · cases sa
                        · go_wp2_with fail
                          go_ret
                          exact ⟨rfl, below_next HB.out (BelW.below8 _)⟩
                        · have hfin := FIN.out (by first | rfl | trivial) (by first | rfl | trivial) (by first | rfl | trivial)
                          clear INS
                          go_wp2_with fail
                          go_ret
                          exact ⟨rfl, below_next HB.out (BelW.below8 _)⟩
                  · cases o2
                    · go_upto_region 31 with (first | (go_at_call 14; with_reducible refine (C5.out _).mono ?_; rintro e w' ⟨rfl, yy, rfl⟩) | (go_at_call 14; with_reducible refine (C6.out _ _ _).mono ?_; rintro e w' ⟨rfl, yy, rfl⟩) | (go_at_call 14; with_reducible refine (C7.out _).mono ?_; rintro e w' ⟨rfl, yy, rfl⟩))
                      cases b
                      · go_wp2_with fail
                        go_ret
                        exact ⟨rfl, below_next HB.out (BelW.below8 _)⟩
                      · cases ok
                        · go_wp2_with fail
                          go_ret
                          exact ⟨rfl, below_next HB.out (BelW.below8 _)⟩
                        · cases sa
                          · go_wp2_with fail
                            go_ret
                            exact ⟨rfl, below_next HB.out (BelW.below8 _)⟩
                          · have hfin := FIN.out (by first | rfl | trivial) (by first | rfl | trivial) (by first | rfl | trivial)
                            clear INS
                            go_wp2_with fail
                            go_ret
                            exact ⟨rfl, below_next HB.out (BelW.below8 _)⟩
                    · obtain ⟨rfl, rfl⟩ := HPS.out (by first | rfl | trivial) (by first | rfl | trivial)
                      go_upto_region 31 with (first | (go_at_call 14; with_reducible refine (C5.out _).mono ?_; rintro e w' ⟨rfl, yy, rfl⟩) | (go_at_call 14; with_reducible refine (C6.out _ _ _).mono ?_; rintro e w' ⟨rfl, yy, rfl⟩) | (go_at_call 14; with_reducible refine (C7.out _).mono ?_; rintro e w' ⟨rfl, yy, rfl⟩))
                      cases b
                      · go_wp2_with fail
                        go_ret
                        exact ⟨rfl, below_next HB.out (BelW.below8 _)⟩
                      · cases ok
                        · go_wp2_with fail
                          go_ret
                          exact ⟨rfl, below_next HB.out (BelW.below8 _)⟩
                        · cases sa
                          · go_wp2_with fail
                            go_ret
                            exact ⟨rfl, below_next HB.out (BelW.below8 _)⟩
                          · have hfin := FIN.out (by first | rfl | trivial) (by first | rfl | trivial) (by first | rfl | trivial)
                            clear INS
                            go_wp2_with fail
                            go_ret
                            exact ⟨rfl, below_next HB.out (BelW.below8 _)⟩
            case true =>
              obtain ⟨rfl, rfl⟩ := INS.out rfl
              by_cases hml : m < l.length
              · obtain ⟨ad, u, rfl, _, _, _⟩ := HRU.out.at (k := m) (by rw [ints_length]; exact hml)
                have C5 := Lib.hid (fun u : BelW U => sum_c (some ad) c (l.take m) m (by rw [List.length_take]; omega) (by omega) (fun i hi => by
                  have e : gi (l.take m) i = gi l i := by simp [gi, List.getD, List.getElem?_take, hi]
                  rw [e]; exact HF.out i (by omega)) X o1 hX u ((rd_take HRU.out m).bel u))
                have C6 := Lib.hid (fun u : BelW U => sum_c (some (ad.add m)) (c - m) (l.drop m) (l.length - m) (by rw [List.length_drop]) (by omega) (fun i hi => by
                  have e : gi (l.drop m) i = gi l (m + i) := by simp [gi, List.getD, List.getElem?_drop]
                  rw [e]; exact HF.out (m + i) (by omega)) Y o2 hY u ((rd_drop HRU.out m).bel u))
                have m1 : (0 : Int) ≤ (m : Int) := by omega
                have m2 : (m : Int) ≤ (c : Int) := by omega
                have m4 : (l.length : Int) ≤ (c : Int) := by omega
                have m5 : ¬ c = m := by omega
                have m6 : ¬ m = c := by omega
                clear hX hY
                cases o1
                · go_upto_region 31 with (first | (go_at_call 14; with_reducible refine (C5.out _).mono ?_; rintro e w' ⟨rfl, yy, rfl⟩) | (go_at_call 14; with_reducible refine (C6.out _).mono ?_; rintro e w' ⟨rfl, yy, rfl⟩) | (go_at_call 14; with_reducible refine (C7.out _).mono ?_; rintro e w' ⟨rfl, yy, rfl⟩))
                  cases b
                  · go_wp2_with fail
                    go_ret
                    exact ⟨rfl, below_next HB.out (BelW.below8 _)⟩
                  · cases sa
                    · go_wp2_with fail
                      go_ret
                      exact ⟨rfl, below_next HB.out (BelW.below8 _)⟩
                    · have hfin := FIN.out (by first | rfl | trivial) (by first | rfl | trivial) (by first | rfl | trivial)
                      clear INS
                      go_wp2_with fail
                      go_ret
                      exact ⟨rfl, below_next HB.out (BelW.below8 _)⟩
                · cases o2
                  · go_upto_region 31 with (first | (go_at_call 14; with_reducible refine (C5.out _).mono ?_; rintro e w' ⟨rfl, yy, rfl⟩) | (go_at_call 14; with_reducible refine (C6.out _).mono ?_; rintro e w' ⟨rfl, yy, rfl⟩) | (go_at_call 14; with_reducible refine (C7.out _).mono ?_; rintro e w' ⟨rfl, yy, rfl⟩))
                    cases b
                    · go_wp2_with fail
                      go_ret
                      exact ⟨rfl, below_next HB.out (BelW.below8 _)⟩
                    · cases sa
                      · go_wp2_with fail
                        go_ret
                        exact ⟨rfl, below_next HB.out (BelW.below8 _)⟩
                      · have hfin := FIN.out (by first | rfl | trivial) (by first | rfl | trivial) (by first | rfl | trivial)
                        clear INS
                        go_wp2_with fail
                        go_ret
                        exact ⟨rfl, below_next HB.out (BelW.below8 _)⟩
                  · obtain ⟨rfl, rfl⟩ := HPS.out (by first | rfl | trivial) (by first | rfl | trivial)
                    go_upto_region 31 with (first | (go_at_call 14; with_reducible refine (C5.out _).mono ?_; rintro e w' ⟨rfl, yy, rfl⟩) | (go_at_call 14; with_reducible refine (C6.out _).mono ?_; rintro e w' ⟨rfl, yy, rfl⟩) | (go_at_call 14; with_reducible refine (C7.out _).mono ?_; rintro e w' ⟨rfl, yy, rfl⟩))
                    cases b
                    · go_wp2_with fail
                      go_ret
                      exact ⟨rfl, below_next HB.out (BelW.below8 _)⟩
                    · cases sa
                      · go_wp2_with fail
                        go_ret
                        exact ⟨rfl, below_next HB.out (BelW.below8 _)⟩
                      · have hfin := FIN.out (by first | rfl | trivial) (by first | rfl | trivial) (by first | rfl | trivial)
                        clear INS
                        go_wp2_with fail
                        go_ret
                        exact ⟨rfl, below_next HB.out (BelW.below8 _)⟩
              · obtain rfl : m = l.length := by omega
                have hX' := hX
                have hY' := hY
                rw [List.take_length] at hX'
                rw [List.drop_length] at hY'
                have C5 := Lib.hid (fun u : BelW U => sum_c A c l l.length rfl hn HF.out X o1 hX' u (HRU.out.bel u))
                have C6 := Lib.hid (fun (A' : Option Addr) (c' : Nat) (u : BelW U) => sum_c A' c' [] 0 rfl (by omega) (fun i hi => absurd hi (Nat.not_lt_zero _)) Y o2 hY' u (fun h => absurd h (by simp [ints])))
                have m1 : (0 : Int) ≤ (l.length : Int) := by omega
                have m4 : (l.length : Int) ≤ (c : Int) := by omega
                clear hX hY hX' hY'
                by_cases hcl : c = l.length
                · subst hcl
                  cases o1
                  · go_upto_region 31 with (first | (go_at_call 14; with_reducible refine (C5.out _).mono ?_; rintro e w' ⟨rfl, yy, rfl⟩) | (go_at_call 14; with_reducible refine (C6.out _ _ _).mono ?_; rintro e w' ⟨rfl, yy, rfl⟩) | (go_at_call 14; with_reducible refine (C7.out _).mono ?_; rintro e w' ⟨rfl, yy, rfl⟩))
                    cases b
                    · go_wp2_with fail
                      go_ret
                      exact ⟨rfl, below_next HB.out (BelW.below8 _)⟩
                    · cases sa
                      · go_wp2_with fail
                        go_ret
                        exact ⟨rfl, below_next HB.out (BelW.below8 _)⟩
                      · have hfin := FIN.out (by first | rfl | trivial) (by first | rfl | trivial) (by first | rfl | trivial)
                        clear INS
                        go_wp2_with fail
                        go_ret
                        exact ⟨rfl, below_next HB.out (BelW.below8 _)⟩
                  · cases o2
                    · go_upto_region 31 with (first | (go_at_call 14; with_reducible refine (C5.out _).mono ?_; rintro e w' ⟨rfl, yy, rfl⟩) | (go_at_call 14; with_reducible refine (C6.out _ _ _).mono ?_; rintro e w' ⟨rfl, yy, rfl⟩) | (go_at_call 14; with_reducible refine (C7.out _).mono ?_; rintro e w' ⟨rfl, yy, rfl⟩))
                      cases b
                      · go_wp2_with fail
                        go_ret
                        exact ⟨rfl, below_next HB.out (BelW.below8 _)⟩
                      · cases sa
                        · go_wp2_with fail
                          go_ret
                          exact ⟨rfl, below_next HB.out (BelW.below8 _)⟩
                        · have hfin := FIN.out (by first | rfl | trivial) (by first | rfl | trivial) (by first | rfl | trivial)
                          clear INS
                          go_wp2_with fail
                          go_ret
                          exact ⟨rfl, below_next HB.out (BelW.below8 _)⟩
                    · obtain ⟨rfl, rfl⟩ := HPS.out (by first | rfl | trivial) (by first | rfl | trivial)
                      go_upto_region 31 with (first | (go_at_call 14; with_reducible refine (C5.out _).mono ?_; rintro e w' ⟨rfl, yy, rfl⟩) | (go_at_call 14; with_reducible refine (C6.out _ _ _).mono ?_; rintro e w' ⟨rfl, yy, rfl⟩) | (go_at_call 14; with_reducible refine (C7.out _).mono ?_; rintro e w' ⟨rfl, yy, rfl⟩))
                      cases b
                      · go_wp2_with fail
                        go_ret
                        exact ⟨rfl, below_next HB.out (BelW.below8 _)⟩
                      · cases sa
                        · go_wp2_with fail
                          go_ret
                          exact ⟨rfl, below_next HB.out (BelW.below8 _)⟩
                        · have hfin := FIN.out (by first | rfl | trivial) (by first | rfl | trivial) (by first | rfl | trivial)
                          clear INS
                          go_wp2_with fail
                          go_ret
                          exact ⟨rfl, below_next HB.out (BelW.below8 _)⟩
                · have hcl' : ¬ l.length = c := fun h => hcl h.symm
                  cases o1
                  · go_upto_region 31 with (first | (go_at_call 14; with_reducible refine (C5.out _).mono ?_; rintro e w' ⟨rfl, yy, rfl⟩) | (go_at_call 14; with_reducible refine (C6.out _ _ _).mono ?_; rintro e w' ⟨rfl, yy, rfl⟩) | (go_at_call 14; with_reducible refine (C7.out _).mono ?_; rintro e w' ⟨rfl, yy, rfl⟩))
                    cases b
                    · go_wp2_with fail
                      go_ret
                      exact ⟨rfl, below_next HB.out (BelW.below8 _)⟩
                    · cases sa
                      · go_wp2_with fail
                        go_ret
                        exact ⟨rfl, below_next HB.out (BelW.below8 _)⟩
                      · have hfin := FIN.out (by first | rfl | trivial) (by first | rfl | trivial) (by first | rfl | trivial)
                        clear INS
                        go_wp2_with fail
                        go_ret
                        exact ⟨rfl, below_next HB.out (BelW.below8 _)⟩
                  · cases o2
                    · go_upto_region 31 with (first | (go_at_call 14; with_reducible refine (C5.out _).mono ?_; rintro e w' ⟨rfl, yy, rfl⟩) | (go_at_call 14; with_reducible refine (C6.out _ _ _).mono ?_; rintro e w' ⟨rfl, yy, rfl⟩) | (go_at_call 14; with_reducible refine (C7.out _).mono ?_; rintro e w' ⟨rfl, yy, rfl⟩))
                      cases b
                      · go_wp2_with fail
                        go_ret
                        exact ⟨rfl, below_next HB.out (BelW.below8 _)⟩
                      · cases sa
                        · go_wp2_with fail
                          go_ret
                          exact ⟨rfl, below_next HB.out (BelW.below8 _)⟩
                        · have hfin := FIN.out (by first | rfl | trivial) (by first | rfl | trivial) (by first | rfl | trivial)
                          clear INS
                          go_wp2_with fail
                          go_ret
                          exact ⟨rfl, below_next HB.out (BelW.below8 _)⟩
                    · obtain ⟨rfl, rfl⟩ := HPS.out (by first | rfl | trivial) (by first | rfl | trivial)
                      go_upto_region 31 with (first | (go_at_call 14; with_reducible refine (C5.out _).mono ?_; rintro e w' ⟨rfl, yy, rfl⟩) | (go_at_call 14; with_reducible refine (C6.out _ _ _).mono ?_; rintro e w' ⟨rfl, yy, rfl⟩) | (go_at_call 14; with_reducible refine (C7.out _).mono ?_; rintro e w' ⟨rfl, yy, rfl⟩))
                      cases b
                      · go_wp2_with fail
                        go_ret
                        exact ⟨rfl, below_next HB.out (BelW.below8 _)⟩
                      · cases sa
                        · go_wp2_with fail
                          go_ret
                          exact ⟨rfl, below_next HB.out (BelW.below8 _)⟩
                        · have hfin := FIN.out (by first | rfl | trivial) (by first | rfl | trivial) (by first | rfl | trivial)
                          clear INS
                          go_wp2_with fail
                          go_ret
                          exact ⟨rfl, below_next HB.out (BelW.below8 _)⟩

end Go.Proofs.Ytemdnfodpijncaa
