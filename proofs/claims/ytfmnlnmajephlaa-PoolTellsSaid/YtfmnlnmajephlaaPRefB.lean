/- bourneref17: Less, Add. -/
import Derived.Test.YtfmnlnmajephlaaPRefA
import Derived.Deep.RegionHeld3
import Derived.Deep.AppendLies
namespace Go.Proofs.Ytfmnlnmajephlaa
open Go.RowKit
set_option linter.unusedVariables false
set_option linter.unusedSimpArgs false

theorem own_shape {w : World} {B : Nat} {e : TypeId} {v : Value} {n : Nat} {xs : List Int} (h : w.ownsRow B e 1 v n (ints xs)) : ∃ A c, v = .slice A n c ∧ Rd w A (ints xs) := by
  by_cases hn : 0 < n
  · obtain ⟨g, cap, rfl, hb, hl⟩ := h.form hn
    exact ⟨_, _, rfl, fun _ => ⟨⟨g, 0, none⟩, rfl, hl, fun j u hu => h.cells (g := g) rfl j u hu⟩⟩
  · have hl : (ints xs).length = 0 := by have := h.1; omega
    have hr : ∀ A, Rd w A (ints xs) := fun A h0 => by omega
    rcases h.2 with ⟨rfl, rfl⟩ | ⟨g, cap, cur, rfl, _⟩
    · exact ⟨_, _, rfl, hr _⟩
    · exact ⟨_, _, rfl, hr _⟩
theorem gl_snoc (n : Nat) (f : Nat → Int) : ints (gl (n + 1) f) = ints (gl n f) ++ [.int .i64 (f n)] := by
  unfold gl ints
  rw [List.range_succ, List.map_append, List.map_append]; rfl
def RowPost (n : Nat) (x : List Int) (w : World) (e : Ending) (w' : World) : Prop := ∃ v, e = .returned v ∧ w'.ownsRow w.heap.size 3 1 v n (ints x) ∧ Below w.heap.size w w'
def ReR (V : World) (n : Nat) (f : Nat → Int) (s5 s6 : Value) (wr : World) : Prop := ∃ k : Nat, k ≤ n ∧ s6 = .int .i64 (k : Int) ∧ Below V.heap.size V wr ∧ wr.ownsRow V.heap.size 3 1 s5 k (ints (gl k f))
theorem rd_blk {w : World} {A : Option Addr} {xs : List Int} (h : Rd w A (ints xs)) {ad : Addr} (e : A = some ad) (hn : 0 < xs.length) : ad.block < w.heap.size := by
  obtain ⟨ad', e', hb, _⟩ := h (by rw [ints_length]; exact hn)
  rw [e] at e'; cases e'; exact hb

set_option maxHeartbeats 8000000 in
set_option maxRecDepth 100000 in
theorem less_row (A B : Option Addr) (ca cb : Nat) (p t : List Int) (n : Nat) (hp : p.length = n) (ht : t.length = n) (hn : n ≤ 1000) (hf : ∀ i, i < n → Fit (gi p i - gi t i)) (w : World) (hrp : Rd w A (ints p)) (hrt : Rd w B (ints t)) :
    Calls Try.prog 30 #[.slice A n ca, .slice B n cb] w (RowPost n (gl n fun i => gi p i - gi t i) w) := by
  obtain ⟨i0, hi0, hz0, hz1, hz2⟩ := info_parts info_int2
  have INF := Lib.hid (And.intro hi0 (And.intro hz0 (And.intro hz1 hz2)))
  have HP := Lib.hid hrp
  have HT := Lib.hid hrt
  have HF := Lib.hid hf
  clear hi0 hz0 hz1 hz2 hrp hrt hf
  go_enter Try.func30, Try.ntmps30
  go_wp2_with fail
  go_loopw [5, 6] (fun s5 s6 wr => ReR w n (fun i => gi p i - gi t i) s5 s6 wr) (fun _ i _ => n - (intOf i).toNat)
  case atStart => exact ⟨0, by omega, rfl, Below.refl _ _, World.ownsRow_nil _ _ _ _⟩
  case round =>
    obtain ⟨k, hk, rfl, hB, ho⟩ := hrel
    by_cases hlt : k < n
    · have i3 : decide ((k : Int) < (n : Int)) = true := decide_eq_true (by omega)
      obtain ⟨ad, u, rfl, _, e1, e2⟩ := (HP.out.below (Nat.le_refl _) hB).at (k := k) (by rw [ints_length]; omega)
      rw [ints_at (by omega)] at e1
      cases e1
      obtain ⟨bd, u, rfl, _, e3, e4⟩ := (HT.out.below (Nat.le_refl _) hB).at (k := k) (by rw [ints_length]; omega)
      rw [ints_at (by omega)] at e3
      cases e3
      have ba := rd_blk HP.out rfl (by omega)
      have bb := rd_blk HT.out rfl (by omega)
      have hfx := HF.out k hlt
      have hsn := gl_snoc k (fun i => gi p i - gi t i)
      obtain ⟨a, ha⟩ : ∃ a, gi p k = a := ⟨_, rfl⟩
      obtain ⟨b, hb⟩ : ∃ a, gi t k = a := ⟨_, rfl⟩
      rw [ha] at e2 hfx hsn
      rw [hb] at e4 hfx hsn
      have w0 : IntKind.i64.wrap (a - b) = a - b := IntWalk.i64_in _ hfx
      have j1 : (0 : Int) ≤ (k : Int) := by omega
      have j2 : (k : Int) < (n : Int) := by omega
      have HSN := Lib.hid hsn
      have HO := Lib.hid ho
      have HB := Lib.hid hB
      have HMX := Lib.hid (show k + 1 ≤ maxLen ∧ (k + 1) * 8 ≤ 140737488355328 by unfold maxLen; constructor <;> omega)
      have farA : some (ad.add k).block ≠ u5.ownBlock := fun h => by have := (ho.lt _ h.symm).1; rw [add_block] at this; omega
      have farB : some (bd.add k).block ≠ u5.ownBlock := fun h => by have := (ho.lt _ h.symm).1; rw [add_block] at this; omega
      clear ha hb hfx hsn ho hB
      go_upto_region 5 with fail
      go_region_held3 (fun w' => w'.cell? (ad.add k) = some (.int .i64 a) ∧ w'.cell? (bd.add k) = some (.int .i64 b))
        (first
          | (go_split_ands; exact ⟨hgrow.cell (by assumption) farA, hgrow.cell (by assumption) farB⟩)
          | (go_split_ands; exact ⟨cell_alloc (by assumption) _, cell_alloc (by assumption) _⟩)
          | (go_split_ands; refine ⟨?_, ?_⟩ <;> assumption))
        (((refine step_append_lies _ (by rfl) _ _ _ (by rfl) _ 3 i0 _ 1 8 Try.underlying22 INF.out.1 INF.out.2.1 INF.out.2.2.1 INF.out.2.2.2 rfl (by omega) _ (k) (ints (gl k fun i => gi p i - gi t i)) (by rfl) ((HO.out.alloc _).drew) ⟨wr.heap.size, 0, none⟩ 1 1 [.int .i64 (a - b)] (by rfl) (by rfl) (World.news_of_block (cs := #[.int .i64 (a - b)]) (t := 3) (fr := (0, 0)) (heap_alloc_new wr _)) (by simp [Value.oneCell']) (by omega) HMX.out.1 HMX.out.2 (Nat.le_trans HB.out.size (by simp)) (wr.heap.size + 1) (by simp) ?_; intro gg cap w1 hown1 hgrow hat hl1)))
      have hB1 : Below w.heap.size w w1 := (bel_alloc HB.out _).drew.grown hgrow (bel_alloc HB.out _).drew.size (fun i hi => (HO.out.lt i hi).1)
      have HN := Lib.hid hown1
      have HM := Lib.hid hB1
      clear hown1 hgrow hat hB1
      go_wp2_with fail
      go_roundw
      case rel => exact ⟨k + 1, by omega, by go_num, HM.out, by rw [HSN.out]; exact HN.out⟩
      case measure => simp [intOf]; omega
    · have i3 : decide ((k : Int) < (n : Int)) = false := decide_eq_false (by omega)
      obtain rfl : k = n := by omega
      have HX := Lib.hid (And.intro ho hB)
      clear ho hB
      go_wp2_with fail
      go_ret
      exact ⟨_, rfl, HX.out⟩

/-! Add -/
set_option maxHeartbeats 8000000 in
set_option maxRecDepth 100000 in
theorem refpadd_any (A B : Option Addr) (ca cb : Nat) (p q : List Int) (lp lq n : Nat) (hp : p.length = lp) (hq : q.length = lq) (hm : max lp lq = n) (hn : n ≤ 1000) (hfp : ∀ i, i < lp → Fit (gi p i)) (hfq : ∀ i, i < lq → Fit (gi q i)) (w : World) (hrp : Rd w A (ints p)) (hrq : Rd w B (ints q)) :
    Calls Try.prog 21 #[.slice A lp ca, .slice B lq cb] w (RowPost n (addF n p q) w) := by
  obtain ⟨i0, hi0, hz0, hz1, hz2⟩ := info_parts info_int2
  have INF := Lib.hid (And.intro hi0 (And.intro hz0 (And.intro hz1 hz2)))
  have HP := Lib.hid hrp
  have HQ := Lib.hid hrq
  have HFP := Lib.hid (gi_fit (p := p) (by rw [hp]; exact hfp))
  have HFQ := Lib.hid (gi_fit (p := q) (by rw [hq]; exact hfq))
  have HMM := Lib.hid hm
  clear hi0 hz0 hz1 hz2 hrp hrq hfp hfq hm
  unfold addF
  go_enter Try.func21, Try.ntmps21
  go_wp2_with fail
  go_loopw [5, 6] (fun s5 s6 wr => ReR w n (fun i => Xa.add (gi p i) (gi q i)) s5 s6 wr) (fun _ i _ => n - (intOf i).toNat)
  case atStart => exact ⟨0, by omega, rfl, Below.refl _ _, World.ownsRow_nil _ _ _ _⟩
  case round =>
    obtain ⟨k, hk, rfl, hB, ho⟩ := hrel
    by_cases hlt : k < n
    · have hor : k < lp ∨ k < lq := by have := HMM.out; omega
      have hat1 := at_any A ca p (k : Int) (by have := HMM.out; omega) wr (HP.out.below (Nat.le_refl _) hB)
      have hat2 := at_any B cb q (k : Int) (by have := HMM.out; omega) wr (HQ.out.below (Nat.le_refl _) hB)
      have hfa := HFP.out k
      have hfb := HFQ.out k
      have hsn := gl_snoc k (fun i => Xa.add (gi p i) (gi q i))
      rw [atI_nat, hp] at hat1
      rw [atI_nat, hq] at hat2
      obtain ⟨a, ha⟩ : ∃ a, gi p k = a := ⟨_, rfl⟩
      obtain ⟨b, hb⟩ : ∃ a, gi q k = a := ⟨_, rfl⟩
      rw [ha] at hat1 hfa hsn
      rw [hb] at hat2 hfb hsn
      have hadd := refadd_any a b hfa.1 hfa.2 hfb.1 hfb.2 wr
      obtain ⟨s, hs⟩ : ∃ s, Xa.add a b = s := ⟨_, rfl⟩
      rw [hs] at hadd hsn
      have C1 := Lib.hid hat1
      have C2 := Lib.hid hat2
      have C3 := Lib.hid hadd
      have HSN := Lib.hid hsn
      have HO := Lib.hid ho
      have HB := Lib.hid hB
      have HMX := Lib.hid (show k + 1 ≤ maxLen ∧ (k + 1) * 8 ≤ 140737488355328 by unfold maxLen; constructor <;> omega)
      clear hat1 hat2 hadd hsn ho hB ha hb hs hfa hfb
      by_cases h1 : k < lp
      · have t1 : decide ((k : Int) < (lp : Int)) = true := decide_eq_true (by omega)
        go_wp2_with (first | (go_at_call 32; with_reducible refine C1.out.mono ?_; rintro e w' ⟨rfl, rfl⟩) | (go_at_call 32; with_reducible refine C2.out.mono ?_; rintro e w' ⟨rfl, rfl⟩) | (go_at_call 33; with_reducible refine C3.out.mono ?_; rintro e w' ⟨rfl, rfl⟩) | (at_builtin; refine wpList_append_lies _ rfl _ _ _ (by rfl) _ 3 i0 _ 1 8 Try.underlying22 INF.out.1 INF.out.2.1 INF.out.2.2.1 INF.out.2.2.2 rfl (by omega) _ k (ints (gl k fun i => Xa.add (gi p i) (gi q i))) (by rfl) (HO.out.alloc _) ⟨wr.heap.size, 0, none⟩ 1 1 [.int .i64 s] (by rfl) (by rfl) (World.news_of_block (heap_alloc_new _ _)) (by simp [Value.oneCell']) (by omega) HMX.out.1 HMX.out.2 (HB.out.alloc HB.out.size _).size (wr.heap.size + 1) (by simp) ?_))
        intro gg cap w1 hown1 hgrow hat hl1
        have hB1 : Below w.heap.size w w1 := (bel_alloc HB.out _).grown hgrow (bel_alloc HB.out _).size (fun i hi => (HO.out.lt i hi).1)
        have HN := Lib.hid hown1
        have HM := Lib.hid hB1
        clear hown1 hgrow hat hB1
        go_wp2_with fail
        go_roundw
        case rel => exact ⟨k + 1, by omega, by go_num, HM.out, by rw [HSN.out]; exact HN.out⟩
        case measure => simp [intOf]; omega
      · have t1 : decide ((k : Int) < (lp : Int)) = false := decide_eq_false (by omega)
        have t2 : decide ((k : Int) < (lq : Int)) = true := decide_eq_true (by omega)
        go_wp2_with (first | (go_at_call 32; with_reducible refine C1.out.mono ?_; rintro e w' ⟨rfl, rfl⟩) | (go_at_call 32; with_reducible refine C2.out.mono ?_; rintro e w' ⟨rfl, rfl⟩) | (go_at_call 33; with_reducible refine C3.out.mono ?_; rintro e w' ⟨rfl, rfl⟩) | (at_builtin; refine wpList_append_lies _ rfl _ _ _ (by rfl) _ 3 i0 _ 1 8 Try.underlying22 INF.out.1 INF.out.2.1 INF.out.2.2.1 INF.out.2.2.2 rfl (by omega) _ k (ints (gl k fun i => Xa.add (gi p i) (gi q i))) (by rfl) (HO.out.alloc _) ⟨wr.heap.size, 0, none⟩ 1 1 [.int .i64 s] (by rfl) (by rfl) (World.news_of_block (heap_alloc_new _ _)) (by simp [Value.oneCell']) (by omega) HMX.out.1 HMX.out.2 (HB.out.alloc HB.out.size _).size (wr.heap.size + 1) (by simp) ?_))
        intro gg cap w1 hown1 hgrow hat hl1
        have hB1 : Below w.heap.size w w1 := (bel_alloc HB.out _).grown hgrow (bel_alloc HB.out _).size (fun i hi => (HO.out.lt i hi).1)
        have HN := Lib.hid hown1
        have HM := Lib.hid hB1
        clear hown1 hgrow hat hB1
        go_wp2_with fail
        go_roundw
        case rel => exact ⟨k + 1, by omega, by go_num, HM.out, by rw [HSN.out]; exact HN.out⟩
        case measure => simp [intOf]; omega
    · have t1 : decide ((k : Int) < (lp : Int)) = false := decide_eq_false (by have := HMM.out; omega)
      have t2 : decide ((k : Int) < (lq : Int)) = false := decide_eq_false (by have := HMM.out; omega)
      have t3 : ¬ k < lp := by have := HMM.out; omega
      have t4 : ¬ k < lq := by have := HMM.out; omega
      have t5 : (decide ((k : Int) < (lp : Int)) || decide ((k : Int) < (lq : Int))) = false := by rw [t1, t2]; rfl
      obtain rfl : k = n := by omega
      have HX := Lib.hid (And.intro ho hB)
      clear ho hB
      go_wp2_with fail
      go_ret
      exact ⟨_, rfl, HX.out⟩

end Go.Proofs.Ytfmnlnmajephlaa
