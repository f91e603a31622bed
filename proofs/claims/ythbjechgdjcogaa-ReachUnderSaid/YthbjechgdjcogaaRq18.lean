/- bournelaw18.right, totals. -/
import Derived.Test.YthbjechgdjcogaaRqP
namespace Go.Proofs.Ythbjechgdjcogaa
open Go.RowKit
set_option linter.unusedVariables false
set_option linter.unusedSimpArgs false

theorem RightQ.snoc {O : Nat} {K : List Key} (h : RightQ O K) {x : Key} (h1 : x.2.2.length = O) (h2 : RiP x.2.2) (h3 : RiP (svK O (K ++ [x]))) : RightQ O (K ++ [x]) :=
  ⟨fun y hy => by
    rcases List.mem_append.1 hy with a | a
    · exact h.each y a
    · rw [List.mem_singleton.1 a]; exact ⟨h1, h2⟩, fun k hk => by
    rw [List.length_append] at hk
    by_cases e : k ≤ K.length
    · rw [List.take_append_of_le_length e]; exact h.sums k e
    · have hk2 : k = K.length + 1 := by simp at hk; omega
      rw [hk2, List.take_of_length_le (by simp)]; exact h3⟩
theorem RightQ.take {O : Nat} {K : List Key} (h : RightQ O K) (k : Nat) : RightQ O (K.take k) :=
  ⟨fun x hx => h.each x (List.mem_of_mem_take hx), fun j hj => by
    rw [List.take_take]; exact h.sums _ (by rw [List.length_take] at hj; omega)⟩
theorem ri_zero (O : Nat) : RiP (gl O fun _ => 0) :=
  ⟨fun i hi => by rw [gl_length] at hi; rw [gl_at hi]; exact Int.le_refl _, by rw [gl_length, su_zero (n := O) (f := gi (gl O fun _ => 0)) (fun i hi => gl_at hi)]; omega⟩
theorem RightQ.nil (O : Nat) : RightQ O [] := by
  refine ⟨(fun x hx => by cases hx), fun k _ => ?_⟩
  rw [List.take_nil]
  exact ri_zero O
theorem RightQ.len {O : Nat} {K : List Key} (h : RightQ O K) : (svK O K).length = O := by
  have := svK_eq h K.length (Nat.le_refl _)
  rw [List.take_length] at this
  rw [this, gl_length]
theorem keys_tk (l : List Ld) (k : Nat) : keys (l.take k) = (keys l).take k := by unfold keys; rw [List.map_take]
theorem rightF_nat {p : List Int} {O : Nat} (hO : O ≤ 16) : rightF p (O : Int) = true ↔ p.length = O ∧ RiP p := by
  unfold rightF
  simp only [Bool.and_eq_true, decide_eq_true_eq, riB_iff]
  constructor
  · rintro ⟨⟨⟨_, _⟩, h⟩, hr⟩; exact ⟨by omega, hr⟩
  · rintro ⟨h, hr⟩; exact ⟨⟨⟨by omega, by omega⟩, by omega⟩, hr⟩
theorem rightn_any (A : Option Addr) (c : Nat) (p : List Int) (n : Nat) (o : Int) (hl : p.length = n) (hn : n ≤ 9223372036854775807) (w : World) (hr : Rd w A (ints p)) :
    Calls Try.prog 23 #[.slice A n c, .int .i64 o] w fun e w' => e = .returned (.bool (rightF p o)) ∧ Below w.heap.size w w' := by
  subst hl; exact right_any A c p o hn w hr

def LrPost (O : Nat) (K : List Key) (w : World) (e : Ending) (w' : World) : Prop := ∃ b : Bool, e = .returned (.bool b) ∧ (b = true ↔ RightQ O K) ∧ Below w.heap.size w w'
theorem lr_no {O : Nat} {K : List Key} {w w' : World} (h : ¬ RightQ O K) (hb : Below w.heap.size w w') : LrPost O K w (.returned (.bool false)) w' := ⟨false, rfl, ⟨fun h => absurd h Bool.false_ne_true, fun h' => absurd h' h⟩, hb⟩
def LrR (V : World) (O : Nat) (l : List Ld) (s5 s6 : Value) (wr : World) : Prop :=
  ∃ k g : Nat, k ≤ l.length ∧ s6 = .int .i64 (k : Int) ∧ s5 = .slice (some ⟨g, 0, none⟩) O O ∧ Hid (RightQ O (keys (l.take k))) ∧ IR wr V.heap.size g O (svK O (keys (l.take k))) ∧ Below V.heap.size V wr
set_option maxHeartbeats 8000000 in
set_option maxRecDepth 100000 in
theorem lright_any (A : Option Addr) (c : Nat) (l : List Ld) (O : Nat) (hO : O ≤ 6) (hln : l.length ≤ 1000) (hpn : ∀ x ∈ l, x.part.length ≤ 1000) (hok : QOk l) (w : World) (hq : Qu w A l) :
    Calls Try.prog 20 #[.slice A l.length c, .int .i64 (O : Int)] w (LrPost O (keys l) w) := by
  obtain ⟨i0, hi0, hz0, hz1, hz2⟩ := info_parts info_int2
  have INF := Lib.hid (And.intro hi0 (And.intro hz0 (And.intro hz1 (And.intro (show i0.bytes * O ≤ 281474976710656 by rw [hz2]; omega) (show O ≤ maxLen by unfold maxLen; omega)))))
  have HQ := Lib.hid hq
  have HK := Lib.hid hok
  have HPN := Lib.hid hpn
  have hmx : max (O : Int) 0 = (O : Int) := by omega
  clear hi0 hz0 hz1 hz2 hq hok hpn
  go_enter Try.func20, Try.ntmps20
  go_upto_region 1 with fail
  go_wp2_with (first | (at_make; refine wpList_make_full _ rfl _ _ 29 rfl w.heap.size 3 i0 (.int .i64 0) 1 Try.underlying29 INF.out.1 INF.out.2.1 INF.out.2.2.1 _ _ _ _ O (by rfl) (by rfl) (by rfl) (by rfl) INF.out.2.2.2.1 INF.out.2.2.2.2 (Nat.le_refl _) ?_))
  intro w1 hown1 hg1
  have HI1 := Lib.hid (ir_made2 hown1)
  have HB1 := Lib.hid (below_grown (Below.refl w.heap.size w) hg1 (fun k hk => by cases hk))
  clear hown1 hg1
  go_wp2_with fail
  go_loopw [5, 6] (fun s5 s6 wr => LrR w O l s5 s6 wr) (fun _ i _ => l.length - (intOf i).toNat)
  case atStart => exact ⟨0, w.heap.size, by omega, rfl, rfl, Lib.hid (RightQ.nil O), HI1.out, HB1.out⟩
  case round =>
    clear HI1 HB1
    obtain ⟨k, g, hk, rfl, rfl, hrq, hI, hB⟩ := hrel
    by_cases hlt : k < l.length
    · have i3 : decide ((k : Int) < (l.length : Int)) = true := decide_eq_true (by omega)
      have j1 : (0 : Int) ≤ (k : Int) := by omega
      have j2 : (k : Int) < (l.length : Int) := by omega
      obtain ⟨ad, rfl, _, e1, e2, e3, e4⟩ := (HQ.out.below (Nat.le_refl _) hB).at hlt
      have hf4 := (HK.out _ (List.getElem_mem hlt)).1.fit
      have hf6 := HPN.out _ (List.getElem_mem hlt)
      have HKK := Lib.hid (keys_take hlt)
      have hkey : (l[k]).key = ((l[k]).hr, (l[k]).pl, (l[k]).part) := rfl
      rw [hkey] at HKK
      have HIN := Lib.hid (show (l[k]).key ∈ keys l from List.mem_map.2 ⟨_, List.getElem_mem hlt, rfl⟩)
      rw [hkey] at HIN
      obtain ⟨hr, hhr⟩ : ∃ x, (l[k]).hr = x := ⟨_, rfl⟩
      obtain ⟨pl, hpl⟩ : ∃ x, (l[k]).pl = x := ⟨_, rfl⟩
      obtain ⟨pt, hpt⟩ : ∃ x, (l[k]).part = x := ⟨_, rfl⟩
      obtain ⟨PA, hPA⟩ : ∃ x, (l[k]).A = x := ⟨_, rfl⟩
      obtain ⟨pc, hpc⟩ : ∃ x, (l[k]).c = x := ⟨_, rfl⟩
      rw [hhr, hpl] at HKK HIN
      rw [hpt] at HKK HIN hf4 hf6
      rw [hpt, hPA, hpc] at e3
      rw [hpt, hPA] at e4
      have HSN := Lib.hid (svK_snoc O (keys (l.take k)) (hr, pl, pt))
      rw [← HKK.out] at HSN
      have hsl := hrq.out.len
      obtain ⟨s, hs⟩ : ∃ s, svK O (keys (l.take k)) = s := ⟨_, rfl⟩
      rw [hs] at HSN hI hsl
      have HSK := Lib.hid hs
      obtain ⟨b1, hb1⟩ : ∃ b, rightF pt (O : Int) = b := ⟨_, rfl⟩
      have C1 := Lib.hid (right_any PA pc pt (O : Int) (by omega) wr e4)
      rw [hb1] at C1
      have HB := Lib.hid hB
      have HS := Lib.hid (And.intro hI (And.intro hsl (And.intro hf4 hf6)))
      have HE := Lib.hid e4
      have HBI := Lib.hid (rightF_nat (p := pt) (O := O) (by omega))
      rw [hb1] at HBI
      clear hhr hpl hpt hPA hpc hf4 hf6 hs hI hsl hb1 hB e4 hkey e1 e2
      cases b1
      · have HNO := Lib.hid (show ¬ RightQ O (keys l) from fun h => by have := HBI.out.2 (h.each _ HIN.out); cases this)
        go_wp2_with (first | (go_at_call 23; (with_reducible refine C1.out.mono ?_); rintro e w2 ⟨rfl, hb2⟩))
        go_ret
        exact lr_no HNO.out (below_next HB.out hb2)
      · obtain ⟨hpl, hpr⟩ := HBI.out.1 rfl
        subst hpl
        have hfs : ∀ i, i < pt.length → Fit (gi s i) := fun i hi => by
          have h1 := svK_eq hrq.out (keys (l.take k)).length (Nat.le_refl _)
          rw [List.take_length] at h1
          have h2 := hrq.out.colAll hi
          rw [← HSK.out, h1, gl_at hi]; unfold Fit; omega
        have HAD := Lib.hid (fun (u : World) (hu : Below wr.heap.size wr u) => padd_any (some ⟨g, 0, none⟩) PA pt.length pc s pt pt.length pt.length pt.length HS.out.2.1 rfl (Nat.max_self _) HS.out.2.2.2 hfs HS.out.2.2.1 u (HS.out.1.rd.below (Nat.le_refl _) hu) (HE.out.below (Nat.le_refl _) hu))
        have HAV := Lib.hid (show svK pt.length (keys (l.take (k + 1))) = addF pt.length s pt by rw [HSN.out]; unfold addV; rw [HS.out.2.1, Nat.max_self])
        have HPR := Lib.hid hpr
        clear hfs hpr
        go_upto_region 7 with (first | (go_at_call 23; (with_reducible refine C1.out.mono ?_); rintro e w2 ⟨rfl, hb2⟩))
        have e3' := (hb2.cell (World.block_lt_of_cell? _ _ e3)).trans e3
        have HB2 := Lib.hid hb2
        clear hb2 e3
        go_wp2_with fail
        refine (HAD.out _ HB2.out).mono ?_
        rintro e w3 ⟨g2, rfl, hI3, hb3⟩
        have HB3 := Lib.hid (below_next HB2.out hb3)
        have hI3' := hI3.base (B' := w.heap.size) (Nat.le_trans HB.out.size HB2.out.size)
        have hal : (addF pt.length s pt).length = pt.length := gl_length _ _
        obtain ⟨s2, hs2⟩ : ∃ s2, addF pt.length s pt = s2 := ⟨_, rfl⟩
        rw [hs2] at hI3' hal HAV
        obtain ⟨b2, hb2⟩ : ∃ b, rightF s2 (pt.length : Int) = b := ⟨_, rfl⟩
        have C2 := Lib.hid (rightn_any (some ⟨g2, 0, none⟩) pt.length s2 pt.length (pt.length : Int) hal (by omega) w3 hI3'.rd)
        rw [hb2] at C2
        have HBI2 := Lib.hid (rightF_nat (p := s2) (O := pt.length) (by omega))
        rw [hb2] at HBI2
        have HI3 := Lib.hid hI3'
        have HAL := Lib.hid hal
        clear hI3 hI3' hb3 hs2 hb2 hal e3'
        cases b2
        · have HNO := Lib.hid (show ¬ RightQ pt.length (keys l) from fun h => by
            have h1 := h.sums (k + 1) (by rw [keys_length]; omega)
            rw [← keys_tk, HAV.out] at h1
            have := HBI2.out.2 ⟨HAL.out, h1⟩
            cases this)
          go_wp2_with (first | (go_at_call 23; (with_reducible refine C2.out.mono ?_); rintro e w4 ⟨rfl, hb4⟩))
          go_ret
          exact lr_no HNO.out (below_next HB.out (below_next HB3.out hb4))
        · have HRN := Lib.hid (show RightQ pt.length (keys (l.take (k + 1))) by
            rw [HKK.out]
            refine hrq.out.snoc rfl HPR.out ?_
            rw [← HKK.out, HAV.out]; exact (HBI2.out.1 rfl).2)
          go_wp2_with (first | (go_at_call 23; (with_reducible refine C2.out.mono ?_); rintro e w4 ⟨rfl, hb4⟩))
          have HX := Lib.hid (And.intro (HI3.out.next hb4) (below_next HB.out (below_next HB3.out hb4)))
          clear hb4
          go_roundw
          case rel => exact ⟨k + 1, g2, by omega, by go_num, rfl, HRN, by rw [HAV.out]; exact HX.out.1, HX.out.2⟩
          case measure => simp [intOf]; omega
    · have i3 : decide ((k : Int) < (l.length : Int)) = false := decide_eq_false (by omega)
      obtain rfl : k = l.length := by omega
      have hr2 := hrq.out
      rw [List.take_length] at hr2
      have HX := Lib.hid (And.intro hr2 hB)
      clear hrq hr2 hI hB
      go_wp2_with fail
      go_ret
      exact ⟨true, rfl, ⟨fun _ => HX.out.1, fun _ => rfl⟩, HX.out.2⟩

/-! totals -/
theorem take_succ_col {l : List Ld} {k : Nat} (hk : k < l.length) (i : Nat) : colK (keys (l.take (k + 1))) i = colK (keys (l.take k)) i + gi (l[k]).part i := by
  rw [keys_take hk, colK_snoc]; rfl
def TtA (V : World) (O g : Nat) (l : List Ld) (s6 : Value) (wr : World) : Prop :=
  ∃ k : Nat, k ≤ l.length ∧ s6 = .int .i64 (k : Int) ∧ Below V.heap.size V wr ∧ IR wr V.heap.size g O (gl O (colK (keys (l.take k))))
def TtB (V : World) (O g : Nat) (l : List Ld) (k : Nat) (s7 : Value) (wr : World) : Prop :=
  ∃ j : Nat, j ≤ O ∧ s7 = .int .i64 (j : Int) ∧ Below V.heap.size V wr ∧ IR wr V.heap.size g O (gl O (upto j (colK (keys (l.take (k + 1)))) (colK (keys (l.take k)))))
set_option maxHeartbeats 8000000 in
set_option maxRecDepth 100000 in
theorem totals_any (A : Option Addr) (c : Nat) (l : List Ld) (O : Nat) (hO : O ≤ 6) (hln : l.length ≤ 1000) (hr : RightQ O (keys l)) (w : World) (hq : Qu w A l) :
    Calls Try.prog 21 #[.slice A l.length c, .int .i64 (O : Int)] w (MkPost O (gl O (colK (keys l))) w) := by
  obtain ⟨i0, hi0, hz0, hz1, hz2⟩ := info_parts info_int2
  have INF := Lib.hid (And.intro hi0 (And.intro hz0 (And.intro hz1 (And.intro (show i0.bytes * O ≤ 281474976710656 by rw [hz2]; omega) (show O ≤ maxLen by unfold maxLen; omega)))))
  have HQ := Lib.hid hq
  have HR := Lib.hid hr
  clear hi0 hz0 hz1 hz2 hq hr
  go_enter Try.func21, Try.ntmps21
  go_upto_region 1 with fail
  go_wp2_with (first | (at_make; refine wpList_make_full _ rfl _ _ 29 rfl w.heap.size 3 i0 (.int .i64 0) 1 Try.underlying29 INF.out.1 INF.out.2.1 INF.out.2.2.1 _ _ _ _ O (by rfl) (by rfl) (by rfl) (by rfl) INF.out.2.2.2.1 INF.out.2.2.2.2 (Nat.le_refl _) ?_))
  intro w1 hown1 hg1
  have HI1 := Lib.hid (ir_made2 hown1)
  have HB1 := Lib.hid (below_grown (Below.refl w.heap.size w) hg1 (fun k hk => by cases hk))
  clear hown1 hg1
  go_wp2_with fail
  go_loopw [6] (fun s6 wr => TtA w O w.heap.size l s6 wr) (fun i _ => l.length - (intOf i).toNat)
  case atStart => exact ⟨0, by omega, rfl, HB1.out, HI1.out⟩
  case round =>
    clear HI1 HB1
    obtain ⟨k, hk, rfl, hB, hI⟩ := hrel
    by_cases hlt : k < l.length
    · have i3 : decide ((k : Int) < (l.length : Int)) = true := decide_eq_true (by omega)
      have j1 : (0 : Int) ≤ (k : Int) := by omega
      have j2 : (k : Int) < (l.length : Int) := by omega
      have HLT := Lib.hid hlt
      have HI := Lib.hid (And.intro hB hI)
      clear hB hI
      go_wp2_with fail
      obtain ⟨wo, hwo⟩ : ∃ wo : World, wo = wr := ⟨_, rfl⟩
      rw [← hwo] at HI ⊢
      clear hwo
      go_loopw [7] (fun s7 wr => TtB w O w.heap.size l k s7 wr) (fun i _ => O - (intOf i).toNat)
      case atStart => exact ⟨0, by omega, rfl, HI.out.1, by rw [gl_none]; exact HI.out.2⟩
      case round =>
        clear HI
        obtain ⟨j, hj, rfl, hB, hI⟩ := hrel
        by_cases hjt : j < O
        · have i4 : decide ((j : Int) < (O : Int)) = true := decide_eq_true (by omega)
          have q1 : (0 : Int) ≤ (j : Int) := by omega
          have q2 : (j : Int) < (O : Int) := by omega
          obtain ⟨ad, rfl, hadb, e1, e2, e3, e4⟩ := (HQ.out.below (Nat.le_refl _) hB).at hlt
          have hco := take_succ_col hlt j
          obtain ⟨y, hy⟩ : ∃ y, l[k]'hlt = y := ⟨_, rfl⟩
          have hpl : y.part.length = O := by rw [← hy]; exact (HR.out.each (l[k]'hlt).key (List.mem_map.2 ⟨_, List.getElem_mem hlt, rfl⟩)).1
          rw [hy] at e1 e2 e3 e4 hco
          clear hy
          obtain ⟨bd, u, hbd, _, e5, e6⟩ := e4.at (k := j) (by rw [ints_length, hpl]; exact hjt)
          rw [ints_at (by rw [hpl]; exact hjt)] at e5
          cases e5
          have c1 := hI.cell hjt
          have f1 := hI.frozen j
          rw [gl_at hjt, show upto j (colK (keys (l.take (k + 1)))) (colK (keys (l.take k))) j = colK (keys (l.take k)) j by unfold upto; rw [if_neg (Nat.lt_irrefl _)]] at c1
          have hst := gl_step (n := O) (k := j) (f := colK (keys (l.take (k + 1)))) (g := colK (keys (l.take k))) hjt
          have hb1 := HR.out.col (k := k) (by rw [keys_length]; omega) hjt
          have hb2 := HR.out.col (k := k + 1) (by rw [keys_length]; omega) hjt
          rw [← keys_tk] at hb1 hb2
          rw [hbd, hpl] at e3
          have HX := Lib.hid (And.intro hB hI)
          have HST := Lib.hid hst
          obtain ⟨a, ha⟩ : ∃ a, colK (keys (l.take k)) j = a := ⟨_, rfl⟩
          obtain ⟨b, hb⟩ : ∃ a, colK (keys (l.take (k + 1))) j = a := ⟨_, rfl⟩
          obtain ⟨x, hx⟩ : ∃ a, gi y.part j = a := ⟨_, rfl⟩
          obtain ⟨pc, hpc⟩ : ∃ a, y.c = a := ⟨_, rfl⟩
          rw [ha] at c1 hco hb1
          rw [hb] at hco hb2
          rw [hx] at e6 hco
          rw [hpc] at e3
          have wA : IntKind.i64.wrap (a + x) = a + x := IntWalk.i64_in _ (by omega)
          have HBX := Lib.hid (show b = a + x from hco)
          have HBB := Lib.hid hb
          have jO : (j : Int) < (O : Int) := by omega
          have hgl := (HX.out.2.lt).2
          have fz := f1
          have k1 := fun z : BelW wr => BelW.cells e3 z
          have k2 := fun z : BelW wr => BelW.cells e6 z
          have k3 := fun z : BelW wr => BelW.cells c1 z
          have k4 := fun z : BelW wr => bfrozen z hgl f1
          clear ha hb hx hpc hpl hst hco hb1 hb2 hB hI e1 e2 e3 e4 e6 c1 f1 fz hadb hbd
          go_upto_region 8 with fail
          refine wp_rebase wr (fun U hU z0 => ?_)
          rw [← hU] at k1 k2 k3 k4 HX
          clear hU hgl
          refine wp_region_belt 16 (by kernel_rfl) (by kernel_rfl) ?_
          simp only [List.take_succ_cons, List.take_zero, List.drop_succ_cons, List.drop_zero]
          repeat (go_big_quiet_step (fail))
          refine wpQuiet_nil ?_
          intro z
          have m3 := k3 z
          have m4 := k4 z
          clear k1 k2 k3 k4
          go_wp2_with fail
          have HY := Lib.hid (And.intro ((below_next HX.out.1 z.2).setCell (p := ⟨w.heap.size, j, none⟩) (Nat.le_refl _) (.int .i64 (a + x))) ((HX.out.2.next z.2).set j (a + x)))
          have HZ := Lib.hid (show (gl O (upto j (colK (keys (l.take (k + 1)))) (colK (keys (l.take k))))).set j (a + x) = gl O (upto (j + 1) (colK (keys (l.take (k + 1)))) (colK (keys (l.take k)))) by rw [← HST.out, HBB.out, HBX.out])
          go_roundw
          case rel => exact ⟨j + 1, by omega, by go_num, HY.out.1, by rw [← HZ.out]; exact HY.out.2⟩
          case measure => simp [intOf]; omega
        · have i4 : decide ((j : Int) < (O : Int)) = false := decide_eq_false (by omega)
          obtain rfl : O = j := by omega
          rw [gl_all] at hI
          have HX := Lib.hid (And.intro hB hI)
          clear hB hI
          go_wp2_with fail
          go_roundw
          case rel => exact ⟨k + 1, by have := HLT.out; omega, by go_num, HX.out⟩
          case measure => have := HLT.out; simp [intOf]; omega
    · have i3 : decide ((k : Int) < (l.length : Int)) = false := decide_eq_false (by omega)
      obtain rfl : k = l.length := by omega
      rw [List.take_length] at hI
      have HX := Lib.hid (And.intro hI hB)
      clear hB hI
      go_wp2_with fail
      go_ret
      exact ⟨_, rfl, HX.out⟩

end Go.Proofs.Ythbjechgdjcogaa
