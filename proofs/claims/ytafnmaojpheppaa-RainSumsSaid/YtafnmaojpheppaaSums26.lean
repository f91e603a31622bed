/- RainSums: the walk. -/
import Derived.Test.YtafnmaojpheppaaOpen26
import Derived.Test.YtafnmaojpheppaaSmall26
namespace Go.Proofs.Ytafnmaojpheppaa
open Go.RowKit
set_option linter.unusedVariables false
set_option linter.unusedSimpArgs false

/-! what it says -/
/-- a span within the volumes -/
def Vo (x : Sp) : Prop := -1125899906842624 ≤ x.1 ∧ x.2 ≤ 1125899906842624 ∧ x.1 ≤ x.2
def los (l : List Sp) : Int := (l.map Prod.fst).sum
def his (l : List Sp) : Int := (l.map Prod.snd).sum
theorem los_snoc (l : List Sp) (x : Sp) : los (l ++ [x]) = los l + x.1 := by simp [los]
theorem his_snoc (l : List Sp) (x : Sp) : his (l ++ [x]) = his l + x.2 := by simp [his]
theorem los_append (l m : List Sp) : los (l ++ m) = los l + los m := by simp [los]
theorem his_append (l m : List Sp) : his (l ++ m) = his l + his m := by simp [his]
theorem ends_bd (l : List Sp) : (∀ x ∈ l, Vo x) → -1125899906842624 * (l.length : Int) ≤ los l ∧ los l ≤ his l ∧ his l ≤ 1125899906842624 * (l.length : Int) := by
  refine list_snoc (R := fun l => (∀ x ∈ l, Vo x) → -1125899906842624 * (l.length : Int) ≤ los l ∧ los l ≤ his l ∧ his l ≤ 1125899906842624 * (l.length : Int)) (fun _ => by simp [los, his]) (fun l x ih h => ?_) l
  obtain ⟨h1, h2, h3⟩ := ih fun y hy => h y (List.mem_append_left _ hy)
  obtain ⟨h4, h5, h6⟩ := h x (by simp)
  rw [los_snoc, his_snoc, List.length_append]
  simp only [List.length_cons, List.length_nil]
  omega
theorem add_in {a b : Int} (h : -9223372036854775808 ≤ a + b ∧ a + b ≤ 9223372036854775807) : Xa.add a b = a + b := by unfold Xa.add; rw [if_neg (by omega), if_neg (by omega)]
theorem sumL_in (l : List Sp) : (∀ x ∈ l, Vo x) → l.length ≤ 100 → sumL l = (los l, his l) := by
  refine list_snoc (R := fun l => (∀ x ∈ l, Vo x) → l.length ≤ 100 → sumL l = (los l, his l)) (fun _ _ => rfl) (fun l x ih h hn => ?_) l
  rw [List.length_append] at hn
  simp only [List.length_cons, List.length_nil] at hn
  have hl := fun y hy => h y (List.mem_append_left _ hy)
  obtain ⟨h1, h2, h3⟩ := ends_bd l hl
  obtain ⟨h4, h5, h6⟩ := h x (by simp)
  rw [sumL_snoc, ih hl (by omega), los_snoc, his_snoc]
  show (Xa.add (los l) x.1, Xa.add (his l) x.2) = _
  rw [add_in (by omega), add_in (by omega)]
theorem sumL_cut {l : List Sp} (h : ∀ x ∈ l, Vo x) (hn : l.length ≤ 100) (k : Nat) : (Xa.add (sumL (l.take k)).1 (sumL (l.drop k)).1, Xa.add (sumL (l.take k)).2 (sumL (l.drop k)).2) = sumL l := by
  have h1 : ∀ x ∈ l.take k, Vo x := fun x hx => h x (List.mem_of_mem_take hx)
  have h2 : ∀ x ∈ l.drop k, Vo x := fun x hx => h x (List.mem_of_mem_drop hx)
  have e := List.take_append_drop k l
  rw [sumL_in _ h1 (by rw [List.length_take]; omega), sumL_in _ h2 (by rw [List.length_drop]; omega), sumL_in _ h hn]
  have hb := ends_bd l h
  have e1 : los (l.take k) + los (l.drop k) = los l := by rw [← los_append, e]
  have e2 : his (l.take k) + his (l.drop k) = his l := by rw [← his_append, e]
  show (Xa.add (los _) (los _), Xa.add (his _) (his _)) = _
  rw [add_in (by omega), add_in (by omega), e1, e2]

def SuR (w : World) (l : List Sp) (s8 s9 : Value) (wr : World) : Prop := ∃ (k : Nat) (t : Int), k ≤ l.length ∧ s9 = .int .i64 (k : Int) ∧ s8 = .int .i64 t ∧ Hid ((∀ i, i < k → Vo (gs l i)) ∧ los (l.take k) ≤ t ∧ t ≤ his (l.take k)) ∧ ∃ y : BelW w, wr = y.w
theorem Rd.drop2 {w : World} {ad : Addr} {l : List Sp} (h : Rd w (some ad) (spCells l)) (k : Nat) : Rd w (some (ad.add (k * 2))) (spCells (l.drop k)) := fun h0 => by
  have h0' : k < l.length := by rw [spCells_length, List.length_drop] at h0; omega
  obtain ⟨ad', e, hb, hc⟩ := h (by rw [spCells_length]; omega)
  cases e
  refine ⟨_, rfl, by rw [add_block]; exact hb, fun j u hu => ?_⟩
  have e2 : (ad.add (k * 2)).add j = ad.add (k * 2 + j) := by
    unfold Addr.add
    by_cases hi : k * 2 = 0 <;> by_cases hj : j = 0 <;> simp [hi, hj, Nat.add_assoc]
  rw [e2]
  refine hc _ _ ?_
  have e3 : spCells l = spCells (l.take k) ++ spCells (l.drop k) := by rw [← spCells_append, List.take_append_drop]
  rw [e3, List.getElem?_append_right (by rw [spCells_length, List.length_take]; omega), spCells_length, List.length_take, show k * 2 + j - min k l.length * 2 = j by rw [Nat.min_eq_left (by omega)]; omega]
  exact hu
theorem Rd.take2 {w : World} {A : Option Addr} {l : List Sp} (h : Rd w A (spCells l)) (k : Nat) : Rd w A (spCells (l.take k)) := fun h0 => by
  have h0' : 0 < l.length := by
    rw [spCells_length, List.length_take] at h0
    omega
  obtain ⟨ad, e, hb, hc⟩ := h (by rw [spCells_length]; omega)
  refine ⟨ad, e, hb, fun j u hu => hc j u ?_⟩
  have e3 : spCells l = spCells (l.take k) ++ spCells (l.drop k) := by rw [← spCells_append, List.take_append_drop]
  have hj := (List.getElem?_eq_some_iff.1 hu).1
  rw [e3, List.getElem?_append_left hj]
  exact hu
theorem rd_bool {A : Option Addr} {l : List Bool} {w : World} (h : Rd w A (bools l)) {k : Nat} (hk : k < l.length) : ∃ ad b, A = some ad ∧ w.cell? (ad.add k) = some (.bool b) := by
  obtain ⟨ad, e, hb, hc⟩ := h (by unfold bools; rw [flat_len _ 1 (fun _ => rfl)]; omega)
  have h1 := flat_get (fun b : Bool => [Value.bool b]) 1 (fun _ => rfl) l k 0 hk (by omega)
  rw [Nat.mul_one] at h1
  exact ⟨ad, l[k], e, hc _ _ h1⟩

set_option maxHeartbeats 32000000 in
set_option maxRecDepth 100000 in
theorem sums26_any (A : Option Addr) (c : Nat) (l : List Sp) (n : Int) (D : Option Addr) (dc : Nat) (at' : List Bool) (hln : l.length ≤ 9223372036854775807) (hlc : l.length ≤ c) (hcm : c ≤ 9223372036854775807) (hnil : A = none → c = 0) (hf : ∀ x ∈ l, Fit2 x) (hdn : at'.length ≤ 9223372036854775807) (w : World) (hr : Rd w A (spCells l)) (hd : Rd w D (bools at')) :
    Calls Try.prog 5 #[.slice A l.length c, .int .i64 n, .slice D at'.length dc] w fun e w' => e = .returned (.bool true) ∧ Below w.heap.size w w' := by
  have hgt := span_guardType
  have hst := span_stood
  have HR := Lib.hid hr
  have HD := Lib.hid hd
  have HF := Lib.hid hf
  have HNIL := Lib.hid hnil
  clear hr hd hf hnil
  refine rebase w (fun V hV x0 => ?_)
  subst hV
  have CSm := Lib.hid (fun z : BelW V => bel_of (small_any z.w))
  by_cases a1 : 100 < l.length
  · have t1 : decide ((100 : Int) < (l.length : Int)) = true := decide_eq_true (by omega)
    clear a1
    go_enter Try.func5, Try.ntmps5
    go_wp2_with (first | (go_at_call 8; (with_reducible refine (CSm.out _).mono ?_); rintro e w' ⟨rfl, y1, rfl⟩))
    go_ret
    exact ⟨rfl, y1.2⟩
  have t1 : decide ((100 : Int) < (l.length : Int)) = false := decide_eq_false (by omega)
  by_cases a2 : n < 0
  · have t2 : decide (n < 0) = true := decide_eq_true a2
    clear a1 a2
    go_enter Try.func5, Try.ntmps5
    go_wp2_with (first | (go_at_call 8; (with_reducible refine (CSm.out _).mono ?_); rintro e w' ⟨rfl, y1, rfl⟩))
    go_ret
    exact ⟨rfl, y1.2⟩
  have t2 : decide (n < 0) = false := decide_eq_false a2
  obtain ⟨q, rfl⟩ := Int.eq_ofNat_of_zero_le (show 0 ≤ n by omega)
  by_cases a3 : l.length < q
  · have t3 : decide ((l.length : Int) < (q : Int)) = true := decide_eq_true (by omega)
    clear a1 a2
    go_enter Try.func5, Try.ntmps5
    go_wp2_with (first | (go_at_call 8; (with_reducible refine (CSm.out _).mono ?_); rintro e w' ⟨rfl, y1, rfl⟩))
    go_ret
    exact ⟨rfl, y1.2⟩
  have t3 : decide ((l.length : Int) < (q : Int)) = false := decide_eq_false (by omega)
  have HQ := Lib.hid (And.intro (show l.length ≤ 100 by omega) (show q ≤ l.length by omega))
  clear a2
  go_enter Try.func5, Try.ntmps5
  go_wp2_with (first | (go_at_call 8; (with_reducible refine (CSm.out _).mono ?_); rintro e w' ⟨rfl, y1, rfl⟩))
  clear CSm
  go_loopw [8, 9] (fun s8 s9 wr => SuR V l s8 s9 wr) (fun _ i _ => l.length - (intOf i).toNat)
  case atStart => exact ⟨0, 0, by omega, rfl, rfl, Lib.hid ⟨fun i hi => absurd hi (Nat.not_lt_zero _), by simp [los], by simp [his]⟩, y1, rfl⟩
  case round =>
    clear y1
    obtain ⟨k, t, hk, rfl, rfl, hI, y, rfl⟩ := hrel
    have HBY := Lib.hid y.2
    by_cases hlt : k < l.length
    · have i4 : decide ((k : Int) < (l.length : Int)) = true := decide_eq_true (by omega)
      have j1 : (0 : Int) ≤ (k : Int) := by omega
      have j2 : (k : Int) < (l.length : Int) := by omega
      obtain ⟨ad, b, o, rfl, hbs, hE, e1, e2⟩ := (HR.out.bel y).span hlt
      have HI := Lib.hid hI.out
      have hls : los (l.take (k + 1)) = los (l.take k) + (gs l k).1 ∧ his (l.take (k + 1)) = his (l.take k) + (gs l k).2 := by
        rw [List.take_succ_eq_append_getElem hlt, los_snoc, his_snoc, gs_at hlt]
        exact ⟨rfl, rfl⟩
      have HLS := Lib.hid hls
      have HEB := Lib.hid (ends_bd (l.take k) (fun x hx => by
        obtain ⟨i, hi, rfl⟩ := List.getElem_of_mem hx
        rw [List.length_take] at hi
        have := HI.out.1 i (by omega)
        rw [gs_at (by omega)] at this
        simpa using this))
      have HVS := Lib.hid (show Vo (gs l k) → ∀ i, i < k + 1 → Vo (gs l i) from fun h i hi => by
        by_cases e : i = k
        · subst e; exact h
        · exact HI.out.1 i (by omega))
      obtain ⟨x, hx⟩ : ∃ x, gs l k = x := ⟨_, rfl⟩
      rw [hx] at e1 e2 HLS HVS
      obtain ⟨lo, hi⟩ := x
      have CR := Lib.hid (fun z : BelW y.w => bel_of (right_any lo hi z.w))
      clear hbs hls hx hI
      by_cases b1 : lo < -1125899906842624
      · have u1 : decide (lo < -1125899906842624) = true := decide_eq_true b1
        clear b1
        go_wp2_with fail
        go_ret
        exact ⟨rfl, HBY.out⟩
      have u1 : decide (lo < -1125899906842624) = false := decide_eq_false b1
      by_cases b2 : 1125899906842624 < hi
      · have u2 : decide (1125899906842624 < hi) = true := decide_eq_true b2
        clear b1 b2
        go_wp2_with fail
        go_ret
        exact ⟨rfl, HBY.out⟩
      have u2 : decide (1125899906842624 < hi) = false := decide_eq_false b2
      by_cases b3 : lo ≤ hi
      case neg =>
        have u3 : decide (lo ≤ hi) = false := decide_eq_false b3
        have CR' := Lib.hid (show ∀ W : World, Calls Try.prog 22 #[.agg #[.int .i64 lo, .int .i64 hi]] W fun e w' => e = .returned (.bool false) ∧ Below W.heap.size W w' from fun W => by have := right_any lo hi W; rwa [u3] at this)
        clear b1 b2 b3 CR
        go_wp2_with (first | (go_at_call 22; (with_reducible refine (CR'.out _).mono ?_); rintro e w' ⟨rfl, hb2⟩))
        go_ret
        exact ⟨rfl, below_next HBY.out hb2⟩
      have u3 : decide (lo ≤ hi) = true := decide_eq_true b3
      have CR' := Lib.hid (show ∀ W : World, Calls Try.prog 22 #[.agg #[.int .i64 lo, .int .i64 hi]] W fun e w' => e = .returned (.bool true) ∧ Below W.heap.size W w' from fun W => by have := right_any lo hi W; rwa [u3] at this)
      have HV := Lib.hid (show Vo (lo, hi) from ⟨by show _ ≤ lo; omega, by show hi ≤ _; omega, b3⟩)
      have wr1 : -9223372036854775808 ≤ t + lo ∧ t + lo ≤ 9223372036854775807 ∧ -9223372036854775808 ≤ t + hi ∧ t + hi ≤ 9223372036854775807 := by
        have h1 := HEB.out
        have h2 := HI.out.2
        have h3 : (l.take k).length ≤ 100 := by rw [List.length_take]; have := HQ.out.1; omega
        omega
      have wlo : IntKind.i64.wrap (t + lo) = t + lo := IntWalk.i64_in _ (by omega)
      have whi : IntKind.i64.wrap (t + hi) = t + hi := IntWalk.i64_in _ (by omega)
      have HXlo := Lib.hid (show ∀ z : World, Below V.heap.size V z → SuR V l (.int .i64 (t + lo)) (.int .i64 ((k : Int) + 1)) z from fun z hz => ⟨k + 1, t + lo, by omega, by go_num, rfl, Lib.hid ⟨HVS.out HV.out, by rw [HLS.out.1]; have := HI.out.2.1; show _ + lo ≤ _; omega, by rw [HLS.out.2]; have := HI.out.2.2; show _ ≤ _ + hi; omega⟩, ⟨z, hz⟩, rfl⟩)
      have HXhi := Lib.hid (show ∀ z : World, Below V.heap.size V z → SuR V l (.int .i64 (t + hi)) (.int .i64 ((k : Int) + 1)) z from fun z hz => ⟨k + 1, t + hi, by omega, by go_num, rfl, Lib.hid ⟨HVS.out HV.out, by rw [HLS.out.1]; have := HI.out.2.1; show _ + lo ≤ _; omega, by rw [HLS.out.2]; have := HI.out.2.2; show _ ≤ _ + hi; omega⟩, ⟨z, hz⟩, rfl⟩)
      have HE := Lib.hid (And.intro e1 e2)
      clear b1 b2 b3 CR wr1 HLS HVS HEB HV HI
      go_upto_region 10 with (first | (go_at_call 22; (with_reducible refine (CR'.out _).mono ?_); rintro e w2 ⟨rfl, hb2⟩))
      have e1' : w2.cell? ⟨b, o, none⟩ = some (.int .i64 lo) := (hb2.cell (World.block_lt_of_cell? _ _ HE.out.1)).trans HE.out.1
      have e2' : w2.cell? ⟨b, o + 1, none⟩ = some (.int .i64 hi) := (hb2.cell (World.block_lt_of_cell? _ _ HE.out.2)).trans HE.out.2
      have HB2 := Lib.hid (below_next HBY.out hb2)
      clear hb2 e1 e2
      by_cases c1 : k < at'.length
      · have v1 : decide ((k : Int) < (at'.length : Int)) = true := decide_eq_true (by omega)
        have j3 : (k : Int) < (at'.length : Int) := by omega
        obtain ⟨dd, bb, rfl, f1⟩ := rd_bool (HD.out.below (Nat.le_refl _) HB2.out) c1
        cases bb
        · go_wp2_with fail
          go_roundw
          case rel => exact HXlo.out _ HB2.out
          case measure => simp [intOf]; omega
        · go_wp2_with fail
          go_roundw
          case rel => exact HXhi.out _ HB2.out
          case measure => simp [intOf]; omega
      · have v1 : decide ((k : Int) < (at'.length : Int)) = false := decide_eq_false (by omega)
        go_wp2_with fail
        go_roundw
        case rel => exact HXlo.out _ HB2.out
        case measure => simp [intOf]; omega
    · have i4 : decide ((k : Int) < (l.length : Int)) = false := decide_eq_false (by omega)
      obtain rfl : k = l.length := by omega
      have HVO := Lib.hid (show ∀ x ∈ l, Vo x from fun x hx => by
        obtain ⟨i, hi, rfl⟩ := List.getElem_of_mem hx
        have := hI.out.1 i hi
        rwa [gs_at hi] at this)
      have HT := Lib.hid (show los l ≤ t ∧ t ≤ his l by have := hI.out.2; rwa [List.take_length] at this)
      have HSI := Lib.hid (sumL_in l HVO.out HQ.out.1)
      have HCut := Lib.hid (sumL_cut HVO.out HQ.out.1 q)
      have C1 := Lib.hid (fun z : BelW V => bel_of (sum_any A c l hln HF.out z.w (HR.out.bel z)))
      have hbd1 := sumL_fit (l.take q)
      have hbd2 := sumL_fit (l.drop q)
      have hql := HQ.out.2
      have C2 := Lib.hid (fun (W : World) (hb : Below V.heap.size V W) => (show Calls Try.prog 15 #[.slice A q c] W fun e w' => e = .returned (.agg #[.int .i64 (sumL (l.take q)).1, .int .i64 (sumL (l.take q)).2]) ∧ Below W.heap.size W w' from by
        have h := sum_any A c (l.take q) (by rw [List.length_take]; omega) (fun x hx => HF.out x (List.mem_of_mem_take hx)) W ((HR.out.below (Nat.le_refl _) hb).take2 q)
        rwa [List.length_take, Nat.min_eq_left hql] at h))
      have C3 := Lib.hid (fun (W : World) (hb : Below V.heap.size V W) (B : Option Addr) (hB : Rd W B (spCells (l.drop q))) => (show Calls Try.prog 15 #[.slice B (l.length - q) (c - q)] W fun e w' => e = .returned (.agg #[.int .i64 (sumL (l.drop q)).1, .int .i64 (sumL (l.drop q)).2]) ∧ Below W.heap.size W w' from by
        have h := sum_any B (c - q) (l.drop q) (by rw [List.length_drop]; omega) (fun x hx => HF.out x (List.mem_of_mem_drop hx)) W hB
        rwa [List.length_drop] at h))
      obtain ⟨S, hS⟩ : ∃ S, sumL l = S := ⟨_, rfl⟩
      obtain ⟨S1, hS1⟩ : ∃ S, sumL (l.take q) = S := ⟨_, rfl⟩
      obtain ⟨S2, hS2⟩ : ∃ S, sumL (l.drop q) = S := ⟨_, rfl⟩
      rw [hS] at C1 HSI HCut
      rw [hS1] at C2 HCut hbd1
      rw [hS2] at C3 HCut hbd2
      obtain ⟨s0, s1⟩ := S
      obtain ⟨p0, p1⟩ := S1
      obtain ⟨r0, r1⟩ := S2
      have hc0 : Xa.add p0 r0 = s0 := congrArg Prod.fst HCut.out
      have hc1 : Xa.add p1 r1 = s1 := congrArg Prod.snd HCut.out
      have HEQ := Lib.hid (show l.length = 0 → p0 = r0 ∧ p1 = r1 from fun h0 => by
        have e : l = [] := List.eq_nil_of_length_eq_zero h0
        rw [e, List.take_nil] at hS1
        rw [e, List.drop_nil] at hS2
        have := hS1.symm.trans hS2
        injection this with e1 e2
        exact ⟨e1, e2⟩)
      have hs0 : s0 = los l := congrArg Prod.fst HSI.out
      have hs1 : s1 = his l := congrArg Prod.snd HSI.out
      have CA := Lib.hid (fun (W : World) => (show Calls Try.prog 23 #[.agg #[.int .i64 p0, .int .i64 p1], .agg #[.int .i64 r0, .int .i64 r1]] W fun e w' => e = .returned (.agg #[.int .i64 s0, .int .i64 s1]) ∧ Below W.heap.size W w' from by
        have h := sadd_any p0 p1 r0 r1 hbd1.1.1 hbd1.1.2 hbd1.2.1 hbd1.2.2 hbd2.1.1 hbd2.1.2 hbd2.2.1 hbd2.2.2 W
        rwa [hc0, hc1] at h))
      have CH := Lib.hid (fun (W : World) => (show Calls Try.prog 20 #[.agg #[.int .i64 s0, .int .i64 s1], .int .i64 t] W fun e w' => e = .returned (.bool true) ∧ Below W.heap.size W w' from by
        have h := has_any s0 s1 t W
        have h1 := HT.out
        rwa [decide_eq_true (show s0 ≤ t by omega), decide_eq_true (show t ≤ s1 by omega)] at h))
      clear hI hS hS1 hS2 HSI HCut hbd1 hbd2 hc0 hc1 hs0 hs1 HVO HT
      go_upto_region 14 with (first | (go_at_call 15; (with_reducible refine (C1.out _).mono ?_); rintro e w' ⟨rfl, z1, rfl⟩))
      refine wp_rebase _ (fun U hU x1 => ?_)
      have HBU := Lib.hid (show Below V.heap.size V U by rw [hU]; exact bel_alloc z1.2 _)
      have c0 : ∀ z : BelW U, z.w.cell? ⟨z1.w.heap.size, 0, none⟩ = some (.int .i64 s0) := fun z => BelW.cells (by rw [hU, World.cell?_alloc_at _ _ _ _ rfl]; rfl) z
      have c1 : ∀ z : BelW U, z.w.cell? ⟨z1.w.heap.size, 1, none⟩ = some (.int .i64 s1) := fun z => BelW.cells (by rw [hU, World.cell?_alloc_at _ _ _ _ rfl]; rfl) z
      have hup := fun z : BelW U => (show Below V.heap.size V z.w from below_next HBU.out z.2)
      have D2 := Lib.hid (fun z : BelW U => bel_of (C2.out z.w (hup z)))
      have DA := Lib.hid (fun z : BelW U => bel_of (CA.out z.w))
      have DH := Lib.hid (fun z : BelW U => bel_of (CH.out z.w))
      have k1 : (0 : Int) ≤ (q : Int) := by omega
      have k2 : (q : Int) ≤ (l.length : Int) := by omega
      have k3 : (l.length : Int) ≤ (c : Int) := by omega
      have k4 : (q : Int) ≤ (c : Int) := by omega
      have HBW := Lib.hid (fun z : BelW U => (show Below V.heap.size V z.w from hup z))
      cases A with
      | none =>
        have hc0 := HNIL.out rfl
        subst hc0
        have hl0 : l.length = 0 := by omega
        have hq0 : q = 0 := by omega
        subst hq0
        obtain ⟨rfl, rfl⟩ := HEQ.out hl0
        clear hup hU
        refine wp_region_belx (by kernel_rfl) (by kernel_rfl) ?_
        repeat (go_big_quiet_step ((first | (go_at_call 15; with_reducible exact D2.out _) | (go_at_call 23; with_reducible exact DA.out _) | (go_at_call 20; with_reducible exact DH.out _))))
        refine wpQuiet_nil ?_
        intro z5
        have HX := HBW.out z5
        go_wp2_with fail
        go_ret
        exact ⟨rfl, HX⟩
      | some ad =>
        have D3 := Lib.hid (fun z : BelW U => bel_of (C3.out z.w (hup z) (if c = q then some ad else some (ad.add (q * 2))) (by
          split
          · rw [List.drop_eq_nil_of_le (by omega)]; exact Rd.nil _ _
          · exact (HR.out.below (Nat.le_refl _) (hup z)).drop2 q)))
        clear hup hU
        refine wp_region_belx (by kernel_rfl) (by kernel_rfl) ?_
        repeat (go_big_quiet_step ((first | (go_at_call 15; with_reducible exact D2.out _) | (go_at_call 15; with_reducible exact D3.out _) | (go_at_call 23; with_reducible exact DA.out _) | (go_at_call 20; with_reducible exact DH.out _))))
        refine wpQuiet_nil ?_
        intro z5
        have HX := HBW.out z5
        go_wp2_with fail
        all_goals
          go_ret
          exact ⟨rfl, HX⟩

end Go.Proofs.Ytafnmaojpheppaa
