/- ReachConserves: the walk. -/
import Derived.Test.YthbjechgdjcogaaRq18
import Derived.Test.YthbjechgdjcogaaOpen18
namespace Go.Proofs.Ythbjechgdjcogaa
open Go.RowKit
set_option linter.unusedVariables false
set_option linter.unusedSimpArgs false

theorem colS_append (f : Key → Bool) (K L : List Key) (i : Nat) : colS f (K ++ L) i = colS f K i + colS f L i := by
  unfold colS; rw [List.map_append, List.sum_append]
theorem col_filter (f : Key → Bool) (K : List Key) (i : Nat) : colK (K.filter f) i = colS f K i := by
  refine list_snoc (R := fun K => colK (K.filter f) i = colS f K i) rfl (fun l x ih => ?_) K
  rw [List.filter_append, colS_snoc]
  cases hf : f x
  · simp only [List.filter_cons, hf, Bool.false_eq_true, if_false, List.filter_nil, List.append_nil, Int.add_zero]; exact ih
  · simp only [List.filter_cons, hf, if_true, List.filter_nil]; rw [colK_snoc, ih]
theorem RightQ.of {O : Nat} {K : List Key} (h1 : ∀ x ∈ K, x.2.2.length = O ∧ RiP x.2.2) (h2 : RiP (gl O (colK K))) : RightQ O K := by
  have hnn : ∀ x ∈ K, ∀ i, i < O → 0 ≤ gi x.2.2 i := fun x hx i hi => (ri_le (h1 x hx).2 (by rw [(h1 x hx).1]; exact hi)).1
  have hle : ∀ k i, i < O → 0 ≤ colK (K.take k) i ∧ colK (K.take k) i ≤ colK K i := fun k i hi => by
    have e : colK K i = colK (K.take k) i + colK (K.drop k) i := by
      unfold colK; rw [← colS_append, List.take_append_drop]
    have a := colS_le (f := fun _ => true) (K := K.take k) (i := i) (fun x hx => hnn x (List.mem_of_mem_take hx) i hi)
    have b := colS_le (f := fun _ => true) (K := K.drop k) (i := i) (fun x hx => hnn x (List.mem_of_mem_drop hx) i hi)
    have a' : 0 ≤ colK (K.take k) i := a.1
    have b' : 0 ≤ colK (K.drop k) i := b.1
    omega
  have hri : ∀ k, RiP (gl O (colK (K.take k))) := fun k => gl_ri h2 (fun i hi => (hle k i hi).1) (fun i hi => (hle k i hi).2)
  have hsv : ∀ k, k ≤ K.length → svK O (K.take k) = gl O (colK (K.take k)) := by
    intro k
    induction k with
    | zero => intro _; exact gl_congr fun i _ => rfl
    | succ k ih =>
      intro hk
      have hk' : k < K.length := by omega
      obtain ⟨hx, hr⟩ := h1 K[k] (List.getElem_mem hk')
      rw [List.take_succ_eq_append_getElem hk', svK_snoc, ih (by omega)]
      unfold addV addF
      rw [gl_length, hx, Nat.max_self]
      refine gl_congr fun i hi => ?_
      have b1 := ri_le (hri k) (i := i) (by rw [gl_length]; exact hi)
      have b2 := ri_le hr (i := i) (by rw [hx]; exact hi)
      rw [gl_at hi] at b1
      rw [gl_at hi, colK_snoc, add_in b1.1 b1.2 b2.1 b2.2]
  exact ⟨h1, fun k hk => by rw [hsv k hk]; exact hri k⟩
theorem RightQ.filter {O : Nat} {K : List Key} (h : RightQ O K) (f : Key → Bool) : RightQ O (K.filter f) := by
  refine RightQ.of (fun x hx => h.each x (List.mem_filter.1 hx).1) ?_
  have e : gl O (colK (K.filter f)) = gl O (colS f K) := gl_congr fun i _ => col_filter f K i
  rw [e]
  exact gl_ri h.all (fun i hi => (colS_le fun x hx => h.nonneg hx hi).1) (fun i hi => (colS_le fun x hx => h.nonneg hx hi).2)
theorem restK_right {O : Nat} {K : List Key} (h : RightQ O K) (t p : Int) : RightQ O (restK t p K) := h.filter _
theorem clamp_nat {n : Nat} {b : Int} (h : (n : Int) ≤ b) : Xa.clamp (n : Int) 0 b = (n : Int) := by unfold Xa.clamp; rw [if_neg (by omega), if_neg (by omega)]
theorem BelW.below8 {w : World} (x : BelW w) : Below w.heap.size w x.w := x.2
theorem Qu.one {w : World} {ad : Addr} {l : List Ld} (h : Qu w (some ad) l) {k : Nat} (hk : k < l.length) : Qu w (some (ad.add (k * 3))) [l[k]] := by
  refine ⟨fun _ => ?_, fun x hx => by rw [List.mem_singleton.1 hx]; exact h.parts _ (List.getElem_mem hk)⟩
  obtain ⟨ad', e, hb, hc⟩ := h.rd (by rw [ldCells_length]; omega)
  cases e
  refine ⟨_, rfl, by rw [add_block]; exact hb, fun j u hu => ?_⟩
  have hj : j < 3 := by have := (List.getElem?_eq_some_iff.1 hu).1; rw [ldCells_length] at this; simpa using this
  have e2 : (ad.add (k * 3)).add j = ad.add (k * 3 + j) := by
    unfold Addr.add
    by_cases hi : k * 3 = 0 <;> by_cases hj : j = 0 <;> simp [hi, hj, Nat.add_assoc]
  rw [e2]
  refine hc _ _ ((flat_at ldc 3 ldc_length l k j hk hj).trans ?_)
  simpa [ldCells] using hu
theorem keys_oneq {x y : Ld} (h : x.key = y.key) : keys [x] = keys [y] := by simp [keys, h]
/-- the sum under way -/
def smK (h : Int) (P : Nat) (R K : List Key) (p i : Nat) : Int := colK R i + su (fun q => colS (sel h (P : Int) q) K i) p
theorem smK_succ (h : Int) (P : Nat) (R K : List Key) (p i : Nat) : smK h P R K (p + 1) i = smK h P R K p i + colS (sel h (P : Int) p) K i := by
  unfold smK
  rw [show su (fun q => colS (sel h (P : Int) q) K i) (p + 1) = su (fun q => colS (sel h (P : Int) q) K i) p + colS (sel h (P : Int) p) K i from rfl]
  omega
def CoA (W : World) (h : Int) (O P gs : Nat) (R K : List Key) (s16 : Value) (wr : World) : Prop :=
  ∃ p : Nat, p ≤ P ∧ s16 = .int .i64 (p : Int) ∧ Below W.heap.size W wr ∧ IR wr W.heap.size gs O (gl O (smK h P R K p))
def CoB (W : World) (h : Int) (O P gs : Nat) (R K : List Key) (p : Nat) (s17 : Value) (wr : World) : Prop :=
  ∃ j : Nat, j ≤ O ∧ s17 = .int .i64 (j : Int) ∧ Below W.heap.size W wr ∧ IR wr W.heap.size gs O (gl O (upto j (smK h P R K (p + 1)) (smK h P R K p)))
theorem su_upto {f : Nat → Int} {p P : Nat} (h : p ≤ P) (hf : ∀ i, i < P → 0 ≤ f i) : 0 ≤ su f p ∧ su f p ≤ su f P := by
  have h0 : ∀ n, n ≤ P → 0 ≤ su f n := fun n hn => by
    have := su_le (f := fun _ => 0) (g := f) (n := n) (fun i hi => hf i (by omega))
    rwa [su_zero (fun _ _ => rfl)] at this
  refine ⟨h0 p h, ?_⟩
  obtain ⟨j, rfl⟩ : ∃ j, P = p + j := ⟨P - p, by omega⟩
  clear h
  induction j with
  | zero => exact Int.le_refl _
  | succ j ih =>
    have := ih (fun i hi => hf i (by omega)) (fun n hn => h0 n (by omega))
    have := hf (p + j) (by omega)
    show su f p ≤ su f (p + j) + f (p + j)
    omega
theorem sm_bd {O : Nat} {K R : List Key} (hq : RightQ O K) {h : Int} {P : Nat} (hR : R = restK h (P : Int) K) {p : Nat} (hp : p ≤ P) {i : Nat} (hi : i < O) : 0 ≤ smK h P R K p i ∧ smK h P R K p i ≤ 1125899906842624 := by
  subst hR
  have e := conserve h P K i
  have a := su_upto (f := fun q => colS (sel h (P : Int) q) K i) hp (fun q _ => (colS_le fun x hx => hq.nonneg hx hi).1)
  have b := hq.colAll hi
  have c := (restK_right hq h (P : Int)).colAll hi
  unfold smK
  omega
theorem restK_split {h p : Int} {K : List Key} {k : Nat} (hk : k < K.length) (hd : dueB h p K[k] = false) : (restK h p (K.take k)).length < (restK h p K).length ∧ (restK h p K)[(restK h p (K.take k)).length]? = some K[k] := by
  have e : restK h p K = restK h p (K.take k) ++ K[k] :: restK h p (K.drop (k + 1)) := by
    have e1 : K = K.take k ++ K[k] :: K.drop (k + 1) := by rw [List.getElem_cons_drop, List.take_append_drop]
    have e2 : restK h p (K.take k ++ K[k] :: K.drop (k + 1)) = restK h p (K.take k) ++ K[k] :: restK h p (K.drop (k + 1)) := by
      unfold restK
      rw [List.filter_append, List.filter_cons]
      simp [hd]
    rw [← e2, ← e1]
  refine ⟨by rw [e, List.length_append, List.length_cons]; omega, ?_⟩
  rw [e, List.getElem?_append_right (Nat.le_refl _), Nat.sub_self]; rfl
def CoR (V : World) (h : Int) (P : Nat) (l : List Ld) (s13 s14 : Value) (wr : World) : Prop :=
  ∃ k : Nat, k ≤ l.length ∧ s14 = .int .i64 (k : Int) ∧ s13 = .int .i64 (((restK h (P : Int) (keys (l.take k))).length : Nat) : Int) ∧ ∃ y : BelW V, wr = y.w

set_option maxHeartbeats 32000000 in
set_option maxRecDepth 100000 in
theorem con_any (A : Option Addr) (c : Nat) (l : List Ld) (h p o : Int) (hln : l.length ≤ 9223372036854775807) (hlc : l.length ≤ c) (hcm : c ≤ 9223372036854775807) (hA : A = none → c = 0) (hok : QOk l) (w : World) (hq : Qu w A l) :
    Calls Try.prog 5 #[.slice A l.length c, .int .i64 h, .int .i64 p, .int .i64 o] w fun e w' => e = .returned (.bool true) ∧ Below w.heap.size w w' := by
  refine rebase w (fun V hV x0 => ?_)
  subst hV
  have CS := Lib.hid (fun u : BelW V => bel_of (small_any u.w))
  have HQ := Lib.hid hq
  have HF := Lib.hid (And.intro hok hA)
  clear hq hok hA
  go_enter Try.func5, Try.ntmps5
  go_upto_region 2 with (first | (go_at_call 8; with_reducible refine (CS.out _).mono ?_; rintro e w' ⟨rfl, yy, rfl⟩))
  go_wp2_with fail
  refine (few_any A c l hln HF.out.1 _ (HQ.out.bel yy)).mono ?_
  rintro e w1 ⟨b, rfl, hfew, hb1⟩
  obtain ⟨y1, rfl⟩ : ∃ y : BelW V, w1 = y.w := ⟨⟨w1, below_next yy.2 hb1⟩, rfl⟩
  have HB1 := Lib.hid y1.2
  cases b
  · clear hfew hb1
    go_wp2_with fail
    go_ret
    exact ⟨rfl, HB1.out⟩
  obtain ⟨g1, g2⟩ := hfew.1 rfl
  have HG := Lib.hid (show ∀ x ∈ l, x.part.length ≤ 1000 from fun x hx => by have := g1 x hx; omega)
  clear hfew hb1 g1 CS
  by_cases q1 : o < 0
  · have t1 : decide (o < 0) = true := decide_eq_true q1
    go_wp2_with fail
    go_ret
    exact ⟨rfl, HB1.out⟩
  have t1 : decide (o < 0) = false := decide_eq_false q1
  by_cases q2 : 6 < o
  · have t2 : decide (6 < o) = true := decide_eq_true q2
    go_wp2_with fail
    go_ret
    exact ⟨rfl, HB1.out⟩
  have t2 : decide (6 < o) = false := decide_eq_false q2
  by_cases q3 : p < 0
  · have t3 : decide (p < 0) = true := decide_eq_true q3
    go_wp2_with fail
    go_ret
    exact ⟨rfl, HB1.out⟩
  have t3 : decide (p < 0) = false := decide_eq_false q3
  by_cases q4 : 10 < p
  · have t4 : decide (10 < p) = true := decide_eq_true q4
    go_wp2_with fail
    go_ret
    exact ⟨rfl, HB1.out⟩
  have t4 : decide (10 < p) = false := decide_eq_false q4
  obtain ⟨O, rfl⟩ := Int.eq_ofNat_of_zero_le (show 0 ≤ o by omega)
  obtain ⟨P, rfl⟩ := Int.eq_ofNat_of_zero_le (show 0 ≤ p by omega)
  have hO : O ≤ 6 := by omega
  have hP : P ≤ 10 := by omega
  have CR := Lib.hid (lright_any A c l O hO (by omega) HG.out HF.out.1 y1.w (HQ.out.bel y1))
  clear q1 q2 q3 q4
  go_wp2_with fail
  refine CR.out.mono ?_
  rintro e w2 ⟨b, rfl, hrq, hb2⟩
  have HB2 := Lib.hid (below_next HB1.out hb2)
  cases b
  · clear hrq hb2
    go_wp2_with fail
    go_ret
    exact ⟨rfl, HB2.out⟩
  have HRQ := Lib.hid (hrq.1 rfl)
  have D1 := Lib.hid (due_any A c l h (P : Int) (O : Int) (by omega) HG.out HF.out.2 hlc hcm HF.out.1 P O (clamp_nat (by omega)) (clamp_nat (by omega)) w2 (HQ.out.below (Nat.le_refl _) HB2.out))
  clear hrq hb2 CR
  go_wp2_with fail
  refine D1.out.mono ?_
  rintro e w3 ⟨A4, c4, B4, d4, rows, m, rfl, hc4, hpr, hkm, hom, hB4, hd4, hrows, hmx, hqm, hb3⟩
  have HB3 := Lib.hid (below_next HB2.out hb3)
  have hrl : rows.length = P := by rw [← parts_length, hpr]; simp
  have hml : m.length ≤ 1000 := by
    have h1 := restK_le h (P : Int) (keys l)
    rw [← hkm, keys_length, keys_length] at h1
    omega
  have T1 := Lib.hid (totals_any B4 d4 m O hO hml (by rw [hkm]; exact restK_right HRQ.out h (P : Int)) w3 hqm)
  have HM := Lib.hid (And.intro hpr (And.intro hkm (And.intro hom (And.intro hB4 (And.intro hmx hqm)))))
  have HC := Lib.hid (And.intro hrl (And.intro hd4 hc4))
  have hml2 := hml
  clear hc4 hpr hkm hom hB4 hrows hmx hqm hb3 D1 hrl
  go_wp2_with fail
  refine T1.out.mono ?_
  rintro e w4 ⟨gs, rfl, hI, hb4⟩
  have HB4 := Lib.hid (below_next HB3.out hb4)
  have HI4 := Lib.hid (And.intro hI hb4)
  have HMX := Lib.hid (HM.out.2.2.2.2.1.below (Nat.le_refl _) hb4)
  have HQM := Lib.hid (HM.out.2.2.2.2.2.below (Nat.le_refl _) hb4)
  have HQ4 := Lib.hid (HQ.out.below (Nat.le_refl _) HB4.out)
  clear hI hb4 T1
  go_upto_region 10 with fail
  refine wp_rebase w4 (fun U hU z0 => ?_)
  rw [← hU] at HI4 HMX HQM HQ4 HB4
  clear hU
  go_loopw [13, 14] (fun s13 s14 wr => CoR U h P l s13 s14 wr) (fun _ i _ => l.length - (intOf i).toNat)
  case atStart => exact ⟨0, by omega, rfl, rfl, z0, rfl⟩
  case round =>
    obtain ⟨k, hk, rfl, rfl, y, rfl⟩ := hrel
    by_cases hlt : k < l.length
    · have i3 : decide ((k : Int) < (l.length : Int)) = true := decide_eq_true (by omega)
      have j1 : (0 : Int) ≤ (k : Int) := by omega
      have j2 : (k : Int) < (l.length : Int) := by omega
      obtain ⟨ad, rfl, _, e1, e2, e3, e4⟩ := (HQ4.out.bel y).at hlt
      have HKK := Lib.hid (keys_take hlt)
      have hkey : (l[k]).key = ((l[k]).hr, (l[k]).pl, (l[k]).part) := rfl
      rw [hkey] at HKK
      obtain ⟨x, hx⟩ : ∃ x, l[k]'hlt = x := ⟨_, rfl⟩
      rw [hx] at e1 e2 e3 e4 HKK
      have HXX := Lib.hid hx
      have HKX := Lib.hid (show (keys l)[k]'(by rw [keys_length]; exact hlt) = (x.hr, x.pl, x.part) by rw [← hx]; simp [keys, Ld.key])
      obtain ⟨hr, hhr⟩ : ∃ y, x.hr = y := ⟨_, rfl⟩
      obtain ⟨pl, hpl⟩ : ∃ y, x.pl = y := ⟨_, rfl⟩
      have HHH := Lib.hid (And.intro hhr hpl)
      rw [hhr] at e1 HKK HKX
      rw [hpl] at e2 HKK HKX
      have HSN := Lib.hid (restK_snoc h (P : Int) (keys (l.take k)) (hr, pl, x.part))
      rw [← HKK.out] at HSN
      clear hx hhr hpl hkey e3 e4
      by_cases d1 : hr ≤ h
      case neg =>
        have v1 : decide (hr ≤ h) = false := decide_eq_false d1
        clear d1
        have hnd : dueB h (P : Int) (hr, pl, x.part) = false := by unfold dueB; rw [v1]; rfl
        have hkl : k < (keys l).length := by rw [keys_length]; exact hlt
        obtain ⟨n1, n2⟩ := restK_split (h := h) (p := (P : Int)) hkl (by rw [HKX.out]; exact hnd)
        rw [HKX.out] at n2
        rw [← keys_tk, ← HM.out.2.1, keys_length] at n1
        rw [← keys_tk, ← HM.out.2.1] at n2
        have HS2 := Lib.hid (show (restK h (P : Int) (keys (l.take (k + 1)))).length = (restK h (P : Int) (keys (l.take k))).length + 1 by rw [HSN.out, hnd, if_neg Bool.false_ne_true, List.length_append]; rfl)
        obtain ⟨a, ha⟩ : ∃ a, (restK h (P : Int) (keys (l.take k))).length = a := ⟨_, rfl⟩
        rw [ha] at n1 n2 HS2 ⊢
        have u1 : decide ((m.length : Int) ≤ (a : Int)) = false := decide_eq_false (by omega)
        have u1n : decide (m.length ≤ a) = false := decide_eq_false (by omega)
        have u2 : (0 : Int) ≤ (a : Int) := by omega
        have u3 : (a : Int) ≤ (a : Int) + 1 := by omega
        have u4 : (a : Int) + 1 ≤ (d4 : Int) := by have := HC.out.2.1; omega
        have u5 : (k : Int) + 1 ≤ (c : Int) := by omega
        have u6 : (k : Int) ≤ (k : Int) + 1 := by omega
        have w1' : IntKind.i64.wrap ((a : Int) + 1) = (a : Int) + 1 := IntWalk.i64_in _ (by omega)
        have w2' : IntKind.i64.wrap ((k : Int) + 1) = (k : Int) + 1 := IntWalk.i64_in _ (by omega)
        obtain ⟨bd, rfl, _⟩ := (HQM.out.bel y).at n1
        have hmk : (m[a]'n1).key = (x.hr, x.pl, x.part) := by
          have := n2
          rw [← HHH.out.1, ← HHH.out.2] at this
          simpa [keys, n1] using this
        have CL := Lib.hid (fun u : BelW y.w => bel_of (x := u) (lawl_any (some (bd.add (a * 3))) (some (ad.add (k * 3))) (d4 - a) (c - k) [m[a]'n1] [l[k]'hlt] 1 1 rfl rfl (by decide) (fun z hz => by rw [List.mem_singleton.1 hz]; exact HM.out.2.2.1 _ (List.getElem_mem n1)) (keys_oneq (by rw [hmk, HXX.out]; rfl)) u.w (((HQM.out.bel y).bel u).one n1) (((HQ4.out.bel y).bel u).one hlt)))
        clear hnd hkl n2 ha hmk
        go_upto_region 14 with fail
        clear e1 e2
        refine wp_rebase y.w (fun W hW z1 => ?_)
        rw [← hW] at CL
        have HW := Lib.hid (show Below U.heap.size U W by rw [hW]; exact y.2)
        clear hW
        refine wp_region_belx (by kernel_rfl) (by kernel_rfl) ?_
        repeat (go_big_quiet_step ((go_at_call 22; with_reducible exact CL.out _)))
        refine wpQuiet_nil ?_
        intro z2
        go_wp2_with fail
        go_roundw
        case rel => exact ⟨k + 1, by omega, by go_num, by rw [HS2.out]; go_num, ⟨z2.w, below_next HW.out z2.2⟩, rfl⟩
        case measure => simp [intOf]; omega
      have v1 : decide (hr ≤ h) = true := decide_eq_true d1
      by_cases d2 : 0 ≤ pl
      case neg =>
        have v2 : decide (0 ≤ pl) = false := decide_eq_false d2
        clear d1 d2
        have hnd : dueB h (P : Int) (hr, pl, x.part) = false := by unfold dueB; simp [v2]
        have hkl : k < (keys l).length := by rw [keys_length]; exact hlt
        obtain ⟨n1, n2⟩ := restK_split (h := h) (p := (P : Int)) hkl (by rw [HKX.out]; exact hnd)
        rw [HKX.out] at n2
        rw [← keys_tk, ← HM.out.2.1, keys_length] at n1
        rw [← keys_tk, ← HM.out.2.1] at n2
        have HS2 := Lib.hid (show (restK h (P : Int) (keys (l.take (k + 1)))).length = (restK h (P : Int) (keys (l.take k))).length + 1 by rw [HSN.out, hnd, if_neg Bool.false_ne_true, List.length_append]; rfl)
        obtain ⟨a, ha⟩ : ∃ a, (restK h (P : Int) (keys (l.take k))).length = a := ⟨_, rfl⟩
        rw [ha] at n1 n2 HS2 ⊢
        have u1 : decide ((m.length : Int) ≤ (a : Int)) = false := decide_eq_false (by omega)
        have u1n : decide (m.length ≤ a) = false := decide_eq_false (by omega)
        have u2 : (0 : Int) ≤ (a : Int) := by omega
        have u3 : (a : Int) ≤ (a : Int) + 1 := by omega
        have u4 : (a : Int) + 1 ≤ (d4 : Int) := by have := HC.out.2.1; omega
        have u5 : (k : Int) + 1 ≤ (c : Int) := by omega
        have u6 : (k : Int) ≤ (k : Int) + 1 := by omega
        have w1' : IntKind.i64.wrap ((a : Int) + 1) = (a : Int) + 1 := IntWalk.i64_in _ (by omega)
        have w2' : IntKind.i64.wrap ((k : Int) + 1) = (k : Int) + 1 := IntWalk.i64_in _ (by omega)
        obtain ⟨bd, rfl, _⟩ := (HQM.out.bel y).at n1
        have hmk : (m[a]'n1).key = (x.hr, x.pl, x.part) := by
          have := n2
          rw [← HHH.out.1, ← HHH.out.2] at this
          simpa [keys, n1] using this
        have CL := Lib.hid (fun u : BelW y.w => bel_of (x := u) (lawl_any (some (bd.add (a * 3))) (some (ad.add (k * 3))) (d4 - a) (c - k) [m[a]'n1] [l[k]'hlt] 1 1 rfl rfl (by decide) (fun z hz => by rw [List.mem_singleton.1 hz]; exact HM.out.2.2.1 _ (List.getElem_mem n1)) (keys_oneq (by rw [hmk, HXX.out]; rfl)) u.w (((HQM.out.bel y).bel u).one n1) (((HQ4.out.bel y).bel u).one hlt)))
        clear hnd hkl n2 ha hmk
        go_upto_region 14 with fail
        clear e1 e2
        refine wp_rebase y.w (fun W hW z1 => ?_)
        rw [← hW] at CL
        have HW := Lib.hid (show Below U.heap.size U W by rw [hW]; exact y.2)
        clear hW
        refine wp_region_belx (by kernel_rfl) (by kernel_rfl) ?_
        repeat (go_big_quiet_step ((go_at_call 22; with_reducible exact CL.out _)))
        refine wpQuiet_nil ?_
        intro z2
        go_wp2_with fail
        go_roundw
        case rel => exact ⟨k + 1, by omega, by go_num, by rw [HS2.out]; go_num, ⟨z2.w, below_next HW.out z2.2⟩, rfl⟩
        case measure => simp [intOf]; omega
      have v2 : decide (0 ≤ pl) = true := decide_eq_true d2
      by_cases d3 : pl < (P : Int)
      case neg =>
        have v3 : decide (pl < (P : Int)) = false := decide_eq_false d3
        clear d1 d2
        have hnd : dueB h (P : Int) (hr, pl, x.part) = false := by unfold dueB; simp [v3]
        have hkl : k < (keys l).length := by rw [keys_length]; exact hlt
        obtain ⟨n1, n2⟩ := restK_split (h := h) (p := (P : Int)) hkl (by rw [HKX.out]; exact hnd)
        rw [HKX.out] at n2
        rw [← keys_tk, ← HM.out.2.1, keys_length] at n1
        rw [← keys_tk, ← HM.out.2.1] at n2
        have HS2 := Lib.hid (show (restK h (P : Int) (keys (l.take (k + 1)))).length = (restK h (P : Int) (keys (l.take k))).length + 1 by rw [HSN.out, hnd, if_neg Bool.false_ne_true, List.length_append]; rfl)
        obtain ⟨a, ha⟩ : ∃ a, (restK h (P : Int) (keys (l.take k))).length = a := ⟨_, rfl⟩
        rw [ha] at n1 n2 HS2 ⊢
        have u1 : decide ((m.length : Int) ≤ (a : Int)) = false := decide_eq_false (by omega)
        have u1n : decide (m.length ≤ a) = false := decide_eq_false (by omega)
        have u2 : (0 : Int) ≤ (a : Int) := by omega
        have u3 : (a : Int) ≤ (a : Int) + 1 := by omega
        have u4 : (a : Int) + 1 ≤ (d4 : Int) := by have := HC.out.2.1; omega
        have u5 : (k : Int) + 1 ≤ (c : Int) := by omega
        have u6 : (k : Int) ≤ (k : Int) + 1 := by omega
        have w1' : IntKind.i64.wrap ((a : Int) + 1) = (a : Int) + 1 := IntWalk.i64_in _ (by omega)
        have w2' : IntKind.i64.wrap ((k : Int) + 1) = (k : Int) + 1 := IntWalk.i64_in _ (by omega)
        obtain ⟨bd, rfl, _⟩ := (HQM.out.bel y).at n1
        have hmk : (m[a]'n1).key = (x.hr, x.pl, x.part) := by
          have := n2
          rw [← HHH.out.1, ← HHH.out.2] at this
          simpa [keys, n1] using this
        have CL := Lib.hid (fun u : BelW y.w => bel_of (x := u) (lawl_any (some (bd.add (a * 3))) (some (ad.add (k * 3))) (d4 - a) (c - k) [m[a]'n1] [l[k]'hlt] 1 1 rfl rfl (by decide) (fun z hz => by rw [List.mem_singleton.1 hz]; exact HM.out.2.2.1 _ (List.getElem_mem n1)) (keys_oneq (by rw [hmk, HXX.out]; rfl)) u.w (((HQM.out.bel y).bel u).one n1) (((HQ4.out.bel y).bel u).one hlt)))
        clear hnd hkl n2 ha hmk
        go_upto_region 14 with fail
        clear e1 e2
        refine wp_rebase y.w (fun W hW z1 => ?_)
        rw [← hW] at CL
        have HW := Lib.hid (show Below U.heap.size U W by rw [hW]; exact y.2)
        clear hW
        refine wp_region_belx (by kernel_rfl) (by kernel_rfl) ?_
        repeat (go_big_quiet_step ((go_at_call 22; with_reducible exact CL.out _)))
        refine wpQuiet_nil ?_
        intro z2
        go_wp2_with fail
        go_roundw
        case rel => exact ⟨k + 1, by omega, by go_num, by rw [HS2.out]; go_num, ⟨z2.w, below_next HW.out z2.2⟩, rfl⟩
        case measure => simp [intOf]; omega
      have v3 : decide (pl < (P : Int)) = true := decide_eq_true d3
      have HX := Lib.hid (show restK h (P : Int) (keys (l.take (k + 1))) = restK h (P : Int) (keys (l.take k)) by rw [HSN.out, if_pos (by simp [dueB, v1, v2, v3])])
      clear d1 d2
      go_wp2_with fail
      go_roundw
      case rel => exact ⟨k + 1, by omega, by go_num, by rw [HX.out], y, rfl⟩
      case measure => simp [intOf]; omega
    · have i3 : decide ((k : Int) < (l.length : Int)) = false := decide_eq_false (by omega)
      obtain rfl : k = l.length := by omega
      rw [List.take_length, ← HM.out.2.1, keys_length]
      have HY := Lib.hid (show Below w3.heap.size w3 y.w ∧ IR y.w w3.heap.size gs O (gl O (smK h P (keys m) (keys l) 0)) from ⟨below_next HI4.out.2 y.2, by
        have := HI4.out.1.next y.2
        have e : gl O (smK h P (keys m) (keys l) 0) = gl O (colK (keys m)) := gl_congr fun i _ => by unfold smK; show _ + (0 : Int) = _; omega
        rw [e]; exact this⟩)
      go_wp2_with fail
      go_loopw [16] (fun s16 wr => CoA w3 h O P gs (keys m) (keys l) s16 wr) (fun i _ => P - (intOf i).toNat)
      case atStart => exact ⟨0, by omega, rfl, HY.out⟩
      case round =>
        clear HY
        obtain ⟨p, hp, rfl, hB, hI⟩ := hrel
        by_cases hpt : p < P
        · have i4 : decide ((p : Int) < (P : Int)) = true := decide_eq_true (by omega)
          have r1 : (0 : Int) ≤ (p : Int) := by omega
          have r2 : (p : Int) < (P : Int) := by omega
          have hpr : p < rows.length := by rw [HC.out.1]; exact hpt
          obtain ⟨cd, rfl, _, f3, f4⟩ := (HM.out.2.2.2.2.1.below (Nat.le_refl _) hB).at hpr
          have hrow : (rows[p]'hpr).part = gl O (colS (sel h (P : Int) p) (keys l)) := by
            have e : (parts rows)[p]? = ((List.range P).map (fun q => rowK O h (P : Int) q (keys l)))[p]? := by rw [HM.out.1]
            have e2 : (rows[p]'hpr).part = rowK O h (P : Int) p (keys l) := by simpa [parts, hpr, hpt] using e
            rw [e2, rowK_all HRQ.out]
          have hrr : RiP (gl O (colS (sel h (P : Int) p) (keys l))) := by have := rowK_right HRQ.out h (P : Int) p; rwa [rowK_all HRQ.out] at this
          obtain ⟨RA, hRA⟩ : ∃ x, (rows[p]'hpr).A = x := ⟨_, rfl⟩
          obtain ⟨rc, hrc⟩ : ∃ x, (rows[p]'hpr).c = x := ⟨_, rfl⟩
          rw [hrow, gl_length, hRA, hrc] at f3
          rw [hrow, hRA] at f4
          have hrt : rightF (gl O (colS (sel h (P : Int) p) (keys l))) (O : Int) = true := (rightF_nat (by omega)).2 ⟨gl_length _ _, hrr⟩
          have C1 := Lib.hid (rightn_any RA rc (gl O (colS (sel h (P : Int) p) (keys l))) O (O : Int) (gl_length _ _) (by omega) wr f4)
          rw [hrt] at C1
          have HI5 := Lib.hid (And.intro hB hI)
          have HF4 := Lib.hid (And.intro f3 f4)
          have HPT := Lib.hid hpt
          clear hrow hrr hRA hrc hrt hB hI f4
          go_wp2_with (first | (go_at_call 23; (with_reducible refine C1.out.mono ?_); rintro e w5 ⟨rfl, hb5⟩))
          have f3' := (hb5.cell (World.block_lt_of_cell? _ _ f3)).trans f3
          have HI6 := Lib.hid (show Below w3.heap.size w3 w5 ∧ IR w5 w3.heap.size gs O (gl O (smK h P (keys m) (keys l) p)) from ⟨HI5.out.1.trans (hb5.mono HI5.out.1.size), HI5.out.2.next hb5⟩)
          clear hb5 f3 f3'
          obtain ⟨wo, hwo⟩ : ∃ wo : World, wo = wr := ⟨_, rfl⟩
          go_loopw [17] (fun s17 wr => CoB w3 h O P gs (keys m) (keys l) p s17 wr) (fun i _ => O - (intOf i).toNat)
          case atStart => exact ⟨0, by omega, rfl, HI6.out.1, by rw [gl_none]; exact HI6.out.2⟩
          case round =>
            clear HI6 HF4 HI5 hwo
            obtain ⟨j, hj, rfl, hB, hI⟩ := hrel
            by_cases hjt : j < O
            · have i5 : decide ((j : Int) < (O : Int)) = true := decide_eq_true (by omega)
              have s1 : (0 : Int) ≤ (j : Int) := by omega
              have s2 : (j : Int) < (O : Int) := by omega
              obtain ⟨cd', hcd, _, f3, f4⟩ := (HM.out.2.2.2.2.1.below (Nat.le_refl _) hB).at hpr
              cases hcd
              have hrow : (rows[p]'hpr).part = gl O (colS (sel h (P : Int) p) (keys l)) := by
                have e : (parts rows)[p]? = ((List.range P).map (fun q => rowK O h (P : Int) q (keys l)))[p]? := by rw [HM.out.1]
                have e2 : (rows[p]'hpr).part = rowK O h (P : Int) p (keys l) := by simpa [parts, hpr, HPT.out] using e
                rw [e2, rowK_all HRQ.out]
              obtain ⟨RA2, hRA⟩ : ∃ x, (rows[p]'hpr).A = x := ⟨_, rfl⟩
              obtain ⟨rc2, hrc⟩ : ∃ x, (rows[p]'hpr).c = x := ⟨_, rfl⟩
              rw [hrow, gl_length, hRA, hrc] at f3
              rw [hrow, hRA] at f4
              obtain ⟨bd, u, rfl, _, f5, f6⟩ := f4.at (k := j) (by rw [ints_length, gl_length]; exact hjt)
              rw [ints_at (by rw [gl_length]; exact hjt), gl_at hjt] at f5
              cases f5
              have c1 := hI.cell hjt
              have fz := hI.frozen j
              rw [gl_at hjt, show upto j (smK h P (keys m) (keys l) (p + 1)) (smK h P (keys m) (keys l) p) j = smK h P (keys m) (keys l) p j by unfold upto; rw [if_neg (Nat.lt_irrefl _)]] at c1
              have hst := gl_step (n := O) (k := j) (f := smK h P (keys m) (keys l) (p + 1)) (g := smK h P (keys m) (keys l) p) hjt
              have hco := smK_succ h P (keys m) (keys l) p j
              have hbd1 := sm_bd HRQ.out HM.out.2.1 (p := p) (by have := HPT.out; omega) hjt
              have hbd2 := (colS_le (f := sel h (P : Int) p) (K := keys l) (i := j) (fun x hx => HRQ.out.nonneg hx hjt))
              have hbd3 := HRQ.out.colAll hjt
              have HST := Lib.hid hst
              obtain ⟨a, ha⟩ : ∃ a, smK h P (keys m) (keys l) p j = a := ⟨_, rfl⟩
              obtain ⟨b, hb⟩ : ∃ a, smK h P (keys m) (keys l) (p + 1) j = a := ⟨_, rfl⟩
              obtain ⟨x, hx⟩ : ∃ a, colS (sel h (P : Int) p) (keys l) j = a := ⟨_, rfl⟩
              rw [ha] at c1 hco hbd1
              rw [hb] at hco
              rw [hx] at f6 hco hbd2
              have wA : IntKind.i64.wrap (a + x) = a + x := IntWalk.i64_in _ (by omega)
              have HBX := Lib.hid (show b = a + x from hco)
              have HBB := Lib.hid hb
              have HX := Lib.hid (And.intro hB hI)
              have hgl := hI.lt.2
              have k1 := fun z : BelW wr => BelW.cells f3 z
              have k2 := fun z : BelW wr => BelW.cells f6 z
              have k3 := fun z : BelW wr => BelW.cells c1 z
              have k4 := fun z : BelW wr => bfrozen z hgl fz
              clear ha hb hx hst hco hbd1 hbd2 hbd3 hB hI f3 f4 f6 c1 fz hrow hRA hrc
              go_upto_region 25 with fail
              refine wp_rebase wr (fun W hW z0 => ?_)
              rw [← hW] at k1 k2 k3 k4 HX
              clear hW hgl
              refine wp_region_belt 15 (by kernel_rfl) (by kernel_rfl) ?_
              simp only [List.take_succ_cons, List.take_zero, List.drop_succ_cons, List.drop_zero]
              repeat (go_big_quiet_step (fail))
              refine wpQuiet_nil ?_
              intro z
              have m3 := k3 z
              have m4 := k4 z
              clear k1 k2 k3 k4
              go_wp2_with fail
              have HY := Lib.hid (And.intro ((HX.out.1.trans (z.2.mono HX.out.1.size)).setCell (p := ⟨gs, j, none⟩) HX.out.2.lt.1 (.int .i64 (a + x))) ((HX.out.2.next z.2).set j (a + x)))
              have HZ := Lib.hid (show (gl O (upto j (smK h P (keys m) (keys l) (p + 1)) (smK h P (keys m) (keys l) p))).set j (a + x) = gl O (upto (j + 1) (smK h P (keys m) (keys l) (p + 1)) (smK h P (keys m) (keys l) p)) by rw [← HST.out, HBB.out, HBX.out])
              go_roundw
              case rel => exact ⟨j + 1, by omega, by go_num, HY.out.1, by rw [← HZ.out]; exact HY.out.2⟩
              case measure => simp [intOf]; omega
            · have i5 : decide ((j : Int) < (O : Int)) = false := decide_eq_false (by omega)
              obtain rfl : O = j := by omega
              rw [gl_all] at hI
              have HX := Lib.hid (And.intro hB hI)
              clear hB hI
              go_wp2_with fail
              go_roundw
              case rel => exact ⟨p + 1, by have := HPT.out; omega, by go_num, HX.out⟩
              case measure => have := HPT.out; simp [intOf]; omega
        · have i4 : decide ((p : Int) < (P : Int)) = false := decide_eq_false (by omega)
          obtain rfl : P = p := by omega
          have hfin : gl O (smK h P (keys m) (keys l) P) = gl O (colK (keys l)) := gl_congr fun i _ => by unfold smK; rw [HM.out.2.1]; exact conserve h P (keys l) i
          rw [hfin] at hI
          have HX := Lib.hid (And.intro (below_next HB3.out hB) hI)
          have T2 := Lib.hid (totals_any A c l O hO (by omega) HRQ.out wr (HQ.out.below (Nat.le_refl _) HX.out.1))
          clear hB hI hfin
          go_wp2_with fail
          refine T2.out.mono ?_
          rintro e w7 ⟨g7, rfl, hI7, hb7⟩
          have HX7 := Lib.hid (below_next HX.out.1 hb7)
          have C2 := Lib.hid (lawi_any (some ⟨gs, 0, none⟩) (some ⟨g7, 0, none⟩) O O (gl O (colK (keys l))) O (gl_length _ _) (by omega) w7 (HX.out.2.next hb7).rd hI7.rd)
          clear hI7 hb7 T2
          go_wp2_with fail
          refine C2.out.mono ?_
          rintro e w8 ⟨rfl, hb8⟩
          have HX8 := Lib.hid (below_next HX7.out hb8)
          clear hb8
          go_wp2_with fail
          go_ret
          exact ⟨rfl, HX8.out⟩

end Go.Proofs.Ythbjechgdjcogaa
