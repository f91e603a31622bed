/- bourneref18.Due. -/
import Derived.Test.YthbjechgdjcogaaUnd18
namespace Go.Proofs.Ythbjechgdjcogaa
open Go.RowKit
set_option linter.unusedVariables false
set_option linter.unusedSimpArgs false

theorem due_min {h pp : Int} {P : Nat} (hP : Xa.clamp pp 0 64 = (P : Int)) (x : Int × Int × List Int) : dueB h (min pp 64) x = dueB h (P : Int) x := by
  unfold dueB
  by_cases h0 : 0 ≤ x.2.1
  · have : decide (x.2.1 < min pp 64) = decide (x.2.1 < (P : Int)) := by
      rw [decide_eq_decide]
      unfold Xa.clamp at hP
      split at hP
      · omega
      · split at hP <;> omega
    rw [this]
  · simp [h0]
set_option maxHeartbeats 4000000 in
theorem rdue_any (A : Option Addr) (n c : Nat) (pt : List Int) (hr pl h pp : Int) (b : Bool) (hb : dueB h (min pp 64) (hr, pl, pt) = b) (w : World) :
    Calls Try.prog 37 #[.agg #[.int .i64 hr, .int .i64 pl, .slice A n c], .int .i64 h, .int .i64 pp] w fun e w' => e = .returned (.bool b) ∧ Below w.heap.size w w' := by
  have B0 := Lib.hid (show ∀ (o : Obj), Below w.heap.size w (w.alloc o) from fun o => (Below.refl _ _).alloc (Nat.le_refl _) _)
  subst hb
  unfold dueB
  by_cases d1 : hr ≤ h
  case neg =>
    have t1 : decide (hr ≤ h) = false := decide_eq_false d1
    go_enter Try.func37, Try.ntmps37
    go_wp2_with fail
    go_ret
    exact ⟨by simp [t1], B0.out _⟩
  have t1 : decide (hr ≤ h) = true := decide_eq_true d1
  by_cases d2 : 0 ≤ pl
  case neg =>
    have t2 : decide (0 ≤ pl) = false := decide_eq_false d2
    go_enter Try.func37, Try.ntmps37
    go_wp2_with fail
    go_ret
    exact ⟨by simp [t2], B0.out _⟩
  have t2 : decide (0 ≤ pl) = true := decide_eq_true d2
  go_enter Try.func37, Try.ntmps37
  go_wp2_with fail
  go_ret
  exact ⟨by simp [t1, t2], B0.out _⟩

theorem own_form {w : World} {B : Nat} {e : TypeId} {size : Nat} {v : Value} {n : Nat} {xs : List Value} (h : w.ownsRow B e size v n xs) : ∃ A c, v = .slice A n c ∧ n ≤ c ∧ (A = none → c = 0) ∧ Rd w A xs := by
  by_cases hn : 0 < n
  · obtain ⟨g, cap, rfl, hc, _, _, _, hr⟩ := own_rd2 h hn
    exact ⟨_, cap, rfl, hc, (fun h => by cases h), hr⟩
  · have hl : xs.length = 0 := by have := h.1; rw [show n = 0 by omega] at this; omega
    have hr : ∀ A, Rd w A xs := fun A h0 => by omega
    rcases h.2 with ⟨rfl, rfl⟩ | ⟨g, cap, cur, rfl, _, _, hc, _⟩
    · exact ⟨_, _, rfl, Nat.le_refl _, fun _ => rfl, hr _⟩
    · exact ⟨_, _, rfl, hc, (fun h => by cases h), hr _⟩
/-- the rows that have arrived so far -/
structure AcM (V : World) (rows : List Rw) (v : Value) (w : World) : Prop where
  bel : Below V.heap.size V w
  top : w.ownsRow V.heap.size 29 1 v rows.length (rwCells rows)
  rows : ∀ x ∈ rows, ownI w V.heap.size x.A x.c x.part
theorem AcM.next {V : World} {rows : List Rw} {v : Value} {w w' : World} (h : AcM V rows v w) (hb : Below w.heap.size w w') : AcM V rows v w' :=
  ⟨below_next h.bel hb, own_next h.top hb, fun x hx => own_next (h.rows x hx) hb⟩
theorem AcM.app {V : World} {rows : List Rw} {v : Value} {w w' : World} (h : AcM V rows v w) {B n : Nat} {u : Value} {xs : List Value} (ho : w.ownsRow B 53 3 u n xs) (hb : V.heap.size ≤ B) (hg : w.grownBy w' u.ownBlock) : AcM V rows v w' :=
  ⟨h.bel.grown hg h.bel.size (fun k hk => Nat.le_trans hb (ho.lt k hk).1), h.top.kept hg (own_ne h.top ho (by decide)), fun x hx => (h.rows x hx).kept hg (own_ne (h.rows x hx) ho (by decide))⟩
theorem AcM.add {V : World} {rows : List Rw} {v v' : Value} {w w' : World} (h : AcM V rows v w) (x : Rw) (hx : ownI w V.heap.size x.A x.c x.part) (hg : w.grownBy w' v.ownBlock) (ho : w'.ownsRow V.heap.size 29 1 v' (rows.length + 1) (rwCells rows ++ [rwc x])) : AcM V (rows ++ [x]) v' w' :=
  ⟨h.bel.grown hg h.bel.size (fun k hk => (h.top.lt k hk).1), by rw [show rwCells (rows ++ [x]) = rwCells rows ++ [rwc x] by simp [rwCells], List.length_append]; exact ho, fun y hy => by
    rcases List.mem_append.1 hy with h1 | h1
    · exact (h.rows y h1).kept hg (own_ne (h.rows y h1) h.top (by decide))
    · rw [List.mem_singleton.1 h1]; exact hx.kept hg (own_ne hx h.top (by decide))⟩
theorem rwCells_one (l : List Rw) : ∀ u ∈ rwCells l, u.oneCell' = true := fun u hu => by
  obtain ⟨x, _, rfl⟩ := List.mem_map.1 hu; rfl

def RdA (V : World) (O P : Nat) (h : Int) (K : List (Int × Int × List Int)) (s10 s12 : Value) (wr : World) : Prop :=
  ∃ (p : Nat) (rows : List Rw), p ≤ P ∧ s12 = .int .i64 (p : Int) ∧ rows.length = p ∧ AcM V rows s10 wr ∧ parts rows = (List.range p).map (fun pl => rowK O h (P : Int) pl K)
def RdB (V : World) (O P : Nat) (h : Int) (p : Nat) (l : List Ld) (rows : List Rw) (v10 : Value) (s13 s14 : Value) (wr : World) : Prop :=
  ∃ (k n : Nat), k ≤ l.length ∧ s14 = .int .i64 (k : Int) ∧ n = (rowK O h (P : Int) p (keys (l.take k))).length ∧ wr.ownsRow V.heap.size 3 1 s13 n (ints (rowK O h (P : Int) p (keys (l.take k)))) ∧ AcM V rows v10 wr
def RdC (V : World) (P : Nat) (h : Int) (l : List Ld) (rows : List Rw) (v10 : Value) (s11 s15 : Value) (wr : World) : Prop :=
  ∃ (k : Nat) (m : List Ld), k ≤ l.length ∧ s15 = .int .i64 (k : Int) ∧ keys m = restK h (P : Int) (keys (l.take k)) ∧ (∀ x ∈ m, x ∈ l) ∧ wr.ownsRow V.heap.size 53 3 s11 m.length (ldCells m) ∧ AcM V rows v10 wr

set_option maxHeartbeats 16000000 in
set_option maxRecDepth 100000 in
theorem refdue_any (A : Option Addr) (c : Nat) (l : List Ld) (h pp oo : Int) (hln : l.length ≤ 1000) (hpn : ∀ x ∈ l, x.part.length ≤ 1000) (hok : QOk l)
    (P O : Nat) (hP : Xa.clamp pp 0 64 = (P : Int)) (hO : Xa.clamp oo 0 16 = (O : Int)) (w : World) (hq : Qu w A l) :
    Calls Try.prog 18 #[.slice A l.length c, .int .i64 h, .int .i64 pp, .int .i64 oo] w (DuePost O P h (P : Int) (keys l) w) := by
  obtain ⟨i0, hi0, hz0, hz1, hz2⟩ := info_parts info_int2
  obtain ⟨i1, hj0, hj1, hj2, hj3⟩ := info_parts info_ints
  obtain ⟨i2, hk0, hk1, hk2, hk3⟩ := info_parts info_load
  have hPn : P ≤ 64 := by unfold Xa.clamp at hP; split at hP <;> (try split at hP) <;> omega
  have hOn : O ≤ 16 := by unfold Xa.clamp at hO; split at hO <;> (try split at hO) <;> omega
  have INF := Lib.hid (And.intro hi0 (And.intro hz0 (And.intro hz1 (And.intro (show i0.bytes * O ≤ 281474976710656 by rw [hz2]; omega) (show O ≤ maxLen by unfold maxLen; omega)))))
  have INF1 := Lib.hid (And.intro hj0 (And.intro hj1 (And.intro hj2 hj3)))
  have INF2 := Lib.hid (And.intro hk0 (And.intro hk1 (And.intro hk2 hk3)))
  have hmo : min (max oo 0) 16 = (O : Int) := by unfold Xa.clamp at hO; split at hO <;> (try split at hO) <;> omega
  have HQ := Lib.hid hq
  have HO := Lib.hid hok
  have HPN := Lib.hid hpn
  have HPP := Lib.hid hP
  have HDM := Lib.hid (fun x => due_min (h := h) hP x)
  clear hq hok hpn hO hP hi0 hz0 hz1 hz2 hj0 hj1 hj2 hj3 hk0 hk1 hk2 hk3
  go_enter Try.func18, Try.ntmps18
  go_wp2_with fail
  go_loopw [10, 12] (fun s10 s12 wr => RdA w O P h (keys l) s10 s12 wr) (fun _ i _ => P - (intOf i).toNat)
  case atStart => exact ⟨0, [], by omega, rfl, rfl, ⟨Below.refl _ _, World.ownsRow_nil _ _ _ _, fun x hx => by cases hx⟩, rfl⟩
  case round =>
    obtain ⟨p, rows, hp, rfl, hrl, hM, hR⟩ := hrel
    by_cases hlt : p < P
    · have q1 : (p : Int) < pp := by have := HPP.out; unfold Xa.clamp at this; split at this <;> (try split at this) <;> omega
      have t1 : decide ((p : Int) < pp) = true := decide_eq_true q1
      have t2 : decide ((p : Int) < 64) = true := decide_eq_true (by omega)
      have HM := Lib.hid hM
      have HR := Lib.hid (And.intro hrl hR)
      clear hM hR hrl q1
      go_upto_region 6 with fail
      go_wp2_with (first | (at_make; refine wpList_make_full _ rfl _ _ 29 rfl wr.heap.size 3 i0 (.int .i64 0) 1 Try.underlying29 INF.out.1 INF.out.2.1 INF.out.2.2.1 _ _ _ _ O (by rfl) (by rfl) (by rfl) (by rfl) INF.out.2.2.2.1 INF.out.2.2.2.2 (Nat.le_refl _) ?_))
      intro w2 hown2 hg2
      have hb2 : Below wr.heap.size wr w2 := below_grown (Below.refl _ _) hg2 (fun k hk => by cases hk)
      have hI := (ir_made2 hown2).base HM.out.bel.size
      have HM2 := Lib.hid (HM.out.next hb2)
      have HI := Lib.hid hI
      clear hown2 hg2 hb2 hI
      go_wp2_with fail
      have HPL := Lib.hid hlt
      obtain ⟨wo, hwo⟩ : ∃ wo : World, wo = wr := ⟨_, rfl⟩
      rw [← hwo] at HI ⊢
      clear hwo
      go_loopw [13, 14] (fun s13 s14 wr => RdB w O P h p l rows u10 s13 s14 wr) (fun _ i _ => l.length - (intOf i).toNat)
      case atStart => exact ⟨0, O, by omega, rfl, (gl_length _ _).symm, HI.out, HM2.out⟩
      case round =>
        clear HI HM2 HM
        obtain ⟨k, n, hk, rfl, hn, hown, hM⟩ := hrel
        obtain ⟨SA, sc, rfl, _, _, hsr⟩ := own_form hown
        by_cases hlk : k < l.length
        · have i4 : decide ((k : Int) < (l.length : Int)) = true := decide_eq_true (by omega)
          have j1 : (0 : Int) ≤ (k : Int) := by omega
          have j2 : (k : Int) < (l.length : Int) := by omega
          obtain ⟨ad, rfl, hadb, e1, e2, e3, e4⟩ := (HQ.out.below (Nat.le_refl _) hM.bel).at hlk
          have HF := Lib.hid (And.intro (HO.out _ (List.getElem_mem hlk)) (HPN.out _ (List.getElem_mem hlk)))
          have HKK := Lib.hid (keys_take hlk)
          have hkey : (l[k]).key = ((l[k]).hr, (l[k]).pl, (l[k]).part) := rfl
          rw [hkey] at HKK
          clear hkey
          obtain ⟨hr, hhr⟩ : ∃ x, (l[k]).hr = x := ⟨_, rfl⟩
          obtain ⟨pl, hpl⟩ : ∃ x, (l[k]).pl = x := ⟨_, rfl⟩
          obtain ⟨pt, hpt⟩ : ∃ x, (l[k]).part = x := ⟨_, rfl⟩
          obtain ⟨PA, hPA⟩ : ∃ x, (l[k]).A = x := ⟨_, rfl⟩
          obtain ⟨pc, hpc⟩ : ∃ x, (l[k]).c = x := ⟨_, rfl⟩
          obtain ⟨⟨⟨_, _, _, f4⟩, _⟩, f6⟩ := HF.out
          rw [hhr] at e1 HKK
          rw [hpl] at e2 HKK
          rw [hpt, hPA, hpc] at e3
          rw [hpt, hPA] at e4
          rw [hpt] at HKK f4 f6
          have HF4 := Lib.hid (And.intro f4 f6)
          have HSN := Lib.hid (rowK_snoc O h (P : Int) p (keys (l.take k)) (hr, pl, pt))
          rw [← HKK.out] at HSN
          have hrl : (rowK O h (P : Int) p (keys (l.take k))).length ≤ 1000 := rowK_len (by omega) _ fun x hx => by
            obtain ⟨y, hy, rfl⟩ := List.mem_map.1 hx
            exact HPN.out y (List.mem_of_mem_take hy)
          have hfit := rowK_fit (O := O) (h := h) (p := (P : Int)) (pl := p) (keys (l.take k))
          obtain ⟨s, hs⟩ : ∃ s, rowK O h (P : Int) p (keys (l.take k)) = s := ⟨_, rfl⟩
          rw [hs] at HSN hrl hn hown hsr hfit
          have HS := Lib.hid (And.intro hn (And.intro hrl (And.intro hfit (And.intro hown hsr))))
          have HM := Lib.hid hM
          have HE := Lib.hid e4
          clear hhr hpl hpt hPA hpc f4 f6 hs hn hrl hown hsr hM e4 hfit HF hadb
          by_cases d0 : pl = (p : Int)
          case neg =>
            have t0 : (pl == (p : Int)) = false := beq_eq_false_iff_ne.2 d0
            have t0' : decide (pl = (p : Int)) = false := decide_eq_false d0
            have HX := Lib.hid (show rowK O h (P : Int) p (keys (l.take (k + 1))) = s by rw [HSN.out, if_neg (fun hh => d0 hh.2)])
            clear d0
            go_wp2_with fail
            go_roundw
            case rel => exact ⟨k + 1, n, by omega, by go_num, by rw [HX.out]; exact HS.out.1, by rw [HX.out]; exact HS.out.2.2.2.1, HM.out⟩
            case measure => simp [intOf]; omega
          subst d0
          obtain ⟨b, hb⟩ : ∃ b, dueB h (min pp 64) (hr, (p : Int), pt) = b := ⟨_, rfl⟩
          have HD := Lib.hid (rdue_any PA pt.length pc pt hr (p : Int) h pp b hb wr)
          have hb' : dueB h (P : Int) (hr, (p : Int), pt) = b := by rw [← HDM.out]; exact hb
          have HBB := Lib.hid hb'
          clear hb hb'
          cases b
          · have HX := Lib.hid (show rowK O h (P : Int) p (keys (l.take (k + 1))) = s by rw [HSN.out, if_neg (fun hh => by rw [HBB.out] at hh; exact absurd hh.1 Bool.false_ne_true)])
            go_wp2_with fail
            refine HD.out.mono ?_
            rintro e w3 ⟨rfl, hb3⟩
            have HB3 := Lib.hid hb3
            clear hb3
            go_wp2_with fail
            go_roundw
            case rel => exact ⟨k + 1, n, by omega, by go_num, by rw [HX.out]; exact HS.out.1, by rw [HX.out]; exact own_next HS.out.2.2.2.1 HB3.out, HM.out.next HB3.out⟩
            case measure => simp [intOf]; omega
          · have HX := Lib.hid (show rowK O h (P : Int) p (keys (l.take (k + 1))) = addV s pt by rw [HSN.out, if_pos ⟨HBB.out, rfl⟩])
            have HAD := Lib.hid (fun (u : World) (hu : Below wr.heap.size wr u) => refpadd_any SA PA sc pc s pt n pt.length (max n pt.length) HS.out.1.symm rfl rfl (by have := HS.out.1; have := HS.out.2.1; have := HF4.out.2; omega) (fun i _ => HS.out.2.2.1 i) HF4.out.1 u (HS.out.2.2.2.2.below (Nat.le_refl _) hu) (HE.out.below (Nat.le_refl _) hu))
            go_upto_region 11 with (first | (go_at_call 37; (with_reducible refine HD.out.mono ?_); rintro e w3 ⟨rfl, hb3⟩))
            have e3' := (hb3.cell (World.block_lt_of_cell? _ _ e3)).trans e3
            have HB3 := Lib.hid hb3
            clear hb3 e1 e2 e3
            go_wp2_with fail
            refine (HAD.out _ HB3.out).mono ?_
            rintro e w4 ⟨v, rfl, hown4, hb4⟩
            have HB4 := Lib.hid (below_next HB3.out hb4)
            have HO4 := Lib.hid (own_base hown4 (Nat.le_trans HM.out.bel.size HB3.out.size))
            clear hown4 hb4 e3'
            go_wp2_with fail
            go_roundw
            case rel => exact ⟨k + 1, max n pt.length, by omega, by go_num, by rw [HX.out, addV_length, ← HS.out.1], by rw [HX.out]; unfold addV; rw [← HS.out.1]; exact HO4.out, HM.out.next HB4.out⟩
            case measure => simp [intOf]; omega
        · have i4 : decide ((k : Int) < (l.length : Int)) = false := decide_eq_false (by omega)
          obtain rfl : k = l.length := by omega
          rw [List.take_length] at hn hown
          have hml : rows.length + 1 ≤ maxLen ∧ (rows.length + 1) * 24 ≤ 140737488355328 := by rw [HR.out.1]; unfold maxLen; constructor <;> omega
          have HML := Lib.hid hml
          have HOW := Lib.hid (And.intro hn hown)
          have HM := Lib.hid hM
          clear hn hown hM hml hsr
          go_upto_region 12 with fail
          go_wp2_with (first | (at_builtin; refine wpList_append_lies _ rfl (.tmp 58) (.tmp 60) _ (by rfl) w.heap.size 29 i1 _ 1 24 Try.underlying44 INF1.out.1 INF1.out.2.1 INF1.out.2.2.1 INF1.out.2.2.2 rfl (by omega) _ rows.length (rwCells rows) (by rfl) (HM.out.top.alloc _) ⟨wr.heap.size, 0, none⟩ 1 1 [.slice SA n sc] (by rfl) (by rfl) (World.news_of_block (heap_alloc_new _ _)) (by simp [Value.oneCell']) (by omega) HML.out.1 HML.out.2 (by have := HM.out.bel.size; simp; omega) (wr.heap.size + 1) (by simp) ?_))
          intro g cap w5 hown5 hgrow hat hlg
          have hM5 := (HM.out.next (bel_alloc (Below.refl _ _) (.cells #[.slice SA n sc] 29))).add ⟨SA, sc, rowK O h (P : Int) p (keys l)⟩ (by show World.ownsRow _ _ _ _ (.slice SA (rowK O h (P : Int) p (keys l)).length sc) _ _; rw [← HOW.out.1]; exact own_next HOW.out.2 (bel_alloc (Below.refl _ _) _)) hgrow (by simp only [rwc]; rw [← HOW.out.1]; exact hown5)
          have HM5 := Lib.hid hM5
          have HRN := Lib.hid (show parts (rows ++ [⟨SA, sc, rowK O h (P : Int) p (keys l)⟩]) = (List.range (p + 1)).map (fun pl => rowK O h (P : Int) pl (keys l)) by
            rw [List.range_succ, List.map_append, ← HR.out.2]; simp [parts])
          clear hown5 hgrow hat hlg hM5
          go_wp2_with fail
          go_roundw
          case rel => exact ⟨p + 1, _, by have := HPL.out; omega, by go_num, by rw [List.length_append, HR.out.1]; rfl, by have := HM5.out; simpa using this, HRN.out⟩
          case measure => have := HPL.out; simp [intOf]; omega
    · obtain rfl : p = P := by omega
      have HM := Lib.hid hM
      have HR := Lib.hid (And.intro hrl hR)
      clear hM hR
      have hway : (¬ (p : Int) < pp) ∨ ((p : Int) < pp ∧ ¬ (p : Int) < 64) := by
        have := HPP.out
        by_cases q : (p : Int) < pp
        · right
          refine ⟨q, fun h64 => ?_⟩
          unfold Xa.clamp at this
          split at this <;> (try split at this) <;> omega
        · exact .inl q
      rcases hway with q | ⟨q, q2⟩
      · have t1 : decide ((p : Int) < pp) = false := decide_eq_false q
        clear q
        go_wp2_with fail
        go_loopw [11, 15] (fun s11 s15 wr => RdC w p h l rows u10 s11 s15 wr) (fun _ i _ => l.length - (intOf i).toNat)
        case atStart => exact ⟨0, [], by omega, rfl, rfl, (fun x hx => by cases hx), World.ownsRow_nil _ _ _ _, HM.out⟩
        case round =>
          clear HM
          obtain ⟨k, m, hk, rfl, hK, hmm, hown, hM⟩ := hrel
          by_cases hlk : k < l.length
          · have i4 : decide ((k : Int) < (l.length : Int)) = true := decide_eq_true (by omega)
            have j1 : (0 : Int) ≤ (k : Int) := by omega
            have j2 : (k : Int) < (l.length : Int) := by omega
            obtain ⟨ad, rfl, hadb, e1, e2, e3, e4⟩ := (HQ.out.below (Nat.le_refl _) hM.bel).at hlk
            have HKK := Lib.hid (keys_take hlk)
            have hkey : (l[k]).key = ((l[k]).hr, (l[k]).pl, (l[k]).part) := rfl
            rw [hkey] at HKK
            have HIN := Lib.hid (List.getElem_mem hlk)
            have hld : ldc l[k] = [.int .i64 (l[k]).hr, .int .i64 (l[k]).pl, .slice (l[k]).A (l[k]).part.length (l[k]).c] := rfl
            have HLD := Lib.hid (And.intro hld hkey)
            obtain ⟨x, hx⟩ : ∃ x, l[k] = x := ⟨_, rfl⟩
            rw [hx] at HKK HIN HLD e1 e2 e3
            obtain ⟨hr, hhr⟩ : ∃ y, x.hr = y := ⟨_, rfl⟩
            obtain ⟨pl, hpl⟩ : ∃ y, x.pl = y := ⟨_, rfl⟩
            obtain ⟨pt, hpt⟩ : ∃ y, x.part = y := ⟨_, rfl⟩
            obtain ⟨PA, hPA⟩ : ∃ y, x.A = y := ⟨_, rfl⟩
            obtain ⟨pc, hpc⟩ : ∃ y, x.c = y := ⟨_, rfl⟩
            rw [hhr, hpl, hpt] at HKK HLD
            rw [hPA, hpc] at HLD
            rw [hhr] at e1
            rw [hpl] at e2
            rw [hpt, hPA, hpc] at e3
            have HM := Lib.hid hM
            have HK := Lib.hid (And.intro hK (And.intro hmm hown))
            have HSN := Lib.hid (restK_snoc h (p : Int) (keys (l.take k)) (hr, pl, pt))
            rw [← HKK.out] at HSN
            obtain ⟨b, hb⟩ : ∃ b, dueB h (min pp 64) (hr, pl, pt) = b := ⟨_, rfl⟩
            have HD := Lib.hid (rdue_any PA pt.length pc pt hr pl h pp b hb wr)
            have hb' : dueB h (p : Int) (hr, pl, pt) = b := by rw [← HDM.out]; exact hb
            have HBB := Lib.hid hb'
            clear hb hb' hkey hld hx hhr hpl hpt hPA hpc hM hK hmm hown e4 hadb
            cases b
            · have hml : m.length + 1 ≤ maxLen ∧ (m.length + 1) * 40 ≤ 140737488355328 := by
                have e : (keys m).length ≤ (keys (l.take k)).length := by rw [HK.out.1]; exact restK_le _ _ _
                rw [keys_length, keys_length, List.length_take] at e
                unfold maxLen; constructor <;> omega
              have HML := Lib.hid hml
              clear hml
              go_upto_region 17 with (first | (go_at_call 37; (with_reducible refine HD.out.mono ?_); rintro e w3 ⟨rfl, hb3⟩))
              have g1 := (hb3.cell (World.block_lt_of_cell? _ _ e1)).trans e1
              have g2 := (hb3.cell (World.block_lt_of_cell? _ _ e2)).trans e2
              have g3 := (hb3.cell (World.block_lt_of_cell? _ _ e3)).trans e3
              have HM3 := Lib.hid (HM.out.next hb3)
              have HO3 := Lib.hid (own_next HK.out.2.2 hb3)
              clear hb3 e1 e2 e3
              go_wp2_with (first | (at_builtin; refine wpList_append_lies _ rfl (.tmp 76) (.tmp 81) _ (by rfl) w.heap.size 53 i2 _ 3 40 Try.underlying32 INF2.out.1 INF2.out.2.1 INF2.out.2.2.1 INF2.out.2.2.2 rfl (by omega) _ m.length (ldCells m) (by rfl) (HO3.out.alloc _) ⟨w3.heap.size, 0, none⟩ 1 1 [.int .i64 hr, .int .i64 pl, .slice PA pt.length pc] (by rfl) (by rfl) (World.news_of_block (heap_alloc_new _ _)) (by simp [Value.oneCell']) (by omega) HML.out.1 HML.out.2 (by have := HM3.out.bel.size; simp; omega) (w3.heap.size + 1) (by simp) ?_))
              intro g cap w5 hown5 hgrow hat hlg
              have hM5 := (HM3.out.next (bel_alloc (Below.refl _ _) (.cells #[.int .i64 hr, .int .i64 pl, .slice PA pt.length pc] 53))).app (HO3.out.alloc _) (Nat.le_refl _) hgrow
              have ho5 : w5.ownsRow w.heap.size 53 3 (.slice (some ⟨g, 0, none⟩) (m.length + 1) cap) (m ++ [x]).length (ldCells (m ++ [x])) := by rw [ldCells_snoc, HLD.out.1, List.length_append]; exact hown5
              have hkn : keys (m ++ [x]) = restK h (p : Int) (keys (l.take (k + 1))) := by rw [HSN.out, HBB.out, if_neg Bool.false_ne_true, keys_snoc, HLD.out.2, HK.out.1]
              have hin : ∀ y ∈ m ++ [x], y ∈ l := fun y hy => by
                rcases List.mem_append.1 hy with h1 | h1
                · exact HK.out.2.1 y h1
                · rw [List.mem_singleton.1 h1]; exact HIN.out
              have HX := Lib.hid (And.intro hkn (And.intro hin (And.intro ho5 hM5)))
              clear hown5 hgrow hat hlg hM5 ho5 hkn hin g1 g2 g3
              go_wp2_with fail
              go_roundw
              case rel => exact ⟨k + 1, _, by omega, by go_num, HX.out⟩
              case measure => simp [intOf]; omega
            · go_wp2_with (first | (go_at_call 37; (with_reducible refine HD.out.mono ?_); rintro e w3 ⟨rfl, hb3⟩))
              have HX := Lib.hid (show keys m = restK h (p : Int) (keys (l.take (k + 1))) by rw [HSN.out, if_pos HBB.out]; exact HK.out.1)
              have HB3 := Lib.hid hb3
              clear hb3
              go_roundw
              case rel => exact ⟨k + 1, m, by omega, by go_num, HX.out, HK.out.2.1, own_next HK.out.2.2 HB3.out, HM.out.next HB3.out⟩
              case measure => simp [intOf]; omega
          · have i4 : decide ((k : Int) < (l.length : Int)) = false := decide_eq_false (by omega)
            obtain rfl : k = l.length := by omega
            rw [List.take_length] at hK
            obtain ⟨B, d, rfl, hd1, hd0, hrd⟩ := own_form hown
            have ht := hM.top
            obtain ⟨C, f, rfl, hc1, hc0, hrc⟩ := own_form ht
            rw [HR.out.1] at hc1 ⊢
            have HX := Lib.hid (show DuePost O p h (p : Int) (keys l) w (.returned (.tuple #[.slice C p f, .slice B m.length d])) wr from
              ⟨_, _, _, _, rows, m, rfl, hc1, HR.out.2, hK, fun x hx => HO.out x (hmm x hx), hd0, hd1, fun x hx => (hM.rows x hx).cap, ⟨hrc, fun x hx => (hM.rows x hx).rd⟩, ⟨hrd, fun x hx => (HQ.out.parts x (hmm x hx)).below (Nat.le_refl _) hM.bel⟩, hM.bel⟩)
            clear hM hK hmm hown hd1 hd0 hrd ht hc1 hc0 hrc
            go_wp2_with fail
            go_ret2
            exact HX.out
      · have t1 : decide ((p : Int) < pp) = true := decide_eq_true q
        have t2 : decide ((p : Int) < 64) = false := decide_eq_false q2
        clear q q2
        go_wp2_with fail
        go_loopw [11, 15] (fun s11 s15 wr => RdC w p h l rows u10 s11 s15 wr) (fun _ i _ => l.length - (intOf i).toNat)
        case atStart => exact ⟨0, [], by omega, rfl, rfl, (fun x hx => by cases hx), World.ownsRow_nil _ _ _ _, HM.out⟩
        case round =>
          clear HM
          obtain ⟨k, m, hk, rfl, hK, hmm, hown, hM⟩ := hrel
          by_cases hlk : k < l.length
          · have i4 : decide ((k : Int) < (l.length : Int)) = true := decide_eq_true (by omega)
            have j1 : (0 : Int) ≤ (k : Int) := by omega
            have j2 : (k : Int) < (l.length : Int) := by omega
            obtain ⟨ad, rfl, hadb, e1, e2, e3, e4⟩ := (HQ.out.below (Nat.le_refl _) hM.bel).at hlk
            have HKK := Lib.hid (keys_take hlk)
            have hkey : (l[k]).key = ((l[k]).hr, (l[k]).pl, (l[k]).part) := rfl
            rw [hkey] at HKK
            have HIN := Lib.hid (List.getElem_mem hlk)
            have hld : ldc l[k] = [.int .i64 (l[k]).hr, .int .i64 (l[k]).pl, .slice (l[k]).A (l[k]).part.length (l[k]).c] := rfl
            have HLD := Lib.hid (And.intro hld hkey)
            obtain ⟨x, hx⟩ : ∃ x, l[k] = x := ⟨_, rfl⟩
            rw [hx] at HKK HIN HLD e1 e2 e3
            obtain ⟨hr, hhr⟩ : ∃ y, x.hr = y := ⟨_, rfl⟩
            obtain ⟨pl, hpl⟩ : ∃ y, x.pl = y := ⟨_, rfl⟩
            obtain ⟨pt, hpt⟩ : ∃ y, x.part = y := ⟨_, rfl⟩
            obtain ⟨PA, hPA⟩ : ∃ y, x.A = y := ⟨_, rfl⟩
            obtain ⟨pc, hpc⟩ : ∃ y, x.c = y := ⟨_, rfl⟩
            rw [hhr, hpl, hpt] at HKK HLD
            rw [hPA, hpc] at HLD
            rw [hhr] at e1
            rw [hpl] at e2
            rw [hpt, hPA, hpc] at e3
            have HM := Lib.hid hM
            have HK := Lib.hid (And.intro hK (And.intro hmm hown))
            have HSN := Lib.hid (restK_snoc h (p : Int) (keys (l.take k)) (hr, pl, pt))
            rw [← HKK.out] at HSN
            obtain ⟨b, hb⟩ : ∃ b, dueB h (min pp 64) (hr, pl, pt) = b := ⟨_, rfl⟩
            have HD := Lib.hid (rdue_any PA pt.length pc pt hr pl h pp b hb wr)
            have hb' : dueB h (p : Int) (hr, pl, pt) = b := by rw [← HDM.out]; exact hb
            have HBB := Lib.hid hb'
            clear hb hb' hkey hld hx hhr hpl hpt hPA hpc hM hK hmm hown e4 hadb
            cases b
            · have hml : m.length + 1 ≤ maxLen ∧ (m.length + 1) * 40 ≤ 140737488355328 := by
                have e : (keys m).length ≤ (keys (l.take k)).length := by rw [HK.out.1]; exact restK_le _ _ _
                rw [keys_length, keys_length, List.length_take] at e
                unfold maxLen; constructor <;> omega
              have HML := Lib.hid hml
              clear hml
              go_upto_region 17 with (first | (go_at_call 37; (with_reducible refine HD.out.mono ?_); rintro e w3 ⟨rfl, hb3⟩))
              have g1 := (hb3.cell (World.block_lt_of_cell? _ _ e1)).trans e1
              have g2 := (hb3.cell (World.block_lt_of_cell? _ _ e2)).trans e2
              have g3 := (hb3.cell (World.block_lt_of_cell? _ _ e3)).trans e3
              have HM3 := Lib.hid (HM.out.next hb3)
              have HO3 := Lib.hid (own_next HK.out.2.2 hb3)
              clear hb3 e1 e2 e3
              go_wp2_with (first | (at_builtin; refine wpList_append_lies _ rfl (.tmp 76) (.tmp 81) _ (by rfl) w.heap.size 53 i2 _ 3 40 Try.underlying32 INF2.out.1 INF2.out.2.1 INF2.out.2.2.1 INF2.out.2.2.2 rfl (by omega) _ m.length (ldCells m) (by rfl) (HO3.out.alloc _) ⟨w3.heap.size, 0, none⟩ 1 1 [.int .i64 hr, .int .i64 pl, .slice PA pt.length pc] (by rfl) (by rfl) (World.news_of_block (heap_alloc_new _ _)) (by simp [Value.oneCell']) (by omega) HML.out.1 HML.out.2 (by have := HM3.out.bel.size; simp; omega) (w3.heap.size + 1) (by simp) ?_))
              intro g cap w5 hown5 hgrow hat hlg
              have hM5 := (HM3.out.next (bel_alloc (Below.refl _ _) (.cells #[.int .i64 hr, .int .i64 pl, .slice PA pt.length pc] 53))).app (HO3.out.alloc _) (Nat.le_refl _) hgrow
              have ho5 : w5.ownsRow w.heap.size 53 3 (.slice (some ⟨g, 0, none⟩) (m.length + 1) cap) (m ++ [x]).length (ldCells (m ++ [x])) := by rw [ldCells_snoc, HLD.out.1, List.length_append]; exact hown5
              have hkn : keys (m ++ [x]) = restK h (p : Int) (keys (l.take (k + 1))) := by rw [HSN.out, HBB.out, if_neg Bool.false_ne_true, keys_snoc, HLD.out.2, HK.out.1]
              have hin : ∀ y ∈ m ++ [x], y ∈ l := fun y hy => by
                rcases List.mem_append.1 hy with h1 | h1
                · exact HK.out.2.1 y h1
                · rw [List.mem_singleton.1 h1]; exact HIN.out
              have HX := Lib.hid (And.intro hkn (And.intro hin (And.intro ho5 hM5)))
              clear hown5 hgrow hat hlg hM5 ho5 hkn hin g1 g2 g3
              go_wp2_with fail
              go_roundw
              case rel => exact ⟨k + 1, _, by omega, by go_num, HX.out⟩
              case measure => simp [intOf]; omega
            · go_wp2_with (first | (go_at_call 37; (with_reducible refine HD.out.mono ?_); rintro e w3 ⟨rfl, hb3⟩))
              have HX := Lib.hid (show keys m = restK h (p : Int) (keys (l.take (k + 1))) by rw [HSN.out, if_pos HBB.out]; exact HK.out.1)
              have HB3 := Lib.hid hb3
              clear hb3
              go_roundw
              case rel => exact ⟨k + 1, m, by omega, by go_num, HX.out, HK.out.2.1, own_next HK.out.2.2 HB3.out, HM.out.next HB3.out⟩
              case measure => simp [intOf]; omega
          · have i4 : decide ((k : Int) < (l.length : Int)) = false := decide_eq_false (by omega)
            obtain rfl : k = l.length := by omega
            rw [List.take_length] at hK
            obtain ⟨B, d, rfl, hd1, hd0, hrd⟩ := own_form hown
            have ht := hM.top
            obtain ⟨C, f, rfl, hc1, hc0, hrc⟩ := own_form ht
            rw [HR.out.1] at hc1 ⊢
            have HX := Lib.hid (show DuePost O p h (p : Int) (keys l) w (.returned (.tuple #[.slice C p f, .slice B m.length d])) wr from
              ⟨_, _, _, _, rows, m, rfl, hc1, HR.out.2, hK, fun x hx => HO.out x (hmm x hx), hd0, hd1, fun x hx => (hM.rows x hx).cap, ⟨hrc, fun x hx => (hM.rows x hx).rd⟩, ⟨hrd, fun x hx => (HQ.out.parts x (hmm x hx)).below (Nat.le_refl _) hM.bel⟩, hM.bel⟩)
            clear hM hK hmm hown hd1 hd0 hrd ht hc1 hc0 hrc
            go_wp2_with fail
            go_ret2
            exact HX.out

end Go.Proofs.Ythbjechgdjcogaa
