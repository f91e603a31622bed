/- reach.Under and its reference. -/
import Derived.Test.YthbjechgdjcogaaDue
import Derived.Test.YthbjechgdjcogaaPoolR
namespace Go.Proofs.Ythbjechgdjcogaa
open Go.RowKit
set_option linter.unusedVariables false
set_option linter.unusedSimpArgs false

/-- a place, as its cells lie in memory -/
structure Pl where
  a0 : Value
  a1 : Value
  office : Int
  a3 : Value
  a4 : Value
  a5 : Value
  num : Int
  den : Int
  a8 : Value
  a9 : Value
  a10 : Value
  a11 : Value
def plc (x : Pl) : List Value := [x.a0, x.a1, .int .i64 x.office, x.a3, x.a4, x.a5, .int .i64 x.num, .int .i64 x.den, x.a8, x.a9, x.a10, x.a11]
theorem plc_length (x : Pl) : (plc x).length = 12 := rfl
def plCells (l : List Pl) : List Value := l.flatMap plc
theorem plCells_length (l : List Pl) : (plCells l).length = l.length * 12 := flat_length plc 12 plc_length l
def offs (l : List Pl) : List Int := l.map Pl.office
theorem offs_length (l : List Pl) : (offs l).length = l.length := by simp [offs]
theorem rd_office {w : World} {A : Option Addr} {l : List Pl} (h : Rd w A (plCells l)) {k : Nat} (hk : k < l.length) :
    ∃ ad, A = some ad ∧ ad.block < w.heap.size ∧ w.cell? ⟨(ad.add (k * 12)).block, (ad.add (k * 12)).off + 2, none⟩ = some (.int .i64 (gi (offs l) k)) := by
  obtain ⟨ad, e, hb, hc⟩ := h (by rw [plCells_length]; omega)
  have h2 := flat_at plc 12 plc_length l k 2 hk (by omega)
  refine ⟨ad, e, hb, ?_⟩
  rw [add_mid _ _ _ (by omega)]
  have e2 : gi (offs l) k = (l[k]).office := by simp [gi, offs, List.getD, hk]
  rw [e2]
  exact hc _ _ h2

/-! what it computes -/
def toOff (os : List Int) (o : Int) (pl : Int) : Prop := 0 ≤ pl ∧ pl < (os.length : Int) ∧ gi os pl.toNat = o
instance (os : List Int) (o pl : Int) : Decidable (toOff os o pl) := by unfold toOff; exact inferInstance
def undK (os : List Int) (o : Int) (K : List (Int × Int × List Int)) : Int := K.foldl (fun s x => if toOff os o x.2.1 then Xa.add s (tot x.2.2 x.2.2.length) else s) 0
theorem undK_snoc (os : List Int) (o : Int) (K : List (Int × Int × List Int)) (x : Int × Int × List Int) : undK os o (K ++ [x]) = if toOff os o x.2.1 then Xa.add (undK os o K) (tot x.2.2 x.2.2.length) else undK os o K := by
  unfold undK
  rw [List.foldl_append]; rfl
theorem undK_fit (os : List Int) (o : Int) (K : List (Int × Int × List Int)) : Fit (undK os o K) := by
  refine list_snoc (R := fun K => Fit (undK os o K)) (by unfold undK Fit; simp) (fun l x ih => ?_) K
  rw [undK_snoc]
  split
  · exact Xa.add_bd _ _
  · exact ih
def UnR (V : World) (os : List Int) (o : Int) (l : List Ld) (s7 s12 : Value) (wr : World) : Prop := ∃ k : Nat, k ≤ l.length ∧ s12 = .int .i64 (k : Int) ∧ s7 = .int .i64 (undK os o (keys (l.take k))) ∧ ∃ y : BelW V, wr = y.w

set_option maxHeartbeats 16000000 in
set_option maxRecDepth 100000 in
theorem under_any (A B : Option Addr) (c cb : Nat) (l : List Ld) (ps : List Pl) (b0 b1 b2 b4 b5 b6 b7 b8 b9 b10 : Value) (o : Int) (hln : l.length ≤ 1000) (hpn : ps.length ≤ 9223372036854775807) (hlp : ∀ x ∈ l, x.part.length ≤ 1000) (hok : QOk l) (w : World) (hq : Qu w A l) (hp : Rd w B (plCells ps)) :
    Calls Try.prog 15 #[.slice A l.length c, .agg #[b0, b1, b2, .slice B ps.length cb, b4, b5, b6, b7, b8, b9, b10], .int .i64 o] w fun e w' => e = .returned (.int .i64 (undK (offs ps) o (keys l))) ∧ Below w.heap.size w w' := by
  go_enter Try.func15, Try.ntmps15
  go_upto_region 1 with fail
  refine wp_rebase _ (fun V hV x0 => ?_)
  have HB0 := Lib.hid (show Below w.heap.size w V by rw [hV]; exact bel_alloc (Below.refl _ _) _)
  have cb3 : V.cell? ⟨w.heap.size, 3, none⟩ = some (.slice B ps.length cb) := by rw [hV, World.cell?_alloc_at _ _ _ _ rfl]; rfl
  have HQ := Lib.hid (hq.below (Nat.le_refl _) HB0.out)
  have HP := Lib.hid (hp.below (Nat.le_refl _) HB0.out)
  have HO := Lib.hid hok
  have HL := Lib.hid hlp
  have HCB := Lib.hid cb3
  clear hV hq hp hok hlp cb3
  go_wp2_with fail
  go_loopw [7, 12] (fun s7 s12 wr => UnR V (offs ps) o l s7 s12 wr) (fun _ i _ => l.length - (intOf i).toNat)
  case atStart => exact ⟨0, by omega, rfl, rfl, x0, rfl⟩
  case round =>
    obtain ⟨k, hk, rfl, rfl, y, rfl⟩ := hrel
    by_cases hlt : k < l.length
    · have i4 : decide ((k : Int) < (l.length : Int)) = true := decide_eq_true (by omega)
      have j1 : (0 : Int) ≤ (k : Int) := by omega
      have j2 : (k : Int) < (l.length : Int) := by omega
      obtain ⟨ad, rfl, hadb, e1, e2, e3, e4⟩ := (HQ.out.bel y).at hlt
      have HF := Lib.hid (And.intro (HO.out _ (List.getElem_mem hlt)) (HL.out _ (List.getElem_mem hlt)))
      have HKK := Lib.hid (keys_take hlt)
      have hkey : (l[k]).key = ((l[k]).hr, (l[k]).pl, (l[k]).part) := rfl
      rw [hkey] at HKK
      clear hkey
      obtain ⟨hr, hhr⟩ : ∃ x, (l[k]).hr = x := ⟨_, rfl⟩
      obtain ⟨pl, hpl⟩ : ∃ x, (l[k]).pl = x := ⟨_, rfl⟩
      obtain ⟨pt, hpt⟩ : ∃ x, (l[k]).part = x := ⟨_, rfl⟩
      obtain ⟨PA, hPA⟩ : ∃ x, (l[k]).A = x := ⟨_, rfl⟩
      obtain ⟨pc, hpc⟩ : ∃ x, (l[k]).c = x := ⟨_, rfl⟩
      obtain ⟨⟨⟨_, _, _, f4⟩, _⟩, f6⟩ := HF.out
      rw [hhr] at e1 HKK
      rw [hpl] at e2 HKK
      rw [hpt, hPA, hpc] at e3
      rw [hpt, hPA] at e4
      rw [hpt] at HKK f4 f6
      have hub := undK_fit (offs ps) o (keys (l.take k))
      have HSN := Lib.hid (undK_snoc (offs ps) o (keys (l.take k)) (hr, pl, pt))
      rw [← HKK.out] at HSN
      obtain ⟨S, hS⟩ : ∃ S, undK (offs ps) o (keys (l.take k)) = S := ⟨_, rfl⟩
      rw [hS] at HSN hub
      rw [hS]
      have HTo := Lib.hid (fun (u : World) (hu : Below y.w.heap.size y.w u) => total_any PA pc pt (by omega) f4 u (e4.below (Nat.le_refl _) hu))
      have f7 := tot_fit pt pt.length
      obtain ⟨T, hT⟩ : ∃ T, tot pt pt.length = T := ⟨_, rfl⟩
      rw [hT] at HTo f7
      have HSN' := Lib.hid (show undK (offs ps) o (keys (l.take (k + 1))) = if toOff (offs ps) o pl then Xa.add S T else S by rw [HSN.out, hT])
      have hst : ∀ u : World, Calls Try.prog 33 #[.int .i64 S, .int .i64 T] u fun e w' => e = .returned (.int .i64 (Xa.add S T)) ∧ u = w' := fun u => add_any S T hub.1 hub.2 f7.1 f7.2 u
      have HA := Lib.hid hst
      have cb3 := BelW.cells HCB.out y
      clear hhr hpl hpt hPA hpc f4 f6 f7 hub hS hT hst e4 HSN HF hadb
      go_upto_region 5 with fail
      refine wp_named _ (fun U hU => ?_)
      have hbU : Below y.w.heap.size y.w U := by rw [hU]; exact bel_alloc (Below.refl _ _) _
      have c1 : U.cell? ⟨y.w.heap.size, 1, none⟩ = some (.int .i64 pl) := by rw [hU, World.cell?_alloc_at _ _ _ _ rfl]; rfl
      have c2 : U.cell? ⟨y.w.heap.size, 2, none⟩ = some (.slice PA pt.length pc) := by rw [hU, World.cell?_alloc_at _ _ _ _ rfl]; rfl
      have c3 : U.cell? ⟨w.heap.size, 3, none⟩ = some (.slice B ps.length cb) := (hbU.cell (World.block_lt_of_cell? _ _ cb3)).trans cb3
      have HBU := Lib.hid hbU
      clear hU hbU e1 e2 e3
      have HNO := Lib.hid (show ¬ toOff (offs ps) o pl → UnR V (offs ps) o l (.int .i64 S) (.int .i64 ((k : Int) + 1)) U from fun hno => ⟨k + 1, by omega, by go_num, by rw [HSN'.out, if_neg hno], ⟨U, below_next y.2 HBU.out⟩, rfl⟩)
      by_cases d1 : 0 ≤ pl
      case neg =>
        have t1 : decide (0 ≤ pl) = false := decide_eq_false d1
        have HX := Lib.hid (HNO.out (fun h => d1 h.1))
        clear d1 HNO
        go_wp2_with fail
        go_roundw
        case rel => exact HX.out
        case measure => simp [intOf]; omega
      have t1 : decide (0 ≤ pl) = true := decide_eq_true d1
      obtain ⟨j, rfl⟩ := Int.eq_ofNat_of_zero_le d1
      by_cases d2 : j < ps.length
      case neg =>
        have t2 : decide ((j : Int) < (ps.length : Int)) = false := decide_eq_false (by omega)
        have HX := Lib.hid (HNO.out (fun h => d2 (by have := h.2.1; rw [offs_length] at this; omega)))
        clear d1 HNO
        go_wp2_with fail
        go_roundw
        case rel => exact HX.out
        case measure => simp [intOf]; omega
      have t2 : decide ((j : Int) < (ps.length : Int)) = true := decide_eq_true (by omega)
      have q1 : (0 : Int) ≤ (j : Int) := by omega
      have q2 : (j : Int) < (ps.length : Int) := by omega
      obtain ⟨bd, rfl, _, e5⟩ := rd_office (HP.out.below (Nat.le_refl _) (below_next y.2 HBU.out)) d2
      obtain ⟨of, hof⟩ : ∃ x, gi (offs ps) j = x := ⟨_, rfl⟩
      rw [hof] at e5
      by_cases d3 : of = o
      case neg =>
        have t3 : (of == o) = false := beq_eq_false_iff_ne.2 d3
        have t3' : decide (of = o) = false := decide_eq_false d3
        have HX := Lib.hid (HNO.out (fun h => d3 (by have := h.2.2; rw [Int.toNat_natCast, hof] at this; exact this)))
        clear d1 d3 HNO hof
        go_wp2_with fail
        go_roundw
        case rel => exact HX.out
        case measure => simp [intOf]; omega
      subst d3
      have HY := Lib.hid (show undK (offs ps) of (keys (l.take (k + 1))) = Xa.add S T by rw [HSN'.out, if_pos ⟨by omega, by rw [offs_length]; omega, by rw [Int.toNat_natCast]; exact hof⟩])
      clear d1 HNO hof
      go_upto_region 6 with fail
      go_wp2_with fail
      refine (HTo.out U HBU.out).mono ?_
      rintro e w' ⟨rfl, hb'⟩
      have HB' := Lib.hid (below_next (below_next y.2 HBU.out) hb')
      clear hb'
      go_wp2_with (first | (go_at_call 33; with_reducible refine (HA.out _).mono ?_; rintro e w'' ⟨rfl, rfl⟩))
      go_roundw
      case rel => exact ⟨k + 1, by omega, by go_num, by rw [HY.out], ⟨w', HB'.out⟩, rfl⟩
      case measure => simp [intOf]; omega
    · have i4 : decide ((k : Int) < (l.length : Int)) = false := decide_eq_false (by omega)
      obtain rfl : k = l.length := by omega
      have HX := Lib.hid (below_next HB0.out y.2)
      rw [List.take_length]
      go_wp2_with fail
      go_ret
      exact ⟨rfl, HX.out⟩

set_option maxHeartbeats 16000000 in
set_option maxRecDepth 100000 in
theorem refunder_any (A B : Option Addr) (c cb : Nat) (l : List Ld) (ps : List Pl) (b0 b1 b2 b4 b5 b6 b7 b8 b9 b10 : Value) (o : Int) (hln : l.length ≤ 1000) (hpn : ps.length ≤ 9223372036854775807) (hlp : ∀ x ∈ l, x.part.length ≤ 1000) (hok : QOk l) (w : World) (hq : Qu w A l) (hp : Rd w B (plCells ps)) :
    Calls Try.prog 16 #[.slice A l.length c, .agg #[b0, b1, b2, .slice B ps.length cb, b4, b5, b6, b7, b8, b9, b10], .int .i64 o] w fun e w' => e = .returned (.int .i64 (undK (offs ps) o (keys l))) ∧ Below w.heap.size w w' := by
  go_enter Try.func16, Try.ntmps16
  go_upto_region 1 with fail
  refine wp_rebase _ (fun V hV x0 => ?_)
  have HB0 := Lib.hid (show Below w.heap.size w V by rw [hV]; exact bel_alloc (Below.refl _ _) _)
  have cb3 : V.cell? ⟨w.heap.size, 3, none⟩ = some (.slice B ps.length cb) := by rw [hV, World.cell?_alloc_at _ _ _ _ rfl]; rfl
  have HQ := Lib.hid (hq.below (Nat.le_refl _) HB0.out)
  have HP := Lib.hid (hp.below (Nat.le_refl _) HB0.out)
  have HO := Lib.hid hok
  have HL := Lib.hid hlp
  have HCB := Lib.hid cb3
  clear hV hq hp hok hlp cb3
  go_wp2_with fail
  go_loopw [7, 8] (fun s7 s12 wr => UnR V (offs ps) o l s7 s12 wr) (fun _ i _ => l.length - (intOf i).toNat)
  case atStart => exact ⟨0, by omega, rfl, rfl, x0, rfl⟩
  case round =>
    obtain ⟨k, hk, rfl, rfl, y, rfl⟩ := hrel
    by_cases hlt : k < l.length
    · have i4 : decide ((k : Int) < (l.length : Int)) = true := decide_eq_true (by omega)
      have j1 : (0 : Int) ≤ (k : Int) := by omega
      have j2 : (k : Int) < (l.length : Int) := by omega
      obtain ⟨ad, rfl, hadb, e1, e2, e3, e4⟩ := (HQ.out.bel y).at hlt
      have HF := Lib.hid (And.intro (HO.out _ (List.getElem_mem hlt)) (HL.out _ (List.getElem_mem hlt)))
      have HKK := Lib.hid (keys_take hlt)
      have hkey : (l[k]).key = ((l[k]).hr, (l[k]).pl, (l[k]).part) := rfl
      rw [hkey] at HKK
      clear hkey
      obtain ⟨hr, hhr⟩ : ∃ x, (l[k]).hr = x := ⟨_, rfl⟩
      obtain ⟨pl, hpl⟩ : ∃ x, (l[k]).pl = x := ⟨_, rfl⟩
      obtain ⟨pt, hpt⟩ : ∃ x, (l[k]).part = x := ⟨_, rfl⟩
      obtain ⟨PA, hPA⟩ : ∃ x, (l[k]).A = x := ⟨_, rfl⟩
      obtain ⟨pc, hpc⟩ : ∃ x, (l[k]).c = x := ⟨_, rfl⟩
      obtain ⟨⟨⟨_, _, _, f4⟩, _⟩, f6⟩ := HF.out
      rw [hhr] at e1 HKK
      rw [hpl] at e2 HKK
      rw [hpt, hPA, hpc] at e3
      rw [hpt, hPA] at e4
      rw [hpt] at HKK f4 f6
      have hub := undK_fit (offs ps) o (keys (l.take k))
      have HSN := Lib.hid (undK_snoc (offs ps) o (keys (l.take k)) (hr, pl, pt))
      rw [← HKK.out] at HSN
      obtain ⟨S, hS⟩ : ∃ S, undK (offs ps) o (keys (l.take k)) = S := ⟨_, rfl⟩
      rw [hS] at HSN hub
      rw [hS]
      have HTo := Lib.hid (reftotal_any PA pc pt (by omega) f4 y.w e4)
      have f7 := tot_fit pt pt.length
      obtain ⟨T, hT⟩ : ∃ T, tot pt pt.length = T := ⟨_, rfl⟩
      rw [hT] at HTo f7
      have HSN' := Lib.hid (show undK (offs ps) o (keys (l.take (k + 1))) = if toOff (offs ps) o pl then Xa.add S T else S by rw [HSN.out, hT])
      have hst : ∀ u : World, Calls Try.prog 35 #[.int .i64 S, .int .i64 T] u fun e w' => e = .returned (.int .i64 (Xa.add S T)) ∧ u = w' := fun u => refadd_any S T hub.1 hub.2 f7.1 f7.2 u
      have HA := Lib.hid hst
      have cb3 := BelW.cells HCB.out y
      clear hhr hpl hpt hPA hpc f4 f6 f7 hub hS hT hst e4 HSN HF hadb
      have HNO := Lib.hid (show ¬ toOff (offs ps) o pl → UnR V (offs ps) o l (.int .i64 S) (.int .i64 ((k : Int) + 1)) y.w from fun hno => ⟨k + 1, by omega, by go_num, by rw [HSN'.out, if_neg hno], y, rfl⟩)
      by_cases d1 : 0 ≤ pl
      case neg =>
        have t1 : decide (0 ≤ pl) = false := decide_eq_false d1
        have HX := Lib.hid (HNO.out (fun h => d1 h.1))
        clear d1 HNO
        go_wp2_with fail
        go_roundw
        case rel => exact HX.out
        case measure => simp [intOf]; omega
      have t1 : decide (0 ≤ pl) = true := decide_eq_true d1
      obtain ⟨j, rfl⟩ := Int.eq_ofNat_of_zero_le d1
      by_cases d2 : j < ps.length
      case neg =>
        have t2 : decide ((j : Int) < (ps.length : Int)) = false := decide_eq_false (by omega)
        have HX := Lib.hid (HNO.out (fun h => d2 (by have := h.2.1; rw [offs_length] at this; omega)))
        clear d1 HNO
        go_wp2_with fail
        go_roundw
        case rel => exact HX.out
        case measure => simp [intOf]; omega
      have t2 : decide ((j : Int) < (ps.length : Int)) = true := decide_eq_true (by omega)
      have q1 : (0 : Int) ≤ (j : Int) := by omega
      have q2 : (j : Int) < (ps.length : Int) := by omega
      obtain ⟨bd, rfl, _, e5⟩ := rd_office (HP.out.bel y) d2
      obtain ⟨of, hof⟩ : ∃ x, gi (offs ps) j = x := ⟨_, rfl⟩
      rw [hof] at e5
      by_cases d3 : of = o
      case neg =>
        have t3 : (of == o) = false := beq_eq_false_iff_ne.2 d3
        have t3' : decide (of = o) = false := decide_eq_false d3
        have HX := Lib.hid (HNO.out (fun h => d3 (by have := h.2.2; rw [Int.toNat_natCast, hof] at this; exact this)))
        clear d1 d3 HNO hof
        go_wp2_with fail
        go_roundw
        case rel => exact HX.out
        case measure => simp [intOf]; omega
      subst d3
      have HY := Lib.hid (show undK (offs ps) of (keys (l.take (k + 1))) = Xa.add S T by rw [HSN'.out, if_pos ⟨by omega, by rw [offs_length]; omega, by rw [Int.toNat_natCast]; exact hof⟩])
      clear d1 HNO hof
      go_upto_region 8 with fail
      go_wp2_with fail
      refine HTo.out.mono ?_
      rintro e w' ⟨rfl, hb'⟩
      have HB' := Lib.hid (below_next y.2 hb')
      clear hb'
      go_wp2_with (first | (go_at_call 35; with_reducible refine (HA.out _).mono ?_; rintro e w'' ⟨rfl, rfl⟩))
      go_roundw
      case rel => exact ⟨k + 1, by omega, by go_num, by rw [HY.out], ⟨w', HB'.out⟩, rfl⟩
      case measure => simp [intOf]; omega
    · have i4 : decide ((k : Int) < (l.length : Int)) = false := decide_eq_false (by omega)
      obtain rfl : k = l.length := by omega
      have HX := Lib.hid (below_next HB0.out y.2)
      rw [List.take_length]
      go_wp2_with fail
      go_ret
      exact ⟨rfl, HX.out⟩

end Go.Proofs.Ythbjechgdjcogaa
