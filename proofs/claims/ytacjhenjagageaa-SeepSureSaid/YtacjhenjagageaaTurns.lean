/- SeepTurns: the walk. -/
import Derived.Test.YtacjhenjagageaaSmall20
import Derived.BigGuardPart
namespace Go.Proofs.Ytacjhenjagageaa
open Go.RowKit
set_option linter.unusedVariables false
set_option linter.unusedSimpArgs false

theorem partOf_le {v n d : Int} (h : n ≤ d) (hv : 0 ≤ v) : partOf v n d ≤ v := by
  unfold partOf
  by_cases hf : Xa.fits v n d = true
  · rw [if_pos hf]
    unfold Xa.fits at hf
    have g := of_decide_eq_true hf
    have : v * n / d ≤ v * d / d := Int.ediv_le_ediv (by omega) (Int.mul_le_mul_of_nonneg_left h hv)
    rw [Int.mul_ediv_cancel _ (by omega)] at this
    exact this
  · rw [if_neg hf]
    exact hv
theorem askOf_turn (kind num den bnum bden x y : Int) : askOf kind bnum bden num den y x = -askOf kind num den bnum bden x y := by
  unfold askOf
  by_cases h : kind = 4
  · rw [if_pos h, if_pos h]; omega
  · rw [if_neg h, if_neg h]; rfl
theorem askOf_bd (kind num den bnum bden x y : Int) : -1125899906842624 ≤ askOf kind num den bnum bden x y ∧ askOf kind num den bnum bden x y ≤ 1125899906842624 := by
  unfold askOf
  have := partOf_bd x num den
  have := partOf_bd y bnum bden
  by_cases h : kind = 4
  · rw [if_pos h]; omega
  · rw [if_neg h]; omega
theorem ask_tell {d : Int} (nm : ByteArray) (kind from' to' : Int) (r0 r1 r2 : Option Addr) (n0 n1 n2 c0 c1 c2 : Nat) (pos sp leak crest num den prime brk bnum bden delay : Int) (x y : Int) (h : askOf kind num den bnum bden x y = d) (w : World) :
    Calls Try.prog 10 #[.agg #[.string nm, .int .i64 kind, .int .i64 from', .int .i64 to', .slice r0 n0 c0, .slice r1 n1 c1, .slice r2 n2 c2, .int .i64 pos, .int .i64 sp, .int .i64 leak, .int .i64 crest, .int .i64 num, .int .i64 den, .int .i64 prime, .int .i64 brk, .int .i64 bnum, .int .i64 bden, .int .i64 delay], .int .i64 x, .int .i64 y] w fun e w' => e = .returned (.int .i64 d) ∧ Below w.heap.size w w' := h ▸ ask_any nm kind from' to' r0 r1 r2 n0 n1 n2 c0 c1 c2 pos sp leak crest num den prime brk bnum bden delay x y w

set_option maxHeartbeats 4000000 in
set_option maxRecDepth 100000 in
theorem turns_walk (nm : ByteArray) (kind from' to' : Int) (r0 r1 r2 : Option Addr) (n0 n1 n2 c0 c1 c2 : Nat) (pos sp leak crest num den prime brk bnum bden delay : Int) (x y : Int) (x_1 : -9223372036854775808 ≤ x) (x_2 : x ≤ 9223372036854775807) (y_1 : -9223372036854775808 ≤ y) (y_2 : y ≤ 9223372036854775807) (w : World) :
    Calls Try.prog 4 #[.agg #[.string nm, .int .i64 kind, .int .i64 from', .int .i64 to', .slice r0 n0 c0, .slice r1 n1 c1, .slice r2 n2 c2, .int .i64 pos, .int .i64 sp, .int .i64 leak, .int .i64 crest, .int .i64 num, .int .i64 den, .int .i64 prime, .int .i64 brk, .int .i64 bnum, .int .i64 bden, .int .i64 delay], .int .i64 x, .int .i64 y] w fun e w' => e = .returned (.bool true) ∧ Below w.heap.size w w' := by
  obtain ⟨d, hd⟩ : ∃ d, askOf kind num den bnum bden x y = d := ⟨_, rfl⟩
  have hd' : askOf kind bnum bden num den y x = -d := by rw [askOf_turn, hd]
  have hb := askOf_bd kind num den bnum bden x y
  rw [hd] at hb
  obtain ⟨hb1, hb2⟩ := hb
  have ok : (num ≤ den ∧ bnum ≤ bden ∧ 0 ≤ x ∧ 0 ≤ y) → d ≤ x ∧ -d ≤ y := by
    rintro ⟨h1, h2, h3, h4⟩
    have := partOf_le h1 h3
    have := partOf_le h2 h4
    have := partOf_bd x num den
    have := partOf_bd y bnum bden
    rw [← hd]
    unfold askOf
    by_cases h : kind = 4
    · rw [if_pos h]; omega
    · rw [if_neg h]; omega
  have HD := Lib.hid hd
  have HD' := Lib.hid hd'
  clear hd hd'
  have e1 : (-d != -d) = false := bne_self_eq_false _
  have p1 : ∀ h : num ≤ den ∧ bnum ≤ bden ∧ 0 ≤ x ∧ 0 ≤ y, decide (d ≤ x) = true := fun h => decide_eq_true (ok h).1
  have p2 : ∀ h : num ≤ den ∧ bnum ≤ bden ∧ 0 ≤ x ∧ 0 ≤ y, decide (-d ≤ y) = true := fun h => decide_eq_true (ok h).2
  have P1 := Lib.hid p1
  have P2 := Lib.hid p2
  clear p1 p2 ok
  go_enter Try.func4, Try.ntmps4
  go_wp2_with fail
  refine rebase _ (fun V1 hV x1 => ?_)
  have HB1 := Lib.hid (bel_at hV (bel_alloc (Below.refl w.heap.size w) _))
  have HR1 := Lib.hid (show V1.rangeAt w.heap.size 0 [.string nm, .int .i64 kind, .int .i64 from', .int .i64 to', .slice r0 n0 c0, .slice r1 n1 c1, .slice r2 n2 c2, .int .i64 pos, .int .i64 sp, .int .i64 leak, .int .i64 crest, .int .i64 num, .int .i64 den, .int .i64 prime, .int .i64 brk, .int .i64 bnum, .int .i64 bden, .int .i64 delay] by rw [hV]; exact range_new _ _ _)
  clear hV
  refine (bel_of (small_any _)).mono ?_
  rintro e w' ⟨rfl, y1, rfl⟩
  have f10 := fun z : BelW V1 => BelW.range HR1.out z 11 _ rfl
  have f11 := fun z : BelW V1 => BelW.range HR1.out z 12 _ rfl
  have f14 := fun z : BelW V1 => BelW.range HR1.out z 15 _ rfl
  have f15 := fun z : BelW V1 => BelW.range HR1.out z 16 _ rfl
  simp only [Nat.zero_add] at f10 f11 f14 f15
  have hlt : w.heap.size < y1.w.heap.size := World.block_lt_of_cell? _ _ (f10 y1)
  go_upto_region 7 with (first | (with_reducible refine wpList_load_g 26 _ (by with_reducible rfl) _ _ (by with_unfolding_all rfl) (by with_unfolding_all rfl) _ _ (BelW.range HR1.out _) Try.underlying26 (by with_unfolding_all rfl) (by kernel_rfl) ?_) | (with_reducible refine wpList_store_new (z := [.string ⟨#[]⟩, .int .i64 0, .int .i64 0, .int .i64 0, .slice none 0 0, .slice none 0 0, .slice none 0 0, .int .i64 0, .int .i64 0, .int .i64 0, .int .i64 0, .int .i64 0, .int .i64 0, .int .i64 0, .int .i64 0, .int .i64 0, .int .i64 0, .int .i64 0]) (cs := [.string nm, .int .i64 kind, .int .i64 from', .int .i64 to', .slice r0 n0 c0, .slice r1 n1 c1, .slice r2 n2 c2, .int .i64 pos, .int .i64 sp, .int .i64 leak, .int .i64 crest, .int .i64 num, .int .i64 den, .int .i64 prime, .int .i64 brk, .int .i64 bnum, .int .i64 bden, .int .i64 delay]) 26 _ _ (by with_reducible rfl) (by with_unfolding_all rfl) y1.w.heap.size (by with_reducible rfl) _ (by with_unfolding_all rfl) (by with_unfolding_all rfl) (by with_unfolding_all rfl) (by kernel_rfl) (by with_unfolding_all rfl) ?_))
  refine wp_rebase _ (fun V2 hV x2 => ?_)
  have HB2 := Lib.hid (bel_at hV (bel_alloc (below_next HB1.out y1.2) _))
  have HRm := Lib.hid (show V2.rangeAt w.heap.size 0 [.string nm, .int .i64 kind, .int .i64 from', .int .i64 to', .slice r0 n0 c0, .slice r1 n1 c1, .slice r2 n2 c2, .int .i64 pos, .int .i64 sp, .int .i64 leak, .int .i64 crest, .int .i64 num, .int .i64 den, .int .i64 prime, .int .i64 brk, .int .i64 bnum, .int .i64 bden, .int .i64 delay] by rw [hV]; exact World.rangeAt_alloc (BelW.range HR1.out y1) _)
  have HR2 := Lib.hid (show V2.rangeAt y1.w.heap.size 0 [.string nm, .int .i64 kind, .int .i64 from', .int .i64 to', .slice r0 n0 c0, .slice r1 n1 c1, .slice r2 n2 c2, .int .i64 pos, .int .i64 sp, .int .i64 leak, .int .i64 crest, .int .i64 bnum, .int .i64 bden, .int .i64 prime, .int .i64 brk, .int .i64 num, .int .i64 den, .int .i64 delay] by rw [hV]; exact range_new _ _ _)
  clear hV HR1 f10 f11 f14 f15 hlt
  have HR1 := HRm
  clear HRm
  have f10 := fun z : BelW V2 => BelW.range HR1.out z 11 _ rfl
  have f11 := fun z : BelW V2 => BelW.range HR1.out z 12 _ rfl
  have f14 := fun z : BelW V2 => BelW.range HR1.out z 15 _ rfl
  have f15 := fun z : BelW V2 => BelW.range HR1.out z 16 _ rfl
  simp only [Nat.zero_add] at f10 f11 f14 f15
  by_cases hok : num ≤ den ∧ bnum ≤ bden ∧ 0 ≤ x ∧ 0 ≤ y
  · have p1 := P1.out hok
    have p2 := P2.out hok
    obtain ⟨k1, k2, k3, k4⟩ := hok
    go_wp2_with (first | (with_reducible refine wpList_load_g 26 _ (by with_reducible rfl) _ _ (by with_unfolding_all rfl) (by with_unfolding_all rfl) _ _ (BelW.range HR1.out _) Try.underlying26 (by with_unfolding_all rfl) (by kernel_rfl) ?_) | (with_reducible refine wpList_load_g 26 _ (by with_reducible rfl) _ _ (by with_unfolding_all rfl) (by with_unfolding_all rfl) _ _ (BelW.range HR2.out _) Try.underlying26 (by with_unfolding_all rfl) (by kernel_rfl) ?_) | (go_at_call 10; first | ((with_reducible refine (bel_of (ask_tell _ _ _ _ _ _ _ _ _ _ _ _ _ _ _ _ _ _ _ _ _ _ _ _ _ _ HD.out _)).mono ?_); rintro e w' ⟨rfl, z, rfl⟩) | ((with_reducible refine (bel_of (ask_tell _ _ _ _ _ _ _ _ _ _ _ _ _ _ _ _ _ _ _ _ _ _ _ _ _ _ HD'.out _)).mono ?_); rintro e w' ⟨rfl, z, rfl⟩)))
    go_ret
    exact ⟨rfl, below_next HB2.out z.2⟩
  · go_wp2_with (first | (with_reducible refine wpList_load_g 26 _ (by with_reducible rfl) _ _ (by with_unfolding_all rfl) (by with_unfolding_all rfl) _ _ (BelW.range HR1.out _) Try.underlying26 (by with_unfolding_all rfl) (by kernel_rfl) ?_) | (with_reducible refine wpList_load_g 26 _ (by with_reducible rfl) _ _ (by with_unfolding_all rfl) (by with_unfolding_all rfl) _ _ (BelW.range HR2.out _) Try.underlying26 (by with_unfolding_all rfl) (by kernel_rfl) ?_) | (go_at_call 10; first | ((with_reducible refine (bel_of (ask_tell _ _ _ _ _ _ _ _ _ _ _ _ _ _ _ _ _ _ _ _ _ _ _ _ _ _ HD.out _)).mono ?_); rintro e w' ⟨rfl, z, rfl⟩) | ((with_reducible refine (bel_of (ask_tell _ _ _ _ _ _ _ _ _ _ _ _ _ _ _ _ _ _ _ _ _ _ _ _ _ _ HD'.out _)).mono ?_); rintro e w' ⟨rfl, z, rfl⟩)))
    all_goals
      first
      | (exfalso; omega)
      | (go_ret
         exact ⟨rfl, below_next HB2.out z.2⟩)

end Go.Proofs.Ytacjhenjagageaa
