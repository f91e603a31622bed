/- RainNarrows: the walk. -/
import Derived.Test.YtafnmaojpheppaaOpen26
import Derived.Test.YtafnmaojpheppaaRainL
import Derived.Test.YtafnmaojpheppaaSmall26
import Derived.Lib.SliceRun
import Derived.Laws.AppendOwnNone
namespace Go.Proofs.Ytafnmaojpheppaa
open Go.RowKit
set_option linter.unusedVariables false
set_option linter.unusedSimpArgs false

theorem Rd.holds {w : World} {A : Option Addr} {vs : List Value} (h : Rd w A vs) : ∀ b, A = some b → ∀ j u, vs[j]? = some u → w.cell? (b.add j) = some u := fun b e j u hu => by
  obtain ⟨ad, e', _, hc⟩ := h (by have := (List.getElem?_eq_some_iff.1 hu).1; omega)
  rw [e] at e'
  cases e'
  exact hc j u hu
section
variable {P : Program} (w : World)
theorem wpList_append_rd {ops : Array Oper} {rest : List Oper} {o : Oper} {a : Act} {Q : Exit → Act → World → Prop} (hgd : o.guard = none) (s x : Operand) (t : TypeId)
    (ho : o.op = .call { callee := .builtin .append, args := #[s, x], argTypes := #[t, t] })
    (base : Nat) (e : TypeId) (i : TypeInfo) (z : Value) (size bytes : Nat) (ht : P.underlying t = some (.slice e)) (hi : P.info? e = some i) (hz : i.zero = some z)
    (hsize : i.size = size) (hby : i.bytes = bytes) (hzs : z.cells.size = size) (hsz : 0 < size)
    (v : Value) (n : Nat) (xs : List Value) (hs : a.eval s = v) (hown : w.ownsRow base e size v n xs)
    (A : Option Addr) (m c : Nat) (news : List Value) (hx : a.eval x = .slice A m c) (hA : A = none → c = 0) (hl : news.length = m * size) (hr : Rd w A news) (h1 : ∀ u ∈ news, u.oneCell' = true)
    (h63 : n + m ≤ maxLen) (hbytes : (n + m) * bytes ≤ 140737488355328) (hbase : base ≤ w.heap.size)
    (h : ∀ v' w', w'.ownsRow base e size v' (n + m) (xs ++ news) → w.grownBy w' v.ownBlock → (v'.ownBlock = v.ownBlock ∨ v'.ownBlock = some w.heap.size) → wpList P ops Q rest (a.put o.dst v') w') : wpList P ops Q (o :: rest) a w := by
  cases A with
  | none =>
    have hm : m = 0 := by
      rcases Nat.eq_zero_or_pos m with h0 | h0
      · exact h0
      · obtain ⟨ad, e', _⟩ := hr (by rw [hl]; exact Nat.mul_pos h0 hsz)
        cases e'
    subst hm
    have hc := hA rfl
    subst hc
    have hn : news = [] := List.eq_nil_of_length_eq_zero (by simpa using hl)
    subst hn
    exact wpList_append_own_none hgd s x t ho base e i size ht hi v n xs hs hown hx (h v w (by simpa using hown) (World.grownBy.refl w _) (.inl rfl))
  | some ad =>
    exact wpList_append_own_at w hgd s x t ho base e i z size bytes ht hi hz hsize hby hzs hsz v n xs hs hown ad m c news hx hl (hr.holds ad rfl) h1 h63 hbytes hbase fun v' w' h2 h3 _ h5 => h v' w' h2 h3 h5
end
theorem own_empty {w : World} {base : Nat} (e : TypeId) (size : Nat) (hb : base ≤ w.heap.size) : (w.alloc (.cells #[] e)).ownsRow base e size (.slice (some ⟨w.heap.size, 0, none⟩) 0 0) 0 [] :=
  ⟨by simp, .inr ⟨w.heap.size, 0, #[], rfl, hb, heap_alloc_new w _, Nat.le_refl _, Nat.zero_le _, by simp, by simp⟩⟩
theorem info_reading : (Try.prog.info? 47).map (fun i => (i.zero, i.size, i.bytes)) = some (some (.agg #[.int .i64 0, .int .i64 0, .int .i64 0, .int .i64 0]), 4, 32) := by kernel_rfl
theorem rgCells_one (l : List Rg) : ∀ u ∈ rgCells l, u.oneCell' = true := fun u hu => by
  unfold rgCells at hu
  obtain ⟨x, _, hx⟩ := List.mem_flatMap.1 hu
  simp only [rgc, List.mem_cons, List.not_mem_nil, or_false] at hx
  rcases hx with rfl | rfl | rfl | rfl <;> rfl
theorem rgCells_append (l m : List Rg) : rgCells (l ++ m) = rgCells l ++ rgCells m := by simp [rgCells]
def NaR (V : World) (n : Nat) (s17 : Value) (wr : World) : Prop := ∃ k : Nat, k ≤ n ∧ s17 = .int .i64 (k : Int) ∧ ∃ y : BelW V, wr = y.w

set_option maxHeartbeats 64000000 in
set_option maxRecDepth 100000 in
theorem nar26_any (d0 d1 : Value) (cn : Int) (B : Option Addr) (cb : Nat) (ps : List Pr) (d4 d5 : Value) (GA : Option Addr) (gc : Nat) (G : List Gg) (d7 d8 d9 d10 : Value) (RA : Option Addr) (rc : Nat) (radar : List Int) (p : Int) (FA : Option Addr) (fc : Nat) (fs : List Rg) (MA : Option Addr) (mc : Nat) (ms : List Rg)
    (hp : Fit p) (hrn : radar.length ≤ 9223372036854775807) (hfn : fs.length ≤ 1048576) (hmn : ms.length ≤ 1048576) (hfo : ∀ r ∈ fs, RgOk r) (hmo : ∀ r ∈ ms, RgOk r) (hFA : FA = none → fc = 0) (hMA : MA = none → mc = 0) (w : World) (hB : Bas w cn B ps GA G) (hR : Rd w RA (ints radar)) (hF : Rd w FA (rgCells fs)) (hM : Rd w MA (rgCells ms)) :
    Calls Try.prog 6 #[.agg #[d0, d1, .int .i64 cn, .slice B ps.length cb, d4, d5, .slice GA G.length gc, d7, d8, d9, d10], .slice RA radar.length rc, .int .i64 p, .slice FA fs.length fc, .slice MA ms.length mc] w fun e w' => e = .returned (.bool true) ∧ Below w.heap.size w w' := by
  obtain ⟨i0, hi0, hz0, hz1, hz2⟩ := info_parts info_reading
  have INF := Lib.hid (And.intro hi0 (And.intro hz0 (And.intro hz1 hz2)))
  clear hi0 hz0 hz1 hz2
  go_enter Try.func6, Try.ntmps6
  go_upto_region 1 with fail
  refine wp_rebase _ (fun V hV x0 => ?_)
  have HB0 := Lib.hid (show Below w.heap.size w V by rw [hV]; exact bel_alloc (Below.refl _ _) _)
  have HBAS := Lib.hid (show V.rangeAt w.heap.size 0 [d0, d1, .int .i64 cn, .slice B ps.length cb, d4, d5, .slice GA G.length gc, d7, d8, d9, d10] by rw [hV]; exact range_new _ _ [d0, d1, .int .i64 cn, .slice B ps.length cb, d4, d5, .slice GA G.length gc, d7, d8, d9, d10])
  have HB := Lib.hid (hB.below (Nat.le_refl _) HB0.out)
  have HR := Lib.hid (hR.below (Nat.le_refl _) HB0.out)
  have HF := Lib.hid (hF.below (Nat.le_refl _) HB0.out)
  have HM := Lib.hid (hM.below (Nat.le_refl _) HB0.out)
  have HOK := Lib.hid (And.intro hfo hmo)
  have HNL := Lib.hid (And.intro hFA hMA)
  have CSm := Lib.hid (fun z : BelW V => bel_of (small_any z.w))
  clear hV hB hR hF hM hfo hmo hFA hMA
  have HMX := Lib.hid (show (0 + fs.length ≤ maxLen ∧ (0 + fs.length) * 32 ≤ 140737488355328) ∧ (fs.length + ms.length ≤ maxLen ∧ (fs.length + ms.length) * 32 ≤ 140737488355328) by unfold maxLen; refine ⟨⟨?_, ?_⟩, ?_, ?_⟩ <;> omega)
  go_upto_region 2 with (first | (go_at_call 8; (with_reducible refine (CSm.out _).mono ?_); rintro e w' ⟨rfl, y1, rfl⟩))
  have HBy := Lib.hid (show Below V.heap.size V y1.w from y1.2)
  go_wp2_with (first | (at_builtin; refine wpList_append_rd _ rfl (.tmp 22) (.tmp 23) _ (by rfl) V.heap.size 47 i0 _ 4 32 Try.underlying32 INF.out.1 INF.out.2.1 INF.out.2.2.1 INF.out.2.2.2 rfl (by omega) _ 0 [] (by rfl) (own_empty _ _ HBy.out.size) FA fs.length fc (rgCells fs) (by rfl) HNL.out.1 (rgCells_length fs) ((HF.out.below (Nat.le_refl _) HBy.out).alloc _) (rgCells_one fs) HMX.out.1.1 HMX.out.1.2 (by have := HBy.out.size; simp; omega) ?_))
  intro v1 w2 hown2 hgrow2 hat2
  have HB2 := Lib.hid (show Below V.heap.size V w2 from (bel_alloc HBy.out _).grown hgrow2 (bel_alloc HBy.out _).size (fun k hk => by have := HBy.out.size; simp [Value.ownBlock] at hk; omega))
  have HO2 := Lib.hid hown2
  clear hown2 hgrow2 hat2
  go_wp2_with (first | (at_builtin; refine wpList_append_rd _ rfl (.tmp 24) (.tmp 25) _ (by rfl) V.heap.size 47 i0 _ 4 32 Try.underlying32 INF.out.1 INF.out.2.1 INF.out.2.2.1 INF.out.2.2.2 rfl (by omega) _ fs.length (rgCells fs) (by rfl) HO2.out MA ms.length mc (rgCells ms) (by rfl) HNL.out.2 (rgCells_length ms) (HM.out.below (Nat.le_refl _) HB2.out) (rgCells_one ms) HMX.out.2.1 HMX.out.2.2 HB2.out.size ?_))
  intro v2 w3 hown3 hgrow3 hat3
  have HB3 := Lib.hid (show Below V.heap.size V w3 from HB2.out.grown hgrow3 HB2.out.size (fun k hk => (HO2.out.lt k hk).1))
  obtain ⟨AA, ac, rfl, hAA, hrA⟩ := own_slice hown3
  rw [← rgCells_append] at hrA
  have HA := Lib.hid hrA
  have hlen : fs.length + ms.length = (fs ++ ms).length := by rw [List.length_append]
  rw [hlen]
  have HAN := Lib.hid (show (fs ++ ms).length ≤ 2097152 by rw [List.length_append]; omega)
  have HAO := Lib.hid (show ∀ r ∈ fs ++ ms, RgOk r from fun r hr => by rcases List.mem_append.1 hr with h | h; exact HOK.out.1 r h; exact HOK.out.2 r h)
  clear hown3 hgrow3 hat3 hrA hlen HBy HB2 HO2 HMX CSm HNL
  obtain ⟨al, hal⟩ : ∃ al, fs ++ ms = al := ⟨_, rfl⟩
  rw [hal] at HA HAN HAO ⊢
  have HAL := Lib.hid hal
  clear hal
  go_upto_region 3 with fail
  refine wp_rebase _ (fun U hU u0 => ?_)
  have HBU := Lib.hid (show Below V.heap.size V U by rw [hU]; exact HB3.out)
  have HA1 := Lib.hid (show Rd U AA (rgCells al) by rw [hU]; exact HA.out)
  have HB1 := Lib.hid (HB.out.below (Nat.le_refl _) HBU.out)
  have HR1 := Lib.hid (HR.out.below (Nat.le_refl _) HBU.out)
  have HF1 := Lib.hid (HF.out.below (Nat.le_refl _) HBU.out)
  have HRX := Lib.hid (show U.rangeAt w.heap.size 0 [d0, d1, .int .i64 cn, .slice B ps.length cb, d4, d5, .slice GA G.length gc, d7, d8, d9, d10] from BelW.range HBAS.out ⟨U, HBU.out⟩)
  have HRXu := Lib.hid (BelW.range HRX.out u0)
  clear hU HB HR HF HM HA HB3
  have CFew := Lib.hid (fun z : BelW U => bel_of (few_any B AA none cb ac 0 al.length 0 ps d0 d1 (.int .i64 cn) d4 d5 (.slice GA G.length gc) d7 d8 d9 d10 HB1.out.pn z.w (HB1.out.bel z).psm))
  by_cases hf : fewP ps al.length 0
  case neg =>
    rw [fewB_no hf] at CFew
    clear hf
    go_wp2_with (first | (with_reducible refine wpList_load_g 31 _ (by with_reducible rfl) _ _ (by with_unfolding_all rfl) (by with_unfolding_all rfl) _ _ HRXu.out Try.underlying31 (by with_unfolding_all rfl) (by kernel_rfl) ?_) | (go_at_call 9; (with_reducible refine (CFew.out _).mono ?_); rintro e w' ⟨rfl, y2, rfl⟩))
    go_ret
    exact ⟨rfl, below_next HB0.out (below_next HBU.out y2.2)⟩
  rw [fewB_iff.2 hf] at CFew
  have HPN := Lib.hid (show ps.length ≤ 1000 ∧ (∀ x ∈ ps, x.rain.length ≤ 1000) from ⟨by have := hf.1; omega, fun x hx => by have := hf.2.2.2 x hx; omega⟩)
  clear hf
  have HCn := Lib.hid (cellN_clamp cn).2
  have C1 := Lib.hid (fun (W : World) (hb : Below U.heap.size U W) => cells_any GA RA AA gc rc ac G radar al cn p d0 d1 (.slice B ps.length cb) d4 d5 d7 d8 d9 d10 hrn (by have := HAN.out; omega) HB1.out.gn hp HAO.out HB1.out.gok W (HB1.out.gm.below (Nat.le_refl _) hb) (HR1.out.below (Nat.le_refl _) hb) (HA1.out.below (Nat.le_refl _) hb))
  have C2 := Lib.hid (fun (W : World) (hb : Below U.heap.size U W) => cells_any GA RA FA gc rc fc G radar fs cn p d0 d1 (.slice B ps.length cb) d4 d5 d7 d8 d9 d10 hrn (by omega) HB1.out.gn hp HOK.out.1 HB1.out.gok W (HB1.out.gm.below (Nat.le_refl _) hb) (HR1.out.below (Nat.le_refl _) hb) (HF1.out.below (Nat.le_refl _) hb))
  have C3 := Lib.hid (fun (W : World) (hb : Below U.heap.size U W) => (show Calls Try.prog 11 #[.agg #[d0, d1, .int .i64 cn, .slice B ps.length cb, d4, d5, .slice GA G.length gc, d7, d8, d9, d10], .slice RA radar.length rc, .int .i64 p, .slice none 0 0] W (SpPost (cellsL G radar p [] (cellN cn)) W) from cells_any GA RA none gc rc 0 G radar [] cn p d0 d1 (.slice B ps.length cb) d4 d5 d7 d8 d9 d10 hrn (by simp) HB1.out.gn hp (fun r hr => by cases hr) HB1.out.gok W (HB1.out.gm.below (Nat.le_refl _) hb) (HR1.out.below (Nat.le_refl _) hb) (Rd.nil _ _)))
  obtain ⟨n, hn⟩ : ∃ n, cellN cn = n := ⟨_, rfl⟩
  rw [hn] at C1 C2 C3 HCn
  clear hn
  have HX := Lib.hid (fun i (hi : i < n) => (show (gs (cellsL G radar p al n) i).1 ≤ (gs (cellsL G radar p al n) i).2 ∧ 0 ≤ (gs (cellsL G radar p al n) i).1 ∧ Wi (gs (cellsL G radar p al n) i) (gs (cellsL G radar p fs n) i) ∧ Wi (gs (cellsL G radar p fs n) i) (gs (cellsL G radar p [] n) i) by
    rw [cellsL_at _ _ _ _ hi, cellsL_at _ _ _ _ hi, cellsL_at _ _ _ _ hi, ← HAL.out]
    obtain ⟨h1, h2, h3⟩ := cellAt_narrows G radar p fs ms i
    obtain ⟨_, _, h4⟩ := cellAt_narrows G radar p [] fs i
    rw [List.nil_append] at h4
    exact ⟨h1, h2, h3, h4⟩))
  have HLx := Lib.hid (cellsL_length G radar p al n)
  have HLy := Lib.hid (cellsL_length G radar p fs n)
  have HLz := Lib.hid (cellsL_length G radar p [] n)
  obtain ⟨xs, hxs⟩ : ∃ l, cellsL G radar p al n = l := ⟨_, rfl⟩
  obtain ⟨ys, hys⟩ : ∃ l, cellsL G radar p fs n = l := ⟨_, rfl⟩
  obtain ⟨zs, hzs⟩ : ∃ l, cellsL G radar p [] n = l := ⟨_, rfl⟩
  rw [hxs] at C1 HX HLx
  rw [hys] at C2 HX HLy
  rw [hzs] at C3 HX HLz
  have hnx := HLx.out
  have hny := HLy.out
  have hnz := HLz.out
  clear hxs hys hzs
  go_upto_region 6 with (first | (with_reducible refine wpList_load_g 31 _ (by with_reducible rfl) _ _ (by with_unfolding_all rfl) (by with_unfolding_all rfl) _ _ HRXu.out Try.underlying31 (by with_unfolding_all rfl) (by kernel_rfl) ?_) | (go_at_call 9; (with_reducible refine (CFew.out _).mono ?_); rintro e w' ⟨rfl, y2, rfl⟩))
  have HRX2 := Lib.hid (BelW.range HRX.out y2)
  go_wp2_with (first | (with_reducible refine wpList_load_g 31 _ (by with_reducible rfl) _ _ (by with_unfolding_all rfl) (by with_unfolding_all rfl) _ _ HRX2.out Try.underlying31 (by with_unfolding_all rfl) (by kernel_rfl) ?_))
  refine (C1.out _ y2.2).mono ?_
  rintro e w4 ⟨A1, c1, rfl, -, -, hr1, hb1⟩
  have HB4 := Lib.hid (below_next y2.2 hb1)
  have HX4 := Lib.hid hr1
  have HRX4 := Lib.hid (show w4.rangeAt w.heap.size 0 [d0, d1, .int .i64 cn, .slice B ps.length cb, d4, d5, .slice GA G.length gc, d7, d8, d9, d10] from BelW.range HRX.out ⟨w4, HB4.out⟩)
  clear hr1 hb1 HRX2 HRXu
  go_wp2_with (first | (with_reducible refine wpList_load_g 31 _ (by with_reducible rfl) _ _ (by with_unfolding_all rfl) (by with_unfolding_all rfl) _ _ HRX4.out Try.underlying31 (by with_unfolding_all rfl) (by kernel_rfl) ?_))
  refine (C2.out _ HB4.out).mono ?_
  rintro e w5 ⟨A2, c2, rfl, -, -, hr2, hb2⟩
  have HB5 := Lib.hid (below_next HB4.out hb2)
  have HX5 := Lib.hid (HX4.out.below (Nat.le_refl _) hb2)
  have HY5 := Lib.hid hr2
  have HRX5 := Lib.hid (show w5.rangeAt w.heap.size 0 [d0, d1, .int .i64 cn, .slice B ps.length cb, d4, d5, .slice GA G.length gc, d7, d8, d9, d10] from BelW.range HRX.out ⟨w5, HB5.out⟩)
  clear hr2 hb2 HRX4 HX4
  go_wp2_with (first | (with_reducible refine wpList_load_g 31 _ (by with_reducible rfl) _ _ (by with_unfolding_all rfl) (by with_unfolding_all rfl) _ _ HRX5.out Try.underlying31 (by with_unfolding_all rfl) (by kernel_rfl) ?_))
  refine (C3.out _ HB5.out).mono ?_
  rintro e w6 ⟨A3, c3, rfl, -, -, hr3, hb3⟩
  have HB6 := Lib.hid (below_next HB5.out hb3)
  have HX6 := Lib.hid (HX5.out.below (Nat.le_refl _) hb3)
  have HY6 := Lib.hid (HY5.out.below (Nat.le_refl _) hb3)
  have HZ6 := Lib.hid hr3
  clear hr3 hb3 HRX5 HX5 HY5
  rw [hnz]
  have tn : ((n : Int) != (n : Int)) = false := bne_eq_false_iff_eq.2 rfl
  go_upto_region 11 with fail
  refine wp_rebase _ (fun T hT t0 => ?_)
  rw [← hT] at HX6 HY6 HZ6
  have HBT := Lib.hid (show Below U.heap.size U T by rw [hT]; exact HB6.out)
  clear hT HB6 HB5 HB4 C1 C2 C3 CFew HA1 HF1 HR1
  go_wp2_with fail
  go_loopw [17] (fun s17 wr => NaR T n s17 wr) (fun i _ => n - (intOf i).toNat)
  case atStart => exact ⟨0, by omega, rfl, t0, rfl⟩
  case round =>
    clear t0
    obtain ⟨k, hk, rfl, y, rfl⟩ := hrel
    have hn64 := HCn.out
    by_cases hlt : k < n
    · have i4 : decide ((k : Int) < (n : Int)) = true := decide_eq_true (by omega)
      have j1 : (0 : Int) ≤ (k : Int) := by omega
      have j2 : (k : Int) < (n : Int) := by omega
      obtain ⟨xd, xb, xo, rfl, -, hE1, e1, e2⟩ := HX6.out.span (show k < xs.length by omega)
      obtain ⟨yd, yb, yo, rfl, -, hE2, e3, e4⟩ := HY6.out.span (show k < ys.length by omega)
      obtain ⟨zd, zb, zo, rfl, -, hE3, e5, e6⟩ := HZ6.out.span (show k < zs.length by omega)
      have g1 := fun z : BelW T => BelW.cells e1 z
      have g2 := fun z : BelW T => BelW.cells e2 z
      have g3 := fun z : BelW T => BelW.cells e3 z
      have g4 := fun z : BelW T => BelW.cells e4 z
      have g5 := fun z : BelW T => BelW.cells e5 z
      have g6 := fun z : BelW T => BelW.cells e6 z
      have hin := HX.out k hlt
      obtain ⟨x, hx⟩ : ∃ x, gs xs k = x := ⟨_, rfl⟩
      obtain ⟨yy, hyy⟩ : ∃ x, gs ys k = x := ⟨_, rfl⟩
      obtain ⟨zz, hzz⟩ : ∃ x, gs zs k = x := ⟨_, rfl⟩
      rw [hx] at g1 g2 hin
      rw [hyy] at g3 g4 hin
      rw [hzz] at g5 g6 hin
      obtain ⟨x0, x1⟩ := x
      obtain ⟨y0, y1'⟩ := yy
      obtain ⟨z0, z1⟩ := zz
      obtain ⟨n1, n2, ⟨n3, n4⟩, n5, n6⟩ := hin
      have n1' : x0 ≤ x1 := n1
      have n2' : 0 ≤ x0 := n2
      have n3' : y0 ≤ x0 := n3
      have n4' : x1 ≤ y1' := n4
      have n5' : z0 ≤ y0 := n5
      have n6' : y1' ≤ z1 := n6
      have tl : decide (x0 < 0) = false := decide_eq_false (by omega)
      have CR := Lib.hid (fun z : BelW T => (show Calls Try.prog 22 #[.agg #[.int .i64 x0, .int .i64 x1]] z.w fun e w' => e = .returned (.bool true) ∧ ∃ y : BelW T, w' = y.w from by
        have h := bel_of (x := z) (right_any x0 x1 z.w)
        rwa [decide_eq_true n1'] at h))
      have CW1 := Lib.hid (fun z : BelW T => (show Calls Try.prog 24 #[.agg #[.int .i64 x0, .int .i64 x1], .agg #[.int .i64 y0, .int .i64 y1']] z.w fun e w' => e = .returned (.bool true) ∧ ∃ y : BelW T, w' = y.w from by
        have h := bel_of (x := z) (within_any x0 x1 y0 y1' z.w)
        rwa [decide_eq_true n3', decide_eq_true n4'] at h))
      have CW2 := Lib.hid (fun z : BelW T => (show Calls Try.prog 24 #[.agg #[.int .i64 y0, .int .i64 y1'], .agg #[.int .i64 z0, .int .i64 z1]] z.w fun e w' => e = .returned (.bool true) ∧ ∃ y : BelW T, w' = y.w from by
        have h := bel_of (x := z) (within_any y0 y1' z0 z1 z.w)
        rwa [decide_eq_true n5', decide_eq_true n6'] at h))
      clear e1 e2 e3 e4 e5 e6 hx hyy hzz n1 n2 n3 n4 n5 n6 n1' n2' n3' n4' n5' n6'
      go_upto_region 14 with fail
      refine wp_region_belx (by kernel_rfl) (by kernel_rfl) ?_
      repeat (go_big_quiet_step ((first | (go_at_call 22; with_reducible exact CR.out _) | (go_at_call 24; with_reducible exact CW1.out _) | (go_at_call 24; with_reducible exact CW2.out _))))
      refine wpQuiet_nil ?_
      intro y2
      clear g1 g2 g3 g4 g5 g6
      go_wp2_with fail
      go_roundw
      case rel => exact ⟨k + 1, by omega, by go_num, y2, rfl⟩
      case measure => simp [intOf]; omega
    · have i4 : decide ((k : Int) < (n : Int)) = false := decide_eq_false (by omega)
      have HD1 := Lib.hid (fun (W : World) (hb : Below T.heap.size T W) => (show Calls Try.prog 13 #[.agg #[d0, d1, .int .i64 cn, .slice B ps.length cb, d4, d5, .slice GA G.length gc, d7, d8, d9, d10], .slice A1 n c1] W (SpPost (meshL xs ps) W) from by
        have h := mesh_any B A1 cb c1 ps xs d0 d1 (.int .i64 cn) d4 d5 (.slice GA G.length gc) d7 d8 d9 d10 HPN.out.1 HPN.out.2 (by omega) (fun x hx => (HB1.out.pok x hx).2) W ((HB1.out.psm.below (Nat.le_refl _) HBT.out).below (Nat.le_refl _) hb) (HX6.out.below (Nat.le_refl _) hb)
        rwa [hnx] at h))
      have HD2 := Lib.hid (fun (W : World) (hb : Below T.heap.size T W) => (show Calls Try.prog 13 #[.agg #[d0, d1, .int .i64 cn, .slice B ps.length cb, d4, d5, .slice GA G.length gc, d7, d8, d9, d10], .slice A2 n c2] W (SpPost (meshL ys ps) W) from by
        have h := mesh_any B A2 cb c2 ps ys d0 d1 (.int .i64 cn) d4 d5 (.slice GA G.length gc) d7 d8 d9 d10 HPN.out.1 HPN.out.2 (by omega) (fun x hx => (HB1.out.pok x hx).2) W ((HB1.out.psm.below (Nat.le_refl _) HBT.out).below (Nat.le_refl _) hb) (HY6.out.below (Nat.le_refl _) hb)
        rwa [hny] at h))
      have HW := Lib.hid (fun i (hi : i < ps.length) => (show (gs (meshL xs ps) i).1 ≤ (gs (meshL xs ps) i).2 ∧ Wi (gs (meshL xs ps) i) (gs (meshL ys ps) i) by
        rw [meshL_at hi, meshL_at hi]
        have hxy : xs.length = ys.length := by omega
        refine ⟨meshF_mono rfl (fun j hj => (HX.out j (by omega)).1) _, meshF_mono hxy.symm (fun j hj => (HX.out j (by omega)).2.2.1.1) _, meshF_mono hxy (fun j hj => (HX.out j (by omega)).2.2.1.2) _⟩))
      have HLp := Lib.hid (meshL_length xs ps)
      have HLq := Lib.hid (meshL_length ys ps)
      obtain ⟨pp, hpp⟩ : ∃ l, meshL xs ps = l := ⟨_, rfl⟩
      obtain ⟨qq, hqq⟩ : ∃ l, meshL ys ps = l := ⟨_, rfl⟩
      rw [hpp] at HD1 HW HLp
      rw [hqq] at HD2 HW HLq
      have hnp := HLp.out
      have hnq := HLq.out
      have HRXy := Lib.hid (show y.w.rangeAt w.heap.size 0 [d0, d1, .int .i64 cn, .slice B ps.length cb, d4, d5, .slice GA G.length gc, d7, d8, d9, d10] from BelW.range HRX.out ⟨y.w, below_next HBT.out y.2⟩)
      clear hpp hqq HX6 HY6 HZ6 HX hnx hny hnz
      go_wp2_with (first | (with_reducible refine wpList_load_g 31 _ (by with_reducible rfl) _ _ (by with_unfolding_all rfl) (by with_unfolding_all rfl) _ _ HRXy.out Try.underlying31 (by with_unfolding_all rfl) (by kernel_rfl) ?_))
      refine (HD1.out _ y.2).mono ?_
      rintro e w7 ⟨A4, c4, rfl, -, -, hr4, hb4⟩
      have HB7 := Lib.hid (below_next y.2 hb4)
      have HP7 := Lib.hid hr4
      have HRX7 := Lib.hid (show w7.rangeAt w.heap.size 0 [d0, d1, .int .i64 cn, .slice B ps.length cb, d4, d5, .slice GA G.length gc, d7, d8, d9, d10] from BelW.range HRX.out ⟨w7, below_next HBT.out HB7.out⟩)
      clear hr4 hb4 HRXy
      go_wp2_with (first | (with_reducible refine wpList_load_g 31 _ (by with_reducible rfl) _ _ (by with_unfolding_all rfl) (by with_unfolding_all rfl) _ _ HRX7.out Try.underlying31 (by with_unfolding_all rfl) (by kernel_rfl) ?_))
      refine (HD2.out _ HB7.out).mono ?_
      rintro e w8 ⟨A5, c5, rfl, -, -, hr5, hb5⟩
      have HB8 := Lib.hid (below_next HB7.out hb5)
      have HP8 := Lib.hid (HP7.out.below (Nat.le_refl _) hb5)
      have HQ8 := Lib.hid hr5
      clear hr5 hb5 HRX7 HP7 HB7
      rw [hnq]
      go_upto_region 18 with fail
      refine wp_rebase _ (fun S hS s0 => ?_)
      rw [← hS] at HP8 HQ8
      have HBS := Lib.hid (show Below w.heap.size w S by rw [hS]; exact below_next HB0.out (below_next HBU.out (below_next HBT.out HB8.out)))
      have HRS := Lib.hid (show S.rangeAt w.heap.size 0 [d0, d1, .int .i64 cn, .slice B ps.length cb, d4, d5, .slice GA G.length gc, d7, d8, d9, d10] by rw [hS]; exact BelW.range HRX.out ⟨w8, below_next HBT.out HB8.out⟩)
      have hpl := HPN.out.1
      clear hS HB8 HD1 HD2
      go_wp2_with fail
      go_loopw [20] (fun s20 wr => NaR S ps.length s20 wr) (fun i _ => ps.length - (intOf i).toNat)
      case atStart => exact ⟨0, by omega, rfl, s0, rfl⟩
      case round =>
        clear s0 y
        obtain ⟨m, hm, rfl, y, rfl⟩ := hrel
        by_cases hlm : m < ps.length
        · have i5 : decide ((m : Int) < (ps.length : Int)) = true := decide_eq_true (by omega)
          have m1 : (0 : Int) ≤ (m : Int) := by omega
          have m2 : (m : Int) < (ps.length : Int) := by omega
          obtain ⟨xd, xb, xo, rfl, -, hE1, e1, e2⟩ := HP8.out.span (show m < pp.length by omega)
          obtain ⟨yd, yb, yo, rfl, -, hE2, e3, e4⟩ := HQ8.out.span (show m < qq.length by omega)
          have g1 := fun z : BelW S => BelW.cells e1 z
          have g2 := fun z : BelW S => BelW.cells e2 z
          have g3 := fun z : BelW S => BelW.cells e3 z
          have g4 := fun z : BelW S => BelW.cells e4 z
          have hin := HW.out m hlm
          obtain ⟨x, hx⟩ : ∃ x, gs pp m = x := ⟨_, rfl⟩
          obtain ⟨yy, hyy⟩ : ∃ x, gs qq m = x := ⟨_, rfl⟩
          rw [hx] at g1 g2 hin
          rw [hyy] at g3 g4 hin
          obtain ⟨x0, x1⟩ := x
          obtain ⟨y0, y1'⟩ := yy
          obtain ⟨n1, n3, n4⟩ := hin
          have n1' : x0 ≤ x1 := n1
          have n3' : y0 ≤ x0 := n3
          have n4' : x1 ≤ y1' := n4
          have CR := Lib.hid (fun z : BelW S => (show Calls Try.prog 22 #[.agg #[.int .i64 x0, .int .i64 x1]] z.w fun e w' => e = .returned (.bool true) ∧ ∃ y : BelW S, w' = y.w from by
            have h := bel_of (x := z) (right_any x0 x1 z.w)
            rwa [decide_eq_true n1'] at h))
          have CW1 := Lib.hid (fun z : BelW S => (show Calls Try.prog 24 #[.agg #[.int .i64 x0, .int .i64 x1], .agg #[.int .i64 y0, .int .i64 y1']] z.w fun e w' => e = .returned (.bool true) ∧ ∃ y : BelW S, w' = y.w from by
            have h := bel_of (x := z) (within_any x0 x1 y0 y1' z.w)
            rwa [decide_eq_true n3', decide_eq_true n4'] at h))
          clear e1 e2 e3 e4 hx hyy n1 n3 n4 n1' n3' n4'
          go_upto_region 21 with fail
          refine wp_region_belx (by kernel_rfl) (by kernel_rfl) ?_
          repeat (go_big_quiet_step ((first | (go_at_call 22; with_reducible exact CR.out _) | (go_at_call 24; with_reducible exact CW1.out _))))
          refine wpQuiet_nil ?_
          intro y2
          clear g1 g2 g3 g4
          go_wp2_with fail
          go_roundw
          case rel => exact ⟨m + 1, by omega, by go_num, y2, rfl⟩
          case measure => simp [intOf]; omega
        · have i5 : decide ((m : Int) < (ps.length : Int)) = false := decide_eq_false (by omega)
          have cb3 : y.w.cell? ⟨w.heap.size, 3, none⟩ = some (.slice B ps.length cb) := BelW.range HRS.out y 3 _ rfl
          have te : ((ps.length : Int) == (ps.length : Int)) = true := beq_iff_eq.2 rfl
          have HXX := Lib.hid (below_next HBS.out y.2)
          go_wp2_with fail
          go_ret
          exact ⟨rfl, HXX.out⟩

end Go.Proofs.Ytafnmaojpheppaa
