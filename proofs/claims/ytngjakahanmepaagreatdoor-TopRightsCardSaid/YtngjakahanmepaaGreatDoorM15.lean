/- Part 15 of the proof of TopRights: right.change. -/
import Derived.Test.YtngjakahanmepaaGreatDoorM14
namespace Go.Proofs.YtngjakahanmepaaGreatDoor
open Go.RowKit
set_option linter.unusedVariables false
set_option linter.unusedSimpArgs false
theorem size_setCellsX (b : Nat) : ∀ (vs : List Value) (o : Nat) (w : World), (w.setCells b o vs).heap.size = w.heap.size
  | [], _, _ => rfl
  | v :: vs, o, w => by rw [World.setCells, size_setCellsX b vs, World.size_setCell]
theorem below_setCellsX {B b : Nat} {a : World} (hb : B ≤ b) : ∀ (vs : List Value) (o : Nat) {w : World}, Below B a w → Below B a (w.setCells b o vs)
  | [], _, _, h => h
  | v :: vs, o, w, h => by rw [World.setCells]; exact below_setCellsX hb vs (o + 1) (h.setCell (by exact hb) _)
/-- a box that the call made -/
structure Bo (W : World) (b : Nat) (cs : List Value) : Prop where
  rng : W.rangeAt b 0 cs
  fz : ∀ o, W.frozen? ⟨b, o, none⟩ = false
  lt : b < W.heap.size
theorem Bo.bel {W : World} {b : Nat} {cs : List Value} (h : Bo W b cs) (y : BelW W) : Bo y.w b cs := ⟨range_bel h.rng y, fun o => bfrozen y h.lt (h.fz o), Nat.lt_of_lt_of_le h.lt y.2.size⟩
theorem Bo.next {W W' : World} {b : Nat} {cs : List Value} (h : Bo W b cs) (hb : Below W.heap.size W W') : Bo W' b cs := h.bel ⟨W', hb⟩
theorem Bo.there {W : World} {b : Nat} {cs : List Value} (h : Bo W b cs) : W.there b 0 cs.length := fun j hj => by
  have := h.rng j cs[j] (List.getElem?_eq_getElem hj)
  rw [Nat.zero_add] at this ⊢
  exact ⟨by rw [this]; rfl, h.fz j⟩
theorem Bo.set {W : World} {b : Nat} {cs : List Value} (h : Bo W b cs) (vs : List Value) (hl : vs.length = cs.length) : Bo (W.setCells b 0 vs) b vs :=
  ⟨World.rangeAt_setCells_same _ _ _ _ (by rw [hl]; exact h.there), fun o => by rw [World.frozen?_setCells]; exact h.fz o, by rw [size_setCellsX]; exact h.lt⟩
theorem Bo.other {W : World} {b : Nat} {cs : List Value} (h : Bo W b cs) {b' : Nat} (hne : b ≠ b') (o : Nat) (vs : List Value) : Bo (W.setCells b' o vs) b cs :=
  ⟨World.rangeAt_setCells_apart h.rng _ _ _ (.inl hne), fun o => by rw [World.frozen?_setCells]; exact h.fz o, by rw [size_setCellsX]; exact h.lt⟩
theorem Bo.new (W : World) (t : TypeId) (cs : List Value) : Bo (W.alloc (.cells cs.toArray t)) W.heap.size cs :=
  ⟨range_new _ _ _, fun _ => World.frozen?_alloc_at _ _ _ _ rfl, by rw [World.size_alloc]; exact Nat.lt_succ_self _⟩
theorem Bo.newAt {W : World} {n : Nat} (hn : W.heap.size = n) (t : TypeId) (cs : List Value) : Bo (W.alloc (.cells cs.toArray t)) n cs := hn ▸ Bo.new W t cs
theorem Bo.alloc {W : World} {b : Nat} {cs : List Value} (h : Bo W b cs) (o : Obj) : Bo (W.alloc o) b cs := h.next (bel_alloc (Below.refl _ _) _)
theorem Bo.put {W : World} {b : Nat} {cs : List Value} (h : Bo W b cs) {j : Nat} (hj : j < cs.length) (v : Value) : Bo (W.setCell ⟨b, j, none⟩ v) b (cs.set j v) := by
  refine ⟨fun i u hu => ?_, fun o => by rw [World.frozen?_setCell]; exact h.fz o, by rw [World.size_setCell]; exact h.lt⟩
  rw [Nat.zero_add]
  by_cases e : j = i
  · subst e
    rw [List.getElem?_set_self hj] at hu
    cases hu
    refine World.cell?_setCell_same' _ _ _ ?_
    have := h.rng j cs[j] (List.getElem?_eq_getElem hj)
    rw [Nat.zero_add] at this
    rw [this]; rfl
  · rw [List.getElem?_set_ne e] at hu
    rw [World.cell?_setCell_other _ _ _ _ (by intro e2; injection e2 with _ e3 _; exact e e3)]
    have := h.rng i u hu
    rwa [Nat.zero_add] at this
theorem Bo.far {W : World} {b : Nat} {cs : List Value} (h : Bo W b cs) {b' : Nat} (hne : b' ≠ b) (j : Nat) (v : Value) : Bo (W.setCell ⟨b', j, none⟩ v) b cs :=
  ⟨fun i u hu => by rw [World.cell?_setCell_far _ _ _ _ (by exact hne)]; exact h.rng i u hu, fun o => by rw [World.frozen?_setCell]; exact h.fz o, by rw [World.size_setCell]; exact h.lt⟩
theorem wpList_store_named {P : Program} {ops : Array Oper} {rest : List Oper} {op : Oper} {a : Act} {w : World} {Q : Exit → Act → World → Prop} (hgd : op.guard = none) (ty : TypeId) (x y : Operand) (ho : op.op = .store ty x y)
    (b o : Nat) (cells : Array Value) (hx : a.eval x = .pointer (some ⟨b, o, none⟩)) (hy : a.eval y = .agg cells)
    (ht : w.there b o cells.size) (hi : (P.info? ty).map (·.size) = some cells.size) (h1 : cells.all (·.oneCell') = true)
    (h : ∀ W', Hid (W' = w.setCells b o cells.toList) → wpList P ops Q rest (a.put op.dst undef) W') : wpList P ops Q (op :: rest) a w :=
  wpList_store_mid hgd ty x y ho b o cells hx hy ht hi h1 (h _ (Lib.hid rfl))
/-! deals -/
structure Dl where
  kind : Int
  known : Int
  r : Rt
  df : Int
  du : Int
def dlc (x : Dl) : List Value := [.int .i64 x.kind, .int .i64 x.known, .int .i64 x.r.id, .int .i64 x.r.own, .int .i64 x.r.date, .int .i64 x.r.pla, .int .i64 x.r.rate, .int .i64 x.r.fr, .int .i64 x.r.un, .int .i64 x.r.bk, .int .i64 x.r.bt, .int .i64 x.df, .int .i64 x.du]
theorem dlc_length (x : Dl) : (dlc x).length = 13 := rfl
def dlCells (l : List Dl) : List Value := l.flatMap dlc
def dl0 : Dl := ⟨0, 0, rt0, 0, 0⟩
def dl (l : List Dl) (k : Nat) : Dl := l.getD k dl0
theorem dl_at {l : List Dl} {i : Nat} (h : i < l.length) : dl l i = l[i] := by simp [dl, List.getD, h]
theorem Rd.dl {A : Option Addr} {l : List Dl} {w : World} (h : Rd w A (dlCells l)) {k : Nat} (hk : k < l.length) :
    ∃ ad b o, A = some ad ∧ b < w.heap.size ∧ ad.add (k * 13) = ⟨b, o, none⟩ ∧ w.rangeAt b o (dlc (dl l k)) := by
  rw [dl_at hk]
  exact Rd.row dlc 13 dlc_length (by omega) h hk
structure ChJ (w : World) (r : Rt) (T M : Dl) (wr : World) : Prop where
  bel : Below w.heap.size w wr
  r : Bo wr w.heap.size (rtc r)
  z : Bo wr (w.heap.size + 1) [.int .i64 0, .int .i64 0, .int .i64 0, .int .i64 0, .int .i64 0, .int .i64 0, .int .i64 0, .int .i64 0, .int .i64 0]
  t : Bo wr (w.heap.size + 1 + 1) (dlc T)
  m : Bo wr (w.heap.size + 1 + 1 + 1) (dlc M)
theorem ChJ.next {w : World} {r : Rt} {T M : Dl} {wr w' : World} (h : ChJ w r T M wr) (hb : Below wr.heap.size wr w') : ChJ w r T M w' := ⟨below_next h.bel hb, h.r.next hb, h.z.next hb, h.t.next hb, h.m.next hb⟩
theorem ChJ.putT {w : World} {r : Rt} {T M : Dl} {wr : World} (h : ChJ w r T M wr) (D : Dl) : ChJ w r D M (wr.setCells (w.heap.size + 1 + 1) 0 (dlc D)) :=
  ⟨below_setCellsX (by omega) _ _ h.bel, h.r.other (by omega) _ _, h.z.other (by omega) _ _, h.t.set (dlc D) rfl, h.m.other (by omega) _ _⟩
theorem ChJ.putM {w : World} {r : Rt} {T M : Dl} {wr : World} (h : ChJ w r T M wr) (D : Dl) : ChJ w r T D (wr.setCells (w.heap.size + 1 + 1 + 1) 0 (dlc D)) :=
  ⟨below_setCellsX (by omega) _ _ h.bel, h.r.other (by omega) _ _, h.z.other (by omega) _ _, h.t.other (by omega) _ _, h.m.set (dlc D) rfl⟩
/-- the changed right -/
structure ChB (r : Rt) (w : World) (e : Ending) (w' : World) : Prop where
  ans : ∃ (r' : Rt) (b : Bool), e = .returned (.tuple #[.agg (rtc r').toArray, .bool b]) ∧ (b = true → r'.id = r.id ∧ r'.date = r.date ∧ r'.rate = r.rate)
  bel : Below w.heap.size w w'
def ChR (w : World) (r : Rt) (n : Nat) (s8 s9 s14 : Value) (wr : World) : Prop := ∃ (k : Nat) (p q : Bool) (T M : Dl), k ≤ n ∧ s8 = .bool p ∧ s9 = .bool q ∧ s14 = .int .i64 (k : Int) ∧ ChJ w r T M wr
set_option maxHeartbeats 32000000 in
set_option maxRecDepth 100000 in
theorem change_any (A : Option Addr) (c : Nat) (ds : List Dl) (id own date pla rate fr un bk bt : Int) (hn : ds.length ≤ 1000) (w : World) (hd : Rd w A (dlCells ds)) :
    Calls Tryz.prog 22 #[.agg #[.int .i64 id, .int .i64 own, .int .i64 date, .int .i64 pla, .int .i64 rate, .int .i64 fr, .int .i64 un, .int .i64 bk, .int .i64 bt], .slice A ds.length c] w (ChB ⟨id, own, date, pla, rate, fr, un, bk, bt⟩ w) := by
  go_enter Tryz.func22, Tryz.ntmps22
  go_upto_region 3 with fail
  refine wp_rebase _ (fun V hV x0 => ?_)
  have HJ := Lib.hid (show ChJ w ⟨id, own, date, pla, rate, fr, un, bk, bt⟩ dl0 dl0 V by
    rw [hV]
    refine ⟨bel_alloc (bel_alloc (bel_alloc (bel_alloc (Below.refl _ _) _) _) _) _, ?_, ?_, ?_, ?_⟩
    · exact (((Bo.new w 46 [.int .i64 id, .int .i64 own, .int .i64 date, .int .i64 pla, .int .i64 rate, .int .i64 fr, .int .i64 un, .int .i64 bk, .int .i64 bt]).alloc _).alloc _).alloc _
    · exact ((Bo.newAt (by rw [World.size_alloc]) 46 [.int .i64 0, .int .i64 0, .int .i64 0, .int .i64 0, .int .i64 0, .int .i64 0, .int .i64 0, .int .i64 0, .int .i64 0]).alloc _).alloc _
    · exact (Bo.newAt (by simp only [World.size_alloc]) 74 [.int .i64 0, .int .i64 0, .int .i64 0, .int .i64 0, .int .i64 0, .int .i64 0, .int .i64 0, .int .i64 0, .int .i64 0, .int .i64 0, .int .i64 0, .int .i64 0, .int .i64 0]).alloc _
    · exact Bo.newAt (by simp only [World.size_alloc]) 74 [.int .i64 0, .int .i64 0, .int .i64 0, .int .i64 0, .int .i64 0, .int .i64 0, .int .i64 0, .int .i64 0, .int .i64 0, .int .i64 0, .int .i64 0, .int .i64 0, .int .i64 0])
  have HJ0 := Lib.hid (HJ.out.next x0.2)
  have HD := Lib.hid (fun (W : World) (hb : Below w.heap.size w W) => hd.below (Nat.le_refl _) hb)
  clear hV hd HJ
  go_wp2_with fail
  go_loopw [8, 9, 14] (fun s8 s9 s14 wr => ChR w ⟨id, own, date, pla, rate, fr, un, bk, bt⟩ ds.length s8 s9 s14 wr) (fun _ _ i _ => ds.length - (intOf i).toNat)
  case atStart => exact ⟨0, false, false, dl0, dl0, by omega, rfl, rfl, rfl, HJ0.out⟩
  case round =>
    clear HJ0
    obtain ⟨k, p, q, T, M, hk, rfl, rfl, rfl, hj⟩ := hrel
    have HJ := Lib.hid hj
    clear hj
    by_cases hlt : k < ds.length
    case neg =>
      have i4 : decide ((k : Int) < (ds.length : Int)) = false := decide_eq_false (by omega)
      cases p
      · cases q
        · have tc : wr.cell? ⟨w.heap.size + 1 + 1, 3, none⟩ = some (.int .i64 T.r.own) := HJ.out.t.rng 3 _ rfl
          have mc : wr.cell? ⟨w.heap.size + 1 + 1 + 1, 5, none⟩ = some (.int .i64 M.r.pla) := HJ.out.m.rng 5 _ rfl
          have rc1 : wr.cell? ⟨w.heap.size, 1, none⟩ = some (.int .i64 own) := HJ.out.r.rng 1 _ rfl
          have rc3 : wr.cell? ⟨w.heap.size, 3, none⟩ = some (.int .i64 pla) := HJ.out.r.rng 3 _ rfl
          have rfz := HJ.out.r.fz
          go_upto_region 17 with fail
          refine wp_named _ (fun W3 hW3 => ?_)
          have HR3 := Lib.hid (show Bo W3 w.heap.size [.int .i64 id, .int .i64 own, .int .i64 date, .int .i64 pla, .int .i64 rate, .int .i64 fr, .int .i64 un, .int .i64 bk, .int .i64 bt] from by rw [hW3]; exact HJ.out.r)
          have HZ3 := Lib.hid (show Bo W3 (w.heap.size + 1) [.int .i64 0, .int .i64 0, .int .i64 0, .int .i64 0, .int .i64 0, .int .i64 0, .int .i64 0, .int .i64 0, .int .i64 0] from by rw [hW3]; exact HJ.out.z)
          have HB3 := Lib.hid (show Below w.heap.size w W3 from by rw [hW3]; exact HJ.out.bel)
          clear hW3 tc mc rc1 rc3 rfz
          go_wp2_with (first
            | (with_reducible refine wpList_load_g 46 _ (by with_reducible rfl) _ _ (by with_unfolding_all rfl) (by with_unfolding_all rfl) _ _ HR3.out.rng Tryz.underlying46 (by with_unfolding_all rfl) (by kernel_rfl) ?_)
            | (with_reducible refine wpList_store_named rfl 46 _ _ (by with_reducible rfl) (w.heap.size + 1) 0 #[.int .i64 id, .int .i64 own, .int .i64 date, .int .i64 pla, .int .i64 rate, .int .i64 fr, .int .i64 un, .int .i64 bk, .int .i64 bt] (by with_unfolding_all rfl) (by with_unfolding_all rfl) (by with_unfolding_all exact HZ3.out.there) (by kernel_rfl) (by with_unfolding_all rfl) ?_))
          intro W4 hW4h
          have hW4 := hW4h.out
          clear hW4h
          have HB4 := Lib.hid (show Below w.heap.size w W4 from by rw [hW4]; exact below_setCellsX (b := w.heap.size + 1) (by omega) [.int .i64 id, .int .i64 own, .int .i64 date, .int .i64 pla, .int .i64 rate, .int .i64 fr, .int .i64 un, .int .i64 bk, .int .i64 bt] 0 HB3.out)
          have HZ4 := Lib.hid (show Bo W4 (w.heap.size + 1) [.int .i64 id, .int .i64 own, .int .i64 date, .int .i64 pla, .int .i64 rate, .int .i64 fr, .int .i64 un, .int .i64 bk, .int .i64 bt] from by rw [hW4]; exact HZ3.out.set [.int .i64 id, .int .i64 own, .int .i64 date, .int .i64 pla, .int .i64 rate, .int .i64 fr, .int .i64 un, .int .i64 bk, .int .i64 bt] rfl)
          clear hW4
          have zc0 := HZ4.out.rng 0 _ rfl
          have zc1 := HZ4.out.rng 1 _ rfl
          have zc2 := HZ4.out.rng 2 _ rfl
          have zc3 := HZ4.out.rng 3 _ rfl
          have zc4 := HZ4.out.rng 4 _ rfl
          have zc5 := HZ4.out.rng 5 _ rfl
          have zc6 := HZ4.out.rng 6 _ rfl
          have zc7 := HZ4.out.rng 7 _ rfl
          have zc8 := HZ4.out.rng 8 _ rfl
          simp only [Nat.zero_add] at zc0 zc1 zc2 zc3 zc4 zc5 zc6 zc7 zc8
          go_wp2_with fail
          refine bodyPost_ret (v := .tuple #[.agg #[.int .i64 id, .int .i64 own, .int .i64 date, .int .i64 pla, .int .i64 rate, .int .i64 fr, .int .i64 un, .int .i64 bk, .int .i64 bt], .bool true]) ?_ rfl ⟨⟨⟨id, own, date, pla, rate, fr, un, bk, bt⟩, true, rfl, fun _ => ⟨rfl, rfl, rfl⟩⟩, HB4.out⟩
          simp [results, Tryz.results22, go_sem, zc0, zc1, zc2, zc3, zc4, zc5, zc6, zc7, zc8]
        · have tc : wr.cell? ⟨w.heap.size + 1 + 1, 3, none⟩ = some (.int .i64 T.r.own) := HJ.out.t.rng 3 _ rfl
          have mc : wr.cell? ⟨w.heap.size + 1 + 1 + 1, 5, none⟩ = some (.int .i64 M.r.pla) := HJ.out.m.rng 5 _ rfl
          have rc1 : wr.cell? ⟨w.heap.size, 1, none⟩ = some (.int .i64 own) := HJ.out.r.rng 1 _ rfl
          have rc3 : wr.cell? ⟨w.heap.size, 3, none⟩ = some (.int .i64 pla) := HJ.out.r.rng 3 _ rfl
          have rfz := HJ.out.r.fz
          go_upto_region 17 with fail
          refine wp_named _ (fun W3 hW3 => ?_)
          have HR3 := Lib.hid (show Bo W3 w.heap.size [.int .i64 id, .int .i64 own, .int .i64 date, .int .i64 M.r.pla, .int .i64 rate, .int .i64 fr, .int .i64 un, .int .i64 bk, .int .i64 bt] from by rw [hW3]; exact (HJ.out.r.put (j := 3) (by simp [rtc]) (.int .i64 M.r.pla)))
          have HZ3 := Lib.hid (show Bo W3 (w.heap.size + 1) [.int .i64 0, .int .i64 0, .int .i64 0, .int .i64 0, .int .i64 0, .int .i64 0, .int .i64 0, .int .i64 0, .int .i64 0] from by rw [hW3]; exact (HJ.out.z.far (by omega) _ _))
          have HB3 := Lib.hid (show Below w.heap.size w W3 from by rw [hW3]; exact (HJ.out.bel.setCell (by simp) _))
          clear hW3 tc mc rc1 rc3 rfz
          go_wp2_with (first
            | (with_reducible refine wpList_load_g 46 _ (by with_reducible rfl) _ _ (by with_unfolding_all rfl) (by with_unfolding_all rfl) _ _ HR3.out.rng Tryz.underlying46 (by with_unfolding_all rfl) (by kernel_rfl) ?_)
            | (with_reducible refine wpList_store_named rfl 46 _ _ (by with_reducible rfl) (w.heap.size + 1) 0 #[.int .i64 id, .int .i64 own, .int .i64 date, .int .i64 M.r.pla, .int .i64 rate, .int .i64 fr, .int .i64 un, .int .i64 bk, .int .i64 bt] (by with_unfolding_all rfl) (by with_unfolding_all rfl) (by with_unfolding_all exact HZ3.out.there) (by kernel_rfl) (by with_unfolding_all rfl) ?_))
          intro W4 hW4h
          have hW4 := hW4h.out
          clear hW4h
          have HB4 := Lib.hid (show Below w.heap.size w W4 from by rw [hW4]; exact below_setCellsX (b := w.heap.size + 1) (by omega) [.int .i64 id, .int .i64 own, .int .i64 date, .int .i64 M.r.pla, .int .i64 rate, .int .i64 fr, .int .i64 un, .int .i64 bk, .int .i64 bt] 0 HB3.out)
          have HZ4 := Lib.hid (show Bo W4 (w.heap.size + 1) [.int .i64 id, .int .i64 own, .int .i64 date, .int .i64 M.r.pla, .int .i64 rate, .int .i64 fr, .int .i64 un, .int .i64 bk, .int .i64 bt] from by rw [hW4]; exact HZ3.out.set [.int .i64 id, .int .i64 own, .int .i64 date, .int .i64 M.r.pla, .int .i64 rate, .int .i64 fr, .int .i64 un, .int .i64 bk, .int .i64 bt] rfl)
          clear hW4
          have zc0 := HZ4.out.rng 0 _ rfl
          have zc1 := HZ4.out.rng 1 _ rfl
          have zc2 := HZ4.out.rng 2 _ rfl
          have zc3 := HZ4.out.rng 3 _ rfl
          have zc4 := HZ4.out.rng 4 _ rfl
          have zc5 := HZ4.out.rng 5 _ rfl
          have zc6 := HZ4.out.rng 6 _ rfl
          have zc7 := HZ4.out.rng 7 _ rfl
          have zc8 := HZ4.out.rng 8 _ rfl
          simp only [Nat.zero_add] at zc0 zc1 zc2 zc3 zc4 zc5 zc6 zc7 zc8
          go_wp2_with fail
          refine bodyPost_ret (v := .tuple #[.agg #[.int .i64 id, .int .i64 own, .int .i64 date, .int .i64 M.r.pla, .int .i64 rate, .int .i64 fr, .int .i64 un, .int .i64 bk, .int .i64 bt], .bool true]) ?_ rfl ⟨⟨⟨id, own, date, M.r.pla, rate, fr, un, bk, bt⟩, true, rfl, fun _ => ⟨rfl, rfl, rfl⟩⟩, HB4.out⟩
          simp [results, Tryz.results22, go_sem, zc0, zc1, zc2, zc3, zc4, zc5, zc6, zc7, zc8]
      · cases q
        · have tc : wr.cell? ⟨w.heap.size + 1 + 1, 3, none⟩ = some (.int .i64 T.r.own) := HJ.out.t.rng 3 _ rfl
          have mc : wr.cell? ⟨w.heap.size + 1 + 1 + 1, 5, none⟩ = some (.int .i64 M.r.pla) := HJ.out.m.rng 5 _ rfl
          have rc1 : wr.cell? ⟨w.heap.size, 1, none⟩ = some (.int .i64 own) := HJ.out.r.rng 1 _ rfl
          have rc3 : wr.cell? ⟨w.heap.size, 3, none⟩ = some (.int .i64 pla) := HJ.out.r.rng 3 _ rfl
          have rfz := HJ.out.r.fz
          go_upto_region 17 with fail
          refine wp_named _ (fun W3 hW3 => ?_)
          have HR3 := Lib.hid (show Bo W3 w.heap.size [.int .i64 id, .int .i64 T.r.own, .int .i64 date, .int .i64 pla, .int .i64 rate, .int .i64 fr, .int .i64 un, .int .i64 bk, .int .i64 bt] from by rw [hW3]; exact (HJ.out.r.put (j := 1) (by simp [rtc]) (.int .i64 T.r.own)))
          have HZ3 := Lib.hid (show Bo W3 (w.heap.size + 1) [.int .i64 0, .int .i64 0, .int .i64 0, .int .i64 0, .int .i64 0, .int .i64 0, .int .i64 0, .int .i64 0, .int .i64 0] from by rw [hW3]; exact (HJ.out.z.far (by omega) _ _))
          have HB3 := Lib.hid (show Below w.heap.size w W3 from by rw [hW3]; exact (HJ.out.bel.setCell (by simp) _))
          clear hW3 tc mc rc1 rc3 rfz
          go_wp2_with (first
            | (with_reducible refine wpList_load_g 46 _ (by with_reducible rfl) _ _ (by with_unfolding_all rfl) (by with_unfolding_all rfl) _ _ HR3.out.rng Tryz.underlying46 (by with_unfolding_all rfl) (by kernel_rfl) ?_)
            | (with_reducible refine wpList_store_named rfl 46 _ _ (by with_reducible rfl) (w.heap.size + 1) 0 #[.int .i64 id, .int .i64 T.r.own, .int .i64 date, .int .i64 pla, .int .i64 rate, .int .i64 fr, .int .i64 un, .int .i64 bk, .int .i64 bt] (by with_unfolding_all rfl) (by with_unfolding_all rfl) (by with_unfolding_all exact HZ3.out.there) (by kernel_rfl) (by with_unfolding_all rfl) ?_))
          intro W4 hW4h
          have hW4 := hW4h.out
          clear hW4h
          have HB4 := Lib.hid (show Below w.heap.size w W4 from by rw [hW4]; exact below_setCellsX (b := w.heap.size + 1) (by omega) [.int .i64 id, .int .i64 T.r.own, .int .i64 date, .int .i64 pla, .int .i64 rate, .int .i64 fr, .int .i64 un, .int .i64 bk, .int .i64 bt] 0 HB3.out)
          have HZ4 := Lib.hid (show Bo W4 (w.heap.size + 1) [.int .i64 id, .int .i64 T.r.own, .int .i64 date, .int .i64 pla, .int .i64 rate, .int .i64 fr, .int .i64 un, .int .i64 bk, .int .i64 bt] from by rw [hW4]; exact HZ3.out.set [.int .i64 id, .int .i64 T.r.own, .int .i64 date, .int .i64 pla, .int .i64 rate, .int .i64 fr, .int .i64 un, .int .i64 bk, .int .i64 bt] rfl)
          clear hW4
          have zc0 := HZ4.out.rng 0 _ rfl
          have zc1 := HZ4.out.rng 1 _ rfl
          have zc2 := HZ4.out.rng 2 _ rfl
          have zc3 := HZ4.out.rng 3 _ rfl
          have zc4 := HZ4.out.rng 4 _ rfl
          have zc5 := HZ4.out.rng 5 _ rfl
          have zc6 := HZ4.out.rng 6 _ rfl
          have zc7 := HZ4.out.rng 7 _ rfl
          have zc8 := HZ4.out.rng 8 _ rfl
          simp only [Nat.zero_add] at zc0 zc1 zc2 zc3 zc4 zc5 zc6 zc7 zc8
          go_wp2_with fail
          refine bodyPost_ret (v := .tuple #[.agg #[.int .i64 id, .int .i64 T.r.own, .int .i64 date, .int .i64 pla, .int .i64 rate, .int .i64 fr, .int .i64 un, .int .i64 bk, .int .i64 bt], .bool true]) ?_ rfl ⟨⟨⟨id, T.r.own, date, pla, rate, fr, un, bk, bt⟩, true, rfl, fun _ => ⟨rfl, rfl, rfl⟩⟩, HB4.out⟩
          simp [results, Tryz.results22, go_sem, zc0, zc1, zc2, zc3, zc4, zc5, zc6, zc7, zc8]
        · have tc : wr.cell? ⟨w.heap.size + 1 + 1, 3, none⟩ = some (.int .i64 T.r.own) := HJ.out.t.rng 3 _ rfl
          have mc : wr.cell? ⟨w.heap.size + 1 + 1 + 1, 5, none⟩ = some (.int .i64 M.r.pla) := HJ.out.m.rng 5 _ rfl
          have rc1 : wr.cell? ⟨w.heap.size, 1, none⟩ = some (.int .i64 own) := HJ.out.r.rng 1 _ rfl
          have rc3 : wr.cell? ⟨w.heap.size, 3, none⟩ = some (.int .i64 pla) := HJ.out.r.rng 3 _ rfl
          have rfz := HJ.out.r.fz
          go_upto_region 17 with fail
          refine wp_named _ (fun W3 hW3 => ?_)
          have HR3 := Lib.hid (show Bo W3 w.heap.size [.int .i64 id, .int .i64 T.r.own, .int .i64 date, .int .i64 M.r.pla, .int .i64 rate, .int .i64 fr, .int .i64 un, .int .i64 bk, .int .i64 bt] from by rw [hW3]; exact ((HJ.out.r.put (j := 1) (by simp [rtc]) (.int .i64 T.r.own)).put (j := 3) (by simp [rtc]) (.int .i64 M.r.pla)))
          have HZ3 := Lib.hid (show Bo W3 (w.heap.size + 1) [.int .i64 0, .int .i64 0, .int .i64 0, .int .i64 0, .int .i64 0, .int .i64 0, .int .i64 0, .int .i64 0, .int .i64 0] from by rw [hW3]; exact ((HJ.out.z.far (by omega) _ _).far (by omega) _ _))
          have HB3 := Lib.hid (show Below w.heap.size w W3 from by rw [hW3]; exact ((HJ.out.bel.setCell (by simp) _).setCell (by simp) _))
          clear hW3 tc mc rc1 rc3 rfz
          go_wp2_with (first
            | (with_reducible refine wpList_load_g 46 _ (by with_reducible rfl) _ _ (by with_unfolding_all rfl) (by with_unfolding_all rfl) _ _ HR3.out.rng Tryz.underlying46 (by with_unfolding_all rfl) (by kernel_rfl) ?_)
            | (with_reducible refine wpList_store_named rfl 46 _ _ (by with_reducible rfl) (w.heap.size + 1) 0 #[.int .i64 id, .int .i64 T.r.own, .int .i64 date, .int .i64 M.r.pla, .int .i64 rate, .int .i64 fr, .int .i64 un, .int .i64 bk, .int .i64 bt] (by with_unfolding_all rfl) (by with_unfolding_all rfl) (by with_unfolding_all exact HZ3.out.there) (by kernel_rfl) (by with_unfolding_all rfl) ?_))
          intro W4 hW4h
          have hW4 := hW4h.out
          clear hW4h
          have HB4 := Lib.hid (show Below w.heap.size w W4 from by rw [hW4]; exact below_setCellsX (b := w.heap.size + 1) (by omega) [.int .i64 id, .int .i64 T.r.own, .int .i64 date, .int .i64 M.r.pla, .int .i64 rate, .int .i64 fr, .int .i64 un, .int .i64 bk, .int .i64 bt] 0 HB3.out)
          have HZ4 := Lib.hid (show Bo W4 (w.heap.size + 1) [.int .i64 id, .int .i64 T.r.own, .int .i64 date, .int .i64 M.r.pla, .int .i64 rate, .int .i64 fr, .int .i64 un, .int .i64 bk, .int .i64 bt] from by rw [hW4]; exact HZ3.out.set [.int .i64 id, .int .i64 T.r.own, .int .i64 date, .int .i64 M.r.pla, .int .i64 rate, .int .i64 fr, .int .i64 un, .int .i64 bk, .int .i64 bt] rfl)
          clear hW4
          have zc0 := HZ4.out.rng 0 _ rfl
          have zc1 := HZ4.out.rng 1 _ rfl
          have zc2 := HZ4.out.rng 2 _ rfl
          have zc3 := HZ4.out.rng 3 _ rfl
          have zc4 := HZ4.out.rng 4 _ rfl
          have zc5 := HZ4.out.rng 5 _ rfl
          have zc6 := HZ4.out.rng 6 _ rfl
          have zc7 := HZ4.out.rng 7 _ rfl
          have zc8 := HZ4.out.rng 8 _ rfl
          simp only [Nat.zero_add] at zc0 zc1 zc2 zc3 zc4 zc5 zc6 zc7 zc8
          go_wp2_with fail
          refine bodyPost_ret (v := .tuple #[.agg #[.int .i64 id, .int .i64 T.r.own, .int .i64 date, .int .i64 M.r.pla, .int .i64 rate, .int .i64 fr, .int .i64 un, .int .i64 bk, .int .i64 bt], .bool true]) ?_ rfl ⟨⟨⟨id, T.r.own, date, M.r.pla, rate, fr, un, bk, bt⟩, true, rfl, fun _ => ⟨rfl, rfl, rfl⟩⟩, HB4.out⟩
          simp [results, Tryz.results22, go_sem, zc0, zc1, zc2, zc3, zc4, zc5, zc6, zc7, zc8]
    have i4 : decide ((k : Int) < (ds.length : Int)) = true := decide_eq_true (by omega)
    have j1 : (0 : Int) ≤ (k : Int) := by omega
    have j2 : (k : Int) < (ds.length : Int) := by omega
    obtain ⟨rd, rb0, ro, rfl, hbs, hE, hrt⟩ := (HD.out _ HJ.out.bel).dl hlt
    obtain ⟨X, hX⟩ : ∃ X, dl ds k = X := ⟨_, rfl⟩
    rw [hX] at hrt
    clear hX hbs
    obtain ⟨kind, known, ⟨i0, i1, i2, i3, i4', i5, i6, i7, i8⟩, df, du⟩ := X
    have HRG := Lib.hid (show wr.rangeAt rb0 ro [.int .i64 kind, .int .i64 known, .int .i64 i0, .int .i64 i1, .int .i64 i2, .int .i64 i3, .int .i64 i4', .int .i64 i5, .int .i64 i6, .int .i64 i7, .int .i64 i8, .int .i64 df, .int .i64 du] from hrt)
    clear hrt
    go_upto_region 6 with (first
      | (with_reducible refine wpList_load_g 74 _ (by with_reducible rfl) rb0 ro (by with_unfolding_all rfl) (by with_unfolding_all rfl) _ _ HRG.out Tryz.underlying74 (by with_unfolding_all rfl) (by kernel_rfl) ?_)
      | (with_reducible refine wpList_store_new (z := [.int .i64 0, .int .i64 0, .int .i64 0, .int .i64 0, .int .i64 0, .int .i64 0, .int .i64 0, .int .i64 0, .int .i64 0, .int .i64 0, .int .i64 0, .int .i64 0, .int .i64 0]) (cs := [.int .i64 kind, .int .i64 known, .int .i64 i0, .int .i64 i1, .int .i64 i2, .int .i64 i3, .int .i64 i4', .int .i64 i5, .int .i64 i6, .int .i64 i7, .int .i64 i8, .int .i64 df, .int .i64 du]) 74 _ _ (by with_reducible rfl) (by with_unfolding_all rfl) wr.heap.size (by with_reducible rfl) _ (by with_unfolding_all rfl) (by with_unfolding_all rfl) (by with_unfolding_all rfl) (by kernel_rfl) (by with_unfolding_all rfl) ?_))
    refine wp_rebase _ (fun X hX x1 => ?_)
    have hbX : Below wr.heap.size wr X := by rw [hX]; exact bel_alloc (Below.refl _ _) _
    have HJX := Lib.hid (HJ.out.next (below_next hbX x1.2))
    have HN := Lib.hid (show Bo x1.w wr.heap.size [.int .i64 kind, .int .i64 known, .int .i64 i0, .int .i64 i1, .int .i64 i2, .int .i64 i3, .int .i64 i4', .int .i64 i5, .int .i64 i6, .int .i64 i7, .int .i64 i8, .int .i64 df, .int .i64 du] from by
      have : Bo X wr.heap.size [.int .i64 kind, .int .i64 known, .int .i64 i0, .int .i64 i1, .int .i64 i2, .int .i64 i3, .int .i64 i4', .int .i64 i5, .int .i64 i6, .int .i64 i7, .int .i64 i8, .int .i64 df, .int .i64 du] := by rw [hX]; exact Bo.new wr 74 [.int .i64 kind, .int .i64 known, .int .i64 i0, .int .i64 i1, .int .i64 i2, .int .i64 i3, .int .i64 i4', .int .i64 i5, .int .i64 i6, .int .i64 i7, .int .i64 i8, .int .i64 df, .int .i64 du]
      exact this.bel x1)
    obtain ⟨nb, hnb⟩ : ∃ n, wr.heap.size = n := ⟨_, rfl⟩
    rw [hnb] at HN ⊢
    have n0 : x1.w.cell? ⟨nb, 0, none⟩ = some (.int .i64 kind) := HN.out.rng 0 _ rfl
    have n1 : x1.w.cell? ⟨nb, 1, none⟩ = some (.int .i64 known) := HN.out.rng 1 _ rfl
    have HNB0 := Lib.hid (show w.heap.size + 1 + 1 + 1 < nb from by rw [← hnb]; exact HJ.out.m.lt)
    clear hX hnb hbX HJ HRG hE
    have HNB := Lib.hid (show w.heap.size + 1 + 1 + 1 < nb from HNB0.out)
    have tk : x1.w.cell? ⟨w.heap.size + 1 + 1, 1, none⟩ = some (.int .i64 T.known) := HJX.out.t.rng 1 _ rfl
    have mk : x1.w.cell? ⟨w.heap.size + 1 + 1 + 1, 1, none⟩ = some (.int .i64 M.known) := HJX.out.m.rng 1 _ rfl
    by_cases k3 : kind = 3
    case pos =>
      subst k3
      go_wp2_with (first
        | (with_reducible refine wpList_store_named rfl 46 _ _ (by with_reducible rfl) (w.heap.size + 1) 0 #[.int .i64 0, .int .i64 0, .int .i64 0, .int .i64 0, .int .i64 0, .int .i64 0, .int .i64 0, .int .i64 0, .int .i64 0] (by with_unfolding_all rfl) (by with_unfolding_all rfl) (by with_unfolding_all exact HJX.out.z.there) (by kernel_rfl) (by with_unfolding_all rfl) ?_))
      intro W4 hW4h
      have hW4 := hW4h.out
      clear hW4h
      have HB4 := Lib.hid (show Below w.heap.size w W4 from by rw [hW4]; exact below_setCellsX (b := w.heap.size + 1) (by omega) [.int .i64 0, .int .i64 0, .int .i64 0, .int .i64 0, .int .i64 0, .int .i64 0, .int .i64 0, .int .i64 0, .int .i64 0] 0 HJX.out.bel)
      have HZ4 := Lib.hid (show Bo W4 (w.heap.size + 1) [.int .i64 0, .int .i64 0, .int .i64 0, .int .i64 0, .int .i64 0, .int .i64 0, .int .i64 0, .int .i64 0, .int .i64 0] from by rw [hW4]; exact HJX.out.z.set [.int .i64 0, .int .i64 0, .int .i64 0, .int .i64 0, .int .i64 0, .int .i64 0, .int .i64 0, .int .i64 0, .int .i64 0] rfl)
      clear hW4 n0 n1 tk mk
      have zc0 := HZ4.out.rng 0 _ rfl
      have zc1 := HZ4.out.rng 1 _ rfl
      have zc2 := HZ4.out.rng 2 _ rfl
      have zc3 := HZ4.out.rng 3 _ rfl
      have zc4 := HZ4.out.rng 4 _ rfl
      have zc5 := HZ4.out.rng 5 _ rfl
      have zc6 := HZ4.out.rng 6 _ rfl
      have zc7 := HZ4.out.rng 7 _ rfl
      have zc8 := HZ4.out.rng 8 _ rfl
      simp only [Nat.zero_add] at zc0 zc1 zc2 zc3 zc4 zc5 zc6 zc7 zc8
      go_wp2_with fail
      refine bodyPost_ret (v := .tuple #[.agg #[.int .i64 0, .int .i64 0, .int .i64 0, .int .i64 0, .int .i64 0, .int .i64 0, .int .i64 0, .int .i64 0, .int .i64 0], .bool false]) ?_ rfl ⟨⟨rt0, false, rfl, fun h => by cases h⟩, HB4.out⟩
      simp [results, Tryz.results22, go_sem, zc0, zc1, zc2, zc3, zc4, zc5, zc6, zc7, zc8]
    case neg =>
    by_cases k1 : kind = 1
    case pos =>
      subst k1
      clear k3
      cases p
      case false =>
        go_wp2_with (first
          | (with_reducible refine wpList_load_g 74 _ (by with_reducible rfl) nb 0 (by with_unfolding_all rfl) (by with_unfolding_all rfl) _ _ HN.out.rng Tryz.underlying74 (by with_unfolding_all rfl) (by kernel_rfl) ?_)
          | (with_reducible refine wpList_store_named rfl 74 _ _ (by with_reducible rfl) (w.heap.size + 1 + 1) 0 #[.int .i64 1, .int .i64 known, .int .i64 i0, .int .i64 i1, .int .i64 i2, .int .i64 i3, .int .i64 i4', .int .i64 i5, .int .i64 i6, .int .i64 i7, .int .i64 i8, .int .i64 df, .int .i64 du] (by with_unfolding_all rfl) (by with_unfolding_all rfl) (by with_unfolding_all exact HJX.out.t.there) (by kernel_rfl) (by with_unfolding_all rfl) ?_))
        intro W4 hW4h
        have hW4 := hW4h.out
        clear hW4h
        have HJ4 := Lib.hid (show ChJ w ⟨id, own, date, pla, rate, fr, un, bk, bt⟩ ⟨1, known, ⟨i0, i1, i2, i3, i4', i5, i6, i7, i8⟩, df, du⟩ M W4 from by rw [hW4]; exact HJX.out.putT ⟨1, known, ⟨i0, i1, i2, i3, i4', i5, i6, i7, i8⟩, df, du⟩)
        have HN4 := Lib.hid (show Bo W4 nb [.int .i64 1, .int .i64 known, .int .i64 i0, .int .i64 i1, .int .i64 i2, .int .i64 i3, .int .i64 i4', .int .i64 i5, .int .i64 i6, .int .i64 i7, .int .i64 i8, .int .i64 df, .int .i64 du] from by rw [hW4]; exact HN.out.other (by have := HNB.out; omega) _ _)
        clear hW4 n0 n1
        have n0 : W4.cell? ⟨nb, 0, none⟩ = some (.int .i64 1) := HN4.out.rng 0 _ rfl
        have n1 : W4.cell? ⟨nb, 1, none⟩ = some (.int .i64 known) := HN4.out.rng 1 _ rfl
        go_wp2_with fail
        go_roundw
        case rel => exact ⟨k + 1, true, q, ⟨1, known, ⟨i0, i1, i2, i3, i4', i5, i6, i7, i8⟩, df, du⟩, M, by omega, rfl, rfl, by go_num, HJ4.out⟩
        case measure => simp [intOf]; omega
      case true =>
      by_cases hle : T.known ≤ known
      case pos =>
        have t5 : decide (T.known ≤ known) = true := decide_eq_true hle
        go_wp2_with (first
          | (with_reducible refine wpList_load_g 74 _ (by with_reducible rfl) nb 0 (by with_unfolding_all rfl) (by with_unfolding_all rfl) _ _ HN.out.rng Tryz.underlying74 (by with_unfolding_all rfl) (by kernel_rfl) ?_)
          | (with_reducible refine wpList_store_named rfl 74 _ _ (by with_reducible rfl) (w.heap.size + 1 + 1) 0 #[.int .i64 1, .int .i64 known, .int .i64 i0, .int .i64 i1, .int .i64 i2, .int .i64 i3, .int .i64 i4', .int .i64 i5, .int .i64 i6, .int .i64 i7, .int .i64 i8, .int .i64 df, .int .i64 du] (by with_unfolding_all rfl) (by with_unfolding_all rfl) (by with_unfolding_all exact HJX.out.t.there) (by kernel_rfl) (by with_unfolding_all rfl) ?_))
        intro W4 hW4h
        have hW4 := hW4h.out
        clear hW4h
        have HJ4 := Lib.hid (show ChJ w ⟨id, own, date, pla, rate, fr, un, bk, bt⟩ ⟨1, known, ⟨i0, i1, i2, i3, i4', i5, i6, i7, i8⟩, df, du⟩ M W4 from by rw [hW4]; exact HJX.out.putT ⟨1, known, ⟨i0, i1, i2, i3, i4', i5, i6, i7, i8⟩, df, du⟩)
        have HN4 := Lib.hid (show Bo W4 nb [.int .i64 1, .int .i64 known, .int .i64 i0, .int .i64 i1, .int .i64 i2, .int .i64 i3, .int .i64 i4', .int .i64 i5, .int .i64 i6, .int .i64 i7, .int .i64 i8, .int .i64 df, .int .i64 du] from by rw [hW4]; exact HN.out.other (by have := HNB.out; omega) _ _)
        clear hW4 n0 n1
        have n0 : W4.cell? ⟨nb, 0, none⟩ = some (.int .i64 1) := HN4.out.rng 0 _ rfl
        have n1 : W4.cell? ⟨nb, 1, none⟩ = some (.int .i64 known) := HN4.out.rng 1 _ rfl
        go_wp2_with fail
        go_roundw
        case rel => exact ⟨k + 1, true, q, ⟨1, known, ⟨i0, i1, i2, i3, i4', i5, i6, i7, i8⟩, df, du⟩, M, by omega, rfl, rfl, by go_num, HJ4.out⟩
        case measure => simp [intOf]; omega
      case neg =>
        have t5 : decide (T.known ≤ known) = false := decide_eq_false hle
        go_wp2_with fail
        go_roundw
        case rel => exact ⟨k + 1, true, q, T, M, by omega, rfl, rfl, by go_num, HJX.out⟩
        case measure => simp [intOf]; omega
    case neg =>
    by_cases k2 : kind = 2
    case pos =>
      subst k2
      clear k3 k1
      cases q
      case false =>
        go_wp2_with (first
          | (with_reducible refine wpList_load_g 74 _ (by with_reducible rfl) nb 0 (by with_unfolding_all rfl) (by with_unfolding_all rfl) _ _ HN.out.rng Tryz.underlying74 (by with_unfolding_all rfl) (by kernel_rfl) ?_)
          | (with_reducible refine wpList_store_named rfl 74 _ _ (by with_reducible rfl) (w.heap.size + 1 + 1 + 1) 0 #[.int .i64 2, .int .i64 known, .int .i64 i0, .int .i64 i1, .int .i64 i2, .int .i64 i3, .int .i64 i4', .int .i64 i5, .int .i64 i6, .int .i64 i7, .int .i64 i8, .int .i64 df, .int .i64 du] (by with_unfolding_all rfl) (by with_unfolding_all rfl) (by with_unfolding_all exact HJX.out.m.there) (by kernel_rfl) (by with_unfolding_all rfl) ?_))
        intro W4 hW4h
        have hW4 := hW4h.out
        clear hW4h
        have HJ4 := Lib.hid (show ChJ w ⟨id, own, date, pla, rate, fr, un, bk, bt⟩ T ⟨2, known, ⟨i0, i1, i2, i3, i4', i5, i6, i7, i8⟩, df, du⟩ W4 from by rw [hW4]; exact HJX.out.putM ⟨2, known, ⟨i0, i1, i2, i3, i4', i5, i6, i7, i8⟩, df, du⟩)
        have HN4 := Lib.hid (show Bo W4 nb [.int .i64 2, .int .i64 known, .int .i64 i0, .int .i64 i1, .int .i64 i2, .int .i64 i3, .int .i64 i4', .int .i64 i5, .int .i64 i6, .int .i64 i7, .int .i64 i8, .int .i64 df, .int .i64 du] from by rw [hW4]; exact HN.out.other (by have := HNB.out; omega) _ _)
        clear hW4 n0 n1
        have n0 : W4.cell? ⟨nb, 0, none⟩ = some (.int .i64 2) := HN4.out.rng 0 _ rfl
        have n1 : W4.cell? ⟨nb, 1, none⟩ = some (.int .i64 known) := HN4.out.rng 1 _ rfl
        go_wp2_with fail
        go_roundw
        case rel => exact ⟨k + 1, p, true, T, ⟨2, known, ⟨i0, i1, i2, i3, i4', i5, i6, i7, i8⟩, df, du⟩, by omega, rfl, rfl, by go_num, HJ4.out⟩
        case measure => simp [intOf]; omega
      case true =>
      by_cases hle : M.known ≤ known
      case pos =>
        have t5 : decide (M.known ≤ known) = true := decide_eq_true hle
        go_wp2_with (first
          | (with_reducible refine wpList_load_g 74 _ (by with_reducible rfl) nb 0 (by with_unfolding_all rfl) (by with_unfolding_all rfl) _ _ HN.out.rng Tryz.underlying74 (by with_unfolding_all rfl) (by kernel_rfl) ?_)
          | (with_reducible refine wpList_store_named rfl 74 _ _ (by with_reducible rfl) (w.heap.size + 1 + 1 + 1) 0 #[.int .i64 2, .int .i64 known, .int .i64 i0, .int .i64 i1, .int .i64 i2, .int .i64 i3, .int .i64 i4', .int .i64 i5, .int .i64 i6, .int .i64 i7, .int .i64 i8, .int .i64 df, .int .i64 du] (by with_unfolding_all rfl) (by with_unfolding_all rfl) (by with_unfolding_all exact HJX.out.m.there) (by kernel_rfl) (by with_unfolding_all rfl) ?_))
        intro W4 hW4h
        have hW4 := hW4h.out
        clear hW4h
        have HJ4 := Lib.hid (show ChJ w ⟨id, own, date, pla, rate, fr, un, bk, bt⟩ T ⟨2, known, ⟨i0, i1, i2, i3, i4', i5, i6, i7, i8⟩, df, du⟩ W4 from by rw [hW4]; exact HJX.out.putM ⟨2, known, ⟨i0, i1, i2, i3, i4', i5, i6, i7, i8⟩, df, du⟩)
        have HN4 := Lib.hid (show Bo W4 nb [.int .i64 2, .int .i64 known, .int .i64 i0, .int .i64 i1, .int .i64 i2, .int .i64 i3, .int .i64 i4', .int .i64 i5, .int .i64 i6, .int .i64 i7, .int .i64 i8, .int .i64 df, .int .i64 du] from by rw [hW4]; exact HN.out.other (by have := HNB.out; omega) _ _)
        clear hW4 n0 n1
        have n0 : W4.cell? ⟨nb, 0, none⟩ = some (.int .i64 2) := HN4.out.rng 0 _ rfl
        have n1 : W4.cell? ⟨nb, 1, none⟩ = some (.int .i64 known) := HN4.out.rng 1 _ rfl
        go_wp2_with fail
        go_roundw
        case rel => exact ⟨k + 1, p, true, T, ⟨2, known, ⟨i0, i1, i2, i3, i4', i5, i6, i7, i8⟩, df, du⟩, by omega, rfl, rfl, by go_num, HJ4.out⟩
        case measure => simp [intOf]; omega
      case neg =>
        have t5 : decide (M.known ≤ known) = false := decide_eq_false hle
        go_wp2_with fail
        go_roundw
        case rel => exact ⟨k + 1, p, true, T, M, by omega, rfl, rfl, by go_num, HJX.out⟩
        case measure => simp [intOf]; omega
    case neg =>
      have t3 : (kind == 3) = false := beq_eq_false_iff_ne.2 k3
      have t1 : (kind == 1) = false := beq_eq_false_iff_ne.2 k1
      have t2 : (kind == 2) = false := beq_eq_false_iff_ne.2 k2
      clear k1 k2 k3
      go_wp2_with fail
      go_roundw
      case rel => exact ⟨k + 1, p, q, T, M, by omega, rfl, rfl, by go_num, HJX.out⟩
      case measure => simp [intOf]; omega
end Go.Proofs.YtngjakahanmepaaGreatDoor
