/- Part 20 of the proof of TopRights: basin.isName; the keys of the marks. basin.fresh; the closure of rightNames. the closure of rightNames. -/
import Derived.Test.YtngjakahanmepaaGreatDoorM18
import Derived.Test.YtngjakahanmepaaGreatDoorM19
import Derived.DeepKeys4
namespace Go.Proofs.YtngjakahanmepaaGreatDoor
open Go.RowKit Go.Maps
set_option linter.unusedVariables false
set_option linter.unusedSimpArgs false
def rstB (c : Int) : Bool := !((decide (c < 97) || decide (122 < c)) && (decide (c < 48) || decide (57 < c)) && c != 95)
def outL : List UInt8 := [111, 117, 116]
def nameB (s : ByteArray) : Bool := !decide (s.size < 1) && !decide (24 < s.size) && !(s.toList == outL) && !decide (gi (bl s) 0 < 97) && !decide (122 < gi (bl s) 0) && (bl s).all rstB
theorem nameB_le {s : ByteArray} (h : nameB s = true) : s.size ≤ 24 := by
  unfold nameB at h
  simp only [Bool.and_eq_true, Bool.not_eq_true', decide_eq_false_iff_not] at h
  omega
theorem gi_bl {s : ByteArray} {k : Nat} (h : k < s.size) : gi (bl s) k = ((s[k]).toNat : Int) := by
  have h2 : k < (bl s).length := by rw [bl_length]; exact h
  simp only [gi, List.getD, List.getElem?_eq_getElem h2, Option.getD_some]
  exact bl_at h
def NamR (V : World) (l : List Int) (s3 : Value) (wr : World) : Prop := ∃ k : Nat, 1 ≤ k ∧ k ≤ l.length ∧ s3 = .int .i64 (k : Int) ∧ Hid ((l.take k).all rstB = true) ∧ ∃ y : BelW V, wr = y.w
theorem idx_run {s : ByteArray} {k : Nat} (h : k < s.size) {c : Int} (hc : gi (bl s) k = c) (w : World) : (Instr.index 9 (.string s) (.int .i64 (k : Int))).run Tryz.prog w = .ok (.int .u8 c) w := by
  rw [run_index_string w 9 s .i64 _ Tryz.underlying9, dif_pos ⟨by omega, by omega⟩, ← hc, gi_bl h]
  simp only [Int.toNat_natCast]
set_option maxHeartbeats 32000000 in
set_option maxRecDepth 100000 in
theorem isname_is (s : ByteArray) (hs : s.size ≤ 9223372036854775807) (w : World) : Calls Tryz.prog 109 #[.string s] w fun e w' => e = .returned (.bool (nameB s)) ∧ Below w.heap.size w w' := by
  obtain ⟨R, hR⟩ : ∃ b, nameB s = b := ⟨_, rfl⟩
  rw [hR]
  have HF := Lib.hid hR.symm
  clear hR
  by_cases p1 : s.size < 1
  · have t1 : decide ((s.size : Int) < 1) = true := decide_eq_true (by omega)
    have hr : R = false := by rw [HF.out]; simp [nameB, p1]
    subst hr
    clear HF
    go_enter Tryz.func109, Tryz.ntmps109
    go_wp2_with fail
    go_ret
    exact ⟨rfl, by go_grown⟩
  have t1 : decide ((s.size : Int) < 1) = false := decide_eq_false (by omega)
  by_cases p2 : 24 < s.size
  · have t2 : decide ((24 : Int) < (s.size : Int)) = true := decide_eq_true (by omega)
    have hr : R = false := by rw [HF.out]; simp [nameB, p2]
    subst hr
    clear HF
    go_enter Tryz.func109, Tryz.ntmps109
    go_wp2_with fail
    go_ret
    exact ⟨rfl, by go_grown⟩
  have t2 : decide ((24 : Int) < (s.size : Int)) = false := decide_eq_false (by omega)
  cases p3 : (s.toList == outL)
  case true =>
    have t3 : (s.toList == [111, 117, 116]) = true := p3
    have hr : R = false := by rw [HF.out]; simp [nameB, p3]
    subst hr
    clear HF p3
    go_enter Tryz.func109, Tryz.ntmps109
    go_wp2_with fail
    go_ret
    exact ⟨rfl, by go_grown⟩
  have t3 : (s.toList == [111, 117, 116]) = false := p3
  obtain ⟨c, hc⟩ : ∃ c, gi (bl s) 0 = c := ⟨_, rfl⟩
  have ix0 := fun w : World => (show (Instr.index 9 (.string s) (.int .i64 0)).run Tryz.prog w = .ok (.int .u8 c) w from idx_run (k := 0) (by omega) hc w)
  by_cases p4 : c < 97
  · have t4 : decide (c < 97) = true := decide_eq_true p4
    have hr : R = false := by rw [HF.out]; simp [nameB, hc, p4]
    subst hr
    clear HF p3 hc p4
    go_enter Tryz.func109, Tryz.ntmps109
    go_wp2_with fail
    go_ret
    exact ⟨rfl, by go_grown⟩
  have t4 : decide (c < 97) = false := decide_eq_false p4
  by_cases p5 : 122 < c
  · have t5 : decide (122 < c) = true := decide_eq_true p5
    have hr : R = false := by rw [HF.out]; simp [nameB, hc, p5]
    subst hr
    clear HF p3 hc p5
    go_enter Tryz.func109, Tryz.ntmps109
    go_wp2_with fail
    go_ret
    exact ⟨rfl, by go_grown⟩
  have t5 : decide (122 < c) = false := decide_eq_false p5
  have HF := Lib.hid (show R = (bl s).all rstB by rw [HF.out]; simp [nameB, hc, p1, p2, p3, p4, p5])
  have H1 := Lib.hid (show ((bl s).take 1).all rstB = true by
    have h0 : 0 < (bl s).length := by rw [bl_length]; omega
    refine all_next h0 (all_none _ _) ?_
    have e : (bl s)[0] = c := by rw [← hc]; simp [gi, List.getD, h0]
    rw [e]
    simp [rstB, p4, p5])
  have HBD := Lib.hid (fun (k : Nat) (hk : k < (bl s).length) (h : rstB (bl s)[k] = false) => (show R = false by rw [HF.out]; exact all_bad hk h))
  have HGO := Lib.hid (fun (h : (bl s).all rstB = true) => (show R = true by rw [HF.out]; exact h))
  clear HF p3 hc
  go_enter Tryz.func109, Tryz.ntmps109
  go_upto_region 3 with fail
  clear ix0 t1 t2 t3 t4 t5
  refine wp_rebase _ (fun V hV x0 => ?_)
  subst hV
  go_wp2_with fail
  go_loopw [3] (fun s3 wr => NamR V (bl s) s3 wr) (fun i _ => s.size - (intOf i).toNat)
  case atStart => exact ⟨1, by omega, by rw [bl_length]; omega, rfl, Lib.hid H1.out, x0, rfl⟩
  case round =>
    obtain ⟨k, hk1, hk, rfl, hal, y, rfl⟩ := hrel
    have HAL := Lib.hid hal.out
    clear hal
    rw [bl_length] at hk
    by_cases hlt : k < s.size
    case neg =>
      have i4 : decide ((k : Int) < (s.size : Int)) = false := decide_eq_false (by omega)
      obtain rfl : k = s.size := by omega
      have hr := HGO.out (all_end (by rw [bl_length]; exact HAL.out))
      subst hr
      clear HAL HGO HBD
      go_wp2_with fail
      go_ret
      exact ⟨rfl, y.2⟩
    have i4 : decide ((k : Int) < (s.size : Int)) = true := decide_eq_true (by omega)
    have hlt2 : k < (bl s).length := by rw [bl_length]; exact hlt
    have HNX := Lib.hid (fun h => all_next hlt2 HAL.out h)
    have HBK := Lib.hid (HBD.out k hlt2)
    have hgi : gi (bl s) k = (bl s)[k] := by simp [gi, List.getD, hlt2]
    rw [← hgi] at HNX HBK
    obtain ⟨d, hd⟩ : ∃ d, gi (bl s) k = d := ⟨_, rfl⟩
    rw [hd] at HNX HBK
    have ix := idx_run hlt hd
    clear hgi hd hlt2
    have hend : ∀ {r : Bool}, rstB d = r → rstB d = r := fun h => h
    by_cases u1 : d < 97
    · have z1 : decide (d < 97) = true := decide_eq_true u1
      by_cases u2 : d < 48
      · have z2 : decide (d < 48) = true := decide_eq_true u2
        have z3 : (d != 95) = true := bne_iff_ne.2 (by omega)
        have hr := HBK.out (by simp [rstB, z1, z2, z3])
        subst hr
        go_wp2_with fail
        go_ret
        exact ⟨rfl, y.2⟩
      have z2 : decide (d < 48) = false := decide_eq_false u2
      by_cases u3 : 57 < d
      · have z3 : decide (57 < d) = true := decide_eq_true u3
        by_cases u4 : d = 95
        · have z4 : (d != 95) = false := bne_eq_false_iff_eq.2 u4
          have HN2 := Lib.hid (HNX.out (by unfold rstB; rw [z1, z2, z3, z4]; simp))
          clear u4
          go_wp2_with fail
          go_roundw
          case rel => exact ⟨k + 1, by omega, by rw [bl_length]; omega, by go_num, Lib.hid HN2.out, y, rfl⟩
          case measure => simp [intOf]; omega
        have z4 : (d != 95) = true := bne_iff_ne.2 u4
        have hr := HBK.out (by unfold rstB; rw [z1, z2, z3, z4]; simp)
        subst hr
        go_wp2_with fail
        go_ret
        exact ⟨rfl, y.2⟩
      have z3 : decide (57 < d) = false := decide_eq_false u3
      have HN2 := Lib.hid (HNX.out (by unfold rstB; rw [z1, z2, z3]; simp))
      go_wp2_with fail
      go_roundw
      case rel => exact ⟨k + 1, by omega, by rw [bl_length]; omega, by go_num, Lib.hid HN2.out, y, rfl⟩
      case measure => simp [intOf]; omega
    have z1 : decide (d < 97) = false := decide_eq_false u1
    by_cases u2 : 122 < d
    · have z2 : decide (122 < d) = true := decide_eq_true u2
      have z3 : decide (d < 48) = false := decide_eq_false (by omega)
      have z5 : decide (57 < d) = true := decide_eq_true (by omega)
      have z4 : (d != 95) = true := bne_iff_ne.2 (by omega)
      have hr := HBK.out (by unfold rstB; rw [z1, z2, z3, z4, z5]; simp)
      subst hr
      go_wp2_with fail
      go_ret
      exact ⟨rfl, y.2⟩
    have z2 : decide (122 < d) = false := decide_eq_false u2
    have HN2 := Lib.hid (HNX.out (by unfold rstB; rw [z1, z2]; simp))
    go_wp2_with fail
    go_roundw
    case rel => exact ⟨k + 1, by omega, by rw [bl_length]; omega, by go_num, Lib.hid HN2.out, y, rfl⟩
    case measure => simp [intOf]; omega
/-! the key of a mark -/
theorem mark_cells : Tryz.prog.cellsOf 201 = 2 := by kernel_rfl
theorem mark_wide : (match Tryz.prog.underlying 201 with | some (.array _ _) | some (.struct _) => true | _ => false) = true := by kernel_rfl
theorem mark_row : (201 : TypeId) < Tryz.prog.types.size := of_decide_eq_true (by kernel_rfl)
theorem mark_key : Tryz.prog.keyType 201 = true := by kernel_rfl
theorem mark_laid : laidOutB Tryz.prog = true := by kernel_rfl
set_option maxRecDepth 100000 in
theorem mark_law : Keyed Tryz.prog 201 := Keyed.of_law (deep_law_laid mark_laid (m := 2) (by omega) mark_row (by kernel_rfl) mark_wide)
abbrev Mk := ByteArray × ByteArray
def mkv (m : Mk) : Value := .agg #[.string m.1, .string m.2]
set_option maxRecDepth 100000 in
theorem mark_some (m : Mk) (h1 : m.1.size ≤ 24) (h2 : m.2.size ≤ 24) : ∃ l, keyOf Tryz.prog 201 (mkv m) = some l := by
  have hm : (24 : Nat) ≤ maxLen := by unfold maxLen; omega
  have hk : Tryz.prog.keyLits (Tryz.prog.types.size + 1) 201 [.string m.1, .string m.2] = some [.string m.1.data.toList, .string m.2.data.toList] := by
    have hts : ∃ n, Tryz.prog.types.size = n + 1 := ⟨Tryz.prog.types.size - 1, (Nat.succ_pred_eq_of_pos (Nat.lt_of_le_of_lt (Nat.zero_le _) mark_row)).symm⟩
    obtain ⟨n, hn⟩ := hts
    rw [hn]
    have h3 : m.1.size ≤ maxLen := by omega
    have h4 : m.2.size ≤ maxLen := by omega
    have e1 : ∀ s : ByteArray, s.size ≤ maxLen → Tryz.prog.keyLits (n + 1) 9 [.string s] = some [.string s.data.toList] := fun s hs => by
      unfold Program.keyLits
      rw [Tryz.underlying9]
      simp only []
      rw [if_pos hs]
    unfold Program.keyLits
    rw [Tryz.underlying201]
    simp only [mark_cells]
    have hc : Tryz.prog.cellsOf 9 = 1 := by kernel_rfl
    simp [hc, e1 _ h3, e1 _ h4]
  unfold keyOf
  rw [Tryz.underlying201]
  simp only [mark_key, Bool.true_and]
  have hfm : (mkv m).formed Tryz.prog 201 = true := by
    simp [Value.formed, Tryz.underlying201, mark_cells, mkv]
  rw [if_pos hfm]
  have hcl : (mkv m).cells.toList = [.string m.1, .string m.2] := by simp [mkv, Value.cells]
  rw [hcl, hk]
  exact ⟨_, rfl⟩
noncomputable def mkL (m : Mk) : Lit := (keyOf Tryz.prog 201 (mkv m)).getD .nil
theorem mkL_key {m : Mk} (h1 : m.1.size ≤ 24) (h2 : m.2.size ≤ 24) : keyOf Tryz.prog 201 (mkv m) = some (mkL m) := by
  obtain ⟨l, h⟩ := mark_some m h1 h2
  unfold mkL
  rw [h]; rfl
set_option maxRecDepth 100000 in
theorem mkL_inj {m m' : Mk} (h1 : m.1.size ≤ 24) (h2 : m.2.size ≤ 24) (h1' : m'.1.size ≤ 24) (h2' : m'.2.size ≤ 24) (e : mkL m = mkL m') : m = m' := by
  have h := mark_law.inj (mkL_key h1 h2) (e ▸ mkL_key h1' h2')
  unfold mkv at h
  injection h with h
  have h3 := congrArg Array.toList h
  simp only [List.cons.injEq, Value.string.injEq, and_true] at h3
  exact Prod.ext h3.1 h3.2
end Go.Proofs.YtngjakahanmepaaGreatDoor
namespace Go.Proofs.YtngjakahanmepaaGreatDoor
open Go.RowKit Go.Maps
set_option linter.unusedVariables false
set_option linter.unusedSimpArgs false
theorem wpList_lookup_g {P : Program} {ops : Array Oper} {rest : List Oper} {o : Oper} {a : Act} {w : World} {Q : Exit → Act → World → Prop}
    (m x : Operand) (t : TypeId) (hop : o.op = Op.lookup t m x false) (hw : Region.wanted o (yielded ops a.tmps) = true)
    (k e : TypeId) (K : Keyed P k) (ht : P.underlying t = some (.map k e)) (z : Value) (hz : (zeroValue e).run P w = .ok z w) (b n : Nat) (f : Lit → Value)
    (hm : a.eval m = .map (some b)) (hown : MapIs P k z w b n f) (key : Value) (kl : Lit) (v : Value) (hv : f kl = v) (hx : a.eval x = key) (hkey : keyOf P k key = some kl)
    (hK : wpList P ops Q rest (a.put o.dst v) w) :
    wpList P ops Q (o :: rest) a w := by
  refine wpList_step fun K' hK' => ?_
  rw [if_pos hw]
  obtain ⟨D, hD, hf⟩ := hown.owns
  obtain ⟨v', ps, hrun, hat⟩ := hD.lookup (zd := .held z) (zp := []) K ht hz rfl hkey
  have : v' = f kl := by
    have h1 : heldE v' = some (.held v', []) := rfl
    rw [h1] at hat
    have := (Prod.mk.inj (Option.some.inj hat)).1
    rw [hf kl] at this
    exact DataW.held.inj this
  subst this
  subst hv
  unfold Oper.wp
  simp [execOp, hop, hm, hx, hrun, Result.andThen]
  exact hK' _ _ hK
def memB (m : Mk) (sn : List Mk) : Bool := sn.any fun k => decide (k.1.data = m.1.data ∧ k.2.data = m.2.data)
theorem mk_ext {k m : Mk} (h : k.1.data = m.1.data ∧ k.2.data = m.2.data) : k = m := by
  obtain ⟨⟨a⟩, ⟨b⟩⟩ := k
  obtain ⟨⟨c⟩, ⟨d⟩⟩ := m
  obtain ⟨h1, h2⟩ := h
  simp only at h1 h2
  subst h1 h2
  rfl
theorem memB_same (m : Mk) (sn : List Mk) : memB m (m :: sn) = true := by simp [memB]
theorem memB_other {m k : Mk} (h : k ≠ m) (sn : List Mk) : memB k (m :: sn) = memB k sn := by
  unfold memB
  rw [List.any_cons, decide_eq_false (fun e => h (mk_ext e).symm), Bool.false_or]
def shelterL : List UInt8 := [115, 104, 101, 108, 116, 101, 114]
def townG : ByteArray := ⟨#[116, 111, 119, 110]⟩
def grpF (g : ByteArray) : ByteArray := if g.toList == shelterL then townG else g
theorem grpF_le {g : ByteArray} (h : g.size ≤ 24) : (grpF g).size ≤ 24 := by
  unfold grpF
  split
  · decide
  · exact h
/-- the map of the marks that are seen -/
structure MpS (w : World) (mb nn : Nat) (sn : List Mk) (f : Lit → Value) : Prop where
  map : MapIs Tryz.prog 201 (.bool false) w mb nn f
  is : ∀ m : Mk, m.1.size ≤ 24 → m.2.size ≤ 24 → f (mkL m) = .bool (memB m sn)
  le : ∀ m ∈ sn, m.1.size ≤ 24 ∧ m.2.size ≤ 24
theorem MpS.upd {w w' : World} {mb nn : Nat} {sn : List Mk} {f : Lit → Value} (h : MpS w mb nn sn f) {m : Mk} (h1 : m.1.size ≤ 24) (h2 : m.2.size ≤ 24) (hm : MapIs Tryz.prog 201 (.bool false) w' mb (nn + 1) (upd f (mkL m) (.bool true))) : MpS w' mb (nn + 1) (m :: sn) (upd f (mkL m) (.bool true)) :=
  ⟨hm, fun k k1 k2 => by
    by_cases e : k = m
    · subst e
      rw [upd_same, memB_same]
    · rw [upd_other _ _ (fun e2 => e (mkL_inj k1 k2 h1 h2 e2)), h.is k k1 k2, memB_other e], fun k hk => by
    rcases List.mem_cons.1 hk with rfl | hk
    · exact ⟨h1, h2⟩
    · exact h.le k hk⟩
theorem MpS.next {w w' : World} {mb nn : Nat} {sn : List Mk} {f : Lit → Value} (h : MpS w mb nn sn f) (hb : Below w.heap.size w w') : MpS w' mb (nn + 1) sn f := ⟨(h.map.next hb).mono (Nat.le_succ _), h.is, h.le⟩
def markStep (st : List Mk × Bool) (m : Mk) : List Mk × Bool := if nameB m.2 && !memB m st.1 then (m :: st.1, st.2) else (st.1, false)
def FrPost (mb nn : Nat) (sn : List Mk) (m : Mk) (w : World) (e : Ending) (w' : World) : Prop :=
  e = .returned (.bool (nameB m.2 && !memB m sn)) ∧ w.grownBy w' (some mb) ∧ ∃ f, MpS w' mb (nn + 1) (if nameB m.2 && !memB m sn then m :: sn else sn) f
theorem grown_more {w w' : World} {b : Nat} (h : w.grownBy w' none) : w.grownBy w' (some b) := ⟨h.os, h.tape, h.output, h.size, fun k hk _ => h.block k hk (by simp)⟩
theorem below_grown0 {w w' : World} (h : Below w.heap.size w w') : w.grownBy w' none := grown_bel ⟨w', h⟩
set_option maxHeartbeats 32000000 in
set_option maxRecDepth 100000 in
theorem fresh_is (g n : ByteArray) (hg : g.size ≤ 24) (hn : n.size ≤ 9223372036854775807) (mb nn : Nat) (hnn : nn < maxLen) (sn : List Mk) (f : Lit → Value) (w : World) (hm : MpS w mb nn sn f) :
    Calls Tryz.prog 77 #[.map (some mb), .string g, .string n] w (FrPost mb nn sn (grpF g, n) w) := by
  have hg' := grpF_le hg
  have HGR := Lib.hid (show grpF g = if g.toList == shelterL then townG else g from rfl)
  obtain ⟨g', hgg⟩ : ∃ g', grpF g = g' := ⟨_, rfl⟩
  rw [hgg] at hg' HGR ⊢
  clear hgg
  have HM := Lib.hid hm
  have HNN := Lib.hid hnn
  clear hm hnn
  have CN := Lib.hid (fun (W : World) (z : BelW W) (b : Bool) (h : nameB n = b) => bel_of (x := z) (show Calls Tryz.prog 109 #[.string n] z.w fun e w' => e = .returned (.bool b) ∧ Below z.w.heap.size z.w w' from h ▸ isname_is n hn z.w))
  cases hsh : (g.toList == shelterL)
  all_goals
    rw [hsh] at HGR
    have t1 : (g.toList == [115, 104, 101, 108, 116, 101, 114]) = _ := hsh
    clear hsh
    simp only [Bool.false_eq_true, if_false, if_true, reduceIte] at HGR
    have hge := HGR.out
    clear HGR
    (try (have hge2 : g' = g := hge; clear hge; subst hge2))
    go_enter Tryz.func77, Tryz.ntmps77
    go_upto_region 4 with fail
    clear t1
    (try rw [show (⟨#[116, 111, 119, 110]⟩ : ByteArray) = g' from hge.symm])
    refine wp_rebase _ (fun V hV x0 => ?_)
    have HB0 := Lib.hid (show Below w.heap.size w V by rw [hV]; exact bel_alloc (Below.refl _ _) _)
    have HRG := Lib.hid (show V.rangeAt w.heap.size 0 [.string g', .string n] by rw [hV]; exact range_new w 201 [.string g', .string n])
    clear hV
    cases q1 : nameB n
    case false =>
      go_wp2_with (first | (go_at_call 109; (with_reducible refine (CN.out _ _ _ (by assumption)).mono ?_); rintro e w1 ⟨rfl, z, rfl⟩))
      go_ret
      refine ⟨by rw [q1]; rfl, grown_more (below_grown0 (below_next HB0.out z.2)), f, ?_⟩
      rw [q1]
      exact HM.out.next (below_next HB0.out z.2)
    case true =>
      have hn2 := nameB_le q1
      have HK := Lib.hid (mkL_key (m := (g', n)) hg' hn2)
      have HIS := Lib.hid (HM.out.is (g', n) hg' hn2)
      cases q2 : memB (g', n) sn
      case true =>
        rw [q2] at HIS
        go_wp2_with (first
          | (go_at_call 109; (with_reducible refine (CN.out _ _ _ (by assumption)).mono ?_); rintro e w1 ⟨rfl, z, rfl⟩; have HMZ := Lib.hid (show MpS z.w mb (nn + 1) sn f from HM.out.next (below_next HB0.out z.2)))
          | (with_reducible refine wpList_load_g 201 _ (by with_reducible rfl) _ _ (by with_unfolding_all rfl) (by with_unfolding_all rfl) _ _ (BelW.range HRG.out _) Tryz.underlying201 (by with_unfolding_all rfl) (by kernel_rfl) ?_)
          | (with_reducible refine wpList_lookup_g _ _ 160 (by with_reducible rfl) (by with_unfolding_all rfl) 201 4 mark_law Tryz.underlying160 (.bool false) (by with_unfolding_all exact zero_bool _) mb (nn + 1) f (by with_unfolding_all rfl) HMZ.out.map _ _ _ HIS.out (by with_unfolding_all rfl) HK.out ?_))
        go_ret
        refine ⟨by rw [q1, q2]; rfl, grown_more (below_grown0 (below_next HB0.out z.2)), f, ?_⟩
        rw [q1, q2]
        exact HM.out.next (below_next HB0.out z.2)
      case false =>
        rw [q2] at HIS
        go_wp2_with (first
          | (go_at_call 109; (with_reducible refine (CN.out _ _ _ (by assumption)).mono ?_); rintro e w1 ⟨rfl, z, rfl⟩; have HMZ := Lib.hid (show MapIs Tryz.prog 201 (.bool false) z.w mb nn f from HM.out.map.next (below_next HB0.out z.2)); have hgz := Lib.hid (show w.grownBy z.w none from below_grown0 (below_next HB0.out z.2)))
          | (with_reducible refine wpList_load_g 201 _ (by with_reducible rfl) _ _ (by with_unfolding_all rfl) (by with_unfolding_all rfl) _ _ (BelW.range HRG.out _) Tryz.underlying201 (by with_unfolding_all rfl) (by kernel_rfl) ?_)
          | (with_reducible refine wpList_lookup_g _ _ 160 (by with_reducible rfl) (by with_unfolding_all rfl) 201 4 mark_law Tryz.underlying160 (.bool false) (by with_unfolding_all exact zero_bool _) mb nn f (by with_unfolding_all rfl) HMZ.out _ _ _ HIS.out (by with_unfolding_all rfl) HK.out ?_)
          | (with_reducible refine wpList_mapUpdate_held (by with_reducible rfl) _ _ _ 160 (by with_reducible rfl) 201 4 mark_law Tryz.underlying160 (.bool false) mb nn f (by with_unfolding_all rfl) HMZ.out HNN.out _ (.bool true) _ (by with_unfolding_all rfl) (by with_unfolding_all rfl) HK.out ?_; intro w2 hm2 hg2))
        go_ret
        refine ⟨by rw [q1, q2]; rfl, World.grownBy.trans (grown_more hgz.out) hg2, upd f (mkL (g', n)) (.bool true), ?_⟩
        rw [q1, q2]
        exact HM.out.upd hg' hn2 hm2
end Go.Proofs.YtngjakahanmepaaGreatDoor
namespace Go.Proofs.YtngjakahanmepaaGreatDoor
open Go.RowKit Go.Maps
set_option linter.unusedVariables false
set_option linter.unusedSimpArgs false
structure NmS (V : World) (mb sb kb nn : Nat) (st : List Mk × Bool) (wr : World) : Prop where
  bel : Below V.heap.size V wr
  map : ∃ f, MpS wr mb nn st.1 f
  sbx : wr.cell? ⟨sb, 0, none⟩ = some (.map (some mb))
  kbx : wr.cell? ⟨kb, 0, none⟩ = some (.bool st.2)
  kfz : wr.frozen? ⟨kb, 0, none⟩ = false
  vm : V.heap.size ≤ mb
  vk : V.heap.size ≤ kb
  ms : sb ≠ mb
  km : kb ≠ mb
  sk : sb ≠ kb
theorem NmS.next {V : World} {mb sb kb nn : Nat} {st : List Mk × Bool} {w w' : World} (h : NmS V mb sb kb nn st w) (hb : Below w.heap.size w w') : NmS V mb sb kb nn st w' := by
  obtain ⟨f, hf⟩ := h.map
  exact ⟨below_next h.bel hb, ⟨f, hf.map.next hb, hf.is, hf.le⟩, BelW.cells h.sbx ⟨w', hb⟩, BelW.cells h.kbx ⟨w', hb⟩,
    (hb.frozen (p := ⟨kb, 0, none⟩) (World.block_lt_of_cell? w _ h.kbx)).trans h.kfz, h.vm, h.vk, h.ms, h.km, h.sk⟩
theorem cell_grown {w w' : World} {row : Option Nat} {b o : Nat} {v : Value} (h : w.cell? ⟨b, o, none⟩ = some v) (hg : w.grownBy w' row) (hne : some b ≠ row) : w'.cell? ⟨b, o, none⟩ = some v := by
  have e := hg.block b (World.block_lt_of_cell? w _ h) hne
  unfold World.cell? at h ⊢
  rw [e]; exact h
theorem frozen_grown {w w' : World} {row : Option Nat} {b o : Nat} {v : Value} (h : w.frozen? ⟨b, o, none⟩ = false) (hc : w.cell? ⟨b, o, none⟩ = some v) (hg : w.grownBy w' row) (hne : some b ≠ row) : w'.frozen? ⟨b, o, none⟩ = false := by
  have e := hg.block b (World.block_lt_of_cell? w _ hc) hne
  unfold World.frozen? at h ⊢
  rw [e]; exact h
theorem NmS.put {V : World} {mb sb kb nn : Nat} {st : List Mk × Bool} {w w2 : World} (h : NmS V mb sb kb nn st w) (hg : w.grownBy w2 (some mb)) {sn : List Mk} (hm : ∃ f, MpS w2 mb (nn + 1) sn f) (ok : Bool) :
    NmS V mb sb kb (nn + 1) (sn, ok) (w2.setCell ⟨kb, 0, none⟩ (.bool ok)) := by
  obtain ⟨f, hf⟩ := hm
  have hk2 : w2.cell? ⟨kb, 0, none⟩ = some (.bool st.2) := cell_grown h.kbx hg (by have := h.km; simp; exact this)
  have hs2 : w2.cell? ⟨sb, 0, none⟩ = some (.map (some mb)) := cell_grown h.sbx hg (by have := h.ms; simp; exact this)
  refine ⟨(below_grown h.bel hg (fun k e => by cases e; exact h.vm)).setCell h.vk _, ⟨f, hf.map.same (heap_setCell_other w2 ⟨kb, 0, none⟩ mb _ (fun e => h.km e.symm)), hf.is, hf.le⟩, ?_, ?_, ?_, h.vm, h.vk, h.ms, h.km, h.sk⟩
  · rw [World.cell?_setCell_far _ _ _ _ (fun e => h.sk e.symm)]
    exact hs2
  · exact World.cell?_setCell_same _ _ _ hk2
  · rw [World.frozen?_setCell]
    exact frozen_grown h.kfz h.kbx hg (by have := h.km; simp; exact this)
set_option maxHeartbeats 32000000 in
set_option maxRecDepth 100000 in
theorem check_is (V : World) (mb sb kb nn : Nat) (st : List Mk × Bool) (g n : ByteArray) (hg : g.size ≤ 24) (hn : n.size ≤ 9223372036854775807) (hnn : nn < maxLen) (w : World) (h : NmS V mb sb kb nn st w) :
    Calls Tryz.prog 76 #[.string g, .string n, .pointer (some ⟨sb, 0, none⟩), .pointer (some ⟨kb, 0, none⟩)] w fun e w' => e = .returned (.tuple #[]) ∧ NmS V mb sb kb (nn + 1) (markStep st (grpF g, n)) w' := by
  have HS := Lib.hid h
  have r1 := h.sbx
  clear h
  obtain ⟨f, hf⟩ := HS.out.map
  have CF := Lib.hid (fresh_is g n hg hn mb nn hnn st.1 f w hf)
  obtain ⟨m, hm⟩ : ∃ m : Mk, (grpF g, n) = m := ⟨_, rfl⟩
  rw [hm] at CF ⊢
  have HM2 := Lib.hid (show n = m.2 by rw [← hm])
  clear hf hm hnn
  go_enter Tryz.func76, Tryz.ntmps76
  go_wp2_with fail
  refine CF.out.mono ?_
  rintro e w2 ⟨rfl, hgr, hmp⟩
  have HG := Lib.hid hgr
  have HP := Lib.hid hmp
  have hk2 : w2.cell? ⟨kb, 0, none⟩ = some (.bool st.2) := cell_grown HS.out.kbx hgr (by have := HS.out.km; simp; exact this)
  have hf2 : w2.frozen? ⟨kb, 0, none⟩ = false := frozen_grown HS.out.kfz HS.out.kbx hgr (by have := HS.out.km; simp; exact this)
  clear hgr hmp
  cases q : (nameB m.2 && !memB m st.1)
  · rw [q] at HP
    have HX := Lib.hid (show markStep st m = (st.1, false) by unfold markStep; rw [q]; rfl)
    go_wp2_with fail
    go_end0
    refine ⟨rfl, ?_⟩
    rw [HX.out]
    exact HS.out.put HG.out HP.out false
  · rw [q] at HP
    have HX := Lib.hid (show markStep st m = (m :: st.1, st.2) by unfold markStep; rw [q]; rfl)
    go_wp2_with fail
    go_end0
    refine ⟨rfl, ?_⟩
    rw [HX.out]
    exact HS.out.put HG.out HP.out st.2
end Go.Proofs.YtngjakahanmepaaGreatDoor
