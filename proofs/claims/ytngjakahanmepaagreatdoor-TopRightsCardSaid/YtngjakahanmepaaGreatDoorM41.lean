/- Part 41 of the proof of TopRights: sort.Slice over the indices of a division: the indices end up in the order of the remainders. -/
import Derived.Test.YtngjakahanmepaaGreatDoorM08
import Derived.Test.YtngjakahanmepaaGreatDoorM04
import Derived.Test.YtngjakahanmepaaGreatDoorM40
import Derived.Deep.QuietTactic
namespace Go.Proofs.YtngjakahanmepaaGreatDoor.Pw
open Go.RowKit Go.Shelf Go.Sort
set_option linter.unusedVariables false
set_option linter.unusedSimpArgs false
/-- the order of the indices -/
def ltI (H : Nat → Int) (a b : Nat) : Bool := if H a = H b then decide (a < b) else decide (H b < H a)
theorem ltI_iff {H : Nat → Int} {a b : Nat} : ltI H a b = true ↔ H b < H a ∨ (H a = H b ∧ a < b) := by
  unfold ltI
  by_cases h : H a = H b
  · rw [if_pos h, decide_eq_true_iff]; omega
  · rw [if_neg h, decide_eq_true_iff]; omega
theorem drewN2 (w : World) (a b : Nat) : (w.drewN a).drewN b = w.drewN (a + b) := by simp [World.drewN, Nat.add_assoc]
theorem swo_ltI (H : Nat → Int) (n : Nat) : SWO (fun a b : Fin n => ltI H a.1 b.1) where
  irrefl x := by rcases h : ltI H x.1 x.1 with _ | _; rfl; have := ltI_iff.1 h; omega
  trans x y z h1 h2 := by
    have a := ltI_iff.1 h1
    have b := ltI_iff.1 h2
    exact ltI_iff.2 (by omega)
  ntrans x y z h1 h2 := by
    rcases h : ltI H x.1 z.1 with _ | _
    · rfl
    · have c := ltI_iff.1 h
      have a : ¬ (H y.1 < H x.1 ∨ (H x.1 = H y.1 ∧ x.1 < y.1)) := fun hc => by rw [ltI_iff.2 hc] at h1; cases h1
      have b : ¬ (H z.1 < H y.1 ∨ (H y.1 = H z.1 ∧ y.1 < z.1)) := fun hc => by rw [ltI_iff.2 hc] at h2; cases h2
      omega
set_option maxHeartbeats 4000000 in
theorem less_any (bO bR O R n i j a b : Nat) (x y : Int) (W : World) (hO : W.cell? ⟨bO, 0, none⟩ = some (.slice (some ⟨O, 0, none⟩) n n)) (hR : W.cell? ⟨bR, 0, none⟩ = some (.slice (some ⟨R, 0, none⟩) n n))
    (hi : i < n) (hj : j < n) (ha : a < n) (hb : b < n) (ci : W.cell? ⟨O, i, none⟩ = some (.int .i64 (a : Int))) (cj : W.cell? ⟨O, j, none⟩ = some (.int .i64 (b : Int)))
    (ra : W.cell? ⟨R, a, none⟩ = some (.int .i64 x)) (rb : W.cell? ⟨R, b, none⟩ = some (.int .i64 y)) (t : Bool) (ht : (if x = y then decide (a < b) else decide (y < x)) = t) :
    Calls Tryz.prog 134 #[.int .i64 (i : Int), .int .i64 (j : Int), .pointer (some ⟨bO, 0, none⟩), .pointer (some ⟨bR, 0, none⟩)] W fun e w' => e = .returned (.bool t) ∧ ∃ q, w' = W.drewN q := by
  have i1 : (0 : Int) ≤ (i : Int) := by omega
  have i2 : (i : Int) < (n : Int) := by omega
  have j1 : (0 : Int) ≤ (j : Int) := by omega
  have j2 : (j : Int) < (n : Int) := by omega
  have a1 : (0 : Int) ≤ (a : Int) := by omega
  have a2 : (a : Int) < (n : Int) := by omega
  have b1 : (0 : Int) ≤ (b : Int) := by omega
  have b2 : (b : Int) < (n : Int) := by omega
  by_cases h : x = y
  · rw [if_pos h] at ht
    have e1 : (x != y) = false := by simp [h]
    have e2 : decide (a < b) = t := ht
    clear ht h
    go_enter Tryz.func134, Tryz.ntmps134
    go_wp2_with fail
    go_quiet (fail)
    go_wp2_with fail
    go_quiet (fail)
    go_wp2_with fail
    go_ret
    exact ⟨by rw [← e2]; rfl, _, by first | rfl | exact drewN2 _ _ _⟩
  · rw [if_neg h] at ht
    have e1 : (x != y) = true := by simp [h]
    have e2 : decide (y < x) = t := ht
    clear ht h
    go_enter Tryz.func134, Tryz.ntmps134
    go_wp2_with fail
    go_quiet (fail)
    go_wp2_with fail
    go_quiet (fail)
    go_wp2_with fail
    go_quiet (fail)
    go_wp2_with fail
    go_ret
    exact ⟨rfl, _, by rw [drewN2, drewN2]⟩
noncomputable def siT : TypeInfo := (Tryz.prog.info? 29).get (by kernel_rfl)
noncomputable def siE : TypeInfo := (Tryz.prog.info? 3).get (by kernel_rfl)
theorem siK (n : Nat) (h2 : 2 ≤ n) : Lib.swapperK n siE 2 = 5 := by
  have a : siE.hasPointers = false := by kernel_rfl
  have b : siE.bytes = 8 := by kernel_rfl
  have c : (n == 0) = false := by simp; omega
  have d : (n == 1) = false := by simp; omega
  simp [Lib.swapperK, a, b, c, d]
/-- what the sort leaves: the indices in their order, in the same row; nothing else turns -/
def SortedRow (H : Nat → Int) (n O : Nat) (w w' : World) : Prop :=
  ∃ d : List Nat, d.Perm (List.range n) ∧ (∀ a b (ha : a < d.length) (hb : b < d.length), a < b → ltI H d[b] d[a] = false) ∧ w.grownBy w' (some O) ∧
    ∀ k, (hk : k < d.length) → w'.cell? ⟨O, k, none⟩ = some (.int .i64 (d[k] : Int))
theorem extract_all {α : Type} (d : Array α) {n : Nat} (h : d.size = n) : d.extract 0 n = d := by subst h; exact Array.extract_size
theorem grownBy_grow (w : World) (os : Array Obj) (r : Option Nat) : w.grownBy (grow w os) r :=
  ⟨rfl, rfl, rfl, by simp, fun k hk _ => heap_grow_old w os hk⟩
set_option maxHeartbeats 4000000 in
theorem sort_many (n O R bO bR : Nat) (H : Nat → Int) (w : World) (hO : w.cell? ⟨bO, 0, none⟩ = some (.slice (some ⟨O, 0, none⟩) n n)) (hR : w.cell? ⟨bR, 0, none⟩ = some (.slice (some ⟨R, 0, none⟩) n n))
  (row : ∀ k, k < n → w.cell? ⟨O, k, none⟩ = some (.int .i64 (k : Int))) (fro : ∀ k, k < n → w.frozen? ⟨O, k, none⟩ = false) (rem : ∀ k, k < n → w.cell? ⟨R, k, none⟩ = some (.int .i64 (H k)))
  (d1 : bO ≠ O) (d2 : bR ≠ O) (d3 : R ≠ O) (h2 : 2 ≤ n) (hsz : n < 4611686018427387904) :
    Calls Tryz.prog 133 #[.iface 29 (.slice (some ⟨O, 0, none⟩) n n), .func (.func 134) #[] #[.pointer (some ⟨bO, 0, none⟩), .pointer (some ⟨bR, 0, none⟩)]] w fun e w' => e = .returned (.tuple #[]) ∧ SortedRow H n O w w' := by
  haveI : Inhabited (Fin n) := ⟨⟨0, by omega⟩⟩
  let d0 : Array (Fin n) := Array.ofFn (fun i : Fin n => i)
  have hd0 : d0.size = n := Array.size_ofFn
  have g0 : ∀ k (hk : k < n), d0[k]! = ⟨k, hk⟩ := fun k hk => by
    rw [getElem!_pos d0 k (by rw [hd0]; exact hk)]
    exact Array.getElem_ofFn _
  have hb : ∀ a : Addr, ∀ v, w.cell? a = some v → a.block < w.heap.size := fun a v h => World.block_lt_of_cell? w a h
  have lO := hb _ _ (row 0 (by omega))
  have lR := hb _ _ (rem 0 (by omega))
  have lbO := hb _ _ hO
  have lbR := hb _ _ hR
  have hH : Holds (fun i : Fin n => Value.int .i64 (i.1 : Int)) w O 0 d0 := fun j hj => by
    rw [hd0] at hj
    rw [g0 j hj, Nat.zero_add]
    exact ⟨row j hj, fro j hj⟩
  have hless : LessReads Tryz.prog 134 #[.pointer (some ⟨bO, 0, none⟩), .pointer (some ⟨bR, 0, none⟩)] (fun i : Fin n => Value.int .i64 (i.1 : Int)) (fun a b : Fin n => ltI H a.1 b.1) O 0 d0.size w := by
    intro m os dk hs i j hi hj
    rw [hd0] at hi hj
    have e : sortWorld (fun i : Fin n => Value.int .i64 (i.1 : Int)) w O 0 m dk os = putRow (fun i : Fin n => Value.int .i64 (i.1 : Int)) (grow (Sort.ahead w m) os) O 0 dk := by
      unfold sortWorld; rw [putRow_grow _ (Sort.ahead w m) _ O 0 _ lO]
    have hHg : Holds (fun i : Fin n => Value.int .i64 (i.1 : Int)) (grow (Sort.ahead w m) os) O 0 d0 := holds_grow _ _ _ O 0 d0 lO (holds_ahead _ _ _ _ _ _ hH)
    have other : ∀ a : Addr, a.block ≠ O → a.block < w.heap.size → (sortWorld (fun i : Fin n => Value.int .i64 (i.1 : Int)) w O 0 m dk os).cell? a = w.cell? a := fun a h1 h2 => by
      rw [e, cell?_putRow_other _ _ O 0 dk a (Or.inl h1), cell?_grow _ _ _ (by simpa using h2)]; rfl
    have own : ∀ t, t < n → (sortWorld (fun i : Fin n => Value.int .i64 (i.1 : Int)) w O 0 m dk os).cell? ⟨O, t, none⟩ = some (.int .i64 ((dk[t]!).1 : Int)) := fun t ht => by
      have := cell?_putRow (fun i : Fin n => Value.int .i64 (i.1 : Int)) _ O 0 d0 dk hHg hs t (by rw [hs, hd0]; exact ht)
      rw [Nat.zero_add] at this
      rw [e]; exact this
    exact less_any bO bR O R n i j dk[i]!.1 dk[j]!.1 (H dk[i]!.1) (H dk[j]!.1) _ (by rw [other _ d1 lbO]; exact hO) (by rw [other _ d2 lbR]; exact hR) hi hj dk[i]!.2 dk[j]!.2 (own i hi) (own j hj)
      ((other ⟨R, dk[i]!.1, none⟩ d3 lR).trans (rem _ dk[i]!.2)) ((other ⟨R, dk[j]!.1, none⟩ d3 lR).trans (rem _ dk[j]!.2)) _ rfl
  have hS := Any.sort_Slice_sorted sl6 29 3 siT siE (by kernel_rfl) (by kernel_rfl) (by kernel_rfl) (by kernel_rfl) 2 (fun _ => by kernel_rfl) (by kernel_rfl) (fun _ => by kernel_rfl) (fun i : Fin n => Value.int .i64 (i.1 : Int)) (fun _ => rfl) _ (swo_ltI H n) 134 _
    (enters_of Tryz.func134 (by kernel_rfl) rfl) O 0 n d0 (by omega) (by omega) 149 (by rw [siK _ (by omega)]; kernel_rfl) true
    (fun args W => run_callFunc_extern Tryz.func149 (by kernel_rfl) (by kernel_rfl) (by kernel_rfl) (e := Extern.ReflectliteSwapper.swap true) (by kernel_rfl) args W) w hless hH lO
  change Calls Tryz.prog 133 _ _ _ at hS
  rw [hd0] at hS
  refine hS.mono ?_
  rintro e w' ⟨rfl, d', m, os, ⟨ps, _, pp⟩, so, rfl⟩
  try rw [hd0] at ps
  rw [extract_all d' ps, extract_all d0 hd0] at pp
  have hl : (d'.toList.map Fin.val).length = n := by rw [List.length_map, Array.length_toList, ps]
  have hg : ∀ k (hk : k < (d'.toList.map Fin.val).length), (d'.toList.map Fin.val)[k] = (d'[k]!).1 := fun k hk => by
    rw [List.getElem_map, Array.getElem_toList, getElem!_pos d' k (by rw [ps]; rw [hl] at hk; exact hk)]
  have hHg : Holds (fun i : Fin n => Value.int .i64 (i.1 : Int)) (grow (Sort.ahead w m) os) O 0 d0 := holds_grow _ _ _ O 0 d0 lO (holds_ahead _ _ _ _ _ _ hH)
  have e2 : grow (putRow (fun i : Fin n => Value.int .i64 (i.1 : Int)) (Sort.ahead w m) O 0 d') os = putRow (fun i : Fin n => Value.int .i64 (i.1 : Int)) (grow (Sort.ahead w m) os) O 0 d' := by rw [putRow_grow _ (Sort.ahead w m) _ O 0 _ lO]
  refine ⟨rfl, d'.toList.map Fin.val, ?_, fun a b ha hb hab => ?_, ?_, fun k hk => ?_⟩
  · refine (pp.map Fin.val).trans ?_
    have : d0.toList.map Fin.val = List.range n := List.ext_getElem (by simp [hd0]) fun i h1 h2 => by simp [d0]
    rw [this]
  · rw [hg, hg]
    exact so a b (Nat.zero_le _) hab (by rw [hl] at hb; exact hb)
  · exact ⟨rfl, rfl, rfl, by simp, fun k hk hne => by
      rw [heap_grow_old _ _ (by simpa using hk)]
      show ((Sort.ahead w m).heap.modify O _)[k]? = _
      rw [Array.getElem?_modify, if_neg (fun h => hne (by rw [h]))]
      rfl⟩
  · rw [hl] at hk
    have := cell?_putRow (fun i : Fin n => Value.int .i64 (i.1 : Int)) _ O 0 d0 d' hHg (by rw [ps, hd0]) k (by rw [ps]; exact hk)
    rw [Nat.zero_add] at this
    rw [e2, this, hg]
set_option maxHeartbeats 4000000 in
theorem sort_any (n O R bO bR : Nat) (H : Nat → Int) (w : World) (hO : w.cell? ⟨bO, 0, none⟩ = some (.slice (some ⟨O, 0, none⟩) n n)) (hR : w.cell? ⟨bR, 0, none⟩ = some (.slice (some ⟨R, 0, none⟩) n n))
  (row : ∀ k, k < n → w.cell? ⟨O, k, none⟩ = some (.int .i64 (k : Int))) (fro : ∀ k, k < n → w.frozen? ⟨O, k, none⟩ = false) (rem : ∀ k, k < n → w.cell? ⟨R, k, none⟩ = some (.int .i64 (H k)))
  (d1 : bO ≠ O) (d2 : bR ≠ O) (d3 : R ≠ O) (h1 : 1 ≤ n) (hsz : n < 4611686018427387904) :
    Calls Tryz.prog 133 #[.iface 29 (.slice (some ⟨O, 0, none⟩) n n), .func (.func 134) #[] #[.pointer (some ⟨bO, 0, none⟩), .pointer (some ⟨bR, 0, none⟩)]] w fun e w' => e = .returned (.tuple #[]) ∧ SortedRow H n O w w' := by
  by_cases h2 : 2 ≤ n
  · exact sort_many n O R bO bR H w hO hR row fro rem d1 d2 d3 h2 hsz
  obtain rfl : n = 1 := by omega
  have hK : Lib.swapperK 1 siE 2 = 2 := by simp [Lib.swapperK]
  have hS := Any.sort_Slice_tiny sl6 29 3 siT siE (by kernel_rfl) (by kernel_rfl) (by kernel_rfl) (by kernel_rfl) 2 (fun _ => by kernel_rfl) (some ⟨O, 0, none⟩) 1 1 (by omega) 146 (by rw [hK]; kernel_rfl) (.func 134) #[] #[.pointer (some ⟨bO, 0, none⟩), .pointer (some ⟨bR, 0, none⟩)] w
  change Calls Tryz.prog 133 _ _ _ at hS
  refine hS.mono ?_
  rintro e w' ⟨rfl, os, rfl⟩
  refine ⟨rfl, [0], by decide, fun a b ha hb hab => ?_, grownBy_grow w os _, fun k hk => ?_⟩
  · simp at ha hb; omega
  · simp at hk
    subst hk
    rw [cell?_grow _ _ _ (World.block_lt_of_cell? w _ (row 0 (by omega)))]
    exact row 0 (by omega)
end Go.Proofs.YtngjakahanmepaaGreatDoor.Pw
