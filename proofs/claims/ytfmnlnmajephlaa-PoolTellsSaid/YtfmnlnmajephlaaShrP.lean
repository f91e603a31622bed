/- The proportional division: plain arithmetic on lists. -/
import Derived.Test.YtfmnlnmajephlaaExact
namespace Go.Proofs.Ytfmnlnmajephlaa
set_option linter.unusedVariables false
set_option linter.unusedSimpArgs false

/-! sums -/
def su (f : Nat → Int) : Nat → Int
  | 0 => 0
  | n + 1 => su f n + f n
theorem su_congr {f g : Nat → Int} : ∀ {n : Nat}, (∀ i, i < n → f i = g i) → su f n = su g n
  | 0, _ => rfl
  | n + 1, h => by show su f n + f n = su g n + g n; rw [su_congr fun i hi => h i (by omega), h n (by omega)]
theorem su_add (f g : Nat → Int) : ∀ n : Nat, su (fun i => f i + g i) n = su f n + su g n
  | 0 => rfl
  | n + 1 => by show su (fun i => f i + g i) n + (f n + g n) = su f n + f n + (su g n + g n); rw [su_add f g n]; omega
theorem su_mul (c : Int) (f : Nat → Int) : ∀ n : Nat, su (fun i => c * f i) n = c * su f n
  | 0 => (Int.mul_zero c).symm
  | n + 1 => by show su (fun i => c * f i) n + c * f n = c * (su f n + f n); rw [su_mul c f n, Int.mul_add]
theorem su_le {f g : Nat → Int} : ∀ {n : Nat}, (∀ i, i < n → f i ≤ g i) → su f n ≤ su g n
  | 0, _ => Int.le_refl _
  | n + 1, h => by
    have := su_le (n := n) (fun i hi => h i (by omega))
    have := h n (by omega)
    show su f n + f n ≤ su g n + g n
    omega
theorem su_lt {f g : Nat → Int} : ∀ {n : Nat}, (∀ i, i < n → f i ≤ g i) → ∀ {i}, i < n → f i < g i → su f n < su g n
  | 0, _, i, hi, _ => absurd hi (Nat.not_lt_zero _)
  | n + 1, h, i, hi, hlt => by
    show su f n + f n < su g n + g n
    by_cases e : i = n
    · subst e
      have := su_le (n := i) (fun i hi => h i (by omega))
      omega
    · have := su_lt (n := n) (fun i hi => h i (by omega)) (i := i) (by omega) hlt
      have := h n (by omega)
      omega
theorem su_zero : ∀ {n : Nat} {f : Nat → Int}, (∀ i, i < n → f i = 0) → su f n = 0
  | 0, _, _ => rfl
  | n + 1, f, h => by show su f n + f n = 0; rw [su_zero fun i hi => h i (by omega), h n (by omega)]; rfl
theorem su_one {a : Nat} : ∀ {n : Nat}, a < n → su (fun i => if i = a then 1 else 0) n = 1
  | 0, h => absurd h (Nat.not_lt_zero _)
  | n + 1, h => by
    show su (fun i => if i = a then 1 else 0) n + (if n = a then 1 else 0) = 1
    by_cases e : n = a
    · subst e
      rw [su_zero (fun i hi => if_neg (by omega)), if_pos rfl]; rfl
    · rw [su_one (n := n) (by omega), if_neg e]; rfl
theorem su_mem {n : Nat} : ∀ {D : List Nat}, D.Nodup → (∀ a, a ∈ D → a < n) → su (fun i => if i ∈ D then 1 else 0) n = (D.length : Int)
  | [], _, _ => su_zero (fun i _ => if_neg (by simp))
  | a :: D, hd, hm => by
    have hd' := List.nodup_cons.1 hd
    have e : su (fun i => if i ∈ a :: D then 1 else 0) n = su (fun i => (if i = a then 1 else 0) + (if i ∈ D then 1 else 0)) n := su_congr fun i _ => by
      by_cases e1 : i = a
      · subst e1
        rw [if_pos (by simp), if_pos rfl, if_neg hd'.1]; rfl
      · by_cases e2 : i ∈ D
        · rw [if_pos (by simp [e2]), if_neg e1, if_pos e2]; rfl
        · rw [if_neg (by simp [e1, e2]), if_neg e1, if_neg e2]; rfl
    rw [e, su_add, su_one (hm a (by simp)), su_mem hd'.2 (fun b hb => hm b (by simp [hb]))]
    simp only [List.length_cons]
    omega

def gi (l : List Int) (i : Nat) : Int := l.getD i 0
theorem gi_at {l : List Int} {i : Nat} (h : i < l.length) : l[i]? = some (gi l i) := by simp [gi, h]
theorem gi_map {f : Nat → Int} {n i : Nat} (h : i < n) : gi ((List.range n).map f) i = f i := by simp [gi, List.getD, h]
theorem gi_set_same {l : List Int} {i : Nat} {v : Int} (h : i < l.length) : gi (l.set i v) i = v := by simp [gi, List.getD, h]
theorem gi_set_other {l : List Int} {i j : Nat} {v : Int} (h : i ≠ j) : gi (l.set i v) j = gi l j := by simp [gi, List.getD, h]
theorem gi_ext {l m : List Int} (h : l.length = m.length) (hg : ∀ i, i < l.length → gi l i = gi m i) : l = m := List.ext_getElem h fun i h1 h2 => by
  have := hg i h1
  simpa [gi, List.getD, h1, h2] using this
theorem sum_take (l : List Int) : ∀ k, k ≤ l.length → (l.take k).sum = su (gi l) k
  | 0, _ => by simp [su]
  | k + 1, h => by
    rw [List.take_succ_eq_append_getElem (by omega), List.sum_append, sum_take l k (by omega)]
    show _ + ([l[k]] : List Int).sum = su (gi l) k + gi l k
    simp [gi, List.getD, show k < l.length by omega]
theorem sum_su (l : List Int) : l.sum = su (gi l) l.length := by
  have := sum_take l l.length (Nat.le_refl _)
  rwa [List.take_length] at this

/-! the division -/
def wOf (l : List Int) : Int := max l.sum 1
def qq (t : Int) (l : List Int) (i : Nat) : Int := t * gi l i / wOf l
def rr (t : Int) (l : List Int) (i : Nat) : Int := t * gi l i % wOf l
def bef (t : Int) (l : List Int) (i j : Nat) : Prop := rr t l j < rr t l i ∨ (rr t l i = rr t l j ∧ i < j)
structure Wt (l : List Int) : Prop where
  len : l.length ≤ 64
  pos : ∀ i, i < l.length → 0 ≤ gi l i
  sum : l.sum ≤ 1125899906842624
structure ShareP (t : Int) (l x : List Int) : Prop where
  len : x.length = l.length
  sum : x.sum = t
  two : ∀ i, i < l.length → gi x i = qq t l i ∨ gi x i = qq t l i + 1
  ord : ∀ i j, i < l.length → j < l.length → gi x i = qq t l i + 1 → gi x j = qq t l j → bef t l i j

theorem wOf_pos (l : List Int) : 0 < wOf l := by unfold wOf; omega
theorem qr (t : Int) (l : List Int) (i : Nat) : t * gi l i = wOf l * qq t l i + rr t l i := (Int.mul_ediv_add_emod _ _).symm
theorem rr_nonneg (t : Int) (l : List Int) (i : Nat) : 0 ≤ rr t l i := Int.emod_nonneg _ (by have := wOf_pos l; omega)
theorem rr_lt (t : Int) (l : List Int) (i : Nat) : rr t l i < wOf l := Int.emod_lt_of_pos _ (wOf_pos l)
theorem Wt.nonneg {l : List Int} (h : Wt l) : 0 ≤ l.sum := by
  rw [sum_su]
  have := su_le (f := fun _ => 0) (g := gi l) (n := l.length) h.pos
  rw [su_zero (fun _ _ => rfl)] at this
  exact this
theorem Wt.le {l : List Int} (h : Wt l) {i : Nat} (hi : i < l.length) : gi l i ≤ l.sum := by
  rw [sum_su]
  have := su_le (f := fun j => if j = i then gi l i else 0) (g := gi l) (n := l.length) (fun j hj => by
    by_cases e : j = i
    · subst e; rw [if_pos rfl]; exact Int.le_refl _
    · rw [if_neg e]; exact h.pos j hj)
  have e : su (fun j => if j = i then gi l i else 0) l.length = gi l i * su (fun j => if j = i then 1 else 0) l.length := by
    rw [← su_mul]; exact su_congr fun j _ => by by_cases e : j = i <;> simp [e]
  rw [e, su_one hi, Int.mul_one] at this
  exact this
/-- the sum of the remainders -/
theorem su_rr {t : Int} {l : List Int} (h : l.sum ≥ 1) : su (rr t l) l.length = wOf l * (t - su (qq t l) l.length) := by
  have e1 : su (fun i => t * gi l i) l.length = su (fun i => wOf l * qq t l i + rr t l i) l.length := su_congr fun i _ => qr t l i
  rw [su_mul, su_add, su_mul, ← sum_su] at e1
  have e2 : wOf l = l.sum := by unfold wOf; omega
  rw [e2] at e1 ⊢
  rw [Int.mul_sub, Int.mul_comm l.sum t]
  omega
theorem extra_bounds {t : Int} {l : List Int} (h : l.sum ≥ 1) : 0 ≤ t - su (qq t l) l.length ∧ t - su (qq t l) l.length ≤ (l.length : Int) := by
  have e := su_rr (t := t) h
  have h0 := su_le (f := fun _ => 0) (g := rr t l) (n := l.length) (fun i _ => rr_nonneg t l i)
  rw [su_zero (fun _ _ => rfl)] at h0
  have h1 := su_le (f := rr t l) (g := fun _ => wOf l * 1) (n := l.length) (fun i _ => by have := rr_lt t l i; omega)
  rw [su_mul] at h1
  have e1 : ∀ n : Nat, su (fun _ => (1 : Int)) n = (n : Int) := fun n => by
    induction n with
    | zero => rfl
    | succ n ih => show su _ n + 1 = _; rw [ih]; omega
  rw [e1] at h1
  rw [e] at h0 h1
  have hw := wOf_pos l
  refine ⟨?_, Int.le_of_mul_le_mul_left h1 hw⟩
  by_cases hn : 0 ≤ t - su (qq t l) l.length
  · exact hn
  · have := Int.mul_neg_of_pos_of_neg hw (show t - su (qq t l) l.length < 0 by omega)
    omega
theorem bef_total {t : Int} {l : List Int} {i j : Nat} (h : i ≠ j) (hn : ¬ bef t l j i) : bef t l i j := by
  unfold bef at *
  omega
theorem bef_asymm {t : Int} {l : List Int} {i j : Nat} (h : bef t l i j) (h' : bef t l j i) : False := by
  unfold bef at *
  omega
theorem bef_trans {t : Int} {l : List Int} {i j k : Nat} (h : bef t l i j) (h' : bef t l j k) : bef t l i k := by
  unfold bef at *
  omega

/-- there is at most one division -/
theorem ShareP.unique {t : Int} {l x y : List Int} (hx : ShareP t l x) (hy : ShareP t l y) : x = y := by
  have sx : su (gi x) l.length = t := by rw [← hx.len, ← sum_su]; exact hx.sum
  have sy : su (gi y) l.length = t := by rw [← hy.len, ← sum_su]; exact hy.sum
  have key : ∀ (x y : List Int), ShareP t l x → ShareP t l y → su (gi x) l.length = su (gi y) l.length → ∀ i, i < l.length → ¬ gi y i < gi x i := by
    intro x y hx hy hs i hi hlt
    have hxi : gi x i = qq t l i + 1 := by have := hx.two i hi; have := hy.two i hi; omega
    have hyi : gi y i = qq t l i := by have := hx.two i hi; have := hy.two i hi; omega
    by_cases hj : ∃ j, j < l.length ∧ gi x j < gi y j
    · obtain ⟨j, hj, hlt2⟩ := hj
      have hxj : gi x j = qq t l j := by have := hx.two j hj; have := hy.two j hj; omega
      have hyj : gi y j = qq t l j + 1 := by have := hx.two j hj; have := hy.two j hj; omega
      exact bef_asymm (hx.ord i j hi hj hxi hxj) (hy.ord j i hj hi hyj hyi)
    · have := su_lt (f := gi y) (g := gi x) (n := l.length) (fun j hj' => by
        by_cases hc : gi y j ≤ gi x j
        · exact hc
        · exact absurd ⟨j, hj', by omega⟩ hj) hi hlt
      omega
  refine gi_ext (by rw [hx.len, hy.len]) fun i hi => ?_
  rw [hx.len] at hi
  have h1 := key x y hx hy (sx.trans sy.symm) i hi
  have h2 := key y x hy hx (sy.trans sx.symm) i hi
  omega

/-- the parts behind e more -/
def pts (t : Int) (l : List Int) (D : List Nat) : List Int := (List.range l.length).map fun i => qq t l i + if i ∈ D then 1 else 0
theorem pts_length (t : Int) (l : List Int) (D : List Nat) : (pts t l D).length = l.length := by simp [pts]
theorem pts_at {t : Int} {l : List Int} {D : List Nat} {i : Nat} (h : i < l.length) : gi (pts t l D) i = qq t l i + if i ∈ D then 1 else 0 := gi_map h
theorem pts_step {t : Int} {l : List Int} {d : List Nat} (hd : d.Perm (List.range l.length)) {k : Nat} (hk : k < d.length) :
    (pts t l (d.take k)).set d[k] (gi (pts t l (d.take k)) d[k] + 1) = pts t l (d.take (k + 1)) ∧ d[k] < l.length ∧ gi (pts t l (d.take k)) d[k] = qq t l d[k] := by
  have hlt : d[k] < l.length := List.mem_range.1 (hd.mem_iff.1 (List.getElem_mem hk))
  have hnd : d.Nodup := hd.nodup_iff.2 List.nodup_range
  have hn : d[k] ∉ d.take k := fun hc => by
    obtain ⟨j, hj, e⟩ := List.getElem_of_mem hc
    rw [List.length_take] at hj
    rw [List.getElem_take] at e
    exact List.pairwise_iff_getElem.1 hnd j k (by omega) hk (by omega) e
  have hv : gi (pts t l (d.take k)) d[k] = qq t l d[k] := by rw [pts_at hlt, if_neg hn, Int.add_zero]
  refine ⟨gi_ext (by simp [pts_length]) fun i hi => ?_, hlt, hv⟩
  rw [List.length_set, pts_length] at hi
  by_cases e : d[k] = i
  · subst e
    rw [gi_set_same (by rw [pts_length]; exact hlt), hv, pts_at hlt, if_pos (by rw [List.take_succ_eq_append_getElem hk]; exact List.mem_append_right _ (List.mem_singleton.2 rfl))]
  · rw [gi_set_other e, pts_at hi, pts_at hi]
    have : (i ∈ d.take (k + 1)) ↔ i ∈ d.take k := by
      rw [List.take_succ_eq_append_getElem hk, List.mem_append, List.mem_singleton]
      exact ⟨fun h => h.resolve_right fun h => e h.symm, .inl⟩
    simp only [this]
theorem share_sorted {t : Int} {l : List Int} {d : List Nat} (hd : d.Perm (List.range l.length)) (hs : ∀ a b (ha : a < d.length) (hb : b < d.length), a < b → ¬ bef t l d[b] d[a]) {e : Nat} (he : (e : Int) = t - su (qq t l) l.length) (hle : e ≤ l.length) :
    ShareP t l (pts t l (d.take e)) := by
  have hnd : d.Nodup := hd.nodup_iff.2 List.nodup_range
  have hdl : d.length = l.length := by rw [hd.length_eq, List.length_range]
  refine ⟨pts_length _ _ _, ?_, fun i hi => ?_, fun i j hi hj h1 h2 => ?_⟩
  · rw [sum_su, pts_length, su_congr (fun i hi => pts_at hi), su_add, su_mem (List.Nodup.sublist (List.take_sublist _ _) hnd) (fun a ha => List.mem_range.1 (hd.mem_iff.1 (List.mem_of_mem_take ha))), List.length_take]
    omega
  · rw [pts_at hi]
    by_cases hm : i ∈ d.take e
    · rw [if_pos hm]; exact .inr rfl
    · rw [if_neg hm]; exact .inl (Int.add_zero _)
  · rw [pts_at hi] at h1
    rw [pts_at hj] at h2
    have m1 : i ∈ d.take e := by
      by_cases hm : i ∈ d.take e
      · exact hm
      · rw [if_neg hm] at h1; omega
    have m2 : j ∉ d.take e := fun hm => by rw [if_pos hm] at h2; omega
    obtain ⟨a, ha, ea⟩ := List.getElem_of_mem m1
    obtain ⟨b, hb, eb⟩ := List.getElem_of_mem (hd.mem_iff.2 (List.mem_range.2 hj))
    rw [List.length_take] at ha
    rw [List.getElem_take] at ea
    have hbe : e ≤ b := by
      rcases Nat.lt_or_ge b e with hlt | hge
      · exact absurd (by rw [← eb]; exact List.mem_take_iff_getElem.2 ⟨b, by omega, rfl⟩) m2
      · exact hge
    have := hs a b (by omega) hb (by omega)
    rw [ea, eb] at this
    exact bef_total (fun e => m2 (e ▸ m1)) this

end Go.Proofs.Ytfmnlnmajephlaa
