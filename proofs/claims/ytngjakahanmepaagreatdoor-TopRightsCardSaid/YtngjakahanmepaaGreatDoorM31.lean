/- Part 31 of the proof of TopRights: The law of the rights: the region that calls Reach and has in whatever order. -/
import Derived.Test.YtngjakahanmepaaGreatDoorM19
import Derived.Test.YtngjakahanmepaaGreatDoorM14
import Derived.Test.YtngjakahanmepaaGreatDoorM30
namespace Go.Proofs.YtngjakahanmepaaGreatDoor
open Go.RowKit
set_option linter.unusedVariables false
set_option linter.unusedSimpArgs false
def ReC (Rj : List Nat) (W : World) (v : Value) (w' : World) : Prop := ∃ RA rc2, v = .slice RA (nat2 Rj).length rc2 ∧ Rd w' RA (ints (nat2 Rj)) ∧ Below W.heap.size W w'
def HaC (Rj : List Nat) (q : Nat) (W : World) (v : Value) (w' : World) : Prop := v = .bool (decide (q ∈ Rj)) ∧ Below W.heap.size W w'
theorem wpList_call_w {P : Program} {ops : Array Oper} {rest : List Oper} {o : Oper} {a : Act} {w : World} {Q : Exit → Act → World → Prop} (hw : Region.wanted o (yielded ops a.tmps) = true) (f : FuncId) (vs : Array Value)
    (hx : ∀ W, (execOp a.eval o).run P W = .ok (.enter f vs) W) (C : Value → World → Prop) (hc : Calls P f vs w fun e w' => ∃ v, e = .returned v ∧ C v w') (h : ∀ v w', C v w' → wpList P ops Q rest (a.put o.dst v) w') : wpList P ops Q (o :: rest) a w :=
  wpList_step fun K hK => by
    rw [if_pos hw]
    unfold Oper.wp
    rw [hx w]
    exact hc.mono fun e w' ⟨v, e1, h1⟩ => by subst e1; exact hK _ _ (h v w' h1)
/-- the operations of a function's region, as the program has them -/
def codeOps (k : Nat) : Code → Option (Array Oper)
  | .region id ops _ => if id = k then some ops else none
  | .seq a b => (match codeOps k a with | some o => some o | none => codeOps k b)
  | .cond _ a b => (match codeOps k a with | some o => some o | none => codeOps k b)
  | .rangeFunc _ _ a b => (match codeOps k a with | some o => some o | none => codeOps k b)
  | .block _ c => codeOps k c
  | .loop c => codeOps k c
  | .scope c => codeOps k c
  | _ => none
def regOps (k : Nat) (f : Func) : Array Oper := match f.body with
  | some c => (match codeOps k c with | some o => o | none => #[])
  | none => #[]
set_option maxHeartbeats 32000000 in
set_option maxRecDepth 100000 in
theorem reg29 {s0 s1 s2 s3 s4 s6 s7 s8 s9 s10 s11 s14 s15 s16 s19 s21 s22 s23 s24 s25 s26 s27 s28 s29 s30 s31 s32 s33 s34 s35 s36 s37 s38 s39 s40 s41 s42 s43 s44 s45 s46 s47 s48 s49 s50 s51 s52 s53 s54 s55 s56 s57 s58 s59 s60 s61 s62 s63 s64 s65 s66 s67 s68 s69 s70 s71 s72 s73 s74 s75 s76 s77 s78 s79 s80 s81 s82 s83 s84 s85 s86 s87 s88 s89 s90 s91 s92 s93 s94 s95 s96 s97 s98 s99 s100 s101 s102 s103 s104 s105 s106 s107 s108 s109 s110 s111 s112 s113 s114 s115 s116 s117 s118 s119 s120 s121 s122 s123 s124 s125 s126 s127 s128 s129 s130 s131 s132 s133 s134 s135 s136 s137 s138 s139 s140 s141 s142 s143 s144 s145 s146 s147 s148 s149 s150 s151 s152 s153 s154 s155 s156 s157 s158 s159 s160 s161 s162 s163 s164 s165 s166 s167 s168 s169 s170 s171 s172 s173 s174 s175 s176 s177 s178 s179 s180 s181 s182 s183 s184 s185 s186 s187 s188 s189 s190 s191 s192 s193 s194 s195 s196 s197 s198 s199 s200 s201 s202 s203 s204 s205 s206 s207 s208 s209 s210 s211 s212 s213 s214 s215 s216 s217 s218 s219 s220 s221 s222 s223 s224 s225 s226 s227 s228 s229 s230 : Value} {bb n c gc rl rc m j gb go2 rb2 ro2 q : Nat} {ad ga ra : Addr} {gj pla : Int} (Rj : List Nat) {d0 d1 d2 d3 d4 d5 d6 d7 d8 d9 d10 : Value} {T : World} {y : BelW T} {ops : Array Oper} (hops : regOps 29 Tryz.f3 = ops) {Q : Exit → Act → World → Prop}
    (HBT : Hid (T.rangeAt bb 0 [d0, d1, d2, d3, d4, d5, d6, d7, d8, d9, d10])) (hGE : ga.add (j * 2) = ⟨gb, go2, none⟩) (hE : ad.add (j * 9) = ⟨rb2, ro2, none⟩)
    (k1 : ∀ z : BelW T, z.w.cell? ⟨gb, go2 + 1, none⟩ = some (.int .i64 gj)) (k3 : ∀ z : BelW T, z.w.cell? ⟨rb2, ro2 + 3, none⟩ = some (.int .i64 pla)) (k5 : ∀ z : BelW T, z.w.cell? (ra.add m) = some (.int .i64 (q : Int)))
    (m2 : (j : Int) < (n : Int)) (n2 : (m : Int) < (rl : Int)) (t9 : decide (0 < gj) = true)
    (CRE : Hid (∀ z : BelW T, Calls Tryz.prog 11 #[.agg #[d0, d1, d2, d3, d4, d5, d6, d7, d8, d9, d10], .int .i64 pla] z.w (InPost (nat2 Rj) z.w))) (hRl : Rj.length ≤ 1000)
    (hQ : ∀ c a (d : Tmp) v w, Q (.panic c) (Act.put a (some d) v) w → Q (.panic c) a w)
    (hK : ∀ (t204 t205 t206 t207 t208 t209 t210 t211 t212 t213 t214 t215 t216 t217 t218 t219 t220 t221 t222 : Value) (y' : BelW T), Q .normal ⟨#[s0, s1, s2, s3, s4, .pointer (some ⟨bb, 0, none⟩), s6, s7, s8, s9, s10, s11, .slice (some ad) n c, .slice (some ga) n gc, s14, s15, s16, .slice (some ra) rl rc, .int .i64 (m : Int), s19, .int .i64 (j : Int), s21, s22, s23, s24, s25, s26, s27, s28, s29, s30, s31, s32, s33, s34, s35, s36, s37, s38, s39, s40, s41, s42, s43, s44, s45, s46, s47, s48, s49, s50, s51, s52, s53, s54, s55, s56, s57, s58, s59, s60, s61, s62, s63, s64, s65, s66, s67, s68, s69, s70, s71, s72, s73, s74, s75, s76, s77, s78, s79, s80, s81, s82, s83, s84, s85, s86, s87, s88, s89, s90, s91, s92, s93, s94, s95, s96, s97, s98, s99, s100, s101, s102, s103, s104, s105, s106, s107, s108, s109, s110, s111, s112, s113, s114, s115, s116, s117, s118, s119, s120, s121, s122, s123, s124, s125, s126, s127, s128, s129, s130, s131, s132, s133, s134, s135, s136, s137, s138, s139, s140, s141, s142, s143, s144, s145, s146, s147, s148, s149, s150, s151, s152, s153, s154, s155, s156, s157, s158, s159, s160, s161, s162, s163, s164, s165, s166, s167, s168, s169, s170, s171, s172, s173, s174, s175, s176, s177, s178, s179, s180, s181, s182, s183, s184, s185, s186, s187, s188, s189, s190, s191, s192, s193, s194, s195, s196, s197, s198, s199, s200, s201, s202, s203, t204, t205, t206, t207, t208, t209, t210, t211, t212, t213, t214, t215, t216, t217, t218, t219, t220, t221, t222, .bool (decide (q ∈ Rj)), s224, s225, s226, s227, s228, s229, s230], []⟩ y'.w) :
    (Code.region 29 ops true).wp Tryz.prog Q ⟨#[s0, s1, s2, s3, s4, .pointer (some ⟨bb, 0, none⟩), s6, s7, s8, s9, s10, s11, .slice (some ad) n c, .slice (some ga) n gc, s14, s15, s16, .slice (some ra) rl rc, .int .i64 (m : Int), s19, .int .i64 (j : Int), s21, s22, s23, s24, s25, s26, s27, s28, s29, s30, s31, s32, s33, s34, s35, s36, s37, s38, s39, s40, s41, s42, s43, s44, s45, s46, s47, s48, s49, s50, s51, s52, s53, s54, s55, s56, s57, s58, s59, s60, s61, s62, s63, s64, s65, s66, s67, s68, s69, s70, s71, s72, s73, s74, s75, s76, s77, s78, s79, s80, s81, s82, s83, s84, s85, s86, s87, s88, s89, s90, s91, s92, s93, s94, s95, s96, s97, s98, s99, s100, s101, s102, s103, s104, s105, s106, s107, s108, s109, s110, s111, s112, s113, s114, s115, s116, s117, s118, s119, s120, s121, s122, s123, s124, s125, s126, s127, s128, s129, s130, s131, s132, s133, s134, s135, s136, s137, s138, s139, s140, s141, s142, s143, s144, s145, s146, s147, s148, s149, s150, s151, s152, s153, s154, s155, s156, s157, s158, s159, s160, s161, s162, s163, s164, s165, s166, s167, s168, s169, s170, s171, s172, s173, s174, s175, s176, s177, s178, s179, s180, s181, s182, s183, s184, s185, s186, s187, s188, s189, s190, s191, s192, s193, s194, s195, s196, s197, s198, s199, s200, s201, s202, s203, s204, s205, s206, s207, s208, s209, s210, s211, s212, s213, s214, s215, s216, s217, s218, s219, s220, s221, s222, s223, s224, s225, s226, s227, s228, s229, s230], []⟩ y.w := by
  have m1 : (0 : Int) ≤ (j : Int) := by omega
  have n1 : (0 : Int) ≤ (m : Int) := by omega
  have HS0 := Lib.hid (show ∃ z : BelW T, y.w.drew = z.w from ⟨⟨_, y.2.drew⟩, rfl⟩)
  have HK := Lib.hid hK
  clear hK
  subst hops
  conv in regOps 29 _ => whnf
  refine wp_region_tl 18 20 (fun w' => ∃ z : BelW T, w' = z.w) HS0.out ?_
  iterate 7 (refine wpK_nx rfl rfl HS0.out (Or.inl ⟨by kernel_rfl, fun w1 hS => by obtain ⟨z, rfl⟩ := hS; (go_simp <;> with_reducible rfl)⟩) ?_ (hQ := fun c a w h => hQ c a _ _ w h); simp only [Act.put, List.setIfInBounds_toArray, List.set_cons_zero, List.set_cons_succ])
  refine wpK_nx rfl rfl HS0.out (yields_load 31 (.tmp 5) (by kernel_rfl) bb 0 (by kernel_rfl) (by kernel_rfl) [d0, d1, d2, d3, d4, d5, d6, d7, d8, d9, d10] _ (rangeX HBT.out) Tryz.underlying31 (by kernel_rfl) (by kernel_rfl)) ?_ (hQ := fun c a w h => hQ c a _ _ w h); simp only [Act.put, List.setIfInBounds_toArray, List.set_cons_zero, List.set_cons_succ]
  iterate 5 (refine wpK_nx rfl rfl HS0.out (Or.inl ⟨by kernel_rfl, fun w1 hS => by obtain ⟨z, rfl⟩ := hS; (go_simp <;> with_reducible rfl)⟩) ?_ (hQ := fun c a w h => hQ c a _ _ w h); simp only [Act.put, List.setIfInBounds_toArray, List.set_cons_zero, List.set_cons_succ])
  refine wpK_tk 14 rfl rfl HS0.out (Or.inl ⟨by kernel_rfl, fun w1 hS => by obtain ⟨z, rfl⟩ := hS; (go_simp <;> with_reducible rfl)⟩) ?_ (hQ := fun c a w h => hQ c a _ _ w h); simp only [Act.put, List.setIfInBounds_toArray, List.set_cons_zero, List.set_cons_succ]
  refine wpK_tk 15 rfl rfl HS0.out (Or.inl ⟨by kernel_rfl, fun w1 hS => by obtain ⟨z, rfl⟩ := hS; (go_simp <;> with_reducible rfl)⟩) ?_ (hQ := fun c a w h => hQ c a _ _ w h); simp only [Act.put, List.setIfInBounds_toArray, List.set_cons_zero, List.set_cons_succ]
  refine wpK_tk 16 rfl rfl HS0.out (Or.inl ⟨by kernel_rfl, fun w1 hS => by obtain ⟨z, rfl⟩ := hS; (go_simp <;> with_reducible rfl)⟩) ?_ (hQ := fun c a w h => hQ c a _ _ w h); simp only [Act.put, List.setIfInBounds_toArray, List.set_cons_zero, List.set_cons_succ]
  refine wpK_tk 17 rfl rfl HS0.out (Or.inl ⟨by kernel_rfl, fun w1 hS => by obtain ⟨z, rfl⟩ := hS; (go_simp <;> with_reducible rfl)⟩) ?_ (hQ := fun c a w h => hQ c a _ _ w h); simp only [Act.put, List.setIfInBounds_toArray, List.set_cons_zero, List.set_cons_succ]
  have CR := Lib.hid (show Calls Tryz.prog 11 #[.agg #[d0, d1, d2, d3, d4, d5, d6, d7, d8, d9, d10], .int .i64 pla] y.w.drew (fun e w' => ∃ v, e = .returned v ∧ ReC Rj y.w.drew v w') from (CRE.out ⟨y.w.drew, y.2.drew⟩).mono fun e w' ⟨RA, rc2, e1, _, _, h1, h2⟩ => ⟨_, e1, RA, rc2, rfl, h1, h2⟩)
  refine wpK_on 13 rfl ?_
  with_reducible refine wpList_call_w (by kernel_rfl) 11 #[.agg #[d0, d1, d2, d3, d4, d5, d6, d7, d8, d9, d10], .int .i64 pla] (fun W => by kernel_rfl) (ReC Rj y.w.drew) CR.out ?_
  rintro v w5 ⟨RA, rc2, rfl, hr5, hb5⟩
  have HB5 := Lib.hid (show Below T.heap.size T w5 from below_next y.2.drew hb5)
  refine ⟨⟨⟨w5, HB5.out⟩, rfl⟩, wpK_done (by kernel_rfl) ?_⟩
  simp only [List.drop_succ_cons, List.drop_zero]
  have CH := Lib.hid (lhas_any RA rc2 (nat2 Rj) (q : Int) (by rw [nat2_length]; omega) w5 hr5)
  have hmem : decide ((q : Int) ∈ nat2 Rj) = decide (q ∈ Rj) := by
    have : (q : Int) ∈ nat2 Rj ↔ q ∈ Rj := by
      unfold nat2
      rw [List.mem_map]
      exact ⟨fun ⟨a, ha, e⟩ => by
        have : a = q := by exact Int.ofNat.inj e
        subst this; exact ha, fun h => ⟨q, h, rfl⟩⟩
    simp only [this]
  rw [hmem] at CH
  have CH2 := Lib.hid (show Calls Tryz.prog 12 #[.slice RA (nat2 Rj).length rc2, .int .i64 (q : Int)] w5 (fun e w' => ∃ v, e = .returned v ∧ HaC Rj q w5 v w') from CH.out.mono fun e w' ⟨e1, h1⟩ => ⟨_, e1, rfl, h1⟩)
  clear hr5 hb5 hmem k1 k3 k5
  with_reducible refine wpList_call_w (by kernel_rfl) 12 #[.slice RA (nat2 Rj).length rc2, .int .i64 (q : Int)] (fun W => by kernel_rfl) (HaC Rj q w5) CH2.out ?_
  rintro v w6 ⟨rfl, hb6⟩
  simp only [Act.put, List.setIfInBounds_toArray, List.set_cons_zero, List.set_cons_succ]
  go_wp2_with fail
  exact HK.out _ _ _ _ _ _ _ _ _ _ _ _ _ _ _ _ _ _ _ ⟨w6, below_next HB5.out hb6⟩
end Go.Proofs.YtngjakahanmepaaGreatDoor
