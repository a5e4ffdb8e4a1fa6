/- What a call of each Go function that FnExactRulesText reaches comes to, as a Lean function: texts of the kit's print, turned by wip/remake.py. No condition beyond what each names. -/
import Derived.Test.YtdfmobcocaijpaaDoorQFnExactRulesTextx3
namespace Go.Proofs.YtdfmobcocaijpaaDoor.QFnExactRulesText
open Go.RowKit Go.Proofs.YtdfmobcocaijpaaDoorW.PrintWords Go.Proofs.YtdfmobcocaijpaaDoorW.PrintLast Go.Proofs.YtdfmobcocaijpaaDoorW.PrintMore
attribute [local go_sem] max2_int min2_int max_two min_two max_three min_three max_four min_four   -- for this text's walks alone
set_option linter.unusedVariables false
set_option linter.unusedSimpArgs false

/-! ### rules, bundled -/
structure GD where
  f0 : Int
  f1 : Int
  f2 : Bool
  f3 : Bool
  f4 : List Int
  f5 : List Int
  f6 : Int
  f7 : Int
structure GV where
  A4 : Option Addr
  c4 : Nat
  A5 : Option Addr
  c5 : Nat
abbrev GD.cs (d : GD) (v : GV) : Array Value := #[.int .i64 d.f0, .int .i64 d.f1, .bool d.f2, .bool d.f3, .slice v.A4 d.f4.length v.c4, .slice v.A5 d.f5.length v.c5, .int .i64 d.f6, .int .i64 d.f7]
abbrev GD.agg (d : GD) (v : GV) : Value := .agg (d.cs v)
def GRd (w : World) (d : GD) (v : GV) : Prop := (Kd.C (Kd.int .i64) w v.A4 d.f4.length d.f4 ∧ d.f4.length ≤ v.c4) ∧ (Kd.C (Kd.int .i64) w v.A5 d.f5.length d.f5 ∧ d.f5.length ≤ v.c5)
theorem GRd.below {w w1 : World} {d : GD} {v : GV} (h : GRd w d v) (hb : Below w.heap.size w w1) : GRd w1 d v := ⟨⟨Kd.C_below h.1.1 hb, h.1.2⟩, ⟨Kd.C_below h.2.1 hb, h.2.2⟩⟩
def GOwn (w : World) (base : Nat) (P : Nat → Prop) (d : GD) (v : GV) : Prop := Kd.R (Kd.int .i64) 3 w base (fun k => P k ∧ some k ≠ (.slice v.A5 d.f5.length v.c5 : Value).ownBlock) (.slice v.A4 d.f4.length v.c4) d.f4 ∧ Kd.R (Kd.int .i64) 3 w base (fun k => P k ∧ some k ≠ (.slice v.A4 d.f4.length v.c4 : Value).ownBlock) (.slice v.A5 d.f5.length v.c5) d.f5
theorem GOwn.below {w w1 : World} {base : Nat} {P : Nat → Prop} {d : GD} {v : GV} (h : GOwn w base P d v) (hb : Below w.heap.size w w1) : GOwn w1 base P d v := ⟨Kd.R_below h.1 hb, Kd.R_below h.2 hb⟩
theorem GOwn.kept {w w1 : World} {base : Nat} {P S : Nat → Prop} {d : GD} {v : GV} (h : GOwn w base P d v) (hk : Kept w w1 S) (hs : ∀ k, P k → ¬ S k) : GOwn w1 base P d v := ⟨Kd.R_kept h.1 hk (fun k h => hs k h.1), Kd.R_kept h.2 hk (fun k h => hs k h.1)⟩
theorem GOwn.mono {w : World} {base : Nat} {P Q : Nat → Prop} {d : GD} {v : GV} (h : GOwn w base P d v) (hq : ∀ k, P k → Q k) : GOwn w base Q d v := ⟨Kd.R_mono h.1 (fun k h => ⟨hq k h.1, h.2⟩), Kd.R_mono h.2 (fun k h => ⟨hq k h.1, h.2⟩)⟩
theorem GOwn.lower {w : World} {base b : Nat} {P : Nat → Prop} {d : GD} {v : GV} (h : GOwn w base P d v) (hb : b ≤ base) : GOwn w b P d v := ⟨Kd.R_lower h.1 hb, Kd.R_lower h.2 hb⟩
theorem GOwn.rd {w : World} {base : Nat} {P : Nat → Prop} {d : GD} {v : GV} (h : GOwn w base P d v) : GRd w d v := ⟨⟨(Kd.R_reads' h.1).2.2, (Kd.R_reads' h.1).2.1⟩, ⟨(Kd.R_reads' h.2).2.2, (Kd.R_reads' h.2).2.1⟩⟩
theorem toRules_c (k : Nat) (d : GD) (v : GV) (e : GD) (w : World) (hr : GRd w d v) (h : laws_toRules.f k d.f0 d.f1 d.f2 d.f3 d.f4 d.f5 d.f6 d.f7 = some (e.f0, e.f1, e.f2, e.f3, e.f4, e.f5, e.f6, e.f7)) :
    Calls Tryd.prog 24 #[d.agg v] w fun x w' => ∃ u : GV, x = .returned (e.agg u) ∧ GOwn w' w.heap.size (fun k => w.heap.size ≤ k ∧ k < w'.heap.size) e u ∧ Below w.heap.size w w' := by
  refine (laws_toRules.calls k d.f0 d.f1 d.f2 d.f3 v.A4 v.c4 d.f4 v.A5 v.c5 d.f5 d.f6 d.f7 e.f0 e.f1 e.f2 e.f3 e.f4 e.f5 e.f6 e.f7 w hr.1.1 hr.1.2 hr.2.1 hr.2.2 h).mono ?_
  rintro x w' ⟨v4, v5, rfl, h4, h5, hb⟩
  obtain ⟨A4, c4, rfl⟩ := Kd.R_slice h4
  obtain ⟨A5, c5, rfl⟩ := Kd.R_slice h5
  exact ⟨⟨A4, c4, A5, c5⟩, rfl, ⟨Kd.R_mono (Kd.R_bound h4) (fun k h => ⟨⟨h.2.1, h.2.2.1⟩, h.1⟩), Kd.R_mono (Kd.R_bound h5) (fun k h => ⟨⟨h.2.1, h.2.2.1⟩, h.1⟩)⟩, hb⟩
theorem szRules_c (k : Nat) (d : GD) (v : GV) (a1 : Int) (r : Int) (w : World) (h0 : GRd w d v) (h : laws_szRules.f d.f0 d.f1 d.f2 d.f3 d.f4 d.f5 d.f6 d.f7 a1 = some r) :
    Calls Tryd.prog 22 #[d.agg v, .int .i64 a1] w fun e w' => e = .returned (.int .i64 r) ∧ Below w.heap.size w w' :=
  laws_szRules.calls d.f0 d.f1 d.f2 d.f3 v.A4 v.c4 d.f4 v.A5 v.c5 d.f5 d.f6 d.f7 a1 r w h0.1.1 h0.1.2 h0.2.1 h0.2.2 h
theorem specX_c (k : Nat) (d : GD) (v : GV) (r : ByteArray) (w : World) (h0 : GRd w d v) (h : spec_RulesText.f k d.f0 d.f1 d.f2 d.f3 d.f4 d.f5 d.f6 d.f7 = some r) :
    Calls Tryd.prog 23 #[d.agg v] w fun e w' => e = .returned (.string r) ∧ Below w.heap.size w w' :=
  spec_RulesText.calls k d.f0 d.f1 d.f2 d.f3 v.A4 v.c4 d.f4 v.A5 v.c5 d.f5 d.f6 d.f7 r w h0.1.1 h0.1.2 h0.2.1 h0.2.2 h
theorem implX_c (k : Nat) (d : GD) (v : GV) (r : ByteArray) (w : World) (ht : Laid w) (h0 : GRd w d v) (h : impl_RulesText.f k d.f0 d.f1 d.f2 d.f3 d.f4 d.f5 d.f6 d.f7 = some r) :
    Calls Tryd.prog 9 #[d.agg v] w fun e w' => e = .returned (.string r) ∧ Below w.heap.size w w' :=
  impl_RulesText.calls k d.f0 d.f1 d.f2 d.f3 v.A4 v.c4 d.f4 v.A5 v.c5 d.f5 d.f6 d.f7 r w ht h0.1.1 h0.1.2 h0.2.1 h0.2.2 h
theorem eqRules_c (k : Nat) (d : GD) (v : GV) (d1 : GD) (v1 : GV) (r : Bool) (w : World) (h0 : GRd w d v) (h1 : GRd w d1 v1) (h : laws_eqRules.f k d.f0 d.f1 d.f2 d.f3 d.f4 d.f5 d.f6 d.f7 d1.f0 d1.f1 d1.f2 d1.f3 d1.f4 d1.f5 d1.f6 d1.f7 = some r) :
    Calls Tryd.prog 19 #[d.agg v, d1.agg v1] w fun e w' => e = .returned (.bool r) ∧ Below w.heap.size w w' :=
  laws_eqRules.calls k d.f0 d.f1 d.f2 d.f3 v.A4 v.c4 d.f4 v.A5 v.c5 d.f5 d.f6 d.f7 d1.f0 d1.f1 d1.f2 d1.f3 v1.A4 v1.c4 d1.f4 v1.A5 v1.c5 d1.f5 d1.f6 d1.f7 r w h0.1.1 h0.1.2 h0.2.1 h0.2.2 h1.1.1 h1.1.2 h1.2.1 h1.2.2 h

/-! ### the law -/
def laws_FnExactRulesText.f (k : Nat) (a0_0 : Int) (a0_1 : Int) (a0_2 : Bool) (a0_3 : Bool) (l0_4 : List Int) (l0_5 : List Int) (a0_6 : Int) (a0_7 : Int) : Option Bool :=
  (laws_szRules.f a0_0 a0_1 a0_2 a0_3 l0_4 l0_5 a0_6 a0_7 1048576).bind fun L => if L < 0 then some true else (laws_toRules.f k a0_0 a0_1 a0_2 a0_3 l0_4 l0_5 a0_6 a0_7).bind fun e => (spec_RulesText.f k e.1 e.2.1 e.2.2.1 e.2.2.2.1 e.2.2.2.2.1 e.2.2.2.2.2.1 e.2.2.2.2.2.2.1 e.2.2.2.2.2.2.2).bind fun t => (impl_RulesText.f k e.1 e.2.1 e.2.2.1 e.2.2.2.1 e.2.2.2.2.1 e.2.2.2.2.2.1 e.2.2.2.2.2.2.1 e.2.2.2.2.2.2.2).bind fun g => (laws_eqRules.f k e.1 e.2.1 e.2.2.1 e.2.2.2.1 e.2.2.2.2.1 e.2.2.2.2.2.1 e.2.2.2.2.2.2.1 e.2.2.2.2.2.2.2 e.1 e.2.1 e.2.2.1 e.2.2.2.1 e.2.2.2.2.1 e.2.2.2.2.2.1 e.2.2.2.2.2.2.1 e.2.2.2.2.2.2.2).bind fun c2 =>
    if g = t ∧ c2 = true then some true else none
set_option maxHeartbeats 8000000 in
set_option maxRecDepth 100000 in
theorem laws_FnExactRulesText.small (k : Nat) (d : GD) (v : GV) (L : Int) (w : World) (hr : GRd w d v) (E0 : Aside0 (laws_szRules.f d.f0 d.f1 d.f2 d.f3 d.f4 d.f5 d.f6 d.f7 1048576 = some L)) (hL : L < 0) :
    Calls Tryd.prog 5 #[d.agg v] w fun x w' => x = .returned (.bool true) ∧ Below w.heap.size w w' := by
  have R0 := Aside0.mk (hr.below (below_alloc (Below.refl _ _) (.cells (d.cs v) 44)))
  have hL0 : decide (L < 0) = true := decide_eq_true hL
  clear hr hL
  dsimp only [GD.agg, GD.cs] at R0 ⊢
  go_enter Tryd.func5, Tryd.ntmps5
  go_wp2_with (fail)
  refine (szRules_c k d v 1048576 L _ R0.out E0.out).mono ?_
  rintro x w1 ⟨rfl, hb1⟩
  go_wp2
  go_ret
  exact ⟨rfl, below_then ((Below.refl w.heap.size w).alloc (Nat.le_refl _) _) (by simp) hb1⟩
set_option maxHeartbeats 8000000 in
set_option maxRecDepth 100000 in
theorem laws_FnExactRulesText.walk (k : Nat) (d e : GD) (v : GV) (L : Int) (t : ByteArray) (w : World) (ht : Laid w) (hr : GRd w d v) (E0 : Aside0 (laws_szRules.f d.f0 d.f1 d.f2 d.f3 d.f4 d.f5 d.f6 d.f7 1048576 = some L)) (hL : ¬ L < 0) (E1 : Aside0 (laws_toRules.f k d.f0 d.f1 d.f2 d.f3 d.f4 d.f5 d.f6 d.f7 = some (e.f0, e.f1, e.f2, e.f3, e.f4, e.f5, e.f6, e.f7))) (E2 : Aside0 (spec_RulesText.f k e.f0 e.f1 e.f2 e.f3 e.f4 e.f5 e.f6 e.f7 = some t)) (E3 : Aside0 (impl_RulesText.f k e.f0 e.f1 e.f2 e.f3 e.f4 e.f5 e.f6 e.f7 = some t))
    (E5 : Aside0 (laws_eqRules.f k e.f0 e.f1 e.f2 e.f3 e.f4 e.f5 e.f6 e.f7 e.f0 e.f1 e.f2 e.f3 e.f4 e.f5 e.f6 e.f7 = some true)) :
    Calls Tryd.prog 5 #[d.agg v] w fun x w' => x = .returned (.bool true) ∧ Below w.heap.size w w' := by
  have R0 := Aside0.mk (hr.below (below_alloc (Below.refl _ _) (.cells (d.cs v) 44)))
  have hL0 : decide (L < 0) = false := decide_eq_false hL
  have RW := Aside0.mk hr
  have HT := Aside0.mk ht
  have ne0 : (t.toList == t.toList) = true := beq_self_eq_true _
  have ne1 : (t.toList != t.toList) = false := bne_self_eq_false _
  have B0 := Aside0.mk (blk_new w (.cells (d.cs v) 44))
  have HB0 : Aside0 (Below w.heap.size w (w.alloc (.cells (d.cs v) 44))) := ⟨(Below.refl w.heap.size w).alloc (Nat.le_refl _) _⟩
  clear hr hL ht
  dsimp only [GD.agg, GD.cs] at R0 B0 HB0 ⊢
  go_enter Tryd.func5, Tryd.ntmps5
  go_wp2_with (fail)
  refine (szRules_c k d v 1048576 L _ R0.out E0.out).mono ?_
  rintro x w1 ⟨rfl, hb1⟩
  have B1 := Aside0.mk (blk_below B0.out hb1)
  have HB1 := Aside0.mk (below_step HB0.out hb1)
  have hc1 := fun i => blk_cell B1.out i
  clear hb1 R0 B0 HB0
  go_wp2_with (fail)
  refine (toRules_c k d v e _ (RW.out.below HB1.out) E1.out).mono ?_
  rintro x w2 ⟨u1, rfl, o1, hb2⟩
  have O1 := Aside0.mk o1.rd
  have B2 := Aside0.mk (blk_below B1.out hb2)
  have HB2 := Aside0.mk (below_step HB1.out hb2)
  clear hb2 B1 HB1 hc1 o1
  go_wp2_with (fail)
  refine (specX_c k e u1 t _ O1.out E2.out).mono ?_
  rintro x w3 ⟨rfl, hb3⟩
  have B3 := Aside0.mk (blk_below B2.out hb3)
  have HB3 := Aside0.mk (below_step HB2.out hb3)
  have hc3 := fun i => blk_cell B3.out i
  clear hb3 O1 B2 HB2
  go_wp2_with (fail)
  refine (toRules_c k d v e _ (RW.out.below HB3.out) E1.out).mono ?_
  rintro x w4 ⟨u, rfl, o4, hb4⟩
  have HA4 : Aside0 (Below w4.heap.size w4 (w4.alloc (.cells (e.cs u) 26))) := ⟨(Below.refl _ _).alloc (Nat.le_refl _) _⟩
  have O4 := Aside0.mk (o4.below HA4.out)
  have B4 := Aside0.mk (blk_below (blk_below B3.out hb4) HA4.out)
  have C4 := Aside0.mk (blk_new w4 (.cells (e.cs u) 26))
  have HB4 := Aside0.mk (below_step (below_step HB3.out hb4) HA4.out)
  clear hb4 o4 B3 hc3 HA4
  dsimp only [GD.cs] at O4 B4 C4 HB4
  go_wp2_with (fail)
  refine (implX_c k e u t _ (HT.out.at HB4.out) O4.out.rd E3.out).mono ?_
  rintro x w5 ⟨rfl, hb5⟩
  have O5 := Aside0.mk (O4.out.below hb5)
  have B5 := Aside0.mk (blk_below B4.out hb5)
  have C5 := Aside0.mk (blk_below C4.out hb5)
  have HB5 := Aside0.mk (below_step HB4.out hb5)
  clear hb5 O4 B4 C4 HB4
  go_wp2
  have hb6 : Below w5.heap.size w5 w5.drew := below_drew (Below.refl _ _)
  have O6 := Aside0.mk (O5.out.below hb6)
  have B6 := Aside0.mk (blk_below B5.out hb6)
  have C6 := Aside0.mk (blk_below C5.out hb6)
  have HB6 := Aside0.mk (below_step HB5.out hb6)
  clear hb6 O5 B5 C5 HB5
  refine start_ (n := 5) (S := fun w' => (∀ i, w'.cell? ⟨w4.heap.size, i, none⟩ = #[.int .i64 e.f0, .int .i64 e.f1, .bool e.f2, .bool e.f3, .slice u.A4 e.f4.length u.c4, .slice u.A5 e.f5.length u.c5, .int .i64 e.f6, .int .i64 e.f7][i]?) ∧ (∀ i, w'.cell? ⟨w.heap.size, i, none⟩ = #[.int .i64 d.f0, .int .i64 d.f1, .bool d.f2, .bool d.f3, .slice v.A4 d.f4.length v.c4, .slice v.A5 d.f5.length v.c5, .int .i64 d.f6, .int .i64 d.f7][i]?)) (ds := []) #[false, false, false, false, false] (by kernel_rfl) rfl rfl ⟨fun i => blk_cell C6.out i, fun i => blk_cell B6.out i⟩ (fun hHeld => ?_)
  generalize w5.drew = w6 at *
  refine take_ (i := 0) (N := some 22) (v := ?_) (a' := ?_) #[true, false, false, false, false] rfl rfl (by kernel_rfl) (fun _ _ _ h => h) (Or.inl ⟨by rfl, ?_⟩) hHeld ?_ ?_
  rotate_left
  · rintro w' ⟨s0, s1⟩
    go_simp
    with_reducible rfl
  rotate_left
  · simp only [Act.put, List.setIfInBounds_toArray, List.set_cons_zero, List.set_cons_succ, i64_w, i32_w]
    rfl
  refine take_ (i := 1) (N := some 23) (v := ?_) (a' := ?_) #[true, true, false, false, false] rfl rfl (by kernel_rfl) (fun _ _ _ h => h) (Or.inl ⟨by rfl, ?_⟩) hHeld ?_ ?_
  rotate_left
  · rintro w' ⟨s0, s1⟩
    go_simp
    with_reducible rfl
  rotate_left
  · simp only [Act.put, List.setIfInBounds_toArray, List.set_cons_zero, List.set_cons_succ, i64_w, i32_w]
    rfl
  refine one_ (i := 2) (N := some 24) #[true, true, true, false, false] rfl rfl (by kernel_rfl) (by decide) (fun K hK => ?_)
  refine goes_ Tryd.func24 (by kernel_rfl) rfl #[d.agg v] (by rfl) rfl rfl (by (try simp only [List.map_toArray, List.map_cons, List.map_nil]); rfl) ?_
  refine (toRules_c k d v e _ (RW.out.below HB6.out) E1.out).mono ?_
  rintro x w7 ⟨u2, rfl, o7, hb7⟩
  refine ⟨_, rfl, ?_⟩
  have O7 := Aside0.mk (O6.out.below hb7)
  have Q7 := Aside0.mk o7.rd
  have B7 := Aside0.mk (blk_below B6.out hb7)
  have C7 := Aside0.mk (blk_below C6.out hb7)
  have HB7 := Aside0.mk (below_step HB6.out hb7)
  clear hb7 O6 B6 C6 HB6 hHeld o7
  refine hK.out _ _ ⟨fun i => blk_cell C7.out i, fun i => blk_cell B7.out i⟩ (fun hHeld => ?_)
  clear hK K
  refine norm_ (a' := ?_) ?_ ?_
  rotate_left
  · show Act.put _ (some 24) _ = _
    simp only [Act.put, List.setIfInBounds_toArray, List.set_cons_zero, List.set_cons_succ, i64_w, i32_w]
    rfl
  refine one_ (i := 3) (N := some 25) #[true, true, true, true, false] rfl rfl (by kernel_rfl) (by decide) (fun K hK => ?_)
  refine goes_ Tryd.func19 (by kernel_rfl) rfl #[e.agg u, e.agg u2] (by rfl) rfl rfl (by (try simp only [List.map_toArray, List.map_cons, List.map_nil]); rfl) ?_
  refine (eqRules_c k e u e u2 true _ O7.out.rd Q7.out E5.out).mono ?_
  rintro x w8 ⟨rfl, hb8⟩
  refine ⟨_, rfl, ?_⟩
  have B8 := Aside0.mk (blk_below B7.out hb8)
  have C8 := Aside0.mk (blk_below C7.out hb8)
  have HB8 := Aside0.mk (below_step HB7.out hb8)
  clear hb8 O7 B7 C7 HB7 hHeld Q7
  refine hK.out _ _ ⟨fun i => blk_cell C8.out i, fun i => blk_cell B8.out i⟩ (fun hHeld => ?_)
  clear hK K
  refine norm_ (a' := ?_) ?_ ?_
  rotate_left
  · show Act.put _ (some 25) _ = _
    simp only [Act.put, List.setIfInBounds_toArray, List.set_cons_zero, List.set_cons_succ, i64_w, i32_w]
    rfl
  refine pure_ (i := 4) (N := some 26) (v := ?_) (a' := ?_) #[true, true, true, true, true] rfl rfl (by kernel_rfl) (fun _ _ _ h => h) (Or.inl ⟨by rfl, ?_⟩) ?_ ?_
  rotate_left
  · intro w'
    go_simp
    with_reducible rfl
  rotate_left
  · simp only [Act.put, List.setIfInBounds_toArray, List.set_cons_zero, List.set_cons_succ, i64_w, i32_w]
    rfl
  refine done_ (by kernel_rfl) ?_
  clear hHeld
  go_wp2
  go_ret
  exact ⟨rfl, HB8.out⟩
theorem laws_FnExactRulesText.calls (k : Nat) (a0_0 : Int) (a0_1 : Int) (a0_2 : Bool) (a0_3 : Bool) (A0_4 : Option Addr) (c0_4 : Nat) (l0_4 : List Int) (A0_5 : Option Addr) (c0_5 : Nat) (l0_5 : List Int) (a0_6 : Int) (a0_7 : Int) (r : Bool) (w : World) (ht : Laid w) (hr0_4 : Kd.C (Kd.int .i64) w A0_4 l0_4.length l0_4) (hc0_4 : l0_4.length ≤ c0_4) (hr0_5 : Kd.C (Kd.int .i64) w A0_5 l0_5.length l0_5) (hc0_5 : l0_5.length ≤ c0_5) (h : laws_FnExactRulesText.f k a0_0 a0_1 a0_2 a0_3 l0_4 l0_5 a0_6 a0_7 = some r) (hT : r = true) :
    Calls Tryd.prog 5 #[.agg #[.int .i64 a0_0, .int .i64 a0_1, .bool a0_2, .bool a0_3, .slice A0_4 l0_4.length c0_4, .slice A0_5 l0_5.length c0_5, .int .i64 a0_6, .int .i64 a0_7]] w fun x w' => x = .returned (.bool r) ∧ Below w.heap.size w w' := by
  subst hT
  obtain ⟨L, e0, h⟩ := Option.bind_eq_some_iff.mp h
  by_cases hL : L < 0
  · exact laws_FnExactRulesText.small k ⟨a0_0, a0_1, a0_2, a0_3, l0_4, l0_5, a0_6, a0_7⟩ ⟨A0_4, c0_4, A0_5, c0_5⟩ L w ⟨⟨hr0_4, hc0_4⟩, ⟨hr0_5, hc0_5⟩⟩ ⟨e0⟩ hL
  · rw [if_neg hL] at h
    obtain ⟨e, e1, h⟩ := Option.bind_eq_some_iff.mp h
    obtain ⟨t, e2, h⟩ := Option.bind_eq_some_iff.mp h
    obtain ⟨g, e3, h⟩ := Option.bind_eq_some_iff.mp h
    obtain ⟨c2, e5, h⟩ := Option.bind_eq_some_iff.mp h
    split at h
    · rename_i hc
      obtain ⟨rfl, rfl⟩ := hc
      exact laws_FnExactRulesText.walk k ⟨a0_0, a0_1, a0_2, a0_3, l0_4, l0_5, a0_6, a0_7⟩ ⟨e.1, e.2.1, e.2.2.1, e.2.2.2.1, e.2.2.2.2.1, e.2.2.2.2.2.1, e.2.2.2.2.2.2.1, e.2.2.2.2.2.2.2⟩ ⟨A0_4, c0_4, A0_5, c0_5⟩ L g w ht ⟨⟨hr0_4, hc0_4⟩, ⟨hr0_5, hc0_5⟩⟩ ⟨e0⟩ hL ⟨e1⟩ ⟨e2⟩ ⟨e3⟩ ⟨e5⟩
    · exact absurd h (by simp)

end Go.Proofs.YtdfmobcocaijpaaDoor.QFnExactRulesText
