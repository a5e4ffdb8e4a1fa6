/- What a call of each Go function that FnExactPlayable reaches comes to, as a Lean function: texts of the kit's print, turned by wip/remake.py. No condition beyond what each names. -/
import Derived.Test.YtkhgeockdjjhmaaQFnExactPlayablex7
namespace Go.Proofs.Ytkhgeockdjjhmaa.QFnExactPlayable
open Go.RowKit Go.Proofs.YtkhgeockdjjhmaaW.PrintWords Go.Proofs.YtkhgeockdjjhmaaW.PrintLast Go.Proofs.YtkhgeockdjjhmaaW.PrintMore
attribute [local go_sem] max2_int min2_int max_two min_two max_three min_three max_four min_four   -- for this text's walks alone
set_option linter.unusedVariables false
set_option linter.unusedSimpArgs false

/-! ### laws_markIntSS -/
def laws_markIntSS.l0 : Nat → List (List Int) → Int → Int → Option (Int × List (List Int))
  | 0, _, _, _ => none
  | k + 1, x0, x1, x5 => if x5 < (x0.length : Int) then (if 0 ≤ x5 then ((laws_markIntS.f k (rd_L1 x0 x5) x1).bind fun b => laws_markIntSS.l0 k (x0.set x5.toNat b.2) b.1 (wrap64 (x5 + 1))) else none) else some (x1, x0)
def laws_markIntSS.f (k : Nat) (l0 : List (List Int)) (a1 : Int) : Option (Int × List (List Int)) := laws_markIntSS.l0 k l0 a1 0
theorem laws_markIntSS.mono_l : ∀ k, (∀ y0 y1 y2, LeO (laws_markIntSS.l0 k y0 y1 y2) (laws_markIntSS.l0 (k + 1) y0 y1 y2))
  | 0 => fun _ _ _ r h => by simp [laws_markIntSS.l0] at h
  | k + 1 => by
    have ih0 := laws_markIntSS.mono_l k
    intro y0 y1 y2
    unfold laws_markIntSS.l0
    repeat' first
      | (with_reducible exact ih0 _ _ _)
      | exact laws_markIntS.mono _ _ _
      | (with_reducible exact LeO.refl _)
      | (with_reducible exact LeO.none _)
      | (with_reducible refine LeO.ite ?_ ?_)
      | (with_reducible refine LeO.bind ?_ (fun _ => ?_))
theorem laws_markIntSS.mono : ∀ a0 a1 k, LeO (laws_markIntSS.f k a0 a1) (laws_markIntSS.f (k + 1) a0 a1) := fun _ _ k => laws_markIntSS.mono_l k _ _ _
/-- A row of a row of rows is lent, and comes back with other numbers. -/
theorem laws_markIntSS.lend {e base g n cap : Nat} {ok : Nat → Prop} {w : World} {xs : List (List Int)} (h : Kd.S (Kd.slice 3 (Kd.int .i64)) e w base ok (.slice (some ⟨g, 0, none⟩) n cap) xs) (i : Int) (h0 : 0 ≤ i) (h1 : i < n) :
    ∃ (oki : Nat → Prop) (u : Value), Kd.R (Kd.int .i64) 3 w base oki u (rd_L1 xs i) ∧ w.cell? ⟨g, i.toNat, none⟩ = some u ∧ (∀ k, oki k → ok k) ∧
      ∀ (w2 : World) (S2 : Nat → Prop) (r2 : List Int) (ok2 : Nat → Prop), Kept w w2 S2 → (∀ k, S2 k → oki k) → Kd.R (Kd.int .i64) 3 w2 base ok2 u r2 → Kd.S (Kd.slice 3 (Kd.int .i64)) e w2 base ok (.slice (some ⟨g, 0, none⟩) n cap) (xs.set i.toNat r2) := by
  obtain ⟨oki, c, hcl, hM, hcc, _, hoki, hH⟩ := Kd.S_elem h ([] : List Int) i h0 h1
  obtain ⟨u, rfl, hR⟩ := hM
  refine ⟨oki, u, hR, by simpa [Kd.slice] using hcc 0 u rfl, fun k hk => (hoki k hk).1, fun w2 S2 r2 ok2 hk hs hR2 => ?_⟩
  exact Kd.H_back (Kd.H_kept hH hk (fun k _ hn h2 => hn (hs k h2))) ⟨u, rfl, Kd.R_tight rfl hR2⟩ (fun k hk => hR.1 k hk.symm)
set_option maxHeartbeats 8000000 in
set_option maxRecDepth 100000 in
theorem laws_markIntSS.calls (k : Nat) (P : Nat → Prop) (v : Value) (l0 : List (List Int)) (a1 : Int) (r1 : Int) (r2 : List (List Int)) (w0 w : World) (hB : Below w0.heap.size w0 w) (ho : Kd.S (Kd.slice 3 (Kd.int .i64)) 24 w w0.heap.size P v l0) (h : laws_markIntSS.f k l0 a1 = some (r1, r2)) :
    Calls Try.prog 134 #[v, .int .i64 a1] w fun e w' => e = .returned (.int .i64 r1) ∧ Kd.S (Kd.slice 3 (Kd.int .i64)) 24 w' w0.heap.size P v r2 ∧ Below w0.heap.size w0 w' ∧ Kept w w' P := by
  have HO := Aside0.mk ho
  have HB := Aside0.mk hB
  have H' := Aside0.mk (show laws_markIntSS.l0 k l0 a1 0 = some (r1, r2) from h)
  clear ho hB h
  go_enter Try.func134, Try.ntmps134
  go_wp2
  go_loopg [1, 5] k (fun kq v1 v5 w' => ∃ (x0 : List (List Int)) (x1 x5 : Int), v1 = .int .i64 x1 ∧ v5 = .int .i64 x5 ∧ Aside0 (laws_markIntSS.l0 kq x0 x1 x5 = some (r1, r2)) ∧ Aside0 (kq ≤ k) ∧ Aside0 (Kd.S (Kd.slice 3 (Kd.int .i64)) 24 w' w0.heap.size P v x0) ∧ Aside0 (Below w0.heap.size w0 w') ∧ Aside0 (Kept w w' P))
  case atStart => exact ⟨l0, a1, 0, rfl, rfl, H', ⟨Nat.le_refl _⟩, HO, HB, ⟨Kept.refl _ _⟩⟩
  case round =>
    clear H' HO HB
    obtain ⟨x0, x1, x5, rfl, rfl, HA, HK1, HO, HB, HK⟩ := hrel
    cases gk with
    | zero => exact absurd HA.out (by simp [laws_markIntSS.l0])
    | succ k1 =>
      have H := HA.out
      clear HA
      simp only [laws_markIntSS.l0] at H
      by_cases c3 : x5 < (x0.length : Int)
      · rw [if_pos c3] at H
        by_cases c4 : 0 ≤ x5
        · rw [if_pos c4] at H
          replace H := Option.bind_eq_some_iff.mp H
          obtain ⟨⟨b1, b2⟩, A, H⟩ := H
          have H' := Aside0.mk H
          have A' := Aside0.mk A
          clear H A
          obtain ⟨g, cap, rfl, hg1, hg2, hg3⟩ := Kd.S_form HO.out (by omega)
          clear hg1 hg2 hg3
          obtain ⟨oki, u, hR, hc, hoki, hback⟩ := laws_markIntSS.lend HO.out x5 c4 c3
          have HR := Aside0.mk (Kd.R_tight rfl hR)
          have HI := Aside0.mk (fun k hk => hR.1 k hk)
          have HP := Aside0.mk hoki
          have HBK := Aside0.mk hback
          clear hR hoki hback
          have c3b0 : decide (x5 < (x0.length : Int)) = true := decide_eq_true c3
          have p5 := eq_true c4
          have q5 := eq_true c3
          clear c3 c4
          go_wp2_with (go_at_call 76; refine (laws_markIntS.calls k1 _ u _ x1 b1 b2 w0 _ HB.out HR.out A'.out).mono ?_; rintro e w' ⟨rfl, hr, hb, hk⟩; have HR2 := Aside0.mk hr; have HB2 := Aside0.mk hb; have HK2 := Aside0.mk hk; clear hr hb hk)
          go_roundg k1
          case measure => have := HK1.out; omega
          case rel => exact ⟨x0.set x5.toNat b2, b1, wrap64 (x5 + 1), rfl, by first | rfl | (simp; done) | (simp [*]; done), H', ⟨by have := HK1.out; omega⟩, ⟨HBK.out _ _ _ _ HK2.out (fun k hk => HI.out k hk.symm) HR2.out⟩, HB2, ⟨HK.out.then_ HK2.out (fun k hk => .inl (HP.out k (HI.out k hk.symm)))⟩⟩
        · rw [if_neg c4] at H
          exact absurd H (by simp)
      · rw [if_neg c3] at H
        have c3b0 : decide (x5 < (x0.length : Int)) = false := decide_eq_false c3
        clear c3
        simp only [Option.some.injEq, Prod.mk.injEq] at H
        obtain ⟨rfl, rfl⟩ := H
        obtain ⟨A9, c9, rfl⟩ := Kd.S_slice HO.out
        go_wp2
        go_ret
        exact ⟨rfl, HO.out, HB.out, HK.out⟩

/-! ### laws_markGame -/
/-- A game's rows are the call's own, among the blocks of P, and apart. -/
def GameOwn (w : World) (base : Nat) (P : Nat → Prop) (u4 : Value) (l4 : List Int) (u5 : Value) (l5 : List Int) (u8 : Value) (l8 : List (List Int)) (u9 : Value) (l9 : List Int) (u10 : Value) (l10 : List Int) : Prop :=
  Kd.R (Kd.int .i64) 3 w base (fun k => P k ∧ some k ≠ u5.ownBlock ∧ some k ≠ u9.ownBlock ∧ some k ≠ u10.ownBlock) u4 l4 ∧
  Kd.R (Kd.int .i64) 3 w base (fun k => P k ∧ some k ≠ u4.ownBlock ∧ some k ≠ u9.ownBlock ∧ some k ≠ u10.ownBlock) u5 l5 ∧
  Kd.S (Kd.slice 3 (Kd.int .i64)) 24 w base (fun k => P k ∧ some k ≠ u4.ownBlock ∧ some k ≠ u5.ownBlock ∧ some k ≠ u9.ownBlock ∧ some k ≠ u10.ownBlock) u8 l8 ∧
  Kd.R (Kd.int .i64) 3 w base (fun k => P k ∧ some k ≠ u4.ownBlock ∧ some k ≠ u5.ownBlock ∧ some k ≠ u10.ownBlock) u9 l9 ∧
  Kd.R (Kd.int .i64) 3 w base (fun k => P k ∧ some k ≠ u4.ownBlock ∧ some k ≠ u5.ownBlock ∧ some k ≠ u9.ownBlock) u10 l10
theorem GameOwn.below {w w1 : World} {base : Nat} {P : Nat → Prop} {u4 u5 u8 u9 u10 : Value} {l4 l5 l9 l10 : List Int} {l8 : List (List Int)} (h : GameOwn w base P u4 l4 u5 l5 u8 l8 u9 l9 u10 l10) (hb : Below w.heap.size w w1) : GameOwn w1 base P u4 l4 u5 l5 u8 l8 u9 l9 u10 l10 :=
  ⟨Kd.R_below h.1 hb, Kd.R_below h.2.1 hb, Kd.S_below h.2.2.1 hb, Kd.R_below h.2.2.2.1 hb, Kd.R_below h.2.2.2.2 hb⟩
/-- A block that is made ahead of a call that keeps it. -/
theorem cells_kept {w w1 : World} {g : Nat} {cs : Array Value} {t : TypeId} {S : Nat → Prop} (h : w.heap[g]? = some (.cells cs t (0, 0))) (hk : Kept w w1 S) (hS : ¬ S g) : ∀ i, w1.cell? ⟨g, i, none⟩ = cs[i]? := fun i => blk_cell (blk_kept h hk hS) i
def laws_markGame.f (k : Nat) (a0_0 : Int) (a0_1 : Int) (a0_2 : Bool) (a0_3 : Bool) (l0_4 : List Int) (l0_5 : List Int) (a0_6 : Int) (a0_7 : Int) (l0_8 : List (List Int)) (l0_9 : List Int) (l0_10 : List Int) (a1 : Int) : Option Int :=
  (laws_markRules.f k a0_0 a0_1 a0_2 a0_3 l0_4 l0_5 a0_6 a0_7 a1).bind fun b => (laws_markIntSS.f k l0_8 b.1).bind fun c => (laws_markIntS.f k l0_9 c.1).bind fun d => (laws_markIntS.f k l0_10 d.1).bind fun e => some e.1
set_option maxHeartbeats 8000000 in
set_option maxRecDepth 100000 in
theorem laws_markGame.calls (k : Nat) (P : Nat → Prop) (a0_0 : Int) (a0_1 : Int) (a0_2 : Bool) (a0_3 : Bool) (u4 : Value) (l4 : List Int) (u5 : Value) (l5 : List Int) (a0_6 : Int) (a0_7 : Int) (u8 : Value) (l8 : List (List Int)) (u9 : Value) (l9 : List Int) (u10 : Value) (l10 : List Int) (a0_11 : Int) (a0_12 : Int) (a0_13 : Int) (a1 r : Int) (w0 w : World) (hB : Below w0.heap.size w0 w)
    (ho : GameOwn w w0.heap.size P u4 l4 u5 l5 u8 l8 u9 l9 u10 l10) (h : laws_markGame.f k a0_0 a0_1 a0_2 a0_3 l4 l5 a0_6 a0_7 l8 l9 l10 a1 = some r) :
    Calls Try.prog 75 #[.agg #[.int .i64 a0_0, .int .i64 a0_1, .bool a0_2, .bool a0_3, u4, u5, .int .i64 a0_6, .int .i64 a0_7, u8, u9, u10, .int .i64 a0_11, .int .i64 a0_12, .int .i64 a0_13], .int .i64 a1] w fun e w' => e = .returned (.int .i64 r) ∧ Below w0.heap.size w0 w' ∧ Kept w w' P := by
  replace h := Option.bind_eq_some_iff.mp h
  obtain ⟨⟨b, b4, b5⟩, e1, h⟩ := h
  replace h := Option.bind_eq_some_iff.mp h
  obtain ⟨⟨c, c8⟩, e2, h⟩ := h
  replace h := Option.bind_eq_some_iff.mp h
  obtain ⟨⟨d, d9⟩, e3, h⟩ := h
  replace h := Option.bind_eq_some_iff.mp h
  obtain ⟨⟨e, e10⟩, e4, h⟩ := h
  obtain rfl := Option.some.inj h
  have E1 := Aside0.mk e1
  have E2 := Aside0.mk e2
  have E3 := Aside0.mk e3
  have E4 := Aside0.mk e4
  clear e1 e2 e3 e4 h
  obtain ⟨h4, h5, h8, h9, h10⟩ := ho
  obtain ⟨A4, c4, rfl⟩ := Kd.R_slice h4
  obtain ⟨A5, c5, rfl⟩ := Kd.R_slice h5
  obtain ⟨A8, c8', rfl⟩ := Kd.S_slice h8
  obtain ⟨A9, c9, rfl⟩ := Kd.R_slice h9
  obtain ⟨A10, c10, rfl⟩ := Kd.R_slice h10
  have H4 := Aside0.mk (Kd.R_alloc h4 (.cells #[.int .i64 a0_0, .int .i64 a0_1, .bool a0_2, .bool a0_3, .slice A4 l4.length c4, .slice A5 l5.length c5, .int .i64 a0_6, .int .i64 a0_7, .slice A8 l8.length c8', .slice A9 l9.length c9, .slice A10 l10.length c10, .int .i64 a0_11, .int .i64 a0_12, .int .i64 a0_13] 59))
  have H5 := Aside0.mk (Kd.R_alloc h5 (.cells #[.int .i64 a0_0, .int .i64 a0_1, .bool a0_2, .bool a0_3, .slice A4 l4.length c4, .slice A5 l5.length c5, .int .i64 a0_6, .int .i64 a0_7, .slice A8 l8.length c8', .slice A9 l9.length c9, .slice A10 l10.length c10, .int .i64 a0_11, .int .i64 a0_12, .int .i64 a0_13] 59))
  have L4 := Aside0.mk (Kd.R_lt h4)
  have L5 := Aside0.mk (Kd.R_lt h5)
  have HP4 := Aside0.mk (fun k e => (h4.1 k e).1)
  have HP5 := Aside0.mk (fun k e => (h5.1 k e).1)
  have HP9 := Aside0.mk (fun k e => (h9.1 k e).1)
  have HP10 := Aside0.mk (fun k e => (h10.1 k e).1)
  have L9 := Aside0.mk (Kd.R_lt h9)
  have L10 := Aside0.mk (Kd.R_lt h10)
  have H8 := Aside0.mk (Kd.S_bound h8)
  have H9 := Aside0.mk h9
  have H10 := Aside0.mk h10
  have HB := Aside0.mk hB
  clear h4 h5 h8 h9 h10 hB
  go_enter Try.func75, Try.ntmps75
  go_wp2_with (fail)
  refine (laws_markRules.calls k a0_0 a0_1 a0_2 a0_3 _ _ l4 _ _ l5 a0_6 a0_7 a1 b b4 b5 w0 _ (below_alloc HB.out _) (Kd.R_tight rfl H4.out) (fun k e h => (H4.out.1 k e.symm).2.1 h) (Kd.R_tight rfl H5.out) (fun k e h => (H5.out.1 k e.symm).2.1 h) E1.out).mono ?_
  rintro e w1 ⟨rfl, h4, h5, hb1, hk1⟩
  have HB1 := Aside0.mk hb1
  have HK1 := Aside0.mk hk1
  have hg : ¬ (some w.heap.size = (Value.slice A4 l4.length c4).ownBlock ∨ some w.heap.size = (Value.slice A5 l5.length c5).ownBlock) := fun h => h.elim (fun e => Nat.lt_irrefl _ (L4.out _ e.symm)) (fun e => Nat.lt_irrefl _ (L5.out _ e.symm))
  have HG1 := Aside0.mk hg
  have hc1 := cells_kept (blk_new w _) hk1 hg
  clear h4 h5 hb1 hk1 hg
  have H8' := Aside0.mk (Kd.S_kept (Kd.S_alloc H8.out _) HK1.out (fun k h e => e.elim h.1.2.1 h.1.2.2.1))
  have H9' := Aside0.mk (Kd.R_kept (Kd.R_alloc H9.out _) HK1.out (fun k h e => e.elim h.2.1 h.2.2.1))
  have H10' := Aside0.mk (Kd.R_kept (Kd.R_alloc H10.out _) HK1.out (fun k h e => e.elim h.2.1 h.2.2.1))
  clear H8 H9 H10 H4 H5
  have LT : Aside0 (w.heap.size < w1.heap.size) := ⟨by have := HK1.out.1; simp at this; omega⟩
  go_wp2_with (fail)
  refine (laws_markIntSS.calls k _ _ l8 b c c8 w0 _ HB1.out H8'.out E2.out).mono ?_
  rintro e w2 ⟨rfl, h8, hb2, hk2⟩
  have HB2 := Aside0.mk hb2
  have HK2 := Aside0.mk hk2
  have hc2 := cells_kept (blk_kept (blk_new w (.cells #[.int .i64 a0_0, .int .i64 a0_1, .bool a0_2, .bool a0_3, .slice A4 l4.length c4, .slice A5 l5.length c5, .int .i64 a0_6, .int .i64 a0_7, .slice A8 l8.length c8', .slice A9 l9.length c9, .slice A10 l10.length c10, .int .i64 a0_11, .int .i64 a0_12, .int .i64 a0_13] 59)) HK1.out HG1.out) hk2 (fun h => Nat.lt_irrefl _ h.2.2.1)
  have HC2 := Aside0.mk hc2
  have H9 := Aside0.mk (Kd.R_tight rfl (Kd.R_kept (Kd.R_tight rfl H9'.out) hk2 (fun k h e => e.1.2.2.2.1 h)))
  have H10 := Aside0.mk (Kd.R_kept (Kd.R_tight rfl H10'.out) hk2 (fun k h e => e.1.2.2.2.2 h))
  clear h8 hb2 hk2 H8' hc1
  go_wp2_with (fail)
  refine (laws_markIntS.calls k _ _ l9 c d d9 w0 _ HB2.out H9.out E3.out).mono ?_
  rintro e w3 ⟨rfl, h9, hb3, hk3⟩
  have HB3 := Aside0.mk hb3
  have HK3 := Aside0.mk hk3
  have hc3 : ∀ i, w3.cell? ⟨w.heap.size, i, none⟩ = _ := cells_kept (blk_kept (blk_kept (blk_new w (.cells #[.int .i64 a0_0, .int .i64 a0_1, .bool a0_2, .bool a0_3, .slice A4 l4.length c4, .slice A5 l5.length c5, .int .i64 a0_6, .int .i64 a0_7, .slice A8 l8.length c8', .slice A9 l9.length c9, .slice A10 l10.length c10, .int .i64 a0_11, .int .i64 a0_12, .int .i64 a0_13] 59)) HK1.out HG1.out) HK2.out (fun h => Nat.lt_irrefl _ h.2.2.1)) hk3 (fun h => Nat.lt_irrefl _ (L9.out _ h.symm))
  have H10 := Aside0.mk (Kd.R_kept (Kd.R_tight rfl H10.out) hk3 (fun k h e => (H10'.out.1 k h.symm).2.2.2 (by rw [e])))
  clear h9 hb3 hk3 hc2
  go_wp2_with (fail)
  refine (laws_markIntS.calls k _ _ l10 d e e10 w0 _ HB3.out H10.out E4.out).mono ?_
  rintro e w4 ⟨rfl, h10, hb4, hk4⟩
  have HB4 := Aside0.mk hb4
  have HK4 := Aside0.mk hk4
  clear h10 hb4 hk4 hc3
  go_wp2
  go_ret
  exact ⟨rfl, HB4.out, ((((Kept.refl w P).alloc _).then_ HK1.out (fun k h => .inl (h.elim (fun h => (HP4.out k h.symm)) (fun h => HP5.out k h.symm)))).then_ HK2.out (fun k h => .inl h.1.1) |>.then_ HK3.out (fun k h => .inl (HP9.out k h.symm)) |>.then_ HK4.out (fun k h => .inl (HP10.out k h.symm)))⟩

/-! ### a game, bundled -/
structure GD where
  f0 : Int
  f1 : Int
  f2 : Bool
  f3 : Bool
  f4 : List Int
  f5 : List Int
  f6 : Int
  f7 : Int
  f8 : List (List Int)
  f9 : List Int
  f10 : List Int
  f11 : Int
  f12 : Int
  f13 : Int
structure GV where
  A4 : Option Addr
  c4 : Nat
  A5 : Option Addr
  c5 : Nat
  A8 : Option Addr
  c8 : Nat
  A9 : Option Addr
  c9 : Nat
  A10 : Option Addr
  c10 : Nat
abbrev GD.cs (d : GD) (v : GV) : Array Value := #[.int .i64 d.f0, .int .i64 d.f1, .bool d.f2, .bool d.f3, .slice v.A4 d.f4.length v.c4, .slice v.A5 d.f5.length v.c5, .int .i64 d.f6, .int .i64 d.f7, .slice v.A8 d.f8.length v.c8, .slice v.A9 d.f9.length v.c9, .slice v.A10 d.f10.length v.c10, .int .i64 d.f11, .int .i64 d.f12, .int .i64 d.f13]
abbrev GD.agg (d : GD) (v : GV) : Value := .agg (d.cs v)
def GRd (w : World) (d : GD) (v : GV) : Prop := (Kd.C (Kd.int .i64) w v.A4 d.f4.length d.f4 ∧ d.f4.length ≤ v.c4) ∧ (Kd.C (Kd.int .i64) w v.A5 d.f5.length d.f5 ∧ d.f5.length ≤ v.c5) ∧ (Kd.C (Kd.slice 3 (Kd.int .i64)) w v.A8 d.f8.length d.f8 ∧ d.f8.length ≤ v.c8) ∧ (Kd.C (Kd.int .i64) w v.A9 d.f9.length d.f9 ∧ d.f9.length ≤ v.c9) ∧ (Kd.C (Kd.int .i64) w v.A10 d.f10.length d.f10 ∧ d.f10.length ≤ v.c10)
theorem GRd.below {w w1 : World} {d : GD} {v : GV} (h : GRd w d v) (hb : Below w.heap.size w w1) : GRd w1 d v := ⟨⟨Kd.C_below h.1.1 hb, h.1.2⟩, ⟨Kd.C_below h.2.1.1 hb, h.2.1.2⟩, ⟨Kd.C_below h.2.2.1.1 hb, h.2.2.1.2⟩, ⟨Kd.C_below h.2.2.2.1.1 hb, h.2.2.2.1.2⟩, ⟨Kd.C_below h.2.2.2.2.1 hb, h.2.2.2.2.2⟩⟩
def GOwn (w : World) (base : Nat) (P : Nat → Prop) (d : GD) (v : GV) : Prop := Kd.R (Kd.int .i64) 3 w base (fun k => P k ∧ some k ≠ (.slice v.A5 d.f5.length v.c5 : Value).ownBlock ∧ some k ≠ (.slice v.A9 d.f9.length v.c9 : Value).ownBlock ∧ some k ≠ (.slice v.A10 d.f10.length v.c10 : Value).ownBlock) (.slice v.A4 d.f4.length v.c4) d.f4 ∧ Kd.R (Kd.int .i64) 3 w base (fun k => P k ∧ some k ≠ (.slice v.A4 d.f4.length v.c4 : Value).ownBlock ∧ some k ≠ (.slice v.A9 d.f9.length v.c9 : Value).ownBlock ∧ some k ≠ (.slice v.A10 d.f10.length v.c10 : Value).ownBlock) (.slice v.A5 d.f5.length v.c5) d.f5 ∧ Kd.S (Kd.slice 3 (Kd.int .i64)) 24 w base (fun k => P k ∧ some k ≠ (.slice v.A4 d.f4.length v.c4 : Value).ownBlock ∧ some k ≠ (.slice v.A5 d.f5.length v.c5 : Value).ownBlock ∧ some k ≠ (.slice v.A9 d.f9.length v.c9 : Value).ownBlock ∧ some k ≠ (.slice v.A10 d.f10.length v.c10 : Value).ownBlock) (.slice v.A8 d.f8.length v.c8) d.f8 ∧ Kd.R (Kd.int .i64) 3 w base (fun k => P k ∧ some k ≠ (.slice v.A4 d.f4.length v.c4 : Value).ownBlock ∧ some k ≠ (.slice v.A5 d.f5.length v.c5 : Value).ownBlock ∧ some k ≠ (.slice v.A10 d.f10.length v.c10 : Value).ownBlock) (.slice v.A9 d.f9.length v.c9) d.f9 ∧ Kd.R (Kd.int .i64) 3 w base (fun k => P k ∧ some k ≠ (.slice v.A4 d.f4.length v.c4 : Value).ownBlock ∧ some k ≠ (.slice v.A5 d.f5.length v.c5 : Value).ownBlock ∧ some k ≠ (.slice v.A9 d.f9.length v.c9 : Value).ownBlock) (.slice v.A10 d.f10.length v.c10) d.f10
theorem GOwn.below {w w1 : World} {base : Nat} {P : Nat → Prop} {d : GD} {v : GV} (h : GOwn w base P d v) (hb : Below w.heap.size w w1) : GOwn w1 base P d v := ⟨Kd.R_below h.1 hb, Kd.R_below h.2.1 hb, Kd.S_below h.2.2.1 hb, Kd.R_below h.2.2.2.1 hb, Kd.R_below h.2.2.2.2 hb⟩
theorem GOwn.kept {w w1 : World} {base : Nat} {P S : Nat → Prop} {d : GD} {v : GV} (h : GOwn w base P d v) (hk : Kept w w1 S) (hs : ∀ k, P k → ¬ S k) : GOwn w1 base P d v := ⟨Kd.R_kept h.1 hk (fun k h => hs k h.1), Kd.R_kept h.2.1 hk (fun k h => hs k h.1), Kd.S_kept h.2.2.1 hk (fun k h => hs k h.1), Kd.R_kept h.2.2.2.1 hk (fun k h => hs k h.1), Kd.R_kept h.2.2.2.2 hk (fun k h => hs k h.1)⟩
theorem GOwn.lower {w : World} {base b : Nat} {P : Nat → Prop} {d : GD} {v : GV} (h : GOwn w base P d v) (hb : b ≤ base) : GOwn w b P d v := ⟨Kd.R_lower h.1 hb, Kd.R_lower h.2.1 hb, Kd.S_lower h.2.2.1 hb, Kd.R_lower h.2.2.2.1 hb, Kd.R_lower h.2.2.2.2 hb⟩
theorem GOwn.rd {w : World} {base : Nat} {P : Nat → Prop} {d : GD} {v : GV} (h : GOwn w base P d v) : GRd w d v := ⟨⟨(Kd.R_reads' h.1).2.2, (Kd.R_reads' h.1).2.1⟩, ⟨(Kd.R_reads' h.2.1).2.2, (Kd.R_reads' h.2.1).2.1⟩, ⟨(Kd.S_reads' h.2.2.1).2.2, (Kd.S_reads' h.2.2.1).2.1⟩, ⟨(Kd.R_reads' h.2.2.2.1).2.2, (Kd.R_reads' h.2.2.2.1).2.1⟩, ⟨(Kd.R_reads' h.2.2.2.2).2.2, (Kd.R_reads' h.2.2.2.2).2.1⟩⟩
theorem toGame_c (k : Nat) (d : GD) (v : GV) (e : GD) (w : World) (hr : GRd w d v) (h : laws_toGame.f k d.f0 d.f1 d.f2 d.f3 d.f4 d.f5 d.f6 d.f7 d.f8 d.f9 d.f10 d.f11 d.f12 d.f13 = some (e.f0, e.f1, e.f2, e.f3, e.f4, e.f5, e.f6, e.f7, e.f8, e.f9, e.f10, e.f11, e.f12, e.f13)) :
    Calls Try.prog 45 #[d.agg v] w fun x w' => ∃ u : GV, x = .returned (e.agg u) ∧ GOwn w' w.heap.size (fun k => w.heap.size ≤ k ∧ k < w'.heap.size) e u ∧ Below w.heap.size w w' := by
  refine (laws_toGame.calls k d.f0 d.f1 d.f2 d.f3 v.A4 v.c4 d.f4 v.A5 v.c5 d.f5 d.f6 d.f7 v.A8 v.c8 d.f8 v.A9 v.c9 d.f9 v.A10 v.c10 d.f10 d.f11 d.f12 d.f13 e.f0 e.f1 e.f2 e.f3 e.f4 e.f5 e.f6 e.f7 e.f8 e.f9 e.f10 e.f11 e.f12 e.f13 w hr.1.1 hr.1.2 hr.2.1.1 hr.2.1.2 hr.2.2.1.1 hr.2.2.1.2 hr.2.2.2.1.1 hr.2.2.2.1.2 hr.2.2.2.2.1 hr.2.2.2.2.2 h).mono ?_
  rintro x w' ⟨v4, v5, v8, v9, v10, rfl, h4, h5, h8, h9, h10, hb⟩
  obtain ⟨A4, c4, rfl⟩ := Kd.R_slice h4
  obtain ⟨A5, c5, rfl⟩ := Kd.R_slice h5
  obtain ⟨A8, c8, rfl⟩ := Kd.S_slice h8
  obtain ⟨A9, c9, rfl⟩ := Kd.R_slice h9
  obtain ⟨A10, c10, rfl⟩ := Kd.R_slice h10
  exact ⟨⟨A4, c4, A5, c5, A8, c8, A9, c9, A10, c10⟩, rfl, ⟨Kd.R_mono (Kd.R_bound h4) (fun k h => ⟨⟨h.2.1, h.2.2.1⟩, h.1⟩), Kd.R_mono (Kd.R_bound h5) (fun k h => ⟨⟨h.2.1, h.2.2.1⟩, h.1⟩), Kd.S_mono (Kd.S_bound h8) (fun k h => ⟨⟨h.2.1, h.2.2.1⟩, h.1⟩), Kd.R_mono (Kd.R_bound h9) (fun k h => ⟨⟨h.2.1, h.2.2.1⟩, h.1⟩), Kd.R_mono (Kd.R_bound h10) (fun k h => ⟨⟨h.2.1, h.2.2.1⟩, h.1⟩)⟩, hb⟩
theorem szGame_c (k : Nat) (d : GD) (v : GV) (a1 : Int) (r : Int) (w : World) (h0 : GRd w d v) (h : laws_szGame.f k d.f0 d.f1 d.f2 d.f3 d.f4 d.f5 d.f6 d.f7 d.f8 d.f9 d.f10 d.f11 d.f12 d.f13 a1 = some r) :
    Calls Try.prog 43 #[d.agg v, .int .i64 a1] w fun e w' => e = .returned (.int .i64 r) ∧ Below w.heap.size w w' :=
  laws_szGame.calls k d.f0 d.f1 d.f2 d.f3 v.A4 v.c4 d.f4 v.A5 v.c5 d.f5 d.f6 d.f7 v.A8 v.c8 d.f8 v.A9 v.c9 d.f9 v.A10 v.c10 d.f10 d.f11 d.f12 d.f13 a1 r w h0.1.1 h0.1.2 h0.2.1.1 h0.2.1.2 h0.2.2.1.1 h0.2.2.1.2 h0.2.2.2.1.1 h0.2.2.2.1.2 h0.2.2.2.2.1 h0.2.2.2.2.2 h
theorem specX_c (k : Nat) (d : GD) (v : GV) (r : List Int) (w : World) (h0 : GRd w d v) (h : spec_Playable.f k d.f0 d.f1 d.f2 d.f3 d.f4 d.f5 d.f6 d.f7 d.f8 d.f9 d.f10 d.f11 d.f12 d.f13 = some r) :
    Calls Try.prog 72 #[d.agg v] w fun e w' => ∃ v0_ : Value, e = .returned (v0_) ∧ Kd.R (Kd.int .i64) 3 w' w.heap.size (fun _ => True) v0_ r ∧ Below w.heap.size w w' :=
  spec_Playable.calls k d.f0 d.f1 d.f2 d.f3 v.A4 v.c4 d.f4 v.A5 v.c5 d.f5 d.f6 d.f7 v.A8 v.c8 d.f8 v.A9 v.c9 d.f9 v.A10 v.c10 d.f10 d.f11 d.f12 d.f13 r w h0.1.1 h0.1.2 h0.2.1.1 h0.2.1.2 h0.2.2.1.1 h0.2.2.1.2 h0.2.2.2.1.1 h0.2.2.2.1.2 h0.2.2.2.2.1 h0.2.2.2.2.2 h
theorem implX_c (k : Nat) (d : GD) (v : GV) (r : List Int) (w : World) (h0 : GRd w d v) (h : impl_Playable.f k d.f0 d.f1 d.f2 d.f3 d.f4 d.f5 d.f6 d.f7 d.f8 d.f9 d.f10 d.f11 d.f12 d.f13 = some r) :
    Calls Try.prog 73 #[d.agg v] w fun e w' => ∃ v0_ : Value, e = .returned (v0_) ∧ Kd.R (Kd.int .i64) 3 w' w.heap.size (fun _ => True) v0_ r ∧ Below w.heap.size w w' :=
  impl_Playable.calls k d.f0 d.f1 d.f2 d.f3 v.A4 v.c4 d.f4 v.A5 v.c5 d.f5 d.f6 d.f7 v.A8 v.c8 d.f8 v.A9 v.c9 d.f9 v.A10 v.c10 d.f10 d.f11 d.f12 d.f13 r w h0.1.1 h0.1.2 h0.2.1.1 h0.2.1.2 h0.2.2.1.1 h0.2.2.1.2 h0.2.2.2.1.1 h0.2.2.2.1.2 h0.2.2.2.2.1 h0.2.2.2.2.2 h
theorem eqGame_c (k : Nat) (d : GD) (v : GV) (d1 : GD) (v1 : GV) (r : Bool) (w : World) (h0 : GRd w d v) (h1 : GRd w d1 v1) (h : laws_eqGame.f k d.f0 d.f1 d.f2 d.f3 d.f4 d.f5 d.f6 d.f7 d.f8 d.f9 d.f10 d.f11 d.f12 d.f13 d1.f0 d1.f1 d1.f2 d1.f3 d1.f4 d1.f5 d1.f6 d1.f7 d1.f8 d1.f9 d1.f10 d1.f11 d1.f12 d1.f13 = some r) :
    Calls Try.prog 47 #[d.agg v, d1.agg v1] w fun e w' => e = .returned (.bool r) ∧ Below w.heap.size w w' :=
  laws_eqGame.calls k d.f0 d.f1 d.f2 d.f3 v.A4 v.c4 d.f4 v.A5 v.c5 d.f5 d.f6 d.f7 v.A8 v.c8 d.f8 v.A9 v.c9 d.f9 v.A10 v.c10 d.f10 d.f11 d.f12 d.f13 d1.f0 d1.f1 d1.f2 d1.f3 v1.A4 v1.c4 d1.f4 v1.A5 v1.c5 d1.f5 d1.f6 d1.f7 v1.A8 v1.c8 d1.f8 v1.A9 v1.c9 d1.f9 v1.A10 v1.c10 d1.f10 d1.f11 d1.f12 d1.f13 r w h0.1.1 h0.1.2 h0.2.1.1 h0.2.1.2 h0.2.2.1.1 h0.2.2.1.2 h0.2.2.2.1.1 h0.2.2.2.1.2 h0.2.2.2.2.1 h0.2.2.2.2.2 h1.1.1 h1.1.2 h1.2.1.1 h1.2.1.2 h1.2.2.1.1 h1.2.2.1.2 h1.2.2.2.1.1 h1.2.2.2.1.2 h1.2.2.2.2.1 h1.2.2.2.2.2 h
theorem markGame_c (k : Nat) (P : Nat → Prop) (d : GD) (v : GV) (a1 r : Int) (w0 w : World) (hB : Below w0.heap.size w0 w) (ho : GOwn w w0.heap.size P d v) (h : laws_markGame.f k d.f0 d.f1 d.f2 d.f3 d.f4 d.f5 d.f6 d.f7 d.f8 d.f9 d.f10 a1 = some r) :
    Calls Try.prog 75 #[d.agg v, .int .i64 a1] w fun e w' => e = .returned (.int .i64 r) ∧ Below w0.heap.size w0 w' ∧ Kept w w' P :=
  laws_markGame.calls k P d.f0 d.f1 d.f2 d.f3 (.slice v.A4 d.f4.length v.c4) d.f4 (.slice v.A5 d.f5.length v.c5) d.f5 d.f6 d.f7 (.slice v.A8 d.f8.length v.c8) d.f8 (.slice v.A9 d.f9.length v.c9) d.f9 (.slice v.A10 d.f10.length v.c10) d.f10 d.f11 d.f12 d.f13 a1 r w0 w hB ho h

/-! ### the law -/
def laws_FnExactPlayable.f (k : Nat) (a0_0 : Int) (a0_1 : Int) (a0_2 : Bool) (a0_3 : Bool) (l0_4 : List Int) (l0_5 : List Int) (a0_6 : Int) (a0_7 : Int) (l0_8 : List (List Int)) (l0_9 : List Int) (l0_10 : List Int) (a0_11 : Int) (a0_12 : Int) (a0_13 : Int) : Option Bool :=
  (laws_szGame.f k a0_0 a0_1 a0_2 a0_3 l0_4 l0_5 a0_6 a0_7 l0_8 l0_9 l0_10 a0_11 a0_12 a0_13 1048576).bind fun L => if L < 0 then some true else (laws_toGame.f k a0_0 a0_1 a0_2 a0_3 l0_4 l0_5 a0_6 a0_7 l0_8 l0_9 l0_10 a0_11 a0_12 a0_13).bind fun e => (spec_Playable.f k e.1 e.2.1 e.2.2.1 e.2.2.2.1 e.2.2.2.2.1 e.2.2.2.2.2.1 e.2.2.2.2.2.2.1 e.2.2.2.2.2.2.2.1 e.2.2.2.2.2.2.2.2.1 e.2.2.2.2.2.2.2.2.2.1 e.2.2.2.2.2.2.2.2.2.2.1 e.2.2.2.2.2.2.2.2.2.2.2.1 e.2.2.2.2.2.2.2.2.2.2.2.2.1 e.2.2.2.2.2.2.2.2.2.2.2.2.2).bind fun t => (impl_Playable.f k e.1 e.2.1 e.2.2.1 e.2.2.2.1 e.2.2.2.2.1 e.2.2.2.2.2.1 e.2.2.2.2.2.2.1 e.2.2.2.2.2.2.2.1 e.2.2.2.2.2.2.2.2.1 e.2.2.2.2.2.2.2.2.2.1 e.2.2.2.2.2.2.2.2.2.2.1 e.2.2.2.2.2.2.2.2.2.2.2.1 e.2.2.2.2.2.2.2.2.2.2.2.2.1 e.2.2.2.2.2.2.2.2.2.2.2.2.2).bind fun g => (laws_eqIntS.f k g t).bind fun c1 => (laws_eqGame.f k e.1 e.2.1 e.2.2.1 e.2.2.2.1 e.2.2.2.2.1 e.2.2.2.2.2.1 e.2.2.2.2.2.2.1 e.2.2.2.2.2.2.2.1 e.2.2.2.2.2.2.2.2.1 e.2.2.2.2.2.2.2.2.2.1 e.2.2.2.2.2.2.2.2.2.2.1 e.2.2.2.2.2.2.2.2.2.2.2.1 e.2.2.2.2.2.2.2.2.2.2.2.2.1 e.2.2.2.2.2.2.2.2.2.2.2.2.2 e.1 e.2.1 e.2.2.1 e.2.2.2.1 e.2.2.2.2.1 e.2.2.2.2.2.1 e.2.2.2.2.2.2.1 e.2.2.2.2.2.2.2.1 e.2.2.2.2.2.2.2.2.1 e.2.2.2.2.2.2.2.2.2.1 e.2.2.2.2.2.2.2.2.2.2.1 e.2.2.2.2.2.2.2.2.2.2.2.1 e.2.2.2.2.2.2.2.2.2.2.2.2.1 e.2.2.2.2.2.2.2.2.2.2.2.2.2).bind fun c2 => (laws_markGame.f k e.1 e.2.1 e.2.2.1 e.2.2.2.1 e.2.2.2.2.1 e.2.2.2.2.2.1 e.2.2.2.2.2.2.1 e.2.2.2.2.2.2.2.1 e.2.2.2.2.2.2.2.2.1 e.2.2.2.2.2.2.2.2.2.1 e.2.2.2.2.2.2.2.2.2.2.1 1).bind fun m => (laws_markIntS.f k g 1).bind fun n => (laws_heldIntS.f k n.2 1).bind fun q =>
    if c1 = true ∧ c2 = true ∧ 0 ≤ m ∧ 0 ≤ n.1 ∧ q = n.1 then some true else none
set_option maxHeartbeats 8000000 in
set_option maxRecDepth 100000 in
theorem laws_FnExactPlayable.small (k : Nat) (d : GD) (v : GV) (L : Int) (w : World) (hr : GRd w d v) (E0 : Aside0 (laws_szGame.f k d.f0 d.f1 d.f2 d.f3 d.f4 d.f5 d.f6 d.f7 d.f8 d.f9 d.f10 d.f11 d.f12 d.f13 1048576 = some L)) (hL : L < 0) :
    Calls Try.prog 14 #[d.agg v] w fun x w' => x = .returned (.bool true) ∧ Below w.heap.size w w' := by
  have R0 := Aside0.mk (hr.below (below_alloc (Below.refl _ _) (.cells (d.cs v) 55)))
  have hL0 : decide (L < 0) = true := decide_eq_true hL
  clear hr hL
  dsimp only [GD.agg, GD.cs] at R0 ⊢
  go_enter Try.func14, Try.ntmps14
  go_wp2_with (fail)
  refine (szGame_c k d v 1048576 L _ R0.out E0.out).mono ?_
  rintro x w1 ⟨rfl, hb1⟩
  go_wp2
  go_ret
  exact ⟨rfl, below_then ((Below.refl w.heap.size w).alloc (Nat.le_refl _) _) (by simp) hb1⟩
set_option maxHeartbeats 8000000 in
set_option maxRecDepth 100000 in
theorem laws_FnExactPlayable.walk (k : Nat) (d e : GD) (v : GV) (L m n1 : Int) (t g n2 : List Int) (w : World) (hr : GRd w d v) (E0 : Aside0 (laws_szGame.f k d.f0 d.f1 d.f2 d.f3 d.f4 d.f5 d.f6 d.f7 d.f8 d.f9 d.f10 d.f11 d.f12 d.f13 1048576 = some L)) (hL : ¬ L < 0) (E1 : Aside0 (laws_toGame.f k d.f0 d.f1 d.f2 d.f3 d.f4 d.f5 d.f6 d.f7 d.f8 d.f9 d.f10 d.f11 d.f12 d.f13 = some (e.f0, e.f1, e.f2, e.f3, e.f4, e.f5, e.f6, e.f7, e.f8, e.f9, e.f10, e.f11, e.f12, e.f13))) (E2 : Aside0 (spec_Playable.f k e.f0 e.f1 e.f2 e.f3 e.f4 e.f5 e.f6 e.f7 e.f8 e.f9 e.f10 e.f11 e.f12 e.f13 = some t)) (E3 : Aside0 (impl_Playable.f k e.f0 e.f1 e.f2 e.f3 e.f4 e.f5 e.f6 e.f7 e.f8 e.f9 e.f10 e.f11 e.f12 e.f13 = some g))
    (E4 : Aside0 (laws_eqIntS.f k g t = some true)) (E5 : Aside0 (laws_eqGame.f k e.f0 e.f1 e.f2 e.f3 e.f4 e.f5 e.f6 e.f7 e.f8 e.f9 e.f10 e.f11 e.f12 e.f13 e.f0 e.f1 e.f2 e.f3 e.f4 e.f5 e.f6 e.f7 e.f8 e.f9 e.f10 e.f11 e.f12 e.f13 = some true)) (E6 : Aside0 (laws_markGame.f k e.f0 e.f1 e.f2 e.f3 e.f4 e.f5 e.f6 e.f7 e.f8 e.f9 e.f10 1 = some m)) (hm : 0 ≤ m) (E7 : Aside0 (laws_markIntS.f k g 1 = some (n1, n2))) (E8 : Aside0 (laws_heldIntS.f k n2 1 = some n1)) (hn : 0 ≤ n1) :
    Calls Try.prog 14 #[d.agg v] w fun x w' => x = .returned (.bool true) ∧ Below w.heap.size w w' := by
  have R0 := Aside0.mk (hr.below (below_alloc (Below.refl _ _) (.cells (d.cs v) 55)))
  have hL0 : decide (L < 0) = false := decide_eq_false hL
  have hm0 : decide (m < 0) = false := decide_eq_false (by omega)
  have hn0 : decide (n1 < 0) = false := decide_eq_false (by omega)
  have RW := Aside0.mk hr
  have B0 := Aside0.mk (blk_new w (.cells (d.cs v) 55))
  have HB0 : Aside0 (Below w.heap.size w (w.alloc (.cells (d.cs v) 55))) := ⟨(Below.refl w.heap.size w).alloc (Nat.le_refl _) _⟩
  clear hr hL hm hn
  dsimp only [GD.agg, GD.cs] at R0 B0 HB0 ⊢
  go_enter Try.func14, Try.ntmps14
  go_wp2_with (fail)
  refine (szGame_c k d v 1048576 L _ R0.out E0.out).mono ?_
  rintro x w1 ⟨rfl, hb1⟩
  have B1 := Aside0.mk (blk_below B0.out hb1)
  have HB1 := Aside0.mk (below_step HB0.out hb1)
  have hc1 := fun i => blk_cell B1.out i
  clear hb1 R0 B0 HB0
  go_wp2_with (fail)
  refine (toGame_c k d v e _ (RW.out.below HB1.out) E1.out).mono ?_
  rintro x w2 ⟨u1, rfl, o1, hb2⟩
  have O1 := Aside0.mk o1.rd
  have B2 := Aside0.mk (blk_below B1.out hb2)
  have HB2 := Aside0.mk (below_step HB1.out hb2)
  clear hb2 B1 HB1 hc1 o1
  go_wp2_with (fail)
  refine (specX_c k e u1 t _ O1.out E2.out).mono ?_
  rintro x w3 ⟨vt, rfl, ht, hb3⟩
  obtain ⟨At, ct, rfl⟩ := Kd.R_slice ht
  have T3 := Aside0.mk (Kd.R_mono (Kd.R_bound ht) (fun k h => (h.2.2.1 : k < w3.heap.size)))
  have B3 := Aside0.mk (blk_below B2.out hb3)
  have HB3 := Aside0.mk (below_step HB2.out hb3)
  have hc3 := fun i => blk_cell B3.out i
  have LW3 := Aside0.mk (blk_lt B3.out)
  clear ht hb3 O1 B2 HB2
  go_wp2_with (fail)
  refine (toGame_c k d v e _ (RW.out.below HB3.out) E1.out).mono ?_
  rintro x w4 ⟨u, rfl, o4, hb4⟩
  have HA4 : Aside0 (Below w4.heap.size w4 (w4.alloc (.cells (e.cs u) 59))) := ⟨(Below.refl _ _).alloc (Nat.le_refl _) _⟩
  have O4 := Aside0.mk (o4.below HA4.out)
  have T4 := Aside0.mk (Kd.R_below (Kd.R_below T3.out hb4) HA4.out)
  have B4 := Aside0.mk (blk_below (blk_below B3.out hb4) HA4.out)
  have C4 := Aside0.mk (blk_new w4 (.cells (e.cs u) 59))
  have HB4 := Aside0.mk (below_step (below_step HB3.out hb4) HA4.out)
  have LT4 := Aside0.mk hb4.size
  have D4 := Aside0.mk (below_step hb4 HA4.out)
  clear hb4 o4 T3 B3 hc3 HA4
  dsimp only [GD.cs] at O4 T4 B4 C4 HB4 D4
  go_wp2_with (fail)
  refine (implX_c k e u g _ O4.out.rd E3.out).mono ?_
  rintro x w5 ⟨vg, rfl, hg, hb5⟩
  obtain ⟨Ag, cg, rfl⟩ := Kd.R_slice hg
  have G5 := Aside0.mk (Kd.R_mono (Kd.R_bound hg) (fun k h => (⟨by have := h.2.1; simp at this; omega, h.2.2.1⟩ : w4.heap.size < k ∧ k < w5.heap.size)) |> fun h => Kd.R_lower h (by have := LT4.out; simp; omega : w3.heap.size ≤ _))
  have O5 := Aside0.mk (O4.out.below hb5)
  have T5 := Aside0.mk (Kd.R_below T4.out hb5)
  have B5 := Aside0.mk (blk_below B4.out hb5)
  have C5 := Aside0.mk (blk_below C4.out hb5)
  have HB5 := Aside0.mk (below_step HB4.out hb5)
  have D5 := Aside0.mk (below_step D4.out hb5)
  clear hg hb5 O4 T4 B4 C4 HB4 D4
  go_wp2_with (fail)
  refine (laws_eqIntS.calls k Ag cg g At ct t true _ (Kd.R_reads' G5.out).2.2 (Kd.R_reads' G5.out).2.1 (Kd.R_reads' T5.out).2.2 (Kd.R_reads' T5.out).2.1 E4.out).mono ?_
  rintro x w6 ⟨rfl, nd, rfl⟩
  go_wp2
  have hb6 : Below w5.heap.size w5 (w5.drewN nd).drew := below_drew (pw_below_drewN (Below.refl _ _) nd)
  have O6 := Aside0.mk (O5.out.below hb6)
  have T6 := Aside0.mk (Kd.R_below T5.out hb6)
  have G6 := Aside0.mk (Kd.R_below G5.out hb6)
  have B6 := Aside0.mk (blk_below B5.out hb6)
  have C6 := Aside0.mk (blk_below C5.out hb6)
  have HB6 := Aside0.mk (below_step HB5.out hb6)
  have D6 := Aside0.mk (below_step D5.out hb6)
  clear hb6 O5 T5 G5 B5 C5 HB5 D5
  refine start_ (n := 5) (S := fun w' => (∀ i, w'.cell? ⟨w4.heap.size, i, none⟩ = #[.int .i64 e.f0, .int .i64 e.f1, .bool e.f2, .bool e.f3, .slice u.A4 e.f4.length u.c4, .slice u.A5 e.f5.length u.c5, .int .i64 e.f6, .int .i64 e.f7, .slice u.A8 e.f8.length u.c8, .slice u.A9 e.f9.length u.c9, .slice u.A10 e.f10.length u.c10, .int .i64 e.f11, .int .i64 e.f12, .int .i64 e.f13][i]?) ∧ (∀ i, w'.cell? ⟨w.heap.size, i, none⟩ = #[.int .i64 d.f0, .int .i64 d.f1, .bool d.f2, .bool d.f3, .slice v.A4 d.f4.length v.c4, .slice v.A5 d.f5.length v.c5, .int .i64 d.f6, .int .i64 d.f7, .slice v.A8 d.f8.length v.c8, .slice v.A9 d.f9.length v.c9, .slice v.A10 d.f10.length v.c10, .int .i64 d.f11, .int .i64 d.f12, .int .i64 d.f13][i]?)) (ds := []) #[false, false, false, false, false] (by kernel_rfl) rfl rfl ⟨fun i => blk_cell C6.out i, fun i => blk_cell B6.out i⟩ (fun hHeld => ?_)
  generalize (w5.drewN nd).drew = w6 at *
  refine take_ (i := 0) (N := some 27) (v := ?_) (a' := ?_) #[true, false, false, false, false] rfl rfl (by kernel_rfl) (fun _ _ _ h => h) (Or.inl ⟨by rfl, ?_⟩) hHeld ?_ ?_
  rotate_left
  · rintro w' ⟨s0, s1⟩
    go_simp
    with_reducible rfl
  rotate_left
  · simp only [Act.put, List.setIfInBounds_toArray, List.set_cons_zero, List.set_cons_succ, i64_w, i32_w]
    rfl
  refine take_ (i := 1) (N := some 28) (v := ?_) (a' := ?_) #[true, true, false, false, false] rfl rfl (by kernel_rfl) (fun _ _ _ h => h) (Or.inl ⟨by rfl, ?_⟩) hHeld ?_ ?_
  rotate_left
  · rintro w' ⟨s0, s1⟩
    go_simp
    with_reducible rfl
  rotate_left
  · simp only [Act.put, List.setIfInBounds_toArray, List.set_cons_zero, List.set_cons_succ, i64_w, i32_w]
    rfl
  refine one_ (i := 2) (N := some 29) #[true, true, true, false, false] rfl rfl (by kernel_rfl) (by decide) (fun K hK => ?_)
  refine goes_ Try.func45 (by kernel_rfl) rfl #[d.agg v] (by rfl) rfl rfl (by (try simp only [List.map_toArray, List.map_cons, List.map_nil]); rfl) ?_
  refine (toGame_c k d v e _ (RW.out.below HB6.out) E1.out).mono ?_
  rintro x w7 ⟨u2, rfl, o7, hb7⟩
  refine ⟨_, rfl, ?_⟩
  have O7 := Aside0.mk (O6.out.below hb7)
  have Q7 := Aside0.mk o7.rd
  have T7 := Aside0.mk (Kd.R_below T6.out hb7)
  have G7 := Aside0.mk (Kd.R_below G6.out hb7)
  have B7 := Aside0.mk (blk_below B6.out hb7)
  have C7 := Aside0.mk (blk_below C6.out hb7)
  have HB7 := Aside0.mk (below_step HB6.out hb7)
  have D7 := Aside0.mk (below_step D6.out hb7)
  clear hb7 O6 T6 G6 B6 C6 HB6 D6 hHeld o7
  refine hK.out _ _ ⟨fun i => blk_cell C7.out i, fun i => blk_cell B7.out i⟩ (fun hHeld => ?_)
  clear hK K
  refine norm_ (a' := ?_) ?_ ?_
  rotate_left
  · show Act.put _ (some 29) _ = _
    simp only [Act.put, List.setIfInBounds_toArray, List.set_cons_zero, List.set_cons_succ, i64_w, i32_w]
    rfl
  refine one_ (i := 3) (N := some 30) #[true, true, true, true, false] rfl rfl (by kernel_rfl) (by decide) (fun K hK => ?_)
  refine goes_ Try.func47 (by kernel_rfl) rfl #[e.agg u, e.agg u2] (by rfl) rfl rfl (by (try simp only [List.map_toArray, List.map_cons, List.map_nil]); rfl) ?_
  refine (eqGame_c k e u e u2 true _ O7.out.rd Q7.out E5.out).mono ?_
  rintro x w8 ⟨rfl, hb8⟩
  refine ⟨_, rfl, ?_⟩
  have O8 := Aside0.mk (O7.out.below hb8)
  have T8 := Aside0.mk (Kd.R_below T7.out hb8)
  have G8 := Aside0.mk (Kd.R_below G7.out hb8)
  have B8 := Aside0.mk (blk_below B7.out hb8)
  have C8 := Aside0.mk (blk_below C7.out hb8)
  have HB8 := Aside0.mk (below_step HB7.out hb8)
  have D8 := Aside0.mk (below_step D7.out hb8)
  clear hb8 O7 T7 G7 B7 C7 HB7 D7 hHeld Q7
  refine hK.out _ _ ⟨fun i => blk_cell C8.out i, fun i => blk_cell B8.out i⟩ (fun hHeld => ?_)
  clear hK K
  refine norm_ (a' := ?_) ?_ ?_
  rotate_left
  · show Act.put _ (some 30) _ = _
    simp only [Act.put, List.setIfInBounds_toArray, List.set_cons_zero, List.set_cons_succ, i64_w, i32_w]
    rfl
  refine pure_ (i := 4) (N := some 31) (v := ?_) (a' := ?_) #[true, true, true, true, true] rfl rfl (by kernel_rfl) (fun _ _ _ h => h) (Or.inl ⟨by rfl, ?_⟩) ?_ ?_
  rotate_left
  · intro w'
    go_simp
    with_reducible rfl
  rotate_left
  · simp only [Act.put, List.setIfInBounds_toArray, List.set_cons_zero, List.set_cons_succ, i64_w, i32_w]
    rfl
  refine done_ (by kernel_rfl) ?_
  have hc8 := fun i => blk_cell C8.out i
  clear hHeld
  go_wp2_with (fail)
  refine (markGame_c k _ e u 1 m w3 _ D8.out O8.out E6.out).mono ?_
  rintro x w9 ⟨rfl, D9, hk9⟩
  have T9 := Aside0.mk (Kd.R_kept T8.out hk9 (fun k h h2 => Nat.lt_irrefl _ (Nat.lt_of_lt_of_le h h2.1)))
  have G9 := Aside0.mk (Kd.R_kept G8.out hk9 (fun k h h2 => Nat.lt_irrefl _ (Nat.lt_trans h.1 h2.2)))
  have B9 := Aside0.mk (blk_kept B8.out hk9 (fun h2 => Nat.lt_irrefl _ (Nat.lt_of_lt_of_le LW3.out h2.1)))
  have D9 := Aside0.mk D9
  clear hk9 hc8 T8 G8 B8 C8 O8 HB8 D8
  go_wp2_with (fail)
  refine (laws_eqIntS.calls k Ag cg g At ct t true _ (Kd.R_reads' G9.out).2.2 (Kd.R_reads' G9.out).2.1 (Kd.R_reads' T9.out).2.2 (Kd.R_reads' T9.out).2.1 E4.out).mono ?_
  rintro x w10 ⟨rfl, nd, rfl⟩
  go_wp2_with (fail)
  have hb10 : Below w9.heap.size w9 (w9.drewN nd) := pw_below_drewN (Below.refl _ _) nd
  have D10 := below_step D9.out hb10
  refine (laws_markIntS.calls k _ _ g 1 n1 n2 w3 _ D10 (Kd.R_below G9.out hb10) E7.out).mono ?_
  rintro x w11 ⟨rfl, hG, D11, hk11⟩
  have hl := (Kd.R_reads' hG).1
  have G11 := Aside0.mk hG
  have T11 := Aside0.mk (Kd.R_kept (Kd.R_below T9.out hb10) hk11 (fun k h h2 => Nat.lt_irrefl _ (Nat.lt_trans (Nat.lt_of_lt_of_le h LT4.out) h2.1)))
  have B11 := Aside0.mk (blk_kept (blk_below B9.out hb10) hk11 (fun h2 => Nat.lt_irrefl _ (Nat.lt_trans (Nat.lt_of_lt_of_le LW3.out LT4.out) h2.1)))
  have D11 := Aside0.mk D11
  have hc11 := fun i => blk_cell B11.out i
  rw [hl] at G11
  rw [hl]
  clear hG hk11 hb10 D10 D9 T9 B9 G9 hl
  go_wp2_with (fail)
  refine (laws_heldIntS.calls k Ag cg n2 1 n1 _ (Kd.R_reads' G11.out).2.2 (Kd.R_reads' G11.out).2.1 E8.out).mono ?_
  rintro x w12 ⟨rfl, nd2, rfl⟩
  go_wp2_with (fail)
  have hb12 : Below w11.heap.size w11 (w11.drewN nd2) := pw_below_drewN (Below.refl _ _) nd2
  refine (toGame_c k d v e _ (RW.out.below (below_step HB3.out (below_step D11.out hb12))) E1.out).mono ?_
  rintro x w13 ⟨u3, rfl, o13, hb13⟩
  have hb13 := below_step hb12 hb13
  have O13 := Aside0.mk o13.rd
  have G13 := Aside0.mk (Kd.R_below G11.out hb13)
  have T13 := Aside0.mk (Kd.R_below T11.out hb13)
  have D13 := Aside0.mk (below_step D11.out hb13)
  clear hb12 hb13 hc11 G11 T11 B11 D11 o13
  go_wp2_with (fail)
  refine (implX_c k e u3 g _ O13.out E3.out).mono ?_
  rintro x w14 ⟨vh, rfl, hh, hb14⟩
  obtain ⟨Ah, ch, rfl⟩ := Kd.R_slice hh
  have H14 := Aside0.mk hh
  have G14 := Aside0.mk (Kd.R_below G13.out hb14)
  have T14 := Aside0.mk (Kd.R_below T13.out hb14)
  have D14 := Aside0.mk (below_step D13.out hb14)
  clear hb14 hh G13 T13 D13 O13
  go_wp2_with (fail)
  refine (laws_eqIntS.calls k Ah ch g At ct t true _ (Kd.R_reads' H14.out).2.2 (Kd.R_reads' H14.out).2.1 (Kd.R_reads' T14.out).2.2 (Kd.R_reads' T14.out).2.1 E4.out).mono ?_
  rintro x w15 ⟨rfl, nd3, rfl⟩
  have hb15 : Below w14.heap.size w14 (w14.drewN nd3) := pw_below_drewN (Below.refl _ _) nd3
  have G15 := Aside0.mk (Kd.R_below G14.out hb15)
  clear hb15 G14 T14 H14
  go_wp2_with (fail)
  refine (laws_heldIntS.calls k Ag cg n2 1 n1 _ (Kd.R_reads' G15.out).2.2 (Kd.R_reads' G15.out).2.1 E8.out).mono ?_
  rintro x w16 ⟨rfl, nd4, rfl⟩
  go_wp2
  go_ret
  exact ⟨rfl, pw_below_drewN (below_step HB3.out D14.out) _⟩
theorem laws_FnExactPlayable.calls (k : Nat) (a0_0 : Int) (a0_1 : Int) (a0_2 : Bool) (a0_3 : Bool) (A0_4 : Option Addr) (c0_4 : Nat) (l0_4 : List Int) (A0_5 : Option Addr) (c0_5 : Nat) (l0_5 : List Int) (a0_6 : Int) (a0_7 : Int) (A0_8 : Option Addr) (c0_8 : Nat) (l0_8 : List (List Int)) (A0_9 : Option Addr) (c0_9 : Nat) (l0_9 : List Int) (A0_10 : Option Addr) (c0_10 : Nat) (l0_10 : List Int) (a0_11 : Int) (a0_12 : Int) (a0_13 : Int) (r : Bool) (w : World) (hr0_4 : Kd.C (Kd.int .i64) w A0_4 l0_4.length l0_4) (hc0_4 : l0_4.length ≤ c0_4) (hr0_5 : Kd.C (Kd.int .i64) w A0_5 l0_5.length l0_5) (hc0_5 : l0_5.length ≤ c0_5) (hr0_8 : Kd.C (Kd.slice 3 (Kd.int .i64)) w A0_8 l0_8.length l0_8) (hc0_8 : l0_8.length ≤ c0_8) (hr0_9 : Kd.C (Kd.int .i64) w A0_9 l0_9.length l0_9) (hc0_9 : l0_9.length ≤ c0_9) (hr0_10 : Kd.C (Kd.int .i64) w A0_10 l0_10.length l0_10) (hc0_10 : l0_10.length ≤ c0_10) (h : laws_FnExactPlayable.f k a0_0 a0_1 a0_2 a0_3 l0_4 l0_5 a0_6 a0_7 l0_8 l0_9 l0_10 a0_11 a0_12 a0_13 = some r) (hT : r = true) :
    Calls Try.prog 14 #[.agg #[.int .i64 a0_0, .int .i64 a0_1, .bool a0_2, .bool a0_3, .slice A0_4 l0_4.length c0_4, .slice A0_5 l0_5.length c0_5, .int .i64 a0_6, .int .i64 a0_7, .slice A0_8 l0_8.length c0_8, .slice A0_9 l0_9.length c0_9, .slice A0_10 l0_10.length c0_10, .int .i64 a0_11, .int .i64 a0_12, .int .i64 a0_13]] w fun x w' => x = .returned (.bool r) ∧ Below w.heap.size w w' := by
  subst hT
  obtain ⟨L, e0, h⟩ := Option.bind_eq_some_iff.mp h
  by_cases hL : L < 0
  · exact laws_FnExactPlayable.small k ⟨a0_0, a0_1, a0_2, a0_3, l0_4, l0_5, a0_6, a0_7, l0_8, l0_9, l0_10, a0_11, a0_12, a0_13⟩ ⟨A0_4, c0_4, A0_5, c0_5, A0_8, c0_8, A0_9, c0_9, A0_10, c0_10⟩ L w ⟨⟨hr0_4, hc0_4⟩, ⟨hr0_5, hc0_5⟩, ⟨hr0_8, hc0_8⟩, ⟨hr0_9, hc0_9⟩, ⟨hr0_10, hc0_10⟩⟩ ⟨e0⟩ hL
  · rw [if_neg hL] at h
    obtain ⟨e, e1, h⟩ := Option.bind_eq_some_iff.mp h
    obtain ⟨t, e2, h⟩ := Option.bind_eq_some_iff.mp h
    obtain ⟨g, e3, h⟩ := Option.bind_eq_some_iff.mp h
    obtain ⟨c1, e4, h⟩ := Option.bind_eq_some_iff.mp h
    obtain ⟨c2, e5, h⟩ := Option.bind_eq_some_iff.mp h
    obtain ⟨m, e6, h⟩ := Option.bind_eq_some_iff.mp h
    obtain ⟨n, e7, h⟩ := Option.bind_eq_some_iff.mp h
    obtain ⟨q, e8, h⟩ := Option.bind_eq_some_iff.mp h
    split at h
    · rename_i hc
      obtain ⟨rfl, rfl, hm, hn, rfl⟩ := hc
      exact laws_FnExactPlayable.walk k ⟨a0_0, a0_1, a0_2, a0_3, l0_4, l0_5, a0_6, a0_7, l0_8, l0_9, l0_10, a0_11, a0_12, a0_13⟩ ⟨e.1, e.2.1, e.2.2.1, e.2.2.2.1, e.2.2.2.2.1, e.2.2.2.2.2.1, e.2.2.2.2.2.2.1, e.2.2.2.2.2.2.2.1, e.2.2.2.2.2.2.2.2.1, e.2.2.2.2.2.2.2.2.2.1, e.2.2.2.2.2.2.2.2.2.2.1, e.2.2.2.2.2.2.2.2.2.2.2.1, e.2.2.2.2.2.2.2.2.2.2.2.2.1, e.2.2.2.2.2.2.2.2.2.2.2.2.2⟩ ⟨A0_4, c0_4, A0_5, c0_5, A0_8, c0_8, A0_9, c0_9, A0_10, c0_10⟩ L m n.1 t g n.2 w ⟨⟨hr0_4, hc0_4⟩, ⟨hr0_5, hc0_5⟩, ⟨hr0_8, hc0_8⟩, ⟨hr0_9, hc0_9⟩, ⟨hr0_10, hc0_10⟩⟩ ⟨e0⟩ hL ⟨e1⟩ ⟨e2⟩ ⟨e3⟩ ⟨e4⟩ ⟨e5⟩ ⟨e6⟩ hm ⟨e7⟩ ⟨e8⟩ hn
    · exact absurd h (by simp)

end Go.Proofs.Ytkhgeockdjjhmaa.QFnExactPlayable
