/- What a call of each Go function that FnExactSightOf reaches comes to, as a Lean function: texts of the kit's print, turned by wip/remake.py. No condition beyond what each names. -/
import Derived.Test.YtkhgeockdjjhmaaQFnExactSightOfx5
namespace Go.Proofs.Ytkhgeockdjjhmaa.QFnExactSightOf
open Go.RowKit Go.Proofs.YtkhgeockdjjhmaaW.PrintWords Go.Proofs.YtkhgeockdjjhmaaW.PrintLast Go.Proofs.YtkhgeockdjjhmaaW.PrintMore
attribute [local go_sem] max2_int min2_int max_two min_two max_three min_three max_four min_four   -- for this text's walks alone
set_option linter.unusedVariables false
set_option linter.unusedSimpArgs false

/-! ### laws_markIntSS -/
def laws_markIntSS.l0 : Nat → List (List Int) → Int → Int → Option (Int × List (List Int))
  | 0, _, _, _ => none
  | k + 1, x0, x1, x5 => if x5 < (x0.length : Int) then (if 0 ≤ x5 then ((laws_markIntS.f k (rd_L1 x0 x5) x1).bind fun b => laws_markIntSS.l0 k (x0.set x5.toNat b.2) b.1 (wrap64 (x5 + 1))) else none) else some (x1, x0)
def laws_markIntSS.f (k : Nat) (l0 : List (List Int)) (a1 : Int) : Option (Int × List (List Int)) := laws_markIntSS.l0 k l0 a1 0
theorem laws_markIntSS.mono_l : ∀ k, (∀ y0 y1 y2, LeO (laws_markIntSS.l0 k y0 y1 y2) (laws_markIntSS.l0 (k + 1) y0 y1 y2))
  | 0 => fun _ _ _ r h => by simp [laws_markIntSS.l0] at h
  | k + 1 => by
    have ih0 := laws_markIntSS.mono_l k
    intro y0 y1 y2
    unfold laws_markIntSS.l0
    repeat' first
      | (with_reducible exact ih0 _ _ _)
      | exact laws_markIntS.mono _ _ _
      | (with_reducible exact LeO.refl _)
      | (with_reducible exact LeO.none _)
      | (with_reducible refine LeO.ite ?_ ?_)
      | (with_reducible refine LeO.bind ?_ (fun _ => ?_))
theorem laws_markIntSS.mono : ∀ a0 a1 k, LeO (laws_markIntSS.f k a0 a1) (laws_markIntSS.f (k + 1) a0 a1) := fun _ _ k => laws_markIntSS.mono_l k _ _ _
/-- A row of a row of rows is lent, and comes back with other numbers. -/
theorem laws_markIntSS.lend {e base g n cap : Nat} {ok : Nat → Prop} {w : World} {xs : List (List Int)} (h : Kd.S (Kd.slice 3 (Kd.int .i64)) e w base ok (.slice (some ⟨g, 0, none⟩) n cap) xs) (i : Int) (h0 : 0 ≤ i) (h1 : i < n) :
    ∃ (oki : Nat → Prop) (u : Value), Kd.R (Kd.int .i64) 3 w base oki u (rd_L1 xs i) ∧ w.cell? ⟨g, i.toNat, none⟩ = some u ∧ (∀ k, oki k → ok k) ∧
      ∀ (w2 : World) (S2 : Nat → Prop) (r2 : List Int) (ok2 : Nat → Prop), Kept w w2 S2 → (∀ k, S2 k → oki k) → Kd.R (Kd.int .i64) 3 w2 base ok2 u r2 → Kd.S (Kd.slice 3 (Kd.int .i64)) e w2 base ok (.slice (some ⟨g, 0, none⟩) n cap) (xs.set i.toNat r2) := by
  obtain ⟨oki, c, hcl, hM, hcc, _, hoki, hH⟩ := Kd.S_elem h ([] : List Int) i h0 h1
  obtain ⟨u, rfl, hR⟩ := hM
  refine ⟨oki, u, hR, by simpa [Kd.slice] using hcc 0 u rfl, fun k hk => (hoki k hk).1, fun w2 S2 r2 ok2 hk hs hR2 => ?_⟩
  exact Kd.H_back (Kd.H_kept hH hk (fun k _ hn h2 => hn (hs k h2))) ⟨u, rfl, Kd.R_tight rfl hR2⟩ (fun k hk => hR.1 k hk.symm)
set_option maxHeartbeats 8000000 in
set_option maxRecDepth 100000 in
theorem laws_markIntSS.calls (k : Nat) (P : Nat → Prop) (v : Value) (l0 : List (List Int)) (a1 : Int) (r1 : Int) (r2 : List (List Int)) (w0 w : World) (hB : Below w0.heap.size w0 w) (ho : Kd.S (Kd.slice 3 (Kd.int .i64)) 24 w w0.heap.size P v l0) (h : laws_markIntSS.f k l0 a1 = some (r1, r2)) :
    Calls Try.prog 134 #[v, .int .i64 a1] w fun e w' => e = .returned (.int .i64 r1) ∧ Kd.S (Kd.slice 3 (Kd.int .i64)) 24 w' w0.heap.size P v r2 ∧ Below w0.heap.size w0 w' ∧ Kept w w' P := by
  have HO := Aside0.mk ho
  have HB := Aside0.mk hB
  have H' := Aside0.mk (show laws_markIntSS.l0 k l0 a1 0 = some (r1, r2) from h)
  clear ho hB h
  go_enter Try.func134, Try.ntmps134
  go_wp2
  go_loopg [1, 5] k (fun kq v1 v5 w' => ∃ (x0 : List (List Int)) (x1 x5 : Int), v1 = .int .i64 x1 ∧ v5 = .int .i64 x5 ∧ Aside0 (laws_markIntSS.l0 kq x0 x1 x5 = some (r1, r2)) ∧ Aside0 (kq ≤ k) ∧ Aside0 (Kd.S (Kd.slice 3 (Kd.int .i64)) 24 w' w0.heap.size P v x0) ∧ Aside0 (Below w0.heap.size w0 w') ∧ Aside0 (Kept w w' P))
  case atStart => exact ⟨l0, a1, 0, rfl, rfl, H', ⟨Nat.le_refl _⟩, HO, HB, ⟨Kept.refl _ _⟩⟩
  case round =>
    clear H' HO HB
    obtain ⟨x0, x1, x5, rfl, rfl, HA, HK1, HO, HB, HK⟩ := hrel
    cases gk with
    | zero => exact absurd HA.out (by simp [laws_markIntSS.l0])
    | succ k1 =>
      have H := HA.out
      clear HA
      simp only [laws_markIntSS.l0] at H
      by_cases c3 : x5 < (x0.length : Int)
      · rw [if_pos c3] at H
        by_cases c4 : 0 ≤ x5
        · rw [if_pos c4] at H
          replace H := Option.bind_eq_some_iff.mp H
          obtain ⟨⟨b1, b2⟩, A, H⟩ := H
          have H' := Aside0.mk H
          have A' := Aside0.mk A
          clear H A
          obtain ⟨g, cap, rfl, hg1, hg2, hg3⟩ := Kd.S_form HO.out (by omega)
          clear hg1 hg2 hg3
          obtain ⟨oki, u, hR, hc, hoki, hback⟩ := laws_markIntSS.lend HO.out x5 c4 c3
          have HR := Aside0.mk (Kd.R_tight rfl hR)
          have HI := Aside0.mk (fun k hk => hR.1 k hk)
          have HP := Aside0.mk hoki
          have HBK := Aside0.mk hback
          clear hR hoki hback
          have c3b0 : decide (x5 < (x0.length : Int)) = true := decide_eq_true c3
          have p5 := eq_true c4
          have q5 := eq_true c3
          clear c3 c4
          go_wp2_with (go_at_call 76; refine (laws_markIntS.calls k1 _ u _ x1 b1 b2 w0 _ HB.out HR.out A'.out).mono ?_; rintro e w' ⟨rfl, hr, hb, hk⟩; have HR2 := Aside0.mk hr; have HB2 := Aside0.mk hb; have HK2 := Aside0.mk hk; clear hr hb hk)
          go_roundg k1
          case measure => have := HK1.out; omega
          case rel => exact ⟨x0.set x5.toNat b2, b1, wrap64 (x5 + 1), rfl, by first | rfl | (simp; done) | (simp [*]; done), H', ⟨by have := HK1.out; omega⟩, ⟨HBK.out _ _ _ _ HK2.out (fun k hk => HI.out k hk.symm) HR2.out⟩, HB2, ⟨HK.out.then_ HK2.out (fun k hk => .inl (HP.out k (HI.out k hk.symm)))⟩⟩
        · rw [if_neg c4] at H
          exact absurd H (by simp)
      · rw [if_neg c3] at H
        have c3b0 : decide (x5 < (x0.length : Int)) = false := decide_eq_false c3
        clear c3
        simp only [Option.some.injEq, Prod.mk.injEq] at H
        obtain ⟨rfl, rfl⟩ := H
        obtain ⟨A9, c9, rfl⟩ := Kd.S_slice HO.out
        go_wp2
        go_ret
        exact ⟨rfl, HO.out, HB.out, HK.out⟩

/-! ### a deal and a sight, bundled -/
structure DD where
  f0 : List (List Int)
  f1 : Int
  f2 : Int
  f3 : List Int
  f4 : List Int
  f5 : List Int
  f6 : Int
structure DV where
  A0 : Option Addr
  c0 : Nat
  A3 : Option Addr
  c3 : Nat
  A4 : Option Addr
  c4 : Nat
  A5 : Option Addr
  c5 : Nat
abbrev DD.cs (d : DD) (v : DV) : Array Value := #[.slice v.A0 d.f0.length v.c0, .int .i64 d.f1, .int .i64 d.f2, .slice v.A3 d.f3.length v.c3, .slice v.A4 d.f4.length v.c4, .slice v.A5 d.f5.length v.c5, .int .i64 d.f6]
abbrev DD.agg (d : DD) (v : DV) : Value := .agg (d.cs v)
def DRd (w : World) (d : DD) (v : DV) : Prop := (Kd.C (Kd.slice 3 (Kd.int .i64)) w v.A0 d.f0.length d.f0 ∧ d.f0.length ≤ v.c0) ∧ (Kd.C (Kd.int .i64) w v.A3 d.f3.length d.f3 ∧ d.f3.length ≤ v.c3) ∧ (Kd.C (Kd.int .i64) w v.A4 d.f4.length d.f4 ∧ d.f4.length ≤ v.c4) ∧ (Kd.C (Kd.int .i64) w v.A5 d.f5.length d.f5 ∧ d.f5.length ≤ v.c5)
theorem DRd.below {w w1 : World} {d : DD} {v : DV} (h : DRd w d v) (hb : Below w.heap.size w w1) : DRd w1 d v := ⟨⟨Kd.C_below h.1.1 hb, h.1.2⟩, ⟨Kd.C_below h.2.1.1 hb, h.2.1.2⟩, ⟨Kd.C_below h.2.2.1.1 hb, h.2.2.1.2⟩, ⟨Kd.C_below h.2.2.2.1 hb, h.2.2.2.2⟩⟩
def DOwn (w : World) (base : Nat) (P : Nat → Prop) (d : DD) (v : DV) : Prop := Kd.S (Kd.slice 3 (Kd.int .i64)) 24 w base (fun k => P k ∧ some k ≠ (.slice v.A3 d.f3.length v.c3 : Value).ownBlock ∧ some k ≠ (.slice v.A4 d.f4.length v.c4 : Value).ownBlock ∧ some k ≠ (.slice v.A5 d.f5.length v.c5 : Value).ownBlock) (.slice v.A0 d.f0.length v.c0) d.f0 ∧ Kd.R (Kd.int .i64) 3 w base (fun k => P k ∧ some k ≠ (.slice v.A4 d.f4.length v.c4 : Value).ownBlock ∧ some k ≠ (.slice v.A5 d.f5.length v.c5 : Value).ownBlock) (.slice v.A3 d.f3.length v.c3) d.f3 ∧ Kd.R (Kd.int .i64) 3 w base (fun k => P k ∧ some k ≠ (.slice v.A3 d.f3.length v.c3 : Value).ownBlock ∧ some k ≠ (.slice v.A5 d.f5.length v.c5 : Value).ownBlock) (.slice v.A4 d.f4.length v.c4) d.f4 ∧ Kd.R (Kd.int .i64) 3 w base (fun k => P k ∧ some k ≠ (.slice v.A3 d.f3.length v.c3 : Value).ownBlock ∧ some k ≠ (.slice v.A4 d.f4.length v.c4 : Value).ownBlock) (.slice v.A5 d.f5.length v.c5) d.f5
theorem DOwn.below {w w1 : World} {base : Nat} {P : Nat → Prop} {d : DD} {v : DV} (h : DOwn w base P d v) (hb : Below w.heap.size w w1) : DOwn w1 base P d v := ⟨Kd.S_below h.1 hb, Kd.R_below h.2.1 hb, Kd.R_below h.2.2.1 hb, Kd.R_below h.2.2.2 hb⟩
theorem DOwn.kept {w w1 : World} {base : Nat} {P S : Nat → Prop} {d : DD} {v : DV} (h : DOwn w base P d v) (hk : Kept w w1 S) (hs : ∀ k, P k → ¬ S k) : DOwn w1 base P d v := ⟨Kd.S_kept h.1 hk (fun k h => hs k h.1), Kd.R_kept h.2.1 hk (fun k h => hs k h.1), Kd.R_kept h.2.2.1 hk (fun k h => hs k h.1), Kd.R_kept h.2.2.2 hk (fun k h => hs k h.1)⟩
theorem DOwn.mono {w : World} {base : Nat} {P Q : Nat → Prop} {d : DD} {v : DV} (h : DOwn w base P d v) (hq : ∀ k, P k → Q k) : DOwn w base Q d v := ⟨Kd.S_mono h.1 (fun k h => ⟨hq k h.1, h.2⟩), Kd.R_mono h.2.1 (fun k h => ⟨hq k h.1, h.2⟩), Kd.R_mono h.2.2.1 (fun k h => ⟨hq k h.1, h.2⟩), Kd.R_mono h.2.2.2 (fun k h => ⟨hq k h.1, h.2⟩)⟩
theorem DOwn.lower {w : World} {base b : Nat} {P : Nat → Prop} {d : DD} {v : DV} (h : DOwn w base P d v) (hb : b ≤ base) : DOwn w b P d v := ⟨Kd.S_lower h.1 hb, Kd.R_lower h.2.1 hb, Kd.R_lower h.2.2.1 hb, Kd.R_lower h.2.2.2 hb⟩
theorem DOwn.rd {w : World} {base : Nat} {P : Nat → Prop} {d : DD} {v : DV} (h : DOwn w base P d v) : DRd w d v := ⟨⟨(Kd.S_reads' h.1).2.2, (Kd.S_reads' h.1).2.1⟩, ⟨(Kd.R_reads' h.2.1).2.2, (Kd.R_reads' h.2.1).2.1⟩, ⟨(Kd.R_reads' h.2.2.1).2.2, (Kd.R_reads' h.2.2.1).2.1⟩, ⟨(Kd.R_reads' h.2.2.2).2.2, (Kd.R_reads' h.2.2.2).2.1⟩⟩
structure ZD where
  f0 : Int
  f1 : List Int
  f2 : List Int
  f3 : Int
  f4 : Int
  f5 : List Int
  f6 : List Int
structure ZV where
  A1 : Option Addr
  c1 : Nat
  A2 : Option Addr
  c2 : Nat
  A5 : Option Addr
  c5 : Nat
  A6 : Option Addr
  c6 : Nat
abbrev ZD.cs (d : ZD) (v : ZV) : Array Value := #[.int .i64 d.f0, .slice v.A1 d.f1.length v.c1, .slice v.A2 d.f2.length v.c2, .int .i64 d.f3, .int .i64 d.f4, .slice v.A5 d.f5.length v.c5, .slice v.A6 d.f6.length v.c6]
abbrev ZD.agg (d : ZD) (v : ZV) : Value := .agg (d.cs v)
def ZRd (w : World) (d : ZD) (v : ZV) : Prop := (Kd.C (Kd.int .i64) w v.A1 d.f1.length d.f1 ∧ d.f1.length ≤ v.c1) ∧ (Kd.C (Kd.int .i64) w v.A2 d.f2.length d.f2 ∧ d.f2.length ≤ v.c2) ∧ (Kd.C (Kd.int .i64) w v.A5 d.f5.length d.f5 ∧ d.f5.length ≤ v.c5) ∧ (Kd.C (Kd.int .i64) w v.A6 d.f6.length d.f6 ∧ d.f6.length ≤ v.c6)
theorem ZRd.below {w w1 : World} {d : ZD} {v : ZV} (h : ZRd w d v) (hb : Below w.heap.size w w1) : ZRd w1 d v := ⟨⟨Kd.C_below h.1.1 hb, h.1.2⟩, ⟨Kd.C_below h.2.1.1 hb, h.2.1.2⟩, ⟨Kd.C_below h.2.2.1.1 hb, h.2.2.1.2⟩, ⟨Kd.C_below h.2.2.2.1 hb, h.2.2.2.2⟩⟩
def ZOwn (w : World) (base : Nat) (P : Nat → Prop) (d : ZD) (v : ZV) : Prop := Kd.R (Kd.int .i64) 3 w base (fun k => P k ∧ some k ≠ (.slice v.A2 d.f2.length v.c2 : Value).ownBlock ∧ some k ≠ (.slice v.A5 d.f5.length v.c5 : Value).ownBlock ∧ some k ≠ (.slice v.A6 d.f6.length v.c6 : Value).ownBlock) (.slice v.A1 d.f1.length v.c1) d.f1 ∧ Kd.R (Kd.int .i64) 3 w base (fun k => P k ∧ some k ≠ (.slice v.A1 d.f1.length v.c1 : Value).ownBlock ∧ some k ≠ (.slice v.A5 d.f5.length v.c5 : Value).ownBlock ∧ some k ≠ (.slice v.A6 d.f6.length v.c6 : Value).ownBlock) (.slice v.A2 d.f2.length v.c2) d.f2 ∧ Kd.R (Kd.int .i64) 3 w base (fun k => P k ∧ some k ≠ (.slice v.A1 d.f1.length v.c1 : Value).ownBlock ∧ some k ≠ (.slice v.A2 d.f2.length v.c2 : Value).ownBlock ∧ some k ≠ (.slice v.A6 d.f6.length v.c6 : Value).ownBlock) (.slice v.A5 d.f5.length v.c5) d.f5 ∧ Kd.R (Kd.int .i64) 3 w base (fun k => P k ∧ some k ≠ (.slice v.A1 d.f1.length v.c1 : Value).ownBlock ∧ some k ≠ (.slice v.A2 d.f2.length v.c2 : Value).ownBlock ∧ some k ≠ (.slice v.A5 d.f5.length v.c5 : Value).ownBlock) (.slice v.A6 d.f6.length v.c6) d.f6
theorem ZOwn.below {w w1 : World} {base : Nat} {P : Nat → Prop} {d : ZD} {v : ZV} (h : ZOwn w base P d v) (hb : Below w.heap.size w w1) : ZOwn w1 base P d v := ⟨Kd.R_below h.1 hb, Kd.R_below h.2.1 hb, Kd.R_below h.2.2.1 hb, Kd.R_below h.2.2.2 hb⟩
theorem ZOwn.kept {w w1 : World} {base : Nat} {P S : Nat → Prop} {d : ZD} {v : ZV} (h : ZOwn w base P d v) (hk : Kept w w1 S) (hs : ∀ k, P k → ¬ S k) : ZOwn w1 base P d v := ⟨Kd.R_kept h.1 hk (fun k h => hs k h.1), Kd.R_kept h.2.1 hk (fun k h => hs k h.1), Kd.R_kept h.2.2.1 hk (fun k h => hs k h.1), Kd.R_kept h.2.2.2 hk (fun k h => hs k h.1)⟩
theorem ZOwn.mono {w : World} {base : Nat} {P Q : Nat → Prop} {d : ZD} {v : ZV} (h : ZOwn w base P d v) (hq : ∀ k, P k → Q k) : ZOwn w base Q d v := ⟨Kd.R_mono h.1 (fun k h => ⟨hq k h.1, h.2⟩), Kd.R_mono h.2.1 (fun k h => ⟨hq k h.1, h.2⟩), Kd.R_mono h.2.2.1 (fun k h => ⟨hq k h.1, h.2⟩), Kd.R_mono h.2.2.2 (fun k h => ⟨hq k h.1, h.2⟩)⟩
theorem ZOwn.lower {w : World} {base b : Nat} {P : Nat → Prop} {d : ZD} {v : ZV} (h : ZOwn w base P d v) (hb : b ≤ base) : ZOwn w b P d v := ⟨Kd.R_lower h.1 hb, Kd.R_lower h.2.1 hb, Kd.R_lower h.2.2.1 hb, Kd.R_lower h.2.2.2 hb⟩
theorem ZOwn.rd {w : World} {base : Nat} {P : Nat → Prop} {d : ZD} {v : ZV} (h : ZOwn w base P d v) : ZRd w d v := ⟨⟨(Kd.R_reads' h.1).2.2, (Kd.R_reads' h.1).2.1⟩, ⟨(Kd.R_reads' h.2.1).2.2, (Kd.R_reads' h.2.1).2.1⟩, ⟨(Kd.R_reads' h.2.2.1).2.2, (Kd.R_reads' h.2.2.1).2.1⟩, ⟨(Kd.R_reads' h.2.2.2).2.2, (Kd.R_reads' h.2.2.2).2.1⟩⟩
theorem toDeal_c (k : Nat) (d : DD) (v : DV) (e : DD) (w : World) (hr : DRd w d v) (h : laws_toDeal.f k d.f0 d.f1 d.f2 d.f3 d.f4 d.f5 d.f6 = some (e.f0, e.f1, e.f2, e.f3, e.f4, e.f5, e.f6)) :
    Calls Try.prog 50 #[d.agg v] w fun x w' => ∃ u : DV, x = .returned (e.agg u) ∧ DOwn w' w.heap.size (fun k => w.heap.size ≤ k ∧ k < w'.heap.size) e u ∧ Below w.heap.size w w' := by
  refine (laws_toDeal.calls k v.A0 v.c0 d.f0 d.f1 d.f2 v.A3 v.c3 d.f3 v.A4 v.c4 d.f4 v.A5 v.c5 d.f5 d.f6 e.f0 e.f1 e.f2 e.f3 e.f4 e.f5 e.f6 w hr.1.1 hr.1.2 hr.2.1.1 hr.2.1.2 hr.2.2.1.1 hr.2.2.1.2 hr.2.2.2.1 hr.2.2.2.2 h).mono ?_
  rintro x w' ⟨v0, v3, v4, v5, rfl, h0, h3, h4, h5, hb⟩
  obtain ⟨A0, c0, rfl⟩ := Kd.S_slice h0
  obtain ⟨A3, c3, rfl⟩ := Kd.R_slice h3
  obtain ⟨A4, c4, rfl⟩ := Kd.R_slice h4
  obtain ⟨A5, c5, rfl⟩ := Kd.R_slice h5
  exact ⟨⟨A0, c0, A3, c3, A4, c4, A5, c5⟩, rfl, ⟨Kd.S_mono (Kd.S_bound h0) (fun k h => ⟨⟨h.2.1, h.2.2.1⟩, h.1⟩), Kd.R_mono (Kd.R_bound h3) (fun k h => ⟨⟨h.2.1, h.2.2.1⟩, h.1⟩), Kd.R_mono (Kd.R_bound h4) (fun k h => ⟨⟨h.2.1, h.2.2.1⟩, h.1⟩), Kd.R_mono (Kd.R_bound h5) (fun k h => ⟨⟨h.2.1, h.2.2.1⟩, h.1⟩)⟩, hb⟩
theorem specX_c (k : Nat) (d : DD) (v : DV) (a : Int) (e : ZD) (b : Bool) (w : World) (hr : DRd w d v) (h : spec_SightOf.f k d.f0 d.f1 d.f2 d.f3 d.f4 d.f5 d.f6 a = some (e.f0, e.f1, e.f2, e.f3, e.f4, e.f5, e.f6, b)) :
    Calls Try.prog 66 #[d.agg v, .int .i64 a] w fun x w' => ∃ u : ZV, x = .returned (.tuple #[e.agg u, .bool b]) ∧ ZOwn w' w.heap.size (fun k => w.heap.size ≤ k ∧ k < w'.heap.size) e u ∧ Below w.heap.size w w' := by
  refine (spec_SightOf.calls k v.A0 v.c0 d.f0 d.f1 d.f2 v.A3 v.c3 d.f3 v.A4 v.c4 d.f4 v.A5 v.c5 d.f5 d.f6 a e.f0 e.f1 e.f2 e.f3 e.f4 e.f5 e.f6 b w hr.1.1 hr.1.2 hr.2.1.1 hr.2.1.2 hr.2.2.1.1 hr.2.2.1.2 hr.2.2.2.1 hr.2.2.2.2 h).mono ?_
  rintro x w' ⟨v1, v2, v5, v6, rfl, h1, h2, h5, h6, hb⟩
  obtain ⟨A1, c1, rfl⟩ := Kd.R_slice h1
  obtain ⟨A2, c2, rfl⟩ := Kd.R_slice h2
  obtain ⟨A5, c5, rfl⟩ := Kd.R_slice h5
  obtain ⟨A6, c6, rfl⟩ := Kd.R_slice h6
  exact ⟨⟨A1, c1, A2, c2, A5, c5, A6, c6⟩, rfl, ⟨Kd.R_mono (Kd.R_bound h1) (fun k h => ⟨⟨h.2.1, h.2.2.1⟩, h.1⟩), Kd.R_mono (Kd.R_bound h2) (fun k h => ⟨⟨h.2.1, h.2.2.1⟩, h.1⟩), Kd.R_mono (Kd.R_bound h5) (fun k h => ⟨⟨h.2.1, h.2.2.1⟩, h.1⟩), Kd.R_mono (Kd.R_bound h6) (fun k h => ⟨⟨h.2.1, h.2.2.1⟩, h.1⟩)⟩, hb⟩
theorem implX_c (k : Nat) (d : DD) (v : DV) (a : Int) (e : ZD) (b : Bool) (w : World) (hr : DRd w d v) (h : impl_SightOf.f k d.f0 d.f1 d.f2 d.f3 d.f4 d.f5 d.f6 a = some (e.f0, e.f1, e.f2, e.f3, e.f4, e.f5, e.f6, b)) :
    Calls Try.prog 67 #[d.agg v, .int .i64 a] w fun x w' => ∃ u : ZV, x = .returned (.tuple #[e.agg u, .bool b]) ∧ ZOwn w' w.heap.size (fun k => w.heap.size ≤ k ∧ k < w'.heap.size) e u ∧ Below w.heap.size w w' := by
  refine (impl_SightOf.calls k v.A0 v.c0 d.f0 d.f1 d.f2 v.A3 v.c3 d.f3 v.A4 v.c4 d.f4 v.A5 v.c5 d.f5 d.f6 a e.f0 e.f1 e.f2 e.f3 e.f4 e.f5 e.f6 b w hr.1.1 hr.1.2 hr.2.1.1 hr.2.1.2 hr.2.2.1.1 hr.2.2.1.2 hr.2.2.2.1 hr.2.2.2.2 h).mono ?_
  rintro x w' ⟨v1, v2, v5, v6, rfl, h1, h2, h5, h6, hb⟩
  obtain ⟨A1, c1, rfl⟩ := Kd.R_slice h1
  obtain ⟨A2, c2, rfl⟩ := Kd.R_slice h2
  obtain ⟨A5, c5, rfl⟩ := Kd.R_slice h5
  obtain ⟨A6, c6, rfl⟩ := Kd.R_slice h6
  exact ⟨⟨A1, c1, A2, c2, A5, c5, A6, c6⟩, rfl, ⟨Kd.R_mono (Kd.R_bound h1) (fun k h => ⟨⟨h.2.1, h.2.2.1⟩, h.1⟩), Kd.R_mono (Kd.R_bound h2) (fun k h => ⟨⟨h.2.1, h.2.2.1⟩, h.1⟩), Kd.R_mono (Kd.R_bound h5) (fun k h => ⟨⟨h.2.1, h.2.2.1⟩, h.1⟩), Kd.R_mono (Kd.R_bound h6) (fun k h => ⟨⟨h.2.1, h.2.2.1⟩, h.1⟩)⟩, hb⟩
theorem szDeal_c (k : Nat) (d : DD) (v : DV) (a1 : Int) (r : Int) (w : World) (h0 : DRd w d v) (h : laws_szDeal.f k d.f0 d.f1 d.f2 d.f3 d.f4 d.f5 d.f6 a1 = some r) :
    Calls Try.prog 48 #[d.agg v, .int .i64 a1] w fun e w' => e = .returned (.int .i64 r) ∧ Below w.heap.size w w' :=
  laws_szDeal.calls k v.A0 v.c0 d.f0 d.f1 d.f2 v.A3 v.c3 d.f3 v.A4 v.c4 d.f4 v.A5 v.c5 d.f5 d.f6 a1 r w h0.1.1 h0.1.2 h0.2.1.1 h0.2.1.2 h0.2.2.1.1 h0.2.2.1.2 h0.2.2.2.1 h0.2.2.2.2 h
theorem eqDeal_c (k : Nat) (d : DD) (v : DV) (d1 : DD) (v1 : DV) (r : Bool) (w : World) (h0 : DRd w d v) (h1 : DRd w d1 v1) (h : laws_eqDeal.f k d.f0 d.f1 d.f2 d.f3 d.f4 d.f5 d.f6 d1.f0 d1.f1 d1.f2 d1.f3 d1.f4 d1.f5 d1.f6 = some r) :
    Calls Try.prog 52 #[d.agg v, d1.agg v1] w fun e w' => e = .returned (.bool r) ∧ Below w.heap.size w w' :=
  laws_eqDeal.calls k v.A0 v.c0 d.f0 d.f1 d.f2 v.A3 v.c3 d.f3 v.A4 v.c4 d.f4 v.A5 v.c5 d.f5 d.f6 v1.A0 v1.c0 d1.f0 d1.f1 d1.f2 v1.A3 v1.c3 d1.f3 v1.A4 v1.c4 d1.f4 v1.A5 v1.c5 d1.f5 d1.f6 r w h0.1.1 h0.1.2 h0.2.1.1 h0.2.1.2 h0.2.2.1.1 h0.2.2.1.2 h0.2.2.2.1 h0.2.2.2.2 h1.1.1 h1.1.2 h1.2.1.1 h1.2.1.2 h1.2.2.1.1 h1.2.2.1.2 h1.2.2.2.1 h1.2.2.2.2 h
theorem eqSight_c (k : Nat) (d : ZD) (v : ZV) (d1 : ZD) (v1 : ZV) (r : Bool) (w : World) (h0 : ZRd w d v) (h1 : ZRd w d1 v1) (h : laws_eqSight.f k d.f0 d.f1 d.f2 d.f3 d.f4 d.f5 d.f6 d1.f0 d1.f1 d1.f2 d1.f3 d1.f4 d1.f5 d1.f6 = some r) :
    Calls Try.prog 68 #[d.agg v, d1.agg v1] w fun e w' => e = .returned (.bool r) ∧ Below w.heap.size w w' :=
  laws_eqSight.calls k d.f0 v.A1 v.c1 d.f1 v.A2 v.c2 d.f2 d.f3 d.f4 v.A5 v.c5 d.f5 v.A6 v.c6 d.f6 d1.f0 v1.A1 v1.c1 d1.f1 v1.A2 v1.c2 d1.f2 d1.f3 d1.f4 v1.A5 v1.c5 d1.f5 v1.A6 v1.c6 d1.f6 r w h0.1.1 h0.1.2 h0.2.1.1 h0.2.1.2 h0.2.2.1.1 h0.2.2.1.2 h0.2.2.2.1 h0.2.2.2.2 h1.1.1 h1.1.2 h1.2.1.1 h1.2.1.2 h1.2.2.1.1 h1.2.2.1.2 h1.2.2.2.1 h1.2.2.2.2 h
theorem heldSight_c (k : Nat) (d : ZD) (v : ZV) (a1 : Int) (r : Int) (w : World) (h0 : ZRd w d v) (h : laws_heldSight.f k d.f0 d.f1 d.f2 d.f3 d.f4 d.f5 d.f6 a1 = some r) :
    Calls Try.prog 71 #[d.agg v, .int .i64 a1] w fun e w' => e = .returned (.int .i64 r) ∧ Below w.heap.size w w' :=
  laws_heldSight.calls k d.f0 v.A1 v.c1 d.f1 v.A2 v.c2 d.f2 d.f3 d.f4 v.A5 v.c5 d.f5 v.A6 v.c6 d.f6 a1 r w h0.1.1 h0.1.2 h0.2.1.1 h0.2.1.2 h0.2.2.1.1 h0.2.2.1.2 h0.2.2.2.1 h0.2.2.2.2 h
def laws_markDeal.f (k : Nat) (l0 : List (List Int)) (l3 l4 l5 : List Int) (a1 : Int) : Option Int :=
  (laws_markIntSS.f k l0 a1).bind fun c => (laws_markIntS.f k l3 c.1).bind fun x => (laws_markIntS.f k l4 x.1).bind fun y => (laws_markIntS.f k l5 y.1).bind fun z => some z.1
set_option maxHeartbeats 8000000 in
set_option maxRecDepth 100000 in
theorem laws_markDeal.calls (k : Nat) (P : Nat → Prop) (d : DD) (v : DV) (a1 r : Int) (w0 w : World) (hB : Below w0.heap.size w0 w) (ho : DOwn w w0.heap.size P d v) (h : laws_markDeal.f k d.f0 d.f3 d.f4 d.f5 a1 = some r) :
    Calls Try.prog 69 #[d.agg v, .int .i64 a1] w fun e w' => e = .returned (.int .i64 r) ∧ Below w0.heap.size w0 w' ∧ Kept w w' P := by
  obtain ⟨⟨c, c0⟩, e1, h⟩ := Option.bind_eq_some_iff.mp h
  obtain ⟨⟨x, x3⟩, e2, h⟩ := Option.bind_eq_some_iff.mp h
  obtain ⟨⟨y, y4⟩, e3, h⟩ := Option.bind_eq_some_iff.mp h
  obtain ⟨⟨z, z5⟩, e4, h⟩ := Option.bind_eq_some_iff.mp h
  obtain rfl := Option.some.inj h
  have E1 := Aside0.mk e1
  have E2 := Aside0.mk e2
  have E3 := Aside0.mk e3
  have E4 := Aside0.mk e4
  clear e1 e2 e3 e4 h
  obtain ⟨h0, h3, h4, h5⟩ := ho
  have HP3 := Aside0.mk (fun k e => (h3.1 k e).1)
  have HP4 := Aside0.mk (fun k e => (h4.1 k e).1)
  have HP5 := Aside0.mk (fun k e => (h5.1 k e).1)
  have L3 := Aside0.mk (Kd.R_lt h3)
  have L4 := Aside0.mk (Kd.R_lt h4)
  have L5 := Aside0.mk (Kd.R_lt h5)
  have A4 := Aside0.mk h4.1
  have A5 := Aside0.mk h5.1
  have H0 := Aside0.mk (Kd.S_alloc (Kd.S_bound h0) (.cells (d.cs v) 67))
  have H3 := Aside0.mk (Kd.R_tight rfl (Kd.R_alloc h3 (.cells (d.cs v) 67)))
  have H4 := Aside0.mk (Kd.R_tight rfl (Kd.R_alloc h4 (.cells (d.cs v) 67)))
  have H5 := Aside0.mk (Kd.R_tight rfl (Kd.R_alloc h5 (.cells (d.cs v) 67)))
  have HB := Aside0.mk (below_alloc hB (.cells (d.cs v) 67))
  have B0 := Aside0.mk (blk_new w (.cells (d.cs v) 67))
  clear h0 h3 h4 h5 hB
  dsimp only [DD.agg, DD.cs] at H0 H3 H4 H5 HB B0 ⊢
  go_enter Try.func69, Try.ntmps69
  go_wp2_with (fail)
  refine (laws_markIntSS.calls k _ _ d.f0 a1 c c0 w0 _ HB.out H0.out E1.out).mono ?_
  rintro q w1 ⟨rfl, -, hb1, hk1⟩
  have HB1 := Aside0.mk hb1
  have HK1 := Aside0.mk hk1
  have B1 := Aside0.mk (blk_kept B0.out hk1 (fun h => Nat.lt_irrefl _ h.2.2.1))
  have hc1 := fun i => blk_cell B1.out i
  have H3' := Aside0.mk (Kd.R_kept H3.out hk1 (fun k h e => e.1.2.1 h))
  have H4' := Aside0.mk (Kd.R_kept H4.out hk1 (fun k h e => e.1.2.2.1 h))
  have H5' := Aside0.mk (Kd.R_kept H5.out hk1 (fun k h e => e.1.2.2.2 h))
  clear hb1 hk1 H0 H3 H4 H5 HB B0
  go_wp2_with (fail)
  refine (laws_markIntS.calls k _ _ d.f3 c x x3 w0 _ HB1.out H3'.out E2.out).mono ?_
  rintro q w2 ⟨rfl, -, hb2, hk2⟩
  have HB2 := Aside0.mk hb2
  have HK2 := Aside0.mk hk2
  have B2 := Aside0.mk (blk_kept B1.out hk2 (fun h => Nat.lt_irrefl _ (L3.out _ h.symm)))
  have hc2 := fun i => blk_cell B2.out i
  have H4 := Aside0.mk (Kd.R_kept H4'.out hk2 (fun k h e => (A4.out k h.symm).2.1 e))
  have H5 := Aside0.mk (Kd.R_kept H5'.out hk2 (fun k h e => (A5.out k h.symm).2.1 e))
  clear hb2 hk2 hc1 H3' H4' H5' HB1 B1
  go_wp2_with (fail)
  refine (laws_markIntS.calls k _ _ d.f4 x y y4 w0 _ HB2.out H4.out E3.out).mono ?_
  rintro q w3 ⟨rfl, -, hb3, hk3⟩
  have HB3 := Aside0.mk hb3
  have HK3 := Aside0.mk hk3
  have B3 := Aside0.mk (blk_kept B2.out hk3 (fun h => Nat.lt_irrefl _ (L4.out _ h.symm)))
  have hc3 := fun i => blk_cell B3.out i
  have H5' := Aside0.mk (Kd.R_kept H5.out hk3 (fun k h e => (A5.out k h.symm).2.2 e))
  clear hb3 hk3 hc2 H4 H5 HB2 B2
  go_wp2_with (fail)
  refine (laws_markIntS.calls k _ _ d.f5 y z z5 w0 _ HB3.out H5'.out E4.out).mono ?_
  rintro q w4 ⟨rfl, -, hb4, hk4⟩
  have HB4 := Aside0.mk hb4
  have HK4 := Aside0.mk hk4
  clear hb4 hk4 hc3 H5' HB3 B3
  go_wp2
  go_ret
  exact ⟨rfl, HB4.out, ((((Kept.refl w P).alloc _).then_ HK1.out (fun k h => .inl h.1.1)).then_ HK2.out (fun k h => .inl (HP3.out k h.symm)) |>.then_ HK3.out (fun k h => .inl (HP4.out k h.symm)) |>.then_ HK4.out (fun k h => .inl (HP5.out k h.symm)))⟩
theorem own_len (A : Option Addr) (c n m : Nat) : (Value.slice A n c).ownBlock = (Value.slice A m c).ownBlock := by cases A <;> rfl
theorem markSight_c (k : Nat) (Q : Nat → Prop) (d : ZD) (v : ZV) (a1 r : Int) (n1 n2 n5 n6 : List Int) (w0 w : World) (hB : Below w0.heap.size w0 w) (ho : ZOwn w w0.heap.size Q d v) (h : laws_markSight.f k d.f0 d.f1 d.f2 d.f3 d.f4 d.f5 d.f6 a1 = some (r, n1, n2, n5, n6)) :
    Calls Try.prog 70 #[d.agg v, .int .i64 a1] w fun x w' => x = .returned (.int .i64 r) ∧ (d.f1.length = n1.length ∧ d.f2.length = n2.length ∧ d.f5.length = n5.length ∧ d.f6.length = n6.length) ∧ ZOwn w' w0.heap.size Q ⟨d.f0, n1, n2, d.f3, d.f4, n5, n6⟩ v ∧ Below w0.heap.size w0 w' ∧ Kept w w' Q := by
  obtain ⟨h1, h2, h5, h6⟩ := ho
  have q1 := h1.1
  have q2 := h2.1
  have q5 := h5.1
  have q6 := h6.1
  refine (laws_markSight.calls k d.f0 _ (.slice v.A1 d.f1.length v.c1) d.f1 _ (.slice v.A2 d.f2.length v.c2) d.f2 d.f3 d.f4 _ (.slice v.A5 d.f5.length v.c5) d.f5 _ (.slice v.A6 d.f6.length v.c6) d.f6 a1 r n1 n2 n5 n6 w0 w hB
    (Kd.R_tight rfl h1) (fun k h e => (q1 k h.symm).2.1 e) (fun k h e => (q1 k h.symm).2.2.1 e) (fun k h e => (q1 k h.symm).2.2.2 e)
    (Kd.R_tight rfl h2) (fun k h e => (q2 k h.symm).2.1 e) (fun k h e => (q2 k h.symm).2.2.1 e) (fun k h e => (q2 k h.symm).2.2.2 e)
    (Kd.R_tight rfl h5) (fun k h e => (q5 k h.symm).2.1 e) (fun k h e => (q5 k h.symm).2.2.1 e) (fun k h e => (q5 k h.symm).2.2.2 e)
    (Kd.R_tight rfl h6) (fun k h e => (q6 k h.symm).2.1 e) (fun k h e => (q6 k h.symm).2.2.1 e) (fun k h e => (q6 k h.symm).2.2.2 e) h).mono ?_
  rintro x w' ⟨rfl, g1, g2, g5, g6, hb, hk⟩
  have l1 := (Kd.R_reads' g1).1
  have l2 := (Kd.R_reads' g2).1
  have l5 := (Kd.R_reads' g5).1
  have l6 := (Kd.R_reads' g6).1
  have w1 := own_len v.A1 v.c1 d.f1.length n1.length
  have w2 := own_len v.A2 v.c2 d.f2.length n2.length
  have w5 := own_len v.A5 v.c5 d.f5.length n5.length
  have w6 := own_len v.A6 v.c6 d.f6.length n6.length
  refine ⟨rfl, ⟨l1, l2, l5, l6⟩, ?_, hb, (Kept.refl w Q).then_ hk (fun k h => .inl ?_)⟩
  · have t1 := Kd.R_mono (Kd.R_tight rfl g1) (fun k e => q1 k e.symm)
    have t2 := Kd.R_mono (Kd.R_tight rfl g2) (fun k e => q2 k e.symm)
    have t5 := Kd.R_mono (Kd.R_tight rfl g5) (fun k e => q5 k e.symm)
    have t6 := Kd.R_mono (Kd.R_tight rfl g6) (fun k e => q6 k e.symm)
    rw [l1, w2, w5, w6] at t1
    rw [l2, w1, w5, w6] at t2
    rw [l5, w1, w2, w6] at t5
    rw [l6, w1, w2, w5] at t6
    exact ⟨t1, t2, t5, t6⟩
  · rcases h with h | h | h | h
    · exact (q1 k h.symm).1
    · exact (q2 k h.symm).1
    · exact (q5 k h.symm).1
    · exact (q6 k h.symm).1

/-! ### the law -/
def laws_FnExactSightOf.f (k : Nat) (l0_0 : List (List Int)) (a0_1 : Int) (a0_2 : Int) (l0_3 : List Int) (l0_4 : List Int) (l0_5 : List Int) (a0_6 : Int) (a1 : Int) : Option Bool :=
  (laws_szDeal.f k l0_0 a0_1 a0_2 l0_3 l0_4 l0_5 a0_6 1048576).bind fun L => if L < 0 then some true else (laws_toDeal.f k l0_0 a0_1 a0_2 l0_3 l0_4 l0_5 a0_6).bind fun e => (spec_SightOf.f k e.1 e.2.1 e.2.2.1 e.2.2.2.1 e.2.2.2.2.1 e.2.2.2.2.2.1 e.2.2.2.2.2.2 a1).bind fun s => (impl_SightOf.f k e.1 e.2.1 e.2.2.1 e.2.2.2.1 e.2.2.2.2.1 e.2.2.2.2.2.1 e.2.2.2.2.2.2 a1).bind fun g => (laws_eqSight.f k g.1 g.2.1 g.2.2.1 g.2.2.2.1 g.2.2.2.2.1 g.2.2.2.2.2.1 g.2.2.2.2.2.2.1 s.1 s.2.1 s.2.2.1 s.2.2.2.1 s.2.2.2.2.1 s.2.2.2.2.2.1 s.2.2.2.2.2.2.1).bind fun c1 => (laws_eqDeal.f k e.1 e.2.1 e.2.2.1 e.2.2.2.1 e.2.2.2.2.1 e.2.2.2.2.2.1 e.2.2.2.2.2.2 e.1 e.2.1 e.2.2.1 e.2.2.2.1 e.2.2.2.2.1 e.2.2.2.2.2.1 e.2.2.2.2.2.2).bind fun c2 => (laws_markDeal.f k e.1 e.2.2.2.1 e.2.2.2.2.1 e.2.2.2.2.2.1 1).bind fun m => (laws_markSight.f k g.1 g.2.1 g.2.2.1 g.2.2.2.1 g.2.2.2.2.1 g.2.2.2.2.2.1 g.2.2.2.2.2.2.1 1).bind fun n => (laws_heldSight.f k g.1 n.2.1 n.2.2.1 g.2.2.2.1 g.2.2.2.2.1 n.2.2.2.1 n.2.2.2.2 1).bind fun q =>
    if c1 = true ∧ c2 = true ∧ g.2.2.2.2.2.2.2 = s.2.2.2.2.2.2.2 ∧ 0 ≤ m ∧ 0 ≤ n.1 ∧ q = n.1 then some true else none
set_option maxHeartbeats 8000000 in
set_option maxRecDepth 100000 in
theorem laws_FnExactSightOf.small (k : Nat) (d : DD) (v : DV) (a1 L : Int) (w : World) (hr : DRd w d v) (E0 : Aside0 (laws_szDeal.f k d.f0 d.f1 d.f2 d.f3 d.f4 d.f5 d.f6 1048576 = some L)) (hL : L < 0) :
    Calls Try.prog 13 #[d.agg v, .int .i64 a1] w fun x w' => x = .returned (.bool true) ∧ Below w.heap.size w w' := by
  have R0 := Aside0.mk (hr.below (below_alloc (Below.refl _ _) (.cells (d.cs v) 64)))
  have hL0 : decide (L < 0) = true := decide_eq_true hL
  clear hr hL
  dsimp only [DD.agg, DD.cs] at R0 ⊢
  go_enter Try.func13, Try.ntmps13
  go_wp2_with (fail)
  refine (szDeal_c k d v 1048576 L _ R0.out E0.out).mono ?_
  rintro x w1 ⟨rfl, hb1⟩
  go_wp2
  go_ret
  exact ⟨rfl, below_then ((Below.refl w.heap.size w).alloc (Nat.le_refl _) _) (by simp) hb1⟩
set_option maxHeartbeats 8000000 in
set_option maxRecDepth 100000 in
theorem laws_FnExactSightOf.walk (k : Nat) (d e : DD) (s g : ZD) (v : DV) (a1 L m n : Int) (n1 n2 n5 n6 : List Int) (b : Bool) (w : World) (hr : DRd w d v) (E0 : Aside0 (laws_szDeal.f k d.f0 d.f1 d.f2 d.f3 d.f4 d.f5 d.f6 1048576 = some L)) (hL : ¬ L < 0) (E1 : Aside0 (laws_toDeal.f k d.f0 d.f1 d.f2 d.f3 d.f4 d.f5 d.f6 = some (e.f0, e.f1, e.f2, e.f3, e.f4, e.f5, e.f6)))
    (E2 : Aside0 (spec_SightOf.f k e.f0 e.f1 e.f2 e.f3 e.f4 e.f5 e.f6 a1 = some (s.f0, s.f1, s.f2, s.f3, s.f4, s.f5, s.f6, b))) (E3 : Aside0 (impl_SightOf.f k e.f0 e.f1 e.f2 e.f3 e.f4 e.f5 e.f6 a1 = some (g.f0, g.f1, g.f2, g.f3, g.f4, g.f5, g.f6, b))) (E4 : Aside0 (laws_eqSight.f k g.f0 g.f1 g.f2 g.f3 g.f4 g.f5 g.f6 s.f0 s.f1 s.f2 s.f3 s.f4 s.f5 s.f6 = some true)) (E5 : Aside0 (laws_eqDeal.f k e.f0 e.f1 e.f2 e.f3 e.f4 e.f5 e.f6 e.f0 e.f1 e.f2 e.f3 e.f4 e.f5 e.f6 = some true))
    (E6 : Aside0 (laws_markDeal.f k e.f0 e.f3 e.f4 e.f5 1 = some m)) (hm : 0 ≤ m) (E7 : Aside0 (laws_markSight.f k g.f0 g.f1 g.f2 g.f3 g.f4 g.f5 g.f6 1 = some (n, n1, n2, n5, n6))) (hn : 0 ≤ n) (E8 : Aside0 (laws_heldSight.f k g.f0 n1 n2 g.f3 g.f4 n5 n6 1 = some n)) :
    Calls Try.prog 13 #[d.agg v, .int .i64 a1] w fun x w' => x = .returned (.bool true) ∧ Below w.heap.size w w' := by
  have R0 := Aside0.mk (hr.below (below_alloc (Below.refl _ _) (.cells (d.cs v) 64)))
  have hL0 : decide (L < 0) = false := decide_eq_false hL
  have hm0 : decide (m < 0) = false := decide_eq_false (by omega)
  have hn0 : decide (n < 0) = false := decide_eq_false (by omega)
  have RW := Aside0.mk hr
  have B0 := Aside0.mk (blk_new w (.cells (d.cs v) 64))
  have HB0 : Aside0 (Below w.heap.size w (w.alloc (.cells (d.cs v) 64))) := ⟨(Below.refl w.heap.size w).alloc (Nat.le_refl _) _⟩
  clear hr hL hm hn
  dsimp only [DD.agg, DD.cs] at R0 B0 HB0 ⊢
  go_enter Try.func13, Try.ntmps13
  go_wp2_with (fail)
  refine (szDeal_c k d v 1048576 L _ R0.out E0.out).mono ?_
  rintro x w1 ⟨rfl, hb1⟩
  have B1 := Aside0.mk (blk_below B0.out hb1)
  have HB1 := Aside0.mk (below_step HB0.out hb1)
  have hc1 := fun i => blk_cell B1.out i
  clear hb1 R0 B0 HB0
  go_wp2_with (fail)
  refine (toDeal_c k d v e _ (RW.out.below HB1.out) E1.out).mono ?_
  rintro x w2 ⟨u1, rfl, o1, hb2⟩
  have O1 := Aside0.mk o1.rd
  have B2 := Aside0.mk (blk_below B1.out hb2)
  have HB2 := Aside0.mk (below_step HB1.out hb2)
  clear hb2 B1 HB1 hc1 o1
  go_wp2_with (fail)
  refine (specX_c k e u1 a1 s b _ O1.out E2.out).mono ?_
  rintro x w3 ⟨us, rfl, o3, hb3⟩
  have D3 : Aside0 (Below w3.heap.size w3 (w3.alloc (.cells (s.cs us) 84))) := ⟨(Below.refl _ _).alloc (Nat.le_refl _) _⟩
  have O3 := Aside0.mk (o3.below D3.out)
  have HB3 := Aside0.mk (below_step HB2.out hb3)
  have B3 := Aside0.mk (blk_below (blk_below B2.out hb3) D3.out)
  have LW3 := Aside0.mk (blk_lt (blk_below B2.out hb3))
  have C3 := Aside0.mk (blk_new w3 (.cells (s.cs us) 84))
  clear o3 hb3 O1 B2 HB2
  dsimp only [ZD.cs] at O3 B3 C3 D3
  have hc3 := fun i => blk_cell B3.out i
  go_wp2_with (fail)
  refine (toDeal_c k d v e _ (RW.out.below (below_step HB3.out D3.out)) E1.out).mono ?_
  rintro x w4 ⟨u, rfl, o4, hb4⟩
  have HA4 : Aside0 (Below w4.heap.size w4 (w4.alloc (.cells (e.cs u) 67))) := ⟨(Below.refl _ _).alloc (Nat.le_refl _) _⟩
  have LT4 : Aside0 (w3.heap.size < w4.heap.size) := ⟨by have := hb4.size; simp at this; omega⟩
  have X4 := Aside0.mk (((o4.mono (fun k h => (⟨by have := h.1; simp at this; omega, h.2⟩ : w3.heap.size < k ∧ k < w4.heap.size))).lower (by simp : w3.heap.size ≤ _)).below HA4.out)
  have F4 := Aside0.mk (blk_new w4 (.cells (e.cs u) 67))
  have O4 := Aside0.mk ((O3.out.below hb4).below HA4.out)
  have B4 := Aside0.mk (blk_below (blk_below B3.out hb4) HA4.out)
  have C4 := Aside0.mk (blk_below (blk_below C3.out hb4) HA4.out)
  have D4 := Aside0.mk (below_step (below_step D3.out hb4) HA4.out)
  clear o4 hb4 O3 B3 C3 D3 HA4 hc3
  dsimp only [DD.cs] at X4 F4 O4 B4 C4 D4
  go_wp2_with (fail)
  refine (implX_c k e u a1 g b _ X4.out.rd E3.out).mono ?_
  rintro x w5 ⟨ug, rfl, o5, hb5⟩
  have HA5 : Aside0 (Below w5.heap.size w5 (w5.alloc (.cells (g.cs ug) 84))) := ⟨(Below.refl _ _).alloc (Nat.le_refl _) _⟩
  have LT5 : Aside0 (w4.heap.size < w5.heap.size) := ⟨by have := hb5.size; simp at this; omega⟩
  have G5 := Aside0.mk (((o5.mono (fun k h => (⟨by have := h.1; simp at this; omega, h.2⟩ : w4.heap.size < k ∧ k < w5.heap.size))).lower (by have := LT4.out; simp; omega : w3.heap.size ≤ _)).below HA5.out)
  have H5 := Aside0.mk (blk_new w5 (.cells (g.cs ug) 84))
  have X5 := Aside0.mk ((X4.out.below hb5).below HA5.out)
  have F5 := Aside0.mk (blk_below (blk_below F4.out hb5) HA5.out)
  have O5 := Aside0.mk ((O4.out.below hb5).below HA5.out)
  have B5 := Aside0.mk (blk_below (blk_below B4.out hb5) HA5.out)
  have C5 := Aside0.mk (blk_below (blk_below C4.out hb5) HA5.out)
  have D5 := Aside0.mk (below_step (below_step D4.out hb5) HA5.out)
  clear o5 hb5 X4 F4 O4 B4 C4 D4 HA5
  dsimp only [ZD.cs] at G5 H5 X5 F5 O5 B5 C5 D5
  have hc5 := fun i => blk_cell C5.out i
  go_wp2_with (fail)
  refine (eqSight_c k g ug s us true _ G5.out.rd O5.out.rd E4.out).mono ?_
  rintro x w6 ⟨rfl, hb6⟩
  have O6 := Aside0.mk (O5.out.below hb6)
  have G6 := Aside0.mk (G5.out.below hb6)
  have X6 := Aside0.mk (X5.out.below hb6)
  have B6 := Aside0.mk (blk_below B5.out hb6)
  have C6 := Aside0.mk (blk_below C5.out hb6)
  have F6 := Aside0.mk (blk_below F5.out hb6)
  have H6 := Aside0.mk (blk_below H5.out hb6)
  have D6 := Aside0.mk (below_step D5.out hb6)
  clear hb6 O5 G5 X5 B5 C5 F5 H5 D5
  clear hc5
  go_wp2
  have hb7 : Below w6.heap.size w6 w6.drew := below_drew (Below.refl _ _)
  have O7 := Aside0.mk (O6.out.below hb7)
  have G7 := Aside0.mk (G6.out.below hb7)
  have X7 := Aside0.mk (X6.out.below hb7)
  have B7 := Aside0.mk (blk_below B6.out hb7)
  have C7 := Aside0.mk (blk_below C6.out hb7)
  have F7 := Aside0.mk (blk_below F6.out hb7)
  have H7 := Aside0.mk (blk_below H6.out hb7)
  have D7 := Aside0.mk (below_step D6.out hb7)
  clear hb7 O6 G6 X6 B6 C6 F6 H6 D6
  refine start_ (n := 5) (S := fun w' => (∀ i, w'.cell? ⟨w4.heap.size, i, none⟩ = #[.slice u.A0 e.f0.length u.c0, .int .i64 e.f1, .int .i64 e.f2, .slice u.A3 e.f3.length u.c3, .slice u.A4 e.f4.length u.c4, .slice u.A5 e.f5.length u.c5, .int .i64 e.f6][i]?) ∧ (∀ i, w'.cell? ⟨w.heap.size, i, none⟩ = #[.slice v.A0 d.f0.length v.c0, .int .i64 d.f1, .int .i64 d.f2, .slice v.A3 d.f3.length v.c3, .slice v.A4 d.f4.length v.c4, .slice v.A5 d.f5.length v.c5, .int .i64 d.f6][i]?)) (ds := []) #[false, false, false, false, false] (by kernel_rfl) rfl rfl ⟨fun i => blk_cell F7.out i, fun i => blk_cell B7.out i⟩ (fun hHeld => ?_)
  generalize w6.drew = w7 at *
  refine take_ (i := 0) (N := some 45) (v := ?_) (a' := ?_) #[true, false, false, false, false] rfl rfl (by kernel_rfl) (fun _ _ _ h => h) (Or.inl ⟨by rfl, ?_⟩) hHeld ?_ ?_
  rotate_left
  · rintro w' ⟨s0, s1⟩
    go_simp
    with_reducible rfl
  rotate_left
  · simp only [Act.put, List.setIfInBounds_toArray, List.set_cons_zero, List.set_cons_succ, i64_w, i32_w]
    rfl
  refine take_ (i := 1) (N := some 46) (v := ?_) (a' := ?_) #[true, true, false, false, false] rfl rfl (by kernel_rfl) (fun _ _ _ h => h) (Or.inl ⟨by rfl, ?_⟩) hHeld ?_ ?_
  rotate_left
  · rintro w' ⟨s0, s1⟩
    go_simp
    with_reducible rfl
  rotate_left
  · simp only [Act.put, List.setIfInBounds_toArray, List.set_cons_zero, List.set_cons_succ, i64_w, i32_w]
    rfl
  refine one_ (i := 2) (N := some 47) #[true, true, true, false, false] rfl rfl (by kernel_rfl) (by decide) (fun K hK => ?_)
  refine goes_ Try.func50 (by kernel_rfl) rfl #[d.agg v] (by rfl) rfl rfl (by (try simp only [List.map_toArray, List.map_cons, List.map_nil]); rfl) ?_
  refine (toDeal_c k d v e _ (RW.out.below (below_step HB3.out D7.out)) E1.out).mono ?_
  rintro x w8 ⟨u2, rfl, o8, hb8⟩
  refine ⟨_, rfl, ?_⟩
  have O8 := Aside0.mk (O7.out.below hb8)
  have G8 := Aside0.mk (G7.out.below hb8)
  have X8 := Aside0.mk (X7.out.below hb8)
  have B8 := Aside0.mk (blk_below B7.out hb8)
  have C8 := Aside0.mk (blk_below C7.out hb8)
  have F8 := Aside0.mk (blk_below F7.out hb8)
  have H8 := Aside0.mk (blk_below H7.out hb8)
  have D8 := Aside0.mk (below_step D7.out hb8)
  clear hb8 O7 G7 X7 B7 C7 F7 H7 D7
  have Q8 := Aside0.mk o8.rd
  clear hHeld o8
  refine hK.out _ _ ⟨fun i => blk_cell F8.out i, fun i => blk_cell B8.out i⟩ (fun hHeld => ?_)
  clear hK K
  refine norm_ (a' := ?_) ?_ ?_
  rotate_left
  · show Act.put _ (some 47) _ = _
    simp only [Act.put, List.setIfInBounds_toArray, List.set_cons_zero, List.set_cons_succ, i64_w, i32_w]
    rfl
  refine one_ (i := 3) (N := some 48) #[true, true, true, true, false] rfl rfl (by kernel_rfl) (by decide) (fun K hK => ?_)
  refine goes_ Try.func52 (by kernel_rfl) rfl #[e.agg u, e.agg u2] (by rfl) rfl rfl (by (try simp only [List.map_toArray, List.map_cons, List.map_nil]); rfl) ?_
  refine (eqDeal_c k e u e u2 true _ X8.out.rd Q8.out E5.out).mono ?_
  rintro x w9 ⟨rfl, hb9⟩
  refine ⟨_, rfl, ?_⟩
  have O9 := Aside0.mk (O8.out.below hb9)
  have G9 := Aside0.mk (G8.out.below hb9)
  have X9 := Aside0.mk (X8.out.below hb9)
  have B9 := Aside0.mk (blk_below B8.out hb9)
  have C9 := Aside0.mk (blk_below C8.out hb9)
  have F9 := Aside0.mk (blk_below F8.out hb9)
  have H9 := Aside0.mk (blk_below H8.out hb9)
  have D9 := Aside0.mk (below_step D8.out hb9)
  clear hb9 O8 G8 X8 B8 C8 F8 H8 D8
  clear hHeld Q8
  refine hK.out _ _ ⟨fun i => blk_cell F9.out i, fun i => blk_cell B9.out i⟩ (fun hHeld => ?_)
  clear hK K
  refine norm_ (a' := ?_) ?_ ?_
  rotate_left
  · show Act.put _ (some 48) _ = _
    simp only [Act.put, List.setIfInBounds_toArray, List.set_cons_zero, List.set_cons_succ, i64_w, i32_w]
    rfl
  refine pure_ (i := 4) (N := some 49) (v := ?_) (a' := ?_) #[true, true, true, true, true] rfl rfl (by kernel_rfl) (fun _ _ _ h => h) (Or.inl ⟨by rfl, ?_⟩) ?_ ?_
  rotate_left
  · intro w'
    go_simp
    with_reducible rfl
  rotate_left
  · simp only [Act.put, List.setIfInBounds_toArray, List.set_cons_zero, List.set_cons_succ, i64_w, i32_w]
    rfl
  refine done_ (by kernel_rfl) ?_
  have hf9 := fun i => blk_cell F9.out i
  clear hHeld
  go_wp2_with (fail)
  refine (laws_markDeal.calls k _ e u 1 m w3 _ D9.out X9.out E6.out).mono ?_
  rintro x w10 ⟨rfl, D10, hk10⟩
  have O10 := Aside0.mk (O9.out.kept hk10 (fun k h h2 => by have := h.2; have := h2.1; omega))
  have G10 := Aside0.mk (G9.out.kept hk10 (fun k h h2 => by have := h.1; have := h2.2; omega))
  have B10 := Aside0.mk (blk_kept B9.out hk10 (fun h2 => by have := h2.1; have := LW3.out; omega))
  have C10 := Aside0.mk (blk_kept C9.out hk10 (fun h2 => Nat.lt_irrefl _ h2.1))
  have H10 := Aside0.mk (blk_kept H9.out hk10 (fun h2 => by have := h2.2; have := LT5.out; omega))
  have D10 := Aside0.mk D10
  have hc10 := fun i => blk_cell C10.out i
  have hh10 := fun i => blk_cell H10.out i
  clear hk10 hf9 O9 G9 B9 C9 H9 D9 X9 F9
  go_wp2_with (fail)
  refine (eqSight_c k g ug s us true _ G10.out.rd O10.out.rd E4.out).mono ?_
  rintro x w11 ⟨rfl, hb11⟩
  have O11 := Aside0.mk (O10.out.below hb11)
  have G11 := Aside0.mk (G10.out.below hb11)
  have B11 := Aside0.mk (blk_below B10.out hb11)
  have C11 := Aside0.mk (blk_below C10.out hb11)
  have H11 := Aside0.mk (blk_below H10.out hb11)
  have D11 := Aside0.mk (below_step D10.out hb11)
  clear hb11 O10 G10 B10 C10 H10 D10
  have hh11 := fun i => blk_cell H11.out i
  clear hc10 hh10
  go_wp2_with (fail)
  refine (markSight_c k _ g ug 1 n n1 n2 n5 n6 w3 _ D11.out G11.out E7.out).mono ?_
  rintro x w12 ⟨rfl, ⟨l1, l2, l5, l6⟩, G12, D12, hk12⟩
  have O12 := Aside0.mk (O11.out.kept hk12 (fun k h h2 => by have := h.2; have := h2.1; have := LT4.out; omega))
  have B12 := Aside0.mk (blk_kept B11.out hk12 (fun h2 => by have := h2.1; have := LW3.out; have := LT4.out; omega))
  have C12 := Aside0.mk (blk_kept C11.out hk12 (fun h2 => by have := h2.1; have := LT4.out; omega))
  have H12 := blk_kept H11.out hk12 (fun h2 => Nat.lt_irrefl _ h2.2)
  rw [l1, l2, l5, l6] at H12
  have H12 := Aside0.mk H12
  have G12 := Aside0.mk G12
  have D12 := Aside0.mk D12
  have hh12 := fun i => blk_cell H12.out i
  clear hk12 hh11 O11 G11 B11 C11 H11 D11 l1 l2 l5 l6
  go_wp2_with (fail)
  refine (heldSight_c k ⟨g.f0, n1, n2, g.f3, g.f4, n5, n6⟩ ug 1 n _ G12.out.rd E8.out).mono ?_
  rintro x w13 ⟨rfl, hb13⟩
  have O13 := Aside0.mk (O12.out.below hb13)
  have G13 := Aside0.mk (G12.out.below hb13)
  have B13 := Aside0.mk (blk_below B12.out hb13)
  have C13 := Aside0.mk (blk_below C12.out hb13)
  have H13 := Aside0.mk (blk_below H12.out hb13)
  have D13 := Aside0.mk (below_step D12.out hb13)
  clear hb13 O12 G12 B12 C12 H12 D12
  have hb13 := fun i => blk_cell B13.out i
  clear hh12
  go_wp2_with (fail)
  refine (toDeal_c k d v e _ (RW.out.below (below_step HB3.out D13.out)) E1.out).mono ?_
  rintro x w14 ⟨u3, rfl, o14, hb14⟩
  have Q14 := Aside0.mk o14.rd
  have O14 := Aside0.mk (O13.out.below hb14)
  have G14 := Aside0.mk (G13.out.below hb14)
  have C14 := Aside0.mk (blk_below C13.out hb14)
  have H14 := Aside0.mk (blk_below H13.out hb14)
  have D14 := Aside0.mk (below_step D13.out hb14)
  clear hb14 O13 G13 C13 H13 D13
  clear hb13 o14
  go_wp2_with (fail)
  refine (implX_c k e u3 a1 g b _ Q14.out E3.out).mono ?_
  rintro x w15 ⟨uh, rfl, o15, hb15⟩
  have HA15 : Below w15.heap.size w15 (w15.alloc (.cells (g.cs uh) 84)) := (Below.refl _ _).alloc (Nat.le_refl _) _
  have I15 := Aside0.mk (o15.below HA15)
  have hb15 := below_step hb15 HA15
  have O15 := Aside0.mk (O14.out.below hb15)
  have G15 := Aside0.mk (G14.out.below hb15)
  have C15 := Aside0.mk (blk_below C14.out hb15)
  have H15 := Aside0.mk (blk_below H14.out hb15)
  have D15 := Aside0.mk (below_step D14.out hb15)
  clear hb15 O14 G14 C14 H14 D14
  clear o15 Q14 HA15
  dsimp only [ZD.cs] at I15 O15 G15 C15 H15 D15
  have hc15 := fun i => blk_cell C15.out i
  go_wp2_with (fail)
  refine (eqSight_c k g uh s us true _ I15.out.rd O15.out.rd E4.out).mono ?_
  rintro x w16 ⟨rfl, hb16⟩
  have G16 := Aside0.mk (G15.out.below hb16)
  have H16 := Aside0.mk (blk_below H15.out hb16)
  have D16 := Aside0.mk (below_step D15.out hb16)
  clear hb16 G15 H15 D15 O15 C15 I15 hc15
  have hh16 := fun i => blk_cell H16.out i
  go_wp2_with (fail)
  refine (heldSight_c k ⟨g.f0, n1, n2, g.f3, g.f4, n5, n6⟩ ug 1 n _ G16.out.rd E8.out).mono ?_
  rintro x w17 ⟨rfl, hb17⟩
  go_wp2
  go_ret
  exact ⟨rfl, below_step HB3.out (below_step D16.out hb17)⟩
theorem laws_FnExactSightOf.calls (k : Nat) (A0_0 : Option Addr) (c0_0 : Nat) (l0_0 : List (List Int)) (a0_1 : Int) (a0_2 : Int) (A0_3 : Option Addr) (c0_3 : Nat) (l0_3 : List Int) (A0_4 : Option Addr) (c0_4 : Nat) (l0_4 : List Int) (A0_5 : Option Addr) (c0_5 : Nat) (l0_5 : List Int) (a0_6 : Int) (a1 : Int) (r : Bool) (w : World) (hr0_0 : Kd.C (Kd.slice 3 (Kd.int .i64)) w A0_0 l0_0.length l0_0) (hc0_0 : l0_0.length ≤ c0_0) (hr0_3 : Kd.C (Kd.int .i64) w A0_3 l0_3.length l0_3) (hc0_3 : l0_3.length ≤ c0_3) (hr0_4 : Kd.C (Kd.int .i64) w A0_4 l0_4.length l0_4) (hc0_4 : l0_4.length ≤ c0_4) (hr0_5 : Kd.C (Kd.int .i64) w A0_5 l0_5.length l0_5) (hc0_5 : l0_5.length ≤ c0_5) (h : laws_FnExactSightOf.f k l0_0 a0_1 a0_2 l0_3 l0_4 l0_5 a0_6 a1 = some r) (hT : r = true) :
    Calls Try.prog 13 #[.agg #[.slice A0_0 l0_0.length c0_0, .int .i64 a0_1, .int .i64 a0_2, .slice A0_3 l0_3.length c0_3, .slice A0_4 l0_4.length c0_4, .slice A0_5 l0_5.length c0_5, .int .i64 a0_6], .int .i64 a1] w fun x w' => x = .returned (.bool r) ∧ Below w.heap.size w w' := by
  subst hT
  obtain ⟨L, e0, h⟩ := Option.bind_eq_some_iff.mp h
  by_cases hL : L < 0
  · exact laws_FnExactSightOf.small k ⟨l0_0, a0_1, a0_2, l0_3, l0_4, l0_5, a0_6⟩ ⟨A0_0, c0_0, A0_3, c0_3, A0_4, c0_4, A0_5, c0_5⟩ a1 L w ⟨⟨hr0_0, hc0_0⟩, ⟨hr0_3, hc0_3⟩, ⟨hr0_4, hc0_4⟩, ⟨hr0_5, hc0_5⟩⟩ ⟨e0⟩ hL
  · rw [if_neg hL] at h
    obtain ⟨⟨d0, d1, d2, d3, d4, d5, d6⟩, e1, h⟩ := Option.bind_eq_some_iff.mp h
    obtain ⟨⟨s0, s1, s2, s3, s4, s5, s6, b⟩, e2, h⟩ := Option.bind_eq_some_iff.mp h
    obtain ⟨⟨g0, g1, g2, g3, g4, g5, g6, b2⟩, e3, h⟩ := Option.bind_eq_some_iff.mp h
    obtain ⟨c1, e4, h⟩ := Option.bind_eq_some_iff.mp h
    obtain ⟨c2, e5, h⟩ := Option.bind_eq_some_iff.mp h
    obtain ⟨m, e6, h⟩ := Option.bind_eq_some_iff.mp h
    obtain ⟨⟨n, n1, n2, n5, n6⟩, e7, h⟩ := Option.bind_eq_some_iff.mp h
    obtain ⟨q, e8, h⟩ := Option.bind_eq_some_iff.mp h
    split at h
    · rename_i hc
      obtain ⟨rfl, rfl, hb, hm, hn, rfl⟩ := hc
      simp only at hb
      subst hb
      exact laws_FnExactSightOf.walk k ⟨l0_0, a0_1, a0_2, l0_3, l0_4, l0_5, a0_6⟩ ⟨d0, d1, d2, d3, d4, d5, d6⟩ ⟨s0, s1, s2, s3, s4, s5, s6⟩ ⟨g0, g1, g2, g3, g4, g5, g6⟩ ⟨A0_0, c0_0, A0_3, c0_3, A0_4, c0_4, A0_5, c0_5⟩ a1 L m _ n1 n2 n5 n6 _ w ⟨⟨hr0_0, hc0_0⟩, ⟨hr0_3, hc0_3⟩, ⟨hr0_4, hc0_4⟩, ⟨hr0_5, hc0_5⟩⟩ ⟨e0⟩ hL ⟨e1⟩ ⟨e2⟩ ⟨e3⟩ ⟨e4⟩ ⟨e5⟩ ⟨e6⟩ hm ⟨e7⟩ hn ⟨e8⟩
    · exact absurd h (by simp)

end Go.Proofs.Ytkhgeockdjjhmaa.QFnExactSightOf
