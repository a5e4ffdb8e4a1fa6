/- What a call of each Go function that FnExactNewPatience reaches comes to, as a Lean function: texts of the kit's print, turned by wip/remake.py. No condition beyond what each names. -/
import Derived.Test.YtdakhelapeojgaaQFnExactNewPatiencex2
namespace Go.Proofs.Ytdakhelapeojgaa.QFnExactNewPatience
open Go.RowKit Go.Proofs.YtdakhelapeojgaaW.PrintWords Go.Proofs.YtdakhelapeojgaaW.PrintLast Go.Proofs.YtdakhelapeojgaaW.PrintMore
attribute [local go_sem] max2_int min2_int max_two min_two max_three min_three max_four min_four   -- for this text's walks alone
set_option linter.unusedVariables false
set_option linter.unusedSimpArgs false

/-! ### laws_markPileS -/
def laws_markPileS.l0 : Nat → List S27 → Int → Int → Option (Int × List S27)
  | 0, _, _, _ => none
  | k + 1, x0, x1, x5 => if x5 < (x0.length : Int) then (if 0 ≤ x5 then ((laws_markIntS.f k (rd_T27 x0 x5).f0 x1).bind fun b => laws_markPileS.l0 k (x0.set x5.toNat ⟨b.2, b.1⟩) (wrap64 (b.1 + 1)) (wrap64 (x5 + 1))) else none) else some (x1, x0)
def laws_markPileS.f (k : Nat) (l0 : List S27) (a1 : Int) : Option (Int × List S27) := laws_markPileS.l0 k l0 a1 0
/-- A pile's cards are lent, and come back with other numbers; its other number is written then. -/
theorem laws_markPileS.lend {e base g n cap : Nat} {ok : Nat → Prop} {w : World} {xs : List S27} (h : Kd.S k27 e w base ok (.slice (some ⟨g, 0, none⟩) n cap) xs) (i : Int) (h0 : 0 ≤ i) (h1 : i < n) :
    ∃ (oki : Nat → Prop) (u : Value), Kd.R (Kd.int .i64) 3 w base oki u (rd_T27 xs i).f0 ∧ w.cell? ⟨g, i.toNat * 2, none⟩ = some u ∧ (∀ k, oki k → ok k) ∧
      ∀ (w2 : World) (S2 : Nat → Prop) (r2 : List Int) (ok2 : Nat → Prop) (b : Int), Kept w w2 S2 → (∀ k, S2 k → oki k) → Kd.R (Kd.int .i64) 3 w2 base ok2 u r2 →
        (w2.cell? ⟨g, i.toNat * 2 + 1, none⟩ = some (.int .i64 (rd_T27 xs i).f1) ∧ w2.frozen? ⟨g, i.toNat * 2 + 1, none⟩ = false) ∧
        Kd.S k27 e (w2.setCell ⟨g, i.toNat * 2 + 1, none⟩ (.int .i64 b)) base ok (.slice (some ⟨g, 0, none⟩) n cap) (xs.set i.toNat ⟨r2, b⟩) ∧ Kept w (w2.setCell ⟨g, i.toNat * 2 + 1, none⟩ (.int .i64 b)) ok := by
  obtain ⟨oki, c, hcl, hM, hcc, hfr, hoki, hH⟩ := Kd.S_elem h z27 i h0 h1
  obtain ⟨u, rfl, hR⟩ := k27_openM hM
  have hg0 : ok g := (Kd.S_R h).1 g (by simp [Value.ownBlock])
  have hc0 : w.cell? ⟨g, i.toNat * 2, none⟩ = some u := by simpa [k27, Kd.iso, Kd.pair, Kd.slice, Kd.int, Kd.scalar] using hcc 0 u rfl
  have hc1 : w.cell? ⟨g, i.toNat * 2 + 1, none⟩ = some (.int .i64 (rd_T27 xs i).f1) := by simpa [rd_T27, k27, Kd.iso, Kd.pair, Kd.slice, Kd.int, Kd.scalar] using hcc 1 _ rfl
  have hf1 : w.frozen? ⟨g, i.toNat * 2 + 1, none⟩ = false := by simpa [k27, Kd.iso, Kd.pair, Kd.slice, Kd.int, Kd.scalar] using hfr 1
  refine ⟨oki, u, hR, hc0, fun k hk => (hoki k hk).1, fun w2 S2 r2 ok2 b hk hs hR2 => ?_⟩
  have hgS : ¬ S2 g := fun h2 => (hoki g (hs g h2)).2 rfl
  have hH2 := Kd.H_kept hH hk (fun k _ hn h2 => hn (hs k h2))
  obtain ⟨hH3, hgr⟩ := Kd.H_seg hH2 h0 h1 (seg := [.int .i64 b]) (j := 1) (show 1 + 1 ≤ 2 by decide) (by intro q hq; rw [List.mem_singleton.1 hq]; rfl)
  have hset : w2.setCells g (i.toNat * 2 + 1) [.int .i64 b] = w2.setCell ⟨g, i.toNat * 2 + 1, none⟩ (.int .i64 b) := rfl
  have hsz : (k27 : Kd S27).sz = 2 := rfl
  rw [hsz, hset] at hH3 hgr
  have hlt : g < w.heap.size := World.block_lt_of_cell? w _ hc0
  refine ⟨⟨cell_kept hc1 hk hgS, ?_⟩, ?_, ?_⟩
  · have := hk.2 g hlt hgS
    simpa [World.frozen?, this] using hf1
  · refine Kd.H_back hH3 (k27_mkM _ base (fun k => some k = u.ownBlock) ⟨r2, b⟩ ?_) (fun k hk => hR.1 k hk.symm)
    exact Kd.R_kept (S := fun k => k = g) (Kd.R_tight rfl hR2) ⟨hgr.size, fun j hj hn => hgr.block j hj (fun e => hn (by injection e))⟩ (fun k hk he => (hoki k (hR.1 k hk.symm)).2 he)
  · exact (hk.mono (fun k h2 => (hoki k (hs k h2)).1)).setCell (.inl hg0) _
set_option maxHeartbeats 8000000 in
set_option maxRecDepth 100000 in
theorem laws_markPileS.calls (k : Nat) (P : Nat → Prop) (v : Value) (l0 : List S27) (a1 : Int) (r1 : Int) (r2 : List S27) (w0 w : World) (hB : Below w0.heap.size w0 w) (ho : Kd.S k27 27 w w0.heap.size P v l0) (h : laws_markPileS.f k l0 a1 = some (r1, r2)) :
    Calls Try.prog 104 #[v, .int .i64 a1] w fun e w' => e = .returned (.int .i64 r1) ∧ Kd.S k27 27 w' w0.heap.size P v r2 ∧ Below w0.heap.size w0 w' ∧ Kept w w' P := by
  have HO := Aside0.mk ho
  have HB := Aside0.mk hB
  have H' := Aside0.mk (show laws_markPileS.l0 k l0 a1 0 = some (r1, r2) from h)
  clear ho hB h
  go_enter Try.func104, Try.ntmps104
  go_wp2
  go_loopg [1, 5] k (fun kq v1 v5 w' => ∃ (x0 : List S27) (x1 x5 : Int), v1 = .int .i64 x1 ∧ v5 = .int .i64 x5 ∧ Aside0 (laws_markPileS.l0 kq x0 x1 x5 = some (r1, r2)) ∧ Aside0 (kq ≤ k) ∧ Aside0 (Kd.S k27 27 w' w0.heap.size P v x0) ∧ Aside0 (Below w0.heap.size w0 w') ∧ Aside0 (Kept w w' P))
  case atStart => exact ⟨l0, a1, 0, rfl, rfl, H', ⟨Nat.le_refl _⟩, HO, HB, ⟨Kept.refl _ _⟩⟩
  case round =>
    clear H' HO HB
    obtain ⟨x0, x1, x5, rfl, rfl, HA, HK1, HO, HB, HK⟩ := hrel
    cases gk with
    | zero => exact absurd HA.out (by simp [laws_markPileS.l0])
    | succ k1 =>
      have H := HA.out
      clear HA
      simp only [laws_markPileS.l0] at H
      by_cases c3 : x5 < (x0.length : Int)
      · rw [if_pos c3] at H
        by_cases c4 : 0 ≤ x5
        · rw [if_pos c4] at H
          replace H := Option.bind_eq_some_iff.mp H
          obtain ⟨⟨b1, b2⟩, A, H⟩ := H
          have H' := Aside0.mk H
          have A' := Aside0.mk A
          clear H A
          obtain ⟨g, cap, rfl, hg1, hg2, hg3⟩ := Kd.S_form HO.out (by omega)
          have GB := Aside0.mk hg1
          clear hg1 hg2 hg3
          obtain ⟨oki, u, hR, hc, hoki, hback⟩ := laws_markPileS.lend HO.out x5 c4 c3
          have HR := Aside0.mk (Kd.R_tight rfl hR)
          have HI := Aside0.mk (fun k hk => hR.1 k hk)
          have HP := Aside0.mk hoki
          have HBK := Aside0.mk hback
          clear hR hoki hback
          have c3b0 : decide (x5 < (x0.length : Int)) = true := decide_eq_true c3
          have p5 := eq_true c4
          have q5 := eq_true c3
          clear c3 c4
          go_wp2_with (fail)
          refine (laws_markIntS.calls k1 _ u _ x1 b1 b2 w0 _ HB.out HR.out A'.out).mono ?_
          rintro e w' ⟨rfl, hr, hb, hk⟩
          obtain ⟨⟨hc1, hf1⟩, hS, hK⟩ := HBK.out _ _ _ _ b1 hk (fun k hk => HI.out k hk.symm) hr
          have HB2 := Aside0.mk hb
          have HS2 := Aside0.mk hS
          have HK2 := Aside0.mk hK
          clear hr hb hk hS hK hc
          go_wp2
          go_roundg k1
          case measure => have := HK1.out; omega
          case rel => exact ⟨x0.set x5.toNat ⟨b2, b1⟩, wrap64 (b1 + 1), wrap64 (x5 + 1), rfl, by first | rfl | (simp; done) | (simp [*]; done), H', ⟨by have := HK1.out; omega⟩, HS2, ⟨below_set HB2.out GB.out⟩, ⟨HK.out.then_ HK2.out (fun k hk => .inl hk)⟩⟩
        · rw [if_neg c4] at H
          exact absurd H (by simp)
      · rw [if_neg c3] at H
        have c3b0 : decide (x5 < (x0.length : Int)) = false := decide_eq_false c3
        clear c3
        simp only [Option.some.injEq, Prod.mk.injEq] at H
        obtain ⟨rfl, rfl⟩ := H
        obtain ⟨A9, c9, rfl⟩ := Kd.S_slice HO.out
        go_wp2
        go_ret
        exact ⟨rfl, HO.out, HB.out, HK.out⟩

/-! ### laws_markPatience -/
/-- A patience's rows are the call's own, among the blocks of P, and apart. -/
def PatOwn (w : World) (base : Nat) (P : Nat → Prop) (u0 : Value) (l0 : List S27) (u1 : Value) (l1 : List Int) (u2 : Value) (l2 : List Int) (u3 : Value) (l3 : List Int) : Prop :=
  Kd.S k27 27 w base (fun k => P k ∧ some k ≠ u1.ownBlock ∧ some k ≠ u2.ownBlock ∧ some k ≠ u3.ownBlock) u0 l0 ∧
  Kd.R (Kd.int .i64) 3 w base (fun k => P k ∧ some k ≠ u2.ownBlock ∧ some k ≠ u3.ownBlock) u1 l1 ∧
  Kd.R (Kd.int .i64) 3 w base (fun k => P k ∧ some k ≠ u1.ownBlock ∧ some k ≠ u3.ownBlock) u2 l2 ∧
  Kd.R (Kd.int .i64) 3 w base (fun k => P k ∧ some k ≠ u1.ownBlock ∧ some k ≠ u2.ownBlock) u3 l3
def laws_markPatience.f (k : Nat) (l0 : List S27) (l1 l2 l3 : List Int) (a1 : Int) : Option (Int × List S27 × List Int × List Int × List Int) :=
  (laws_markPileS.f k l0 a1).bind fun b => (laws_markIntS.f k l1 b.1).bind fun c => (laws_markIntS.f k l2 c.1).bind fun d => (laws_markIntS.f k l3 d.1).bind fun e => some (e.1, b.2, c.2, d.2, e.2)
theorem cells_kept {w w1 : World} {g : Nat} {cs : Array Value} {t : TypeId} {S : Nat → Prop} (h : w.heap[g]? = some (.cells cs t (0, 0))) (hk : Kept w w1 S) (hS : ¬ S g) : ∀ i, w1.cell? ⟨g, i, none⟩ = cs[i]? := fun i => blk_cell (blk_kept h hk hS) i
set_option maxHeartbeats 8000000 in
set_option maxRecDepth 100000 in
theorem laws_markPatience.calls (k : Nat) (P : Nat → Prop) (u0 : Value) (l0 m0 : List S27) (u1 : Value) (l1 m1 : List Int) (u2 : Value) (l2 m2 : List Int) (u3 : Value) (l3 m3 : List Int) (a1 r : Int) (w0 w : World) (hB : Below w0.heap.size w0 w)
    (ho : PatOwn w w0.heap.size P u0 l0 u1 l1 u2 l2 u3 l3) (h : laws_markPatience.f k l0 l1 l2 l3 a1 = some (r, m0, m1, m2, m3)) :
    Calls Try.prog 50 #[.agg #[u0, u1, u2, u3], .int .i64 a1] w fun e w' => e = .returned (.int .i64 r) ∧ PatOwn w' w0.heap.size P u0 m0 u1 m1 u2 m2 u3 m3 ∧ Below w0.heap.size w0 w' ∧ Kept w w' P := by
  replace h := Option.bind_eq_some_iff.mp h
  obtain ⟨⟨b, b0⟩, e1, h⟩ := h
  replace h := Option.bind_eq_some_iff.mp h
  obtain ⟨⟨c, c1⟩, e2, h⟩ := h
  replace h := Option.bind_eq_some_iff.mp h
  obtain ⟨⟨d, d1⟩, e3, h⟩ := h
  replace h := Option.bind_eq_some_iff.mp h
  obtain ⟨⟨e, f1⟩, e4, h⟩ := h
  simp only [Option.some.injEq, Prod.mk.injEq] at h
  obtain ⟨rfl, rfl, rfl, rfl, rfl⟩ := h
  have E1 := Aside0.mk e1
  have E2 := Aside0.mk e2
  have E3 := Aside0.mk e3
  have E4 := Aside0.mk e4
  clear e1 e2 e3 e4
  obtain ⟨h0, h1, h2, h3⟩ := ho
  obtain ⟨A0, c0, rfl⟩ := Kd.S_slice h0
  obtain ⟨A1, c1', rfl⟩ := Kd.R_slice h1
  obtain ⟨A2, c2, rfl⟩ := Kd.R_slice h2
  obtain ⟨A3, c3, rfl⟩ := Kd.R_slice h3
  have HP1 := Aside0.mk (fun k e => h1.1 k e)
  have HP2 := Aside0.mk (fun k e => h2.1 k e)
  have HP3 := Aside0.mk (fun k e => h3.1 k e)
  have L1 := Aside0.mk (Kd.R_lt h1)
  have L2 := Aside0.mk (Kd.R_lt h2)
  have L3 := Aside0.mk (Kd.R_lt h3)
  have HA : Aside0 (Below w.heap.size w (w.alloc (.cells #[.slice A0 l0.length c0, .slice A1 l1.length c1', .slice A2 l2.length c2, .slice A3 l3.length c3] 59))) := ⟨(Below.refl _ _).alloc (Nat.le_refl _) _⟩
  have H0 := Aside0.mk (Kd.S_below (Kd.S_bound h0) HA.out)
  have H1 := Aside0.mk (Kd.R_below (Kd.R_tight rfl h1) HA.out)
  have H2 := Aside0.mk (Kd.R_below (Kd.R_tight rfl h2) HA.out)
  have H3 := Aside0.mk (Kd.R_below (Kd.R_tight rfl h3) HA.out)
  have C0 := Aside0.mk (blk_new w (.cells #[.slice A0 l0.length c0, .slice A1 l1.length c1', .slice A2 l2.length c2, .slice A3 l3.length c3] 59))
  have HB := Aside0.mk (below_alloc hB (.cells #[.slice A0 l0.length c0, .slice A1 l1.length c1', .slice A2 l2.length c2, .slice A3 l3.length c3] 59))
  have HK := Aside0.mk ((Kept.refl w P).below HA.out)
  clear h0 h1 h2 h3 hB HA
  go_enter Try.func50, Try.ntmps50
  go_wp2_with (fail)
  refine (laws_markPileS.calls k _ _ l0 a1 b b0 w0 _ HB.out H0.out E1.out).mono ?_
  rintro e w1 ⟨rfl, h0, hb, hk⟩
  have H0' := Aside0.mk h0
  have H1' := Aside0.mk (Kd.R_kept H1.out hk (fun k h e => e.1.2.1 h))
  have H2' := Aside0.mk (Kd.R_kept H2.out hk (fun k h e => e.1.2.2.1 h))
  have H3' := Aside0.mk (Kd.R_kept H3.out hk (fun k h e => e.1.2.2.2 h))
  have C1 := Aside0.mk (blk_kept C0.out hk (fun h => Nat.lt_irrefl _ h.2.2.1))
  have HB1 := Aside0.mk hb
  have HK1 := Aside0.mk (HK.out.then_ hk (fun k h => .inl h.1.1))
  have hc := fun i => blk_cell C1.out i
  clear h0 hb hk H0 H1 H2 H3 C0 HB HK
  go_wp2_with (fail)
  refine (laws_markIntS.calls k _ _ l1 b c c1 w0 _ HB1.out H1'.out E2.out).mono ?_
  rintro e w2 ⟨rfl, h1, hb, hk⟩
  have H0 := Aside0.mk (Kd.S_kept H0'.out hk (fun k h e => h.1.2.1 e))
  have H1 := Aside0.mk (Kd.R_tight rfl h1)
  have H2 := Aside0.mk (Kd.R_kept H2'.out hk (fun k h e => (HP2.out k h.symm).2.1 (by rw [e])))
  have H3 := Aside0.mk (Kd.R_kept H3'.out hk (fun k h e => (HP3.out k h.symm).2.1 (by rw [e])))
  have C2 := Aside0.mk (blk_kept C1.out hk (fun h => Nat.lt_irrefl _ (L1.out _ h.symm)))
  have HB2 := Aside0.mk hb
  have HK2 := Aside0.mk (HK1.out.then_ hk (fun k h => .inl (HP1.out k h.symm).1))
  clear h1 hb hk H0' H1' H2' H3' C1 HB1 HK1 hc
  have hc := fun i => blk_cell C2.out i
  go_wp2_with (fail)
  refine (laws_markIntS.calls k _ _ l2 c d d1 w0 _ HB2.out H2.out E3.out).mono ?_
  rintro e w3 ⟨rfl, h2, hb, hk⟩
  have H0' := Aside0.mk (Kd.S_kept H0.out hk (fun k h e => h.1.2.2.1 e))
  have H1' := Aside0.mk (Kd.R_kept H1.out hk (fun k h e => (HP2.out k e.symm).2.1 (by rw [h])))
  have H2' := Aside0.mk (Kd.R_tight rfl h2)
  have H3' := Aside0.mk (Kd.R_kept H3.out hk (fun k h e => (HP3.out k h.symm).2.2 (by rw [e])))
  have C3 := Aside0.mk (blk_kept C2.out hk (fun h => Nat.lt_irrefl _ (L2.out _ h.symm)))
  have HB3 := Aside0.mk hb
  have HK3 := Aside0.mk (HK2.out.then_ hk (fun k h => .inl (HP2.out k h.symm).1))
  clear h2 hb hk H0 H1 H2 H3 C2 HB2 HK2 hc
  have hc := fun i => blk_cell C3.out i
  go_wp2_with (fail)
  refine (laws_markIntS.calls k _ _ l3 d e f1 w0 _ HB3.out H3'.out E4.out).mono ?_
  rintro e w4 ⟨rfl, h3, hb, hk⟩
  have H0 := Aside0.mk (Kd.S_kept H0'.out hk (fun k h e => h.1.2.2.2 e))
  have H1 := Aside0.mk (Kd.R_kept H1'.out hk (fun k h e => (HP3.out k e.symm).2.1 (by rw [h])))
  have H2 := Aside0.mk (Kd.R_kept H2'.out hk (fun k h e => (HP3.out k e.symm).2.2 (by rw [h])))
  have H3 := Aside0.mk (Kd.R_tight rfl h3)
  have HB4 := Aside0.mk hb
  have HK4 := Aside0.mk (HK3.out.then_ hk (fun k h => .inl (HP3.out k h.symm).1))
  clear h3 hb hk hc
  go_wp2
  go_ret
  exact ⟨rfl, ⟨Kd.S_mono H0.out (fun k h => h.1), Kd.R_mono H1.out (fun k h => HP1.out k h.symm), Kd.R_mono H2.out (fun k h => HP2.out k h.symm), Kd.R_mono H3.out (fun k h => HP3.out k h.symm)⟩, HB4.out, HK4.out⟩

/-! ### a patience, bundled -/
structure PD where
  f0 : List S27
  f1 : List Int
  f2 : List Int
  f3 : List Int
structure PV where
  A0 : Option Addr
  c0 : Nat
  A1 : Option Addr
  c1 : Nat
  A2 : Option Addr
  c2 : Nat
  A3 : Option Addr
  c3 : Nat
abbrev PD.cs (d : PD) (v : PV) : Array Value := #[.slice v.A0 d.f0.length v.c0, .slice v.A1 d.f1.length v.c1, .slice v.A2 d.f2.length v.c2, .slice v.A3 d.f3.length v.c3]
abbrev PD.agg (d : PD) (v : PV) : Value := .agg (d.cs v)
def PRd (w : World) (d : PD) (v : PV) : Prop := (Kd.C k27 w v.A0 d.f0.length d.f0 ∧ d.f0.length ≤ v.c0) ∧ (Kd.C (Kd.int .i64) w v.A1 d.f1.length d.f1 ∧ d.f1.length ≤ v.c1) ∧ (Kd.C (Kd.int .i64) w v.A2 d.f2.length d.f2 ∧ d.f2.length ≤ v.c2) ∧ (Kd.C (Kd.int .i64) w v.A3 d.f3.length d.f3 ∧ d.f3.length ≤ v.c3)
theorem PRd.below {w w1 : World} {d : PD} {v : PV} (h : PRd w d v) (hb : Below w.heap.size w w1) : PRd w1 d v := ⟨⟨Kd.C_below h.1.1 hb, h.1.2⟩, ⟨Kd.C_below h.2.1.1 hb, h.2.1.2⟩, ⟨Kd.C_below h.2.2.1.1 hb, h.2.2.1.2⟩, ⟨Kd.C_below h.2.2.2.1 hb, h.2.2.2.2⟩⟩
def POwn (w : World) (base : Nat) (P : Nat → Prop) (d : PD) (v : PV) : Prop := Kd.S k27 27 w base (fun k => P k ∧ some k ≠ (.slice v.A1 d.f1.length v.c1 : Value).ownBlock ∧ some k ≠ (.slice v.A2 d.f2.length v.c2 : Value).ownBlock ∧ some k ≠ (.slice v.A3 d.f3.length v.c3 : Value).ownBlock) (.slice v.A0 d.f0.length v.c0) d.f0 ∧ Kd.R (Kd.int .i64) 3 w base (fun k => P k ∧ some k ≠ (.slice v.A2 d.f2.length v.c2 : Value).ownBlock ∧ some k ≠ (.slice v.A3 d.f3.length v.c3 : Value).ownBlock) (.slice v.A1 d.f1.length v.c1) d.f1 ∧ Kd.R (Kd.int .i64) 3 w base (fun k => P k ∧ some k ≠ (.slice v.A1 d.f1.length v.c1 : Value).ownBlock ∧ some k ≠ (.slice v.A3 d.f3.length v.c3 : Value).ownBlock) (.slice v.A2 d.f2.length v.c2) d.f2 ∧ Kd.R (Kd.int .i64) 3 w base (fun k => P k ∧ some k ≠ (.slice v.A1 d.f1.length v.c1 : Value).ownBlock ∧ some k ≠ (.slice v.A2 d.f2.length v.c2 : Value).ownBlock) (.slice v.A3 d.f3.length v.c3) d.f3
theorem POwn.below {w w1 : World} {base : Nat} {P : Nat → Prop} {d : PD} {v : PV} (h : POwn w base P d v) (hb : Below w.heap.size w w1) : POwn w1 base P d v := ⟨Kd.S_below h.1 hb, Kd.R_below h.2.1 hb, Kd.R_below h.2.2.1 hb, Kd.R_below h.2.2.2 hb⟩
theorem POwn.kept {w w1 : World} {base : Nat} {P S : Nat → Prop} {d : PD} {v : PV} (h : POwn w base P d v) (hk : Kept w w1 S) (hs : ∀ k, P k → ¬ S k) : POwn w1 base P d v := ⟨Kd.S_kept h.1 hk (fun k h => hs k h.1), Kd.R_kept h.2.1 hk (fun k h => hs k h.1), Kd.R_kept h.2.2.1 hk (fun k h => hs k h.1), Kd.R_kept h.2.2.2 hk (fun k h => hs k h.1)⟩
theorem POwn.lower {w : World} {base b : Nat} {P : Nat → Prop} {d : PD} {v : PV} (h : POwn w base P d v) (hb : b ≤ base) : POwn w b P d v := ⟨Kd.S_lower h.1 hb, Kd.R_lower h.2.1 hb, Kd.R_lower h.2.2.1 hb, Kd.R_lower h.2.2.2 hb⟩
theorem POwn.rd {w : World} {base : Nat} {P : Nat → Prop} {d : PD} {v : PV} (h : POwn w base P d v) : PRd w d v := ⟨⟨(Kd.S_reads' h.1).2.2, (Kd.S_reads' h.1).2.1⟩, ⟨(Kd.R_reads' h.2.1).2.2, (Kd.R_reads' h.2.1).2.1⟩, ⟨(Kd.R_reads' h.2.2.1).2.2, (Kd.R_reads' h.2.2.1).2.1⟩, ⟨(Kd.R_reads' h.2.2.2).2.2, (Kd.R_reads' h.2.2.2).2.1⟩⟩
theorem specX_c (k : Nat) (A : Option Addr) (c : Nat) (l : List Int) (a : Int) (e : PD) (b : Bool) (w : World) (hr : Kd.C (Kd.int .i64) w A l.length l) (hc : l.length ≤ c) (h : spec_NewPatience.f k l a = some (e.f0, e.f1, e.f2, e.f3, b)) :
    Calls Try.prog 47 #[.slice A l.length c, .int .i64 a] w fun x w' => ∃ u : PV, x = .returned (.tuple #[e.agg u, .bool b]) ∧ POwn w' w.heap.size (fun k => w.heap.size ≤ k ∧ k < w'.heap.size) e u ∧ Below w.heap.size w w' := by
  refine (spec_NewPatience.calls k A c l a e.f0 e.f1 e.f2 e.f3 b w hr hc h).mono ?_
  rintro x w' ⟨v0, v1, v2, v3, rfl, h0, h1, h2, h3, hb⟩
  obtain ⟨A0, c0, rfl⟩ := Kd.S_slice h0
  obtain ⟨A1, c1, rfl⟩ := Kd.R_slice h1
  obtain ⟨A2, c2, rfl⟩ := Kd.R_slice h2
  obtain ⟨A3, c3, rfl⟩ := Kd.R_slice h3
  exact ⟨⟨A0, c0, A1, c1, A2, c2, A3, c3⟩, rfl, ⟨Kd.S_mono (Kd.S_bound h0) (fun k h => ⟨⟨h.2.1, h.2.2.1⟩, h.1⟩), Kd.R_mono (Kd.R_bound h1) (fun k h => ⟨⟨h.2.1, h.2.2.1⟩, h.1⟩), Kd.R_mono (Kd.R_bound h2) (fun k h => ⟨⟨h.2.1, h.2.2.1⟩, h.1⟩), Kd.R_mono (Kd.R_bound h3) (fun k h => ⟨⟨h.2.1, h.2.2.1⟩, h.1⟩)⟩, hb⟩
theorem implX_c (k : Nat) (A : Option Addr) (c : Nat) (l : List Int) (a : Int) (e : PD) (b : Bool) (w : World) (hr : Kd.C (Kd.int .i64) w A l.length l) (hc : l.length ≤ c) (h : impl_NewPatience.f k l a = some (e.f0, e.f1, e.f2, e.f3, b)) :
    Calls Try.prog 48 #[.slice A l.length c, .int .i64 a] w fun x w' => ∃ u : PV, x = .returned (.tuple #[e.agg u, .bool b]) ∧ POwn w' w.heap.size (fun k => w.heap.size ≤ k ∧ k < w'.heap.size) e u ∧ Below w.heap.size w w' := by
  refine (impl_NewPatience.calls k A c l a e.f0 e.f1 e.f2 e.f3 b w hr hc h).mono ?_
  rintro x w' ⟨v0, v1, v2, v3, rfl, h0, h1, h2, h3, hb⟩
  obtain ⟨A0, c0, rfl⟩ := Kd.S_slice h0
  obtain ⟨A1, c1, rfl⟩ := Kd.R_slice h1
  obtain ⟨A2, c2, rfl⟩ := Kd.R_slice h2
  obtain ⟨A3, c3, rfl⟩ := Kd.R_slice h3
  exact ⟨⟨A0, c0, A1, c1, A2, c2, A3, c3⟩, rfl, ⟨Kd.S_mono (Kd.S_bound h0) (fun k h => ⟨⟨h.2.1, h.2.2.1⟩, h.1⟩), Kd.R_mono (Kd.R_bound h1) (fun k h => ⟨⟨h.2.1, h.2.2.1⟩, h.1⟩), Kd.R_mono (Kd.R_bound h2) (fun k h => ⟨⟨h.2.1, h.2.2.1⟩, h.1⟩), Kd.R_mono (Kd.R_bound h3) (fun k h => ⟨⟨h.2.1, h.2.2.1⟩, h.1⟩)⟩, hb⟩
theorem eqPat_c (k : Nat) (d : PD) (v : PV) (d1 : PD) (v1 : PV) (r : Bool) (w : World) (h0 : PRd w d v) (h1 : PRd w d1 v1) (h : laws_eqPatience.f k d.f0 d.f1 d.f2 d.f3 d1.f0 d1.f1 d1.f2 d1.f3 = some r) :
    Calls Try.prog 49 #[d.agg v, d1.agg v1] w fun e w' => e = .returned (.bool r) ∧ Below w.heap.size w w' :=
  laws_eqPatience.calls k v.A0 v.c0 d.f0 v.A1 v.c1 d.f1 v.A2 v.c2 d.f2 v.A3 v.c3 d.f3 v1.A0 v1.c0 d1.f0 v1.A1 v1.c1 d1.f1 v1.A2 v1.c2 d1.f2 v1.A3 v1.c3 d1.f3 r w h0.1.1 h0.1.2 h0.2.1.1 h0.2.1.2 h0.2.2.1.1 h0.2.2.1.2 h0.2.2.2.1 h0.2.2.2.2 h1.1.1 h1.1.2 h1.2.1.1 h1.2.1.2 h1.2.2.1.1 h1.2.2.1.2 h1.2.2.2.1 h1.2.2.2.2 h
theorem heldPat_c (k : Nat) (d : PD) (v : PV) (a1 : Int) (r : Int) (w : World) (h0 : PRd w d v) (h : laws_heldPatience.f k d.f0 d.f1 d.f2 d.f3 a1 = some r) :
    Calls Try.prog 51 #[d.agg v, .int .i64 a1] w fun e w' => e = .returned (.int .i64 r) ∧ Below w.heap.size w w' :=
  laws_heldPatience.calls k v.A0 v.c0 d.f0 v.A1 v.c1 d.f1 v.A2 v.c2 d.f2 v.A3 v.c3 d.f3 a1 r w h0.1.1 h0.1.2 h0.2.1.1 h0.2.1.2 h0.2.2.1.1 h0.2.2.1.2 h0.2.2.2.1 h0.2.2.2.2 h
theorem own_len (A : Option Addr) (c n m : Nat) : (Value.slice A n c).ownBlock = (Value.slice A m c).ownBlock := by cases A <;> rfl
theorem markPat_c (k : Nat) (Q : Nat → Prop) (d e : PD) (v : PV) (a1 r : Int) (w0 w : World) (hB : Below w0.heap.size w0 w) (ho : POwn w w0.heap.size Q d v) (h : laws_markPatience.f k d.f0 d.f1 d.f2 d.f3 a1 = some (r, e.f0, e.f1, e.f2, e.f3)) :
    Calls Try.prog 50 #[d.agg v, .int .i64 a1] w fun x w' => x = .returned (.int .i64 r) ∧ (d.f0.length = e.f0.length ∧ d.f1.length = e.f1.length ∧ d.f2.length = e.f2.length ∧ d.f3.length = e.f3.length) ∧ POwn w' w0.heap.size Q e v ∧ Below w0.heap.size w0 w' ∧ Kept w w' Q := by
  refine (laws_markPatience.calls k Q (.slice v.A0 d.f0.length v.c0) d.f0 e.f0 (.slice v.A1 d.f1.length v.c1) d.f1 e.f1 (.slice v.A2 d.f2.length v.c2) d.f2 e.f2 (.slice v.A3 d.f3.length v.c3) d.f3 e.f3 a1 r w0 w hB ho h).mono ?_
  rintro x w' ⟨rfl, ⟨h0, h1, h2, h3⟩, hb, hk⟩
  have l0 := (Kd.S_reads' h0).1
  have l1 := (Kd.R_reads' h1).1
  have l2 := (Kd.R_reads' h2).1
  have l3 := (Kd.R_reads' h3).1
  refine ⟨rfl, ⟨l0, l1, l2, l3⟩, ?_, hb, hk⟩
  have w1 := own_len v.A1 v.c1 d.f1.length e.f1.length
  have w2 := own_len v.A2 v.c2 d.f2.length e.f2.length
  have w3 := own_len v.A3 v.c3 d.f3.length e.f3.length
  rw [l0, w1, w2, w3] at h0
  rw [l1, w2, w3] at h1
  rw [l2, w1, w3] at h2
  rw [l3, w1, w2] at h3
  exact ⟨h0, h1, h2, h3⟩

/-! ### the law -/
def laws_FnExactNewPatience.f (k : Nat) (l : List Int) (a : Int) : Option Bool :=
  if (l.length : Int) > 1048576 then some true else (laws_toIntS.f k l).bind fun x => (spec_NewPatience.f k x a).bind fun e => (impl_NewPatience.f k x a).bind fun g => (laws_eqPatience.f k g.1 g.2.1 g.2.2.1 g.2.2.2.1 e.1 e.2.1 e.2.2.1 e.2.2.2.1).bind fun c1 => (laws_eqIntS.f k x x).bind fun c2 => (laws_markIntS.f k x 1).bind fun m => (laws_markPatience.f k g.1 g.2.1 g.2.2.1 g.2.2.2.1 1).bind fun n => (laws_heldPatience.f k n.2.1 n.2.2.1 n.2.2.2.1 n.2.2.2.2 1).bind fun q =>
    if c1 = true ∧ c2 = true ∧ e.2.2.2.2 = g.2.2.2.2 ∧ 0 ≤ m.1 ∧ 0 ≤ n.1 ∧ q = n.1 then some true else none
set_option maxHeartbeats 8000000 in
set_option maxRecDepth 100000 in
theorem laws_FnExactNewPatience.small (k : Nat) (A : Option Addr) (c : Nat) (l : List Int) (a : Int) (w : World) (hl : (l.length : Int) > 1048576) :
    Calls Try.prog 7 #[.slice A l.length c, .int .i64 a] w fun x w' => x = .returned (.bool true) ∧ Below w.heap.size w w' := by
  have h0 : decide (1048576 < (l.length : Int)) = true := decide_eq_true hl
  have h1 : decide (1048576 < l.length) = true := decide_eq_true (by omega)
  clear hl
  go_enter Try.func7, Try.ntmps7
  go_wp2
  go_ret
  exact ⟨rfl, Below.refl _ _⟩
set_option maxHeartbeats 8000000 in
set_option maxRecDepth 100000 in
theorem laws_FnExactNewPatience.walk (k : Nat) (A : Option Addr) (c : Nat) (l x x' : List Int) (a m n : Int) (e g g' : PD) (b : Bool) (w : World) (hr : Kd.C (Kd.int .i64) w A l.length l) (hc : l.length ≤ c) (hl : ¬ (l.length : Int) > 1048576)
    (E1 : Aside0 (laws_toIntS.f k l = some x)) (E2 : Aside0 (spec_NewPatience.f k x a = some (e.f0, e.f1, e.f2, e.f3, b))) (E3 : Aside0 (impl_NewPatience.f k x a = some (g.f0, g.f1, g.f2, g.f3, b))) (E4 : Aside0 (laws_eqPatience.f k g.f0 g.f1 g.f2 g.f3 e.f0 e.f1 e.f2 e.f3 = some true)) (E5 : Aside0 (laws_eqIntS.f k x x = some true))
    (E6 : Aside0 (laws_markIntS.f k x 1 = some (m, x'))) (hm : 0 ≤ m) (E7 : Aside0 (laws_markPatience.f k g.f0 g.f1 g.f2 g.f3 1 = some (n, g'.f0, g'.f1, g'.f2, g'.f3))) (hn : 0 ≤ n) (E8 : Aside0 (laws_heldPatience.f k g'.f0 g'.f1 g'.f2 g'.f3 1 = some n)) :
    Calls Try.prog 7 #[.slice A l.length c, .int .i64 a] w fun x w' => x = .returned (.bool true) ∧ Below w.heap.size w w' := by
  have RA := Aside0.mk hr
  have RC := Aside0.mk hc
  have h0 : decide (1048576 < (l.length : Int)) = false := decide_eq_false hl
  have h1 : decide (1048576 < l.length) = false := decide_eq_false (by omega)
  have hm0 : decide (m < 0) = false := decide_eq_false (by omega)
  have hn0 : decide (n < 0) = false := decide_eq_false (by omega)
  clear hl hr hc hm hn
  go_enter Try.func7, Try.ntmps7
  go_wp2_with (fail)
  refine (laws_toIntS.calls k A c l x w RA.out RC.out E1.out).mono ?_
  rintro z w1 ⟨v1, rfl, h1x, hb1⟩
  obtain ⟨A1, c1, rfl⟩ := Kd.R_slice h1x
  have X1 := Aside0.mk (Kd.R_reads' h1x)
  have HB1 := Aside0.mk hb1
  clear h1x hb1
  go_wp2_with (fail)
  refine (specX_c k A1 c1 x a e b w1 X1.out.2.2 X1.out.2.1 E2.out).mono ?_
  rintro z w2 ⟨u, rfl, o2, hb2⟩
  have HA2 : Aside0 (Below w2.heap.size w2 (w2.alloc (.cells (e.cs u) 59))) := ⟨(Below.refl _ _).alloc (Nat.le_refl _) _⟩
  have O2 := Aside0.mk (o2.below HA2.out)
  have C2 := Aside0.mk (blk_new w2 (.cells (e.cs u) 59))
  have HB2 := Aside0.mk (below_step HB1.out hb2)
  have D2 := HA2
  clear hb2 o2 HA2 X1 HB1
  dsimp only [PD.cs] at O2 C2 D2
  go_wp2_with (fail)
  refine (laws_toIntS.calls k A c l x _ (Kd.C_below RA.out (below_step HB2.out D2.out)) RC.out E1.out).mono ?_
  rintro z w3 ⟨v3, rfl, h3x, hb3⟩
  obtain ⟨A3, c3, rfl⟩ := Kd.R_slice h3x
  have X3 := Aside0.mk (Kd.R_lower (Kd.R_mono (Kd.R_bound h3x) (fun k h => (⟨by have := h.2.1; simp at this; omega, h.2.2.1⟩ : w2.heap.size < k ∧ k < w3.heap.size))) (by simp : w2.heap.size ≤ _))
  have O3 := Aside0.mk (O2.out.below hb3)
  have C3 := Aside0.mk (blk_below C2.out hb3)
  have D3 := Aside0.mk (below_step D2.out hb3)
  have LT3 : Aside0 (w2.heap.size < w3.heap.size) := ⟨blk_lt C3.out⟩
  clear h3x hb3 O2 C2 D2
  go_wp2_with (fail)
  refine (implX_c k A3 c3 x a g b w3 (Kd.R_reads' X3.out).2.2 (Kd.R_reads' X3.out).2.1 E3.out).mono ?_
  rintro z w4 ⟨v, rfl, o4, hb4⟩
  have HA4 : Aside0 (Below w4.heap.size w4 (w4.alloc (.cells (g.cs v) 59))) := ⟨(Below.refl _ _).alloc (Nat.le_refl _) _⟩
  have G4 := Aside0.mk ((o4.lower (Nat.le_of_lt LT3.out)).below HA4.out)
  have F4 := Aside0.mk (blk_new w4 (.cells (g.cs v) 59))
  have X4 := Aside0.mk (Kd.R_below (Kd.R_below X3.out hb4) HA4.out)
  have O4 := Aside0.mk ((O3.out.below hb4).below HA4.out)
  have C4 := Aside0.mk (blk_below (blk_below C3.out hb4) HA4.out)
  have D4 := Aside0.mk (below_step (below_step D3.out hb4) HA4.out)
  have LT4 : Aside0 (w3.heap.size ≤ w4.heap.size) := ⟨hb4.size⟩
  clear hb4 o4 HA4 O3 C3 D3 X3
  dsimp only [PD.cs] at G4 F4 X4 O4 C4 D4
  have hc4 := fun i => blk_cell C4.out i
  go_wp2_with (fail)
  refine (eqPat_c k g v e u true _ G4.out.rd O4.out.rd E4.out).mono ?_
  rintro z w5 ⟨rfl, hb5⟩
  have G5 := Aside0.mk (G4.out.below hb5)
  have F5 := Aside0.mk (blk_below F4.out hb5)
  have X5 := Aside0.mk (Kd.R_below X4.out hb5)
  have O5 := Aside0.mk (O4.out.below hb5)
  have C5 := Aside0.mk (blk_below C4.out hb5)
  have D5 := Aside0.mk (below_step D4.out hb5)
  clear hb5 G4 F4 X4 O4 C4 D4
  clear hc4
  go_wp2_with (fail)
  refine (laws_toIntS.calls k A c l x _ (Kd.C_below RA.out (below_step HB2.out D5.out)) RC.out E1.out).mono ?_
  rintro z w6 ⟨v6, rfl, h6, hb6⟩
  obtain ⟨A6, c6, rfl⟩ := Kd.R_slice h6
  have Y6 := Aside0.mk (Kd.R_reads' h6)
  clear h6
  have G6 := Aside0.mk (G5.out.below hb6)
  have F6 := Aside0.mk (blk_below F5.out hb6)
  have X6 := Aside0.mk (Kd.R_below X5.out hb6)
  have O6 := Aside0.mk (O5.out.below hb6)
  have C6 := Aside0.mk (blk_below C5.out hb6)
  have D6 := Aside0.mk (below_step D5.out hb6)
  clear hb6 G5 F5 X5 O5 C5 D5
  go_wp2_with (fail)
  refine (laws_eqIntS.calls k A3 c3 x A6 c6 x true _ (Kd.R_reads' X6.out).2.2 (Kd.R_reads' X6.out).2.1 Y6.out.2.2 Y6.out.2.1 E5.out).mono ?_
  rintro z w7 ⟨rfl, nd, rfl⟩
  have hb7 : Below w6.heap.size w6 (w6.drewN nd) := pw_below_drewN (Below.refl _ _) nd
  have G7 := Aside0.mk (G6.out.below hb7)
  have F7 := Aside0.mk (blk_below F6.out hb7)
  have X7 := Aside0.mk (Kd.R_below X6.out hb7)
  have O7 := Aside0.mk (O6.out.below hb7)
  have C7 := Aside0.mk (blk_below C6.out hb7)
  have D7 := Aside0.mk (below_step D6.out hb7)
  clear hb7 G6 F6 X6 O6 C6 D6
  clear Y6
  go_wp2_with (fail)
  refine (laws_markIntS.calls k _ _ x 1 m x' w2 _ D7.out X7.out E6.out).mono ?_
  rintro z w8 ⟨rfl, hX, D8, hk8⟩
  have O8 := Aside0.mk (O7.out.kept hk8 (fun k h h2 => by have := h.2; have := h2.1; omega))
  have G8 := Aside0.mk (G7.out.kept hk8 (fun k h h2 => by have := h.1; have := h2.2; omega))
  have C8 := Aside0.mk (blk_kept C7.out hk8 (fun h2 => Nat.lt_irrefl _ h2.1))
  have F8 := Aside0.mk (blk_kept F7.out hk8 (fun h2 => by have := h2.2; have := LT4.out; omega))
  have D8 := Aside0.mk D8
  have hc8 := fun i => blk_cell C8.out i
  have hf8 := fun i => blk_cell F8.out i
  clear hX hk8 O7 G7 C7 F7 D7 X7
  go_wp2_with (fail)
  refine (eqPat_c k g v e u true _ G8.out.rd O8.out.rd E4.out).mono ?_
  rintro z w9 ⟨rfl, hb9⟩
  have G9 := Aside0.mk (G8.out.below hb9)
  have F9 := Aside0.mk (blk_below F8.out hb9)
  have O9 := Aside0.mk (O8.out.below hb9)
  have C9 := Aside0.mk (blk_below C8.out hb9)
  have D9 := Aside0.mk (below_step D8.out hb9)
  clear hb9 G8 F8 O8 C8 D8
  have hf9 := fun i => blk_cell F9.out i
  clear hc8 hf8
  go_wp2_with (fail)
  refine (markPat_c k _ g g' v 1 n w2 _ D9.out G9.out E7.out).mono ?_
  rintro z w10 ⟨rfl, ⟨l0, l1, l2, l3⟩, hG, D10, hk10⟩
  have O10 := Aside0.mk (O9.out.kept hk10 (fun k h h2 => by have := h.2; have := h2.1; have := LT3.out; omega))
  have C10 := Aside0.mk (blk_kept C9.out hk10 (fun h2 => by have := h2.1; have := LT3.out; omega))
  have F10 := blk_kept F9.out hk10 (fun h2 => Nat.lt_irrefl _ h2.2)
  rw [l0, l1, l2, l3] at F10
  have F10 := Aside0.mk F10
  have G10 := Aside0.mk hG
  have D10 := Aside0.mk D10
  have hf10 := fun i => blk_cell F10.out i
  clear hG hk10 O9 C9 F9 G9 D9 hf9 l0 l1 l2 l3
  go_wp2_with (fail)
  refine (heldPat_c k g' v 1 n _ G10.out.rd E8.out).mono ?_
  rintro z w11 ⟨rfl, hb11⟩
  have G11 := Aside0.mk (G10.out.below hb11)
  have F11 := Aside0.mk (blk_below F10.out hb11)
  have O11 := Aside0.mk (O10.out.below hb11)
  have C11 := Aside0.mk (blk_below C10.out hb11)
  have D11 := Aside0.mk (below_step D10.out hb11)
  clear hb11 G10 F10 O10 C10 D10
  clear hf10
  go_wp2_with (fail)
  refine (laws_toIntS.calls k A c l x _ (Kd.C_below RA.out (below_step HB2.out D11.out)) RC.out E1.out).mono ?_
  rintro z w12 ⟨v12, rfl, h12, hb12⟩
  obtain ⟨A12, c12, rfl⟩ := Kd.R_slice h12
  have Y12 := Aside0.mk (Kd.R_reads' h12)
  clear h12
  have G12 := Aside0.mk (G11.out.below hb12)
  have F12 := Aside0.mk (blk_below F11.out hb12)
  have O12 := Aside0.mk (O11.out.below hb12)
  have C12 := Aside0.mk (blk_below C11.out hb12)
  have D12 := Aside0.mk (below_step D11.out hb12)
  clear hb12 G11 F11 O11 C11 D11
  go_wp2_with (fail)
  refine (implX_c k A12 c12 x a g b w12 Y12.out.2.2 Y12.out.2.1 E3.out).mono ?_
  rintro z w13 ⟨u3, rfl, o13, hb13⟩
  have hb13 := below_step hb13 ((Below.refl w13.heap.size w13).alloc (Nat.le_refl _) (.cells (g.cs u3) 59))
  have I13 := Aside0.mk (o13.below ((Below.refl w13.heap.size w13).alloc (Nat.le_refl _) (.cells (g.cs u3) 59)))
  clear o13 Y12
  have G13 := Aside0.mk (G12.out.below hb13)
  have F13 := Aside0.mk (blk_below F12.out hb13)
  have O13 := Aside0.mk (O12.out.below hb13)
  have C13 := Aside0.mk (blk_below C12.out hb13)
  have D13 := Aside0.mk (below_step D12.out hb13)
  clear hb13 G12 F12 O12 C12 D12
  dsimp only [PD.cs] at I13 G13 F13 O13 C13 D13
  have hc13 := fun i => blk_cell C13.out i
  go_wp2_with (fail)
  refine (eqPat_c k g u3 e u true _ I13.out.rd O13.out.rd E4.out).mono ?_
  rintro z w14 ⟨rfl, hb14⟩
  have G14 := Aside0.mk (G13.out.below hb14)
  have F14 := Aside0.mk (blk_below F13.out hb14)
  have D14 := Aside0.mk (below_step D13.out hb14)
  clear hb14 G13 F13 D13
  clear hc13 I13 O13 C13
  have hf14 := fun i => blk_cell F14.out i
  go_wp2_with (fail)
  refine (heldPat_c k g' v 1 n _ G14.out.rd E8.out).mono ?_
  rintro z w15 ⟨rfl, hb15⟩
  go_wp2
  go_ret
  exact ⟨rfl, below_step HB2.out (below_step D14.out hb15)⟩
theorem laws_FnExactNewPatience.calls (k : Nat) (A0 : Option Addr) (c0 : Nat) (l0 : List Int) (a1 : Int) (r : Bool) (w : World) (hr0 : Kd.C (Kd.int .i64) w A0 l0.length l0) (hc0 : l0.length ≤ c0) (h : laws_FnExactNewPatience.f k l0 a1 = some r) (hT : r = true) :
    Calls Try.prog 7 #[.slice A0 l0.length c0, .int .i64 a1] w fun x w' => x = .returned (.bool r) ∧ Below w.heap.size w w' := by
  subst hT
  unfold laws_FnExactNewPatience.f at h
  by_cases hL : (l0.length : Int) > 1048576
  · exact laws_FnExactNewPatience.small k A0 c0 l0 a1 w hL
  · rw [if_neg hL] at h
    obtain ⟨x, e1, h⟩ := Option.bind_eq_some_iff.mp h
    obtain ⟨⟨e0', e1', e2', e3', b⟩, e2, h⟩ := Option.bind_eq_some_iff.mp h
    obtain ⟨⟨g0, g1, g2, g3, b2⟩, e3, h⟩ := Option.bind_eq_some_iff.mp h
    obtain ⟨c1, e4, h⟩ := Option.bind_eq_some_iff.mp h
    obtain ⟨c2, e5, h⟩ := Option.bind_eq_some_iff.mp h
    obtain ⟨⟨m, x'⟩, e6, h⟩ := Option.bind_eq_some_iff.mp h
    obtain ⟨⟨n, n0, n1, n2, n3⟩, e7, h⟩ := Option.bind_eq_some_iff.mp h
    obtain ⟨q, e8, h⟩ := Option.bind_eq_some_iff.mp h
    split at h
    · rename_i hc
      obtain ⟨rfl, rfl, hb, hm, hn, rfl⟩ := hc
      simp only at hb
      subst hb
      exact laws_FnExactNewPatience.walk k A0 c0 l0 x x' a1 m q ⟨e0', e1', e2', e3'⟩ ⟨g0, g1, g2, g3⟩ ⟨n0, n1, n2, n3⟩ b w hr0 hc0 hL ⟨e1⟩ ⟨e2⟩ ⟨e3⟩ ⟨e4⟩ ⟨e5⟩ ⟨e6⟩ hm ⟨e7⟩ hn ⟨e8⟩
    · exact absurd h (by simp)

end Go.Proofs.Ytdakhelapeojgaa.QFnExactNewPatience
