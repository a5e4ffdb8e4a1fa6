/- What a call of each Go function that FnExactSightOf reaches comes to, as a Lean function: texts of the kit's print, turned by wip/remake.py. No condition beyond what each names. -/
import Derived.Test.YtkhgeockdjjhmaaQFnExactSightOfx3
namespace Go.Proofs.Ytkhgeockdjjhmaa.QFnExactSightOf
open Go.RowKit Go.Proofs.YtkhgeockdjjhmaaW.PrintWords Go.Proofs.YtkhgeockdjjhmaaW.PrintLast Go.Proofs.YtkhgeockdjjhmaaW.PrintMore
open Go.Proofs.YtkhgeockdjjhmaaW.PrintWords renaming pw_below_drewN → QB, blk_cell → QC, below_drew1 → QD, below_alloc → QE, blk_frozen → QI, below_set → QK, blk_drewN → QL, blk_alloc → QM, blk_drew → QR, below_size → QS
open Go.Proofs.YtkhgeockdjjhmaaW.PrintLast renaming any_of → QF, i64_w → QG, i32_w → QH, pure_ → QJ
open Go.Proofs.YtkhgeockdjjhmaaW.PrintWords.Kd renaming V_alloc → QN, V_drewN → QO, V_drew → QP
open List renaming setIfInBounds_toArray → QT, set_cons_zero → QU, set_cons_succ → QV
open Go.Proofs.YtkhgeockdjjhmaaW.PrintWords.Aside0 renaming mk → QW
open Bool renaming true → Y1, false → Y0
attribute [local go_sem] max2_int min2_int max_two min_two max_three min_three max_four min_four   -- for this text's walks alone
set_option linter.unusedVariables false
set_option linter.unusedSimpArgs false

/-! ### impl_InRange: function 85 -/
def impl_InRange.f (a0 : Int) (a1 : Int) (a2 : Int) : Option (Bool) := if a1 ≤ a0 then (some (decide (a0 ≤ a2))) else (some false)
set_option maxHeartbeats 8000000 in
set_option maxRecDepth 100000 in
theorem impl_InRange.calls (a0 : Int) (a1 : Int) (a2 : Int) (r : Bool) (w : World) (h : impl_InRange.f a0 a1 a2 = some r) :
  Calls Try.prog 85 #[.int .i64 a0, .int .i64 a1, .int .i64 a2] w fun e w' => e = .returned (.bool r) ∧ Drawn0 w w' := by
 have H : (if a1 ≤ a0 then (some (decide (a0 ≤ a2))) else (some false)) = some r := h
 clear h
 by_cases c4 : a1 ≤ a0
 ·rw [if_pos c4] at H
  have c4b0 : decide (a1 ≤ a0) = true := decide_eq_true c4
  clear c4
  obtain rfl := Option.some.inj H
  go_enter Try.func85, Try.ntmps85
  go_wp2
  go_ret
  exact ⟨by first | rfl | (simp; done) | (simp [*]; done), by repeat (first | exact Drawn0.refl _ | apply Drawn0.step)⟩
 ·rw [if_neg c4] at H
  have c4b0 : decide (a1 ≤ a0) = false := decide_eq_false c4
  clear c4
  obtain rfl := Option.some.inj H
  go_enter Try.func85, Try.ntmps85
  go_wp2
  go_ret
  exact ⟨by first | rfl | (simp; done) | (simp [*]; done), by repeat (first | exact Drawn0.refl _ | apply Drawn0.step)⟩

/-! ### impl_copyOf: function 132 -/
def impl_copyOf.f (l0 : List Int) : Option (List Int) := (some (([] : List Int) : List Int)).bind fun y219 => (if y219.length + l0.length < 17592186044416 then (some (y219 ++ l0)) else (none))
set_option maxHeartbeats 8000000 in
set_option maxRecDepth 100000 in
theorem impl_copyOf.calls (A0 : Option Addr) (c0 : Nat) (l0 : List Int) (r : List Int) (w : World) (hr0 : Kd.C (Kd.int .i64) w A0 l0.length l0) (hc0 : l0.length ≤ c0) (h : impl_copyOf.f l0 = some r) :
  Calls Try.prog 132 #[.slice A0 l0.length c0] w fun e w' => ∃ v0_ : Value, e = .returned (v0_) ∧ Kd.R (Kd.int .i64) 3 w' w.heap.size (fun _ => True) v0_ r ∧ Below w.heap.size w w' := by
 have HR0 := QW hr0
 have HC0 := QW hc0
 clear hr0 hc0
 have HB := QW (Below.refl w.heap.size w)
 have H : ((some (([] : List Int) : List Int)).bind fun y219 => (if y219.length + l0.length < 17592186044416 then (some (y219 ++ l0)) else (none))) = some r := h
 clear h
 obtain ⟨y219, hy219⟩ : ∃ y_ : List Int, y_ = (([] : List Int)) := ⟨_, rfl⟩
 replace H : (if y219.length + l0.length < 17592186044416 then (some (y219 ++ l0)) else (none)) = some r := by first | (rw [hy219]; with_reducible exact H) | (have H2_ := (Option.bind_some _ _).symm.trans H; rw [hy219]; with_reducible exact H2_) | (have H2_ := (Option.bind_some _ _).symm.trans H; with_reducible exact H2_) | with_reducible exact H | (rw [hy219]; exact H) | exact H
 have Ny219 := QW hy219
 clear hy219
 by_cases c2 : y219.length + l0.length < 17592186044416
 ·rw [if_pos c2] at H
  have LMc2 := QW c2
  clear c2
  obtain ⟨y222, hy222⟩ : ∃ y_ : List Int, y_ = (y219 ++ l0) := ⟨_, rfl⟩
  replace H : (some y222) = some r := by first | (rw [hy222]; with_reducible exact H) | (have H2_ := (Option.bind_some _ _).symm.trans H; rw [hy222]; with_reducible exact H2_) | (have H2_ := (Option.bind_some _ _).symm.trans H; with_reducible exact H2_) | with_reducible exact H | (rw [hy222]; exact H) | exact H
  have Ny222 := QW hy222
  clear hy222
  obtain rfl := Option.some.inj H
  go_enter Try.func132, Try.ntmps132
  go_wp2_with (first | ((with_reducible refine gate_dst (N := 3) rfl ?_); refine Kd.R_lit (Kd.int .i64) _ 3 ?hg (N := 3) ?hd (xs := ([] : List Int)) (inner := []) (ok := fun _ => True) (okp := fun _ => True) ?hr ?hp (fun _ hk => hk) trivial (Below.refl _ _) (Nat.le_refl _) (by simp) ?_; (case hd => rfl); (case hg => rfl); (case hr => first | (go_simp; done) | (go_simp; rfl)); (case hp => exact (Reps.none _ _)); intro v220 w3 ho4 hb hg_ hnew_; clear hg_ hnew_; (first | rw [← Ny219.out] at ho4 | (simp only [Int.reduceToNat] at ho4; rw [← Ny219.out] at ho4)); have n0_ := QW (Kd.R_lower ho4 (QS (by repeat (first | (with_reducible first | exact HB.out | apply QE | apply QB | apply QD) | exact HB.out)))); have n1_ := QW (below_step (by repeat (first | (with_reducible first | exact HB.out | apply QE | apply QB | apply QD) | exact HB.out)) hb); clear HB; have HO221 := n0_; have HB := n1_; clear n0_ n1_; clear hb ho4) | ((with_reducible refine gate_builtin (b := .append) (xs := #[.tmp 3, .tmp 4]) rfl ?_); at_builtin; refine Kd.R_append_rows (Kd.int .i64) (w0 := w) w.heap.size rfl (.tmp 3) (.tmp 4) 24 3 (.int .i64 0) 8 rfl Try.underlying24 info3 rfl (by decide) (by omega) v220 y219 l0 _ _ _ (fun _ => True) (fun _ => False) rfl rfl ?aO ?aR (fun _ _ h => h) (fun _ h => h.elim) ?aF ?aB ?aS ?aL ?_; (case aR => repeat (first | exact (Kd.C_below HR0.out HB.out) | (with_reducible refine Kd.C_alloc ?_ _) | (with_reducible refine Kd.C_drewN ?_ _) | (with_reducible refine Kd.C_drew ?_))); (case aB => exact (by repeat (first | (with_reducible first | exact HB.out | apply QE | apply QB | apply QD) | exact HB.out))); (case aF => exact (fun _ _ => trivial)); (case aO => exact (by (with_reducible repeat (first | apply Kd.R_alloc | apply Kd.R_drewN | apply Kd.R_drew)); exact HO221.out)); (case aS => exact (QS (by repeat (first | (with_reducible first | exact HB.out | apply QE | apply QB | apply QD) | exact HB.out)))); (case aL => have := LMc2.out; omega); intro v223 w5 ho hb hg hat; rw [← Ny222.out] at ho; have n0_ := QW (hb); have n1_ := QW (ho); clear HB; clear HO221; have HB := n0_; have HO224 := n1_; clear n0_ n1_; clear ho hb hg hat))
  go_ret
  exact ⟨_, by first | rfl | (simp [errW_none, errW_some] <;> rfl) | (simp [*, errW_none, errW_some] <;> rfl), by (with_reducible repeat (first | apply Kd.R_alloc | apply Kd.R_drewN | apply Kd.R_drew)); exact HO224.out, by repeat (first | (with_reducible first | exact HB.out | apply QE | apply QB | apply QD) | exact HB.out)⟩
 ·rw [if_neg c2] at H
  exact absurd H (by simp)

/-! ### impl_copyRows: function 112 -/
def impl_copyRows.l0 : Nat → List (List Int) → List (List Int) → Int → Int → Option ((List (List Int)))
 | 0, _, _, _, _ => none
 | k + 1, x3, x7, x8, x9 => if x9 < x8 then (if 0 ≤ x9 then (if x9 < (x7.length : Int) then ((impl_copyOf.f (rd_L1 x7 x9)).bind fun t229 => (if x3.length < 5864062014805 then (impl_copyRows.l0 k (x3 ++ [t229]) x7 x8 (wrap64 (x9 + 1))) else (none))) else (none)) else (none)) else (some x3)
def impl_copyRows.f (k : Nat) (l0 : List (List Int)) : Option ((List (List Int))) := impl_copyRows.l0 k (([] : List (List Int))) l0 (l0.length : Int) 0
theorem impl_copyRows.mono_l : ∀ k, (∀ y0 y1 y2 y3, LeO (impl_copyRows.l0 k y0 y1 y2 y3) (impl_copyRows.l0 (k + 1) y0 y1 y2 y3))
 | 0 => fun _ _ _ _ r h => by simp [impl_copyRows.l0] at h
 | k + 1 => by
  have ih0 := impl_copyRows.mono_l k
  ·intro y0 y1 y2 y3
   unfold impl_copyRows.l0
   repeat' first
   | (with_reducible exact ih0 _ _ _ _)
   | (with_reducible exact LeO.refl _)
   | (with_reducible exact LeO.none _)
   | (with_reducible refine LeO.ite ?_ ?_)
   | (with_reducible refine LeO.bind ?_ (fun _ => ?_))
   | exact ih0 _ _ _ _
   | exact LeO.none _
   | refine LeO.ite ?_ ?_
   | refine LeO.bind ?_ (fun _ => ?_)
theorem impl_copyRows.mono : ∀ a0 k, LeO (impl_copyRows.f k a0) (impl_copyRows.f (k + 1) a0) := by
 intro a0 k
 have ih0 := impl_copyRows.mono_l k
 unfold impl_copyRows.f
 repeat' first
   | (with_reducible exact ih0 _ _ _ _)
   | (with_reducible exact LeO.refl _)
   | (with_reducible exact LeO.none _)
   | (with_reducible refine LeO.ite ?_ ?_)
   | (with_reducible refine LeO.bind ?_ (fun _ => ?_))
   | exact ih0 _ _ _ _
   | exact LeO.none _
   | refine LeO.ite ?_ ?_
   | refine LeO.bind ?_ (fun _ => ?_)
set_option maxHeartbeats 8000000 in
set_option maxRecDepth 100000 in
theorem impl_copyRows.calls (k : Nat) (A0 : Option Addr) (c0 : Nat) (l0 : List (List Int)) (r : List (List Int)) (w : World) (hr0 : Kd.C (Kd.slice 3 (Kd.int .i64)) w A0 l0.length l0) (hc0 : l0.length ≤ c0) (h : impl_copyRows.f k l0 = some r) :
  Calls Try.prog 112 #[.slice A0 l0.length c0] w fun e w' => ∃ v0_ : Value, e = .returned (v0_) ∧ Kd.S (Kd.slice 3 (Kd.int .i64)) 24 w' w.heap.size (fun _ => True) v0_ r ∧ Below w.heap.size w w' := by
 have HR0 := QW hr0
 have HC0 := QW hc0
 clear hr0 hc0
 have HB := QW (Below.refl w.heap.size w)
 have H : (impl_copyRows.l0 k (([] : List (List Int))) l0 (l0.length : Int) 0) = some r := h
 clear h
 obtain ⟨y225, hy225⟩ : ∃ y_ : List (List Int), y_ = (([] : List (List Int))) := ⟨_, rfl⟩
 replace H : (impl_copyRows.l0 k y225 l0 (l0.length : Int) 0) = some r := by first | (rw [hy225]; with_reducible exact H) | (have H2_ := (Option.bind_some _ _).symm.trans H; rw [hy225]; with_reducible exact H2_) | (have H2_ := (Option.bind_some _ _).symm.trans H; with_reducible exact H2_) | with_reducible exact H | (rw [hy225]; exact H) | exact H
 have Ny225 := QW hy225
 clear hy225
 have H' := QW H
 clear H
 go_enter Try.func112, Try.ntmps112
 go_wp2_with (first | ((with_reducible refine gate_dst (N := 6) rfl ?_); refine Kd.S_lit (Kd.slice 3 (Kd.int .i64)) _ 24 ?hg (N := 6) ?hd (xs := ([] : List (List Int))) (inner := []) (ok := fun _ => True) (okp := fun _ => True) ?hr ?hp (fun _ hk => hk) trivial (Below.refl _ _) (Nat.le_refl _) (by simp) ?_; (case hd => rfl); (case hg => rfl); (case hr => first | (go_simp; done) | (go_simp; rfl)); (case hp => exact (Reps.none _ _)); intro v226 w2 ho3 hb hg_ hnew_; clear hg_ hnew_; (first | rw [← Ny225.out] at ho3 | (simp only [Int.reduceToNat] at ho3; rw [← Ny225.out] at ho3)); have n0_ := QW (Kd.S_lower ho3 (QS (by repeat (first | (with_reducible first | exact HB.out | apply QE | apply QB | apply QD) | exact HB.out)))); have n1_ := QW (below_step (by repeat (first | (with_reducible first | exact HB.out | apply QE | apply QB | apply QD) | exact HB.out)) hb); clear HB; have HO227 := n0_; have HB := n1_; clear n0_ n1_; clear hb ho3))
 go_loopg [3, 9] k (fun kq v3 v9 w' => ∃ (x3_1 : List (List Int)) (x9_1 : Int), v9 = .int .i64 x9_1 ∧ Aside0 (impl_copyRows.l0 kq x3_1 l0 (l0.length : Int) x9_1 = some r) ∧ Aside0 (kq ≤ k) ∧ Aside0 (Kd.S (Kd.slice 3 (Kd.int .i64)) 24 w' w.heap.size (fun _ => True) v3 x3_1) ∧ Aside0 (Below w.heap.size w w'))
 case atStart => exact ⟨(y225), (0), (by first | rfl | (simp; done) | (simp [*]; done)), H', ⟨Nat.le_refl _⟩, ⟨by (with_reducible repeat (first | apply Kd.S_alloc | apply Kd.S_drewN | apply Kd.S_drew)); exact HO227.out⟩, ⟨by repeat (first | (with_reducible first | exact HB.out | apply QE | apply QB | apply QD) | exact HB.out)⟩⟩
 case round =>
  clear H'
  try clear c1
  try clear p2
  obtain ⟨x3_1, x9_1, rfl, HA, HK1, HO_3, HB⟩ := hrel
  cases gk with
  | zero => exact absurd HA.out (by simp [impl_copyRows.l0])
  | succ k1 =>
   have H := HA.out
   clear HA
   simp only [impl_copyRows.l0] at H
   by_cases c4 : x9_1 < (l0.length : Int)
   ·rw [if_pos c4] at H
    have c4b0 : decide (x9_1 < (l0.length : Int)) = true := decide_eq_true c4
    clear c4
    by_cases c5 : 0 ≤ x9_1
    ·rw [if_pos c5] at H
     have c5b0 : decide (0 ≤ x9_1) = true := decide_eq_true c5
     clear c5
     by_cases c6 : x9_1 < (l0.length : Int)
     ·rw [if_pos c6] at H
      have c6b0 : decide (x9_1 < (l0.length : Int)) = true := decide_eq_true c6
      clear c6
      replace H := Option.bind_eq_some_iff.mp H
      obtain ⟨t229, A70, H⟩ := H
      have A7 := QW A70
      clear A70
      by_cases c8 : x3_1.length < 5864062014805
      ·rw [if_pos c8] at H
       have LMc8 := QW c8
       clear c8
       obtain ⟨y232, hy232⟩ : ∃ y_ : List (List Int), y_ = (x3_1 ++ [t229]) := ⟨_, rfl⟩
       replace H : (impl_copyRows.l0 k1 y232 l0 (l0.length : Int) (wrap64 (x9_1 + 1))) = some r := by first | (rw [hy232]; with_reducible exact H) | (have H2_ := (Option.bind_some _ _).symm.trans H; rw [hy232]; with_reducible exact H2_) | (have H2_ := (Option.bind_some _ _).symm.trans H; with_reducible exact H2_) | with_reducible exact H | (rw [hy232]; exact H) | exact H
       have Ny232 := QW hy232
       clear hy232
       have H' := QW H
       clear H
       have p228 : 0 ≤ (x9_1 : Int) := of_decide_eq_true (by first | (with_reducible assumption) | assumption)
       have q228 : x9_1 < (l0.length : Int) := of_decide_eq_true (by first | (with_reducible assumption) | assumption)
       obtain ⟨ad228, A228_0, c228_0, e228, hx228_0, hl228_0, hi228_0⟩ := at_L1 HR0.out x9_1 p228 q228
       cases e228
       replace hx228_0 := (HB.out.cell (World.block_lt_of_cell? w _ hx228_0)).trans hx228_0
       have HR228_0 := QW hi228_0
       have HC228_0 := QW hl228_0
       clear hi228_0 hl228_0
       replace p228 := eq_true p228
       replace q228 := eq_true q228
       go_wp2_with (first | ((with_reducible refine gate_callee (f := 132) rfl ?_); refine goesL_ (some 15) rfl rfl Try.func132 (by kernel_rfl) rfl #[.slice A228_0 (rd_L1 l0 x9_1).length c228_0] rfl (by (try simp only [List.map_toArray, List.map_cons, List.map_nil]); first | done | rfl | (simp only [List.length_drop, List.length_take]; rfl)) ?_; (with_reducible refine (impl_copyOf.calls _ _ (rd_L1 l0 x9_1) t229 _ ?side1 ?side2 A7.out).mono ?_); (case side1 => repeat (first | exact (Kd.C_below HR228_0.out HB.out) | (with_reducible refine Kd.C_alloc ?_ _) | (with_reducible refine Kd.C_drewN ?_ _) | (with_reducible refine Kd.C_drew ?_))); (case side2 => exact HC228_0.out); rintro e w9 ⟨v230, rfl, ho0, hb⟩; refine ⟨_, rfl, ?_⟩; have n0_ := QW (Kd.S_elder' (by (with_reducible repeat (first | apply Kd.S_alloc | apply Kd.S_drewN | apply Kd.S_drew)); exact HO_3.out) (Kd.R_base ho0) hb); have n1_ := QW (Kd.R_lower ho0 (QS (by repeat (first | (with_reducible first | exact HB.out | apply QE | apply QB | apply QD) | exact HB.out)))); have n2_ := QW (below_step (by repeat (first | (with_reducible first | exact HB.out | apply QE | apply QB | apply QD) | exact HB.out)) hb); clear HO_3; clear HB; have HO_3 := n0_; have HO231 := n1_; have HB := n2_; clear n0_ n1_ n2_; (try clear hb); (try clear hb2); (try clear hk); (try clear hi); (try clear ho0); obtain ⟨Ao11, co11, eo11⟩ := Kd.R_slice HO231.out; subst eo11) | ((with_reducible refine gate_builtin (b := .append) (xs := #[.tmp 13, .tmp 16]) rfl ?_); at_builtin; refine Kd.S_append (Kd.slice 3 (Kd.int .i64)) (w0 := w) w.heap.size rfl (.tmp 13) (.tmp 16) 53 24 (.slice none 0 0) 24 rfl Try.underlying53 info24 rfl (by decide) (by omega) u3 x3_1 t229 [.slice Ao11 t229.length co11] (fun _ => True) (fun k_ => some k_ = (.slice Ao11 t229.length co11 : Value).ownBlock) rfl rfl ?aP (fun k_ hk_ => ((Kd.R_mono (ok' := fun k_ => ((fun _ => True)) k_ ∧ some k_ ≠ (u3 : Value).ownBlock) (Kd.R_apart' (HO231.out) (Kd.S_typed HO_3.out) (by decide)) (fun k_ hk => ⟨trivial, hk.2⟩))).1 k_ hk_.symm) ?aF ?aO ?aB ?aS ?aL ?_; (case aP => exact Kd.M_row (Kd.R_mono (Kd.R_tight rfl (Kd.R_mono (ok' := fun k_ => ((fun _ => True)) k_ ∧ some k_ ≠ (u3 : Value).ownBlock) (Kd.R_apart' (HO231.out) (Kd.S_typed HO_3.out) (by decide)) (fun k_ hk => ⟨trivial, hk.2⟩))) (fun _ h_ => h_))); (case aB => exact (by repeat (first | (with_reducible first | exact HB.out | apply QE | apply QB | apply QD) | exact HB.out))); (case aF => exact (fun _ _ => trivial)); (case aO => exact (by (with_reducible repeat (first | apply Kd.S_alloc | apply Kd.S_drewN | apply Kd.S_drew)); exact Kd.S_mono HO_3.out (fun k_ hk => ⟨trivial, fun e_ => hk.2 e_⟩))); (case aS => exact (QS (by repeat (first | (with_reducible first | exact HB.out | apply QE | apply QB | apply QD) | exact HB.out)))); (case aL => have := LMc8.out; omega); intro v233 w10 ho hb hg hat; rw [← Ny232.out] at ho; have n0_ := QW (hb); have n1_ := QW (ho); clear HB; clear HO_3; clear HO231; have HB := n0_; have HO234 := n1_; clear n0_ n1_; clear ho hb hg hat))
       go_roundg k1
       case measure => have := HK1.out; omega
       case rel => exact ⟨(y232), (wrap64 (x9_1 + 1)), (by first | rfl | (simp; done) | (simp [*]; done)), H', ⟨by have := HK1.out; omega⟩, ⟨by (with_reducible repeat (first | apply Kd.S_alloc | apply Kd.S_drewN | apply Kd.S_drew)); exact HO234.out⟩, ⟨by repeat (first | (with_reducible first | exact HB.out | apply QE | apply QB | apply QD) | exact HB.out)⟩⟩
      ·rw [if_neg c8] at H
       exact absurd H (by simp)
     ·rw [if_neg c6] at H
      exact absurd H (by simp)
    ·rw [if_neg c5] at H
     exact absurd H (by simp)
   ·rw [if_neg c4] at H
    have c4b0 : decide (x9_1 < (l0.length : Int)) = false := decide_eq_false c4
    clear c4
    obtain rfl := Option.some.inj H
    go_wp2
    go_ret
    exact ⟨_, by first | rfl | (simp [errW_none, errW_some] <;> rfl) | (simp [*, errW_none, errW_some] <;> rfl), by (with_reducible repeat (first | apply Kd.S_alloc | apply Kd.S_drewN | apply Kd.S_drew)); exact HO_3.out, by repeat (first | (with_reducible first | exact HB.out | apply QE | apply QB | apply QD) | exact HB.out)⟩

/-! ### impl_IsCard: function 86 -/
def impl_IsCard.f (a0 : Int) : Option (Bool) := (impl_InRange.f a0 0 51).bind fun t235 => (some t235)
set_option maxHeartbeats 8000000 in
set_option maxRecDepth 100000 in
theorem impl_IsCard.calls (a0 : Int) (r : Bool) (w : World) (h : impl_IsCard.f a0 = some r) :
  Calls Try.prog 86 #[.int .i64 a0] w fun e w' => e = .returned (.bool r) ∧ Drawn0 w w' := by
 have H : ((impl_InRange.f a0 0 51).bind fun t235 => (some t235)) = some r := h
 clear h
 replace H := Option.bind_eq_some_iff.mp H
 obtain ⟨t235, A20, H⟩ := H
 have A2 := QW A20
 clear A20
 obtain rfl := Option.some.inj H
 go_enter Try.func86, Try.ntmps86
 go_wp2_with (first | ((with_reducible refine gate_callee (f := 85) rfl ?_); refine goesL_ (some 4) rfl rfl Try.func85 (by kernel_rfl) rfl #[.int .i64 a0, .int .i64 0, .int .i64 51] rfl (by (try simp only [List.map_toArray, List.map_cons, List.map_nil]); first | done | rfl | (simp only [List.length_drop, List.length_take]; rfl)) ?_; (with_reducible refine (impl_InRange.calls a0 0 51 t235 _ A2.out).mono ?_); rintro e w' ⟨rfl, ⟨nd, rfl⟩⟩; refine ⟨_, rfl, ?_⟩))
 go_ret
 exact ⟨by first | rfl | (simp; done) | (simp [*]; done), by repeat (first | exact Drawn0.refl _ | apply Drawn0.step)⟩

/-! ### impl_IsHand: function 20 -/
def impl_IsHand.handF : List Bool → List Int → Bool
 | _, [] => true
 | seen, c :: r => if 0 ≤ c ∧ c ≤ 51 then (if seen.getD c.toNat false = true then false else impl_IsHand.handF (seen.set c.toNat true) r) else false
def impl_IsHand.f (l0 : List Int) : Option (Bool) := some (impl_IsHand.handF (List.replicate 52 false) l0)
theorem impl_IsHand.hand_cell {w : World} {g T : Nat} {seen : List Bool} (h : w.heap[g]? = some (.cells (bools seen).toArray T (0, 0))) (c : Int) (h0 : 0 ≤ c) (h1 : c < (seen.length : Int)) : w.cell? ⟨g, c.toNat, none⟩ = some (.bool (seen.getD c.toNat false)) := by
 have hl : c.toNat < seen.length := by omega
 rw [cell_of_row w g c.toNat _ T (0, 0) h]
 simp [bools, List.getElem?_eq_getElem hl, List.getD_eq_getElem?_getD]
theorem impl_IsHand.hand_set {w : World} {g T : Nat} {seen : List Bool} (h : w.heap[g]? = some (.cells (bools seen).toArray T (0, 0))) (c : Nat) : (w.setCell ⟨g, c, none⟩ (.bool true)).heap[g]? = some (.cells (bools (seen.set c true)).toArray T (0, 0)) := by
 simp [World.setCell, Array.getElem?_modify, h, bools, List.map_set]
theorem impl_IsHand.hand_frozen {w : World} {g T : Nat} {cs : Array Value} (h : w.heap[g]? = some (.cells cs T (0, 0))) (i : Nat) : w.frozen? ⟨g, i, none⟩ = false := by simp [World.frozen?, h]
set_option maxHeartbeats 2000000 in
set_option maxRecDepth 100000 in
theorem impl_IsHand.hand_any {P : Program} (F : P.funcs[20]? = some Try.f20) (t3 : P.underlying 3 = some (.int .i64)) (a3 : ∀ w, (isAgg 3).run P w = .ok false w) (z3 : ∀ w, (Go.sizeOf 3).run P w = .ok 1 w)
  (t4 : P.underlying 4 = some .bool) (a4 : ∀ w, (isAgg 4).run P w = .ok false w) (z4 : ∀ w, (Go.sizeOf 4).run P w = .ok 1 w)
  (t22 : P.underlying 24 = some (.slice 3)) (t68 : P.underlying 96 = some (.array 52 4))
  (Z : Array Value) (HZ : Aside0 (Z = (bools (List.replicate 52 false)).toArray)) (v68 : ∀ w, (zeroValue 96).run P w = .ok (.agg Z) w) (i68 : (P.info? 96).map (·.size) = some 52) (Z52 : Z.size = 52) (Z1 : Z.all (·.oneCell') = true)
  (E : ∀ args w, (callFunc 86 args).run P w = .ok (.enter 86 args) w)
  (Cy : ∀ (a : Int) (w : World), 0 ≤ a ∧ a ≤ 51 → Calls P 86 #[.int .i64 a] w fun e w' => e = .returned (.bool true) ∧ Drawn0 w w')
  (Cn : ∀ (a : Int) (w : World), ¬ (0 ≤ a ∧ a ≤ 51) → Calls P 86 #[.int .i64 a] w fun e w' => e = .returned (.bool false) ∧ Drawn0 w w')
  (A0 : Option Addr) (c0 : Nat) (l0 : List Int) (w : World) (hr0 : Kd.C (Kd.int .i64) w A0 l0.length l0) :
  Calls P 20 #[.slice A0 l0.length c0] w fun e w' => e = .returned (.bool (impl_IsHand.handF (List.replicate 52 false) l0)) ∧ Below w.heap.size w w' := by
 have HR0 := QW hr0
 have HL := QW hr0.2.1
 clear hr0
 have hst := run_storeCells_new (P := P) w 96 Z Z (by rw [i68, Z52]) rfl Z1
 have z68 : ∀ w, (Go.sizeOf 96).run P w = .ok 52 w := by
  intro w
  cases h : P.info? 96 with
  | none => simp [h] at i68
  | some i => simp [h] at i68; simp [Go.sizeOf, typeInfo, h, i68]
 have u68 : ∀ w, (underlying 96).run P w = .ok (.array 52 4) w := run_underlying t68
 go_enter F, Try.ntmps20
 go_wp2
 clear z68 u68 hst
 go_loopg [9] l0.length (fun g v9 wx => ∃ (i : Nat) (seen : List Bool), v9 = .int .i64 (i : Int) ∧ Aside0 (i + g = l0.length) ∧ Aside0 (seen.length = 52) ∧ Aside0 (impl_IsHand.handF seen (l0.drop i) = impl_IsHand.handF (List.replicate 52 false) l0) ∧ Aside0 (wx.heap[w.heap.size]? = some (.cells (bools seen).toArray 96 (0, 0))) ∧ Aside0 (Below w.heap.size w wx))
 case atStart => exact ⟨0, List.replicate 52 false, rfl, ⟨by simp⟩, ⟨by simp⟩, ⟨by simp⟩, ⟨by rw [← HZ.out]; exact heap_alloc_last _ _⟩, ⟨(Below.refl _ _).alloc (Nat.le_refl _) _⟩⟩
 case round =>
  obtain ⟨i, seen, rfl, HI, HS, HH, HC, HB⟩ := hrel
  cases gk with
  | zero =>
   have hi : ¬ ((i : Int) < (l0.length : Int)) := by have := HI.out; omega
   have hi' : decide ((i : Int) < (l0.length : Int)) = false := decide_eq_false hi
   have hi'' : decide (i < l0.length) = false := by have := HI.out; simp; omega
   clear hi
   have fin : impl_IsHand.handF (List.replicate 52 false) l0 = true := by
    rw [← HH.out, List.drop_of_length_le (by have := HI.out; omega)]
    cases seen <;> rfl
   have FIN := QW fin
   clear fin
   go_wp2
   go_ret
   exact ⟨by rw [FIN.out]; first | rfl | (simp; done), HB.out⟩
  | succ g =>
   have hi : (i : Int) < (l0.length : Int) := by have := HI.out; omega
   have h0 : 0 ≤ (i : Int) := by omega
   obtain ⟨ad, e1, hx⟩ := Kd.at_int (Kd.C_below HR0.out HB.out) (i : Int) h0 hi
   cases e1
   simp only [Int.toNat_natCast] at hx
   have hdrop : l0.drop i = rd l0 (i : Int) :: l0.drop (i + 1) := by
    have hn : i < l0.length := by omega
    rw [List.drop_eq_getElem_cons hn]
    unfold rd
    simp [List.getD_eq_getElem?_getD, List.getElem?_eq_getElem hn]
   have HD := QW hdrop
   clear hdrop
   generalize hc : rd l0 (i : Int) = c at *
   clear hc
   have hl2 := HL.out
   by_cases hv : 0 ≤ c ∧ c ≤ 51
   ·have hcell := impl_IsHand.hand_cell HC.out c hv.1 (by have := HS.out; omega)
    have hfz := impl_IsHand.hand_frozen HC.out c.toNat
    have HV := QW hv
    have v0 := hv.1
    have v1 := hv.2
    clear hv
    have hstep : impl_IsHand.handF seen (c :: l0.drop (i + 1)) = if seen.getD c.toNat false = true then false else impl_IsHand.handF (seen.set c.toNat true) (l0.drop (i + 1)) := by rw [impl_IsHand.handF, if_pos HV.out]
    have HT := QW hstep
    clear hstep
    generalize hs : seen.getD c.toNat false = s at hcell
    have HSS := QW hs
    clear hs
    cases s with
    | true =>
     have fin : impl_IsHand.handF (List.replicate 52 false) l0 = false := by rw [← HH.out, HD.out, HT.out, HSS.out]; rfl
     have FIN := QW fin
     clear fin
     go_wp2_with (go_at_fn 86; refine (Cy c _ HV.out).mono ?_; rintro e w' ⟨rfl, nd, rfl⟩)
     go_ret
     exact ⟨by rw [FIN.out]; first | rfl | (simp; done), by repeat (first | exact HB.out | apply QB | apply QD)⟩
    | false =>
     have nxt : impl_IsHand.handF (seen.set c.toNat true) (l0.drop (i + 1)) = impl_IsHand.handF (List.replicate 52 false) l0 := by rw [← HH.out, HD.out, HT.out, HSS.out]; rfl
     have NXT := QW nxt
     clear nxt
     go_wp2_with (go_at_fn 86; refine (Cy c _ HV.out).mono ?_; rintro e w' ⟨rfl, nd, rfl⟩)
     go_roundg g
     case measure => omega
     case rel => exact ⟨i + 1, seen.set c.toNat true, by go_num, ⟨by have := HI.out; omega⟩, ⟨by rw [List.length_set]; exact HS.out⟩, NXT, ⟨impl_IsHand.hand_set HC.out _⟩, ⟨Below.setCell (QB HB.out _) (Nat.le_refl _) _⟩⟩
   ·have fin : impl_IsHand.handF (List.replicate 52 false) l0 = false := by rw [← HH.out, HD.out, impl_IsHand.handF, if_neg hv]
    have FIN := QW fin
    clear fin
    have HV := QW hv
    clear hv
    go_wp2_with (go_at_fn 86; refine (Cn c _ HV.out).mono ?_; rintro e w' ⟨rfl, nd, rfl⟩)
    go_ret
    exact ⟨by rw [FIN.out]; first | rfl | (simp; done), by repeat (first | exact HB.out | apply QB | apply QD)⟩
theorem impl_IsHand.card_yes (a : Int) (h : 0 ≤ a ∧ a ≤ 51) : impl_IsCard.f a = some true := by simp [impl_IsCard.f, impl_InRange.f, h.1, h.2]
theorem impl_IsHand.card_no (a : Int) (h : ¬ (0 ≤ a ∧ a ≤ 51)) : impl_IsCard.f a = some false := by
 by_cases h0 : 0 ≤ a
 ·have h1 : ¬ a ≤ 51 := fun g => h ⟨h0, g⟩
  simp [impl_IsCard.f, impl_InRange.f, h0, h1]
 ·simp [impl_IsCard.f, impl_InRange.f, h0]
theorem impl_IsHand.calls (A0 : Option Addr) (c0 : Nat) (l0 : List Int) (r : Bool) (w : World) (hr0 : Kd.C (Kd.int .i64) w A0 l0.length l0) (hc0 : l0.length ≤ c0) (h : impl_IsHand.f l0 = some r) :
  Calls Try.prog 20 #[.slice A0 l0.length c0] w fun e w' => e = .returned (.bool r) ∧ Below w.heap.size w w' := by
 obtain rfl := Option.some.inj h
 exact impl_IsHand.hand_any Try.func20 Try.underlying3 Try.isAgg3 Try.sizeOf3 Try.underlying4 Try.isAgg4 Try.sizeOf4 Try.underlying24 Try.underlying96 _ ⟨by rfl⟩ Try.zeroValue96 (by kernel_rfl) rfl (by decide +kernel)
  (enters_of Try.func86 (by kernel_rfl) rfl) (fun a w h => impl_IsCard.calls a true w (impl_IsHand.card_yes a h)) (fun a w h => impl_IsCard.calls a false w (impl_IsHand.card_no a h)) A0 c0 l0 w hr0

/-! ### impl_AllApart: function 153 -/
def impl_AllApart.l0 : Nat → List Int → List (List Int) → Int → Int → Option (Bool)
 | 0, _, _, _, _ => none
 | k + 1, x3, x7, x8, x9 => if x9 < x8 then (if 0 ≤ x9 then (if x9 < (x7.length : Int) then (if x3.length + (rd_L1 x7 x9).length < 17592186044416 then (impl_AllApart.l0 k (x3 ++ (rd_L1 x7 x9)) x7 x8 (wrap64 (x9 + 1))) else (none)) else (none)) else (none)) else ((impl_IsHand.f x3).bind fun t249 => (some t249))
def impl_AllApart.f (k : Nat) (l0 : List (List Int)) : Option (Bool) := impl_AllApart.l0 k (([] : List Int)) l0 (l0.length : Int) 0
theorem impl_AllApart.mono_l : ∀ k, (∀ y0 y1 y2 y3, LeO (impl_AllApart.l0 k y0 y1 y2 y3) (impl_AllApart.l0 (k + 1) y0 y1 y2 y3))
 | 0 => fun _ _ _ _ r h => by simp [impl_AllApart.l0] at h
 | k + 1 => by
  have ih0 := impl_AllApart.mono_l k
  ·intro y0 y1 y2 y3
   unfold impl_AllApart.l0
   repeat' first
   | (with_reducible exact ih0 _ _ _ _)
   | (with_reducible exact LeO.refl _)
   | (with_reducible exact LeO.none _)
   | (with_reducible refine LeO.ite ?_ ?_)
   | (with_reducible refine LeO.bind ?_ (fun _ => ?_))
   | exact ih0 _ _ _ _
   | exact LeO.none _
   | refine LeO.ite ?_ ?_
   | refine LeO.bind ?_ (fun _ => ?_)
theorem impl_AllApart.mono : ∀ a0 k, LeO (impl_AllApart.f k a0) (impl_AllApart.f (k + 1) a0) := by
 intro a0 k
 have ih0 := impl_AllApart.mono_l k
 unfold impl_AllApart.f
 repeat' first
   | (with_reducible exact ih0 _ _ _ _)
   | (with_reducible exact LeO.refl _)
   | (with_reducible exact LeO.none _)
   | (with_reducible refine LeO.ite ?_ ?_)
   | (with_reducible refine LeO.bind ?_ (fun _ => ?_))
   | exact ih0 _ _ _ _
   | exact LeO.none _
   | refine LeO.ite ?_ ?_
   | refine LeO.bind ?_ (fun _ => ?_)
set_option maxHeartbeats 8000000 in
set_option maxRecDepth 100000 in
theorem impl_AllApart.calls (k : Nat) (A0 : Option Addr) (c0 : Nat) (l0 : List (List Int)) (r : Bool) (w : World) (hr0 : Kd.C (Kd.slice 3 (Kd.int .i64)) w A0 l0.length l0) (hc0 : l0.length ≤ c0) (h : impl_AllApart.f k l0 = some r) :
  Calls Try.prog 153 #[.slice A0 l0.length c0] w fun e w' => e = .returned (.bool r) ∧ Below w.heap.size w w' := by
 have HR0 := QW hr0
 have HC0 := QW hc0
 clear hr0 hc0
 have HB := QW (Below.refl w.heap.size w)
 have H : (impl_AllApart.l0 k (([] : List Int)) l0 (l0.length : Int) 0) = some r := h
 clear h
 obtain ⟨y242, hy242⟩ : ∃ y_ : List Int, y_ = (([] : List Int)) := ⟨_, rfl⟩
 replace H : (impl_AllApart.l0 k y242 l0 (l0.length : Int) 0) = some r := by first | (rw [hy242]; with_reducible exact H) | (have H2_ := (Option.bind_some _ _).symm.trans H; rw [hy242]; with_reducible exact H2_) | (have H2_ := (Option.bind_some _ _).symm.trans H; with_reducible exact H2_) | with_reducible exact H | (rw [hy242]; exact H) | exact H
 have Ny242 := QW hy242
 clear hy242
 have H' := QW H
 clear H
 go_enter Try.func153, Try.ntmps153
 go_wp2_with (first | ((with_reducible refine gate_dst (N := 6) rfl ?_); refine Kd.R_lit (Kd.int .i64) _ 3 ?hg (N := 6) ?hd (xs := ([] : List Int)) (inner := []) (ok := fun _ => True) (okp := fun _ => True) ?hr ?hp (fun _ hk => hk) trivial (Below.refl _ _) (Nat.le_refl _) (by simp) ?_; (case hd => rfl); (case hg => rfl); (case hr => first | (go_simp; done) | (go_simp; rfl)); (case hp => exact (Reps.none _ _)); intro v243 w2 ho3 hb hg_ hnew_; clear hg_ hnew_; (first | rw [← Ny242.out] at ho3 | (simp only [Int.reduceToNat] at ho3; rw [← Ny242.out] at ho3)); have n0_ := QW (Kd.R_lower ho3 (QS (by repeat (first | (with_reducible first | exact HB.out | apply QE | apply QB | apply QD) | exact HB.out)))); have n1_ := QW (below_step (by repeat (first | (with_reducible first | exact HB.out | apply QE | apply QB | apply QD) | exact HB.out)) hb); clear HB; have HO244 := n0_; have HB := n1_; clear n0_ n1_; clear hb ho3))
 go_loopg [3, 9] k (fun kq v3 v9 w' => ∃ (x3_1 : List Int) (x9_1 : Int), v9 = .int .i64 x9_1 ∧ Aside0 (impl_AllApart.l0 kq x3_1 l0 (l0.length : Int) x9_1 = some r) ∧ Aside0 (kq ≤ k) ∧ Aside0 (Kd.R (Kd.int .i64) 3 w' w.heap.size (fun _ => True) v3 x3_1) ∧ Aside0 (Below w.heap.size w w'))
 case atStart => exact ⟨(y242), (0), (by first | rfl | (simp; done) | (simp [*]; done)), H', ⟨Nat.le_refl _⟩, ⟨by (with_reducible repeat (first | apply Kd.R_alloc | apply Kd.R_drewN | apply Kd.R_drew)); exact HO244.out⟩, ⟨by repeat (first | (with_reducible first | exact HB.out | apply QE | apply QB | apply QD) | exact HB.out)⟩⟩
 case round =>
  clear H'
  try clear c1
  try clear p2
  obtain ⟨x3_1, x9_1, rfl, HA, HK1, HO_3, HB⟩ := hrel
  cases gk with
  | zero => exact absurd HA.out (by simp [impl_AllApart.l0])
  | succ k1 =>
   have H := HA.out
   clear HA
   simp only [impl_AllApart.l0] at H
   by_cases c4 : x9_1 < (l0.length : Int)
   ·rw [if_pos c4] at H
    have c4b0 : decide (x9_1 < (l0.length : Int)) = true := decide_eq_true c4
    clear c4
    by_cases c5 : 0 ≤ x9_1
    ·rw [if_pos c5] at H
     have c5b0 : decide (0 ≤ x9_1) = true := decide_eq_true c5
     clear c5
     by_cases c6 : x9_1 < (l0.length : Int)
     ·rw [if_pos c6] at H
      have c6b0 : decide (x9_1 < (l0.length : Int)) = true := decide_eq_true c6
      clear c6
      by_cases c7 : x3_1.length + (rd_L1 l0 x9_1).length < 17592186044416
      ·rw [if_pos c7] at H
       have LMc7 := QW c7
       clear c7
       obtain ⟨y246, hy246⟩ : ∃ y_ : List Int, y_ = (x3_1 ++ (rd_L1 l0 x9_1)) := ⟨_, rfl⟩
       replace H : (impl_AllApart.l0 k1 y246 l0 (l0.length : Int) (wrap64 (x9_1 + 1))) = some r := by first | (rw [hy246]; with_reducible exact H) | (have H2_ := (Option.bind_some _ _).symm.trans H; rw [hy246]; with_reducible exact H2_) | (have H2_ := (Option.bind_some _ _).symm.trans H; with_reducible exact H2_) | with_reducible exact H | (rw [hy246]; exact H) | exact H
       have Ny246 := QW hy246
       clear hy246
       have H' := QW H
       clear H
       have p245 : 0 ≤ (x9_1 : Int) := of_decide_eq_true (by first | (with_reducible assumption) | assumption)
       have q245 : x9_1 < (l0.length : Int) := of_decide_eq_true (by first | (with_reducible assumption) | assumption)
       obtain ⟨ad245, A245_0, c245_0, e245, hx245_0, hl245_0, hi245_0⟩ := at_L1 HR0.out x9_1 p245 q245
       cases e245
       replace hx245_0 := (HB.out.cell (World.block_lt_of_cell? w _ hx245_0)).trans hx245_0
       have HR245_0 := QW hi245_0
       have HC245_0 := QW hl245_0
       clear hi245_0 hl245_0
       replace p245 := eq_true p245
       replace q245 := eq_true q245
       go_wp2_with (first | ((with_reducible refine gate_builtin (b := .append) (xs := #[.tmp 13, .tmp 14]) rfl ?_); at_builtin; refine Kd.R_append_rows (Kd.int .i64) (w0 := w) w.heap.size rfl (.tmp 13) (.tmp 14) 24 3 (.int .i64 0) 8 rfl Try.underlying24 info3 rfl (by decide) (by omega) u3 x3_1 (rd_L1 l0 x9_1) _ _ _ (fun _ => True) (fun _ => False) rfl rfl ?aO ?aR (fun _ _ h => h) (fun _ h => h.elim) ?aF ?aB ?aS ?aL ?_; (case aR => repeat (first | exact (Kd.C_below HR245_0.out HB.out) | (with_reducible refine Kd.C_alloc ?_ _) | (with_reducible refine Kd.C_drewN ?_ _) | (with_reducible refine Kd.C_drew ?_))); (case aB => exact (by repeat (first | (with_reducible first | exact HB.out | apply QE | apply QB | apply QD) | exact HB.out))); (case aF => exact (fun _ _ => trivial)); (case aO => exact (by (with_reducible repeat (first | apply Kd.R_alloc | apply Kd.R_drewN | apply Kd.R_drew)); exact HO_3.out)); (case aS => exact (QS (by repeat (first | (with_reducible first | exact HB.out | apply QE | apply QB | apply QD) | exact HB.out)))); (case aL => have := LMc7.out; omega); intro v247 w8 ho hb hg hat; rw [← Ny246.out] at ho; have n0_ := QW (hb); have n1_ := QW (ho); clear HB; clear HO_3; have HB := n0_; have HO248 := n1_; clear n0_ n1_; clear ho hb hg hat))
       go_roundg k1
       case measure => have := HK1.out; omega
       case rel => exact ⟨(y246), (wrap64 (x9_1 + 1)), (by first | rfl | (simp; done) | (simp [*]; done)), H', ⟨by have := HK1.out; omega⟩, ⟨by (with_reducible repeat (first | apply Kd.R_alloc | apply Kd.R_drewN | apply Kd.R_drew)); exact HO248.out⟩, ⟨by repeat (first | (with_reducible first | exact HB.out | apply QE | apply QB | apply QD) | exact HB.out)⟩⟩
      ·rw [if_neg c7] at H
       exact absurd H (by simp)
     ·rw [if_neg c6] at H
      exact absurd H (by simp)
    ·rw [if_neg c5] at H
     exact absurd H (by simp)
   ·rw [if_neg c4] at H
    have c4b0 : decide (x9_1 < (l0.length : Int)) = false := decide_eq_false c4
    clear c4
    replace H := Option.bind_eq_some_iff.mp H
    obtain ⟨t249, A90, H⟩ := H
    have A9 := QW A90
    clear A90
    obtain rfl := Option.some.inj H
    obtain ⟨Ao10, co10, eo10⟩ := Kd.R_slice HO_3.out
    subst eo10
    go_wp2_with (first | ((with_reducible refine gate_callee (f := 20) rfl ?_); refine goesL_ (some 18) rfl rfl Try.func20 (by kernel_rfl) rfl #[.slice Ao10 x3_1.length co10] rfl (by (try simp only [List.map_toArray, List.map_cons, List.map_nil]); first | done | rfl | (simp only [List.length_drop, List.length_take]; rfl)) ?_; (with_reducible refine (impl_IsHand.calls _ _ x3_1 t249 _ ?side1 ?side2 A9.out).mono ?_); (case side1 => repeat (first | exact (Kd.R_reads' HO_3.out).2.2 | (with_reducible refine Kd.C_alloc ?_ _) | (with_reducible refine Kd.C_drewN ?_ _) | (with_reducible refine Kd.C_drew ?_))); (case side2 => exact (Kd.R_reads' HO_3.out).2.1); rintro e w11 ⟨rfl, hb⟩; refine ⟨_, rfl, ?_⟩; have n0_ := QW (Kd.R_below (by (with_reducible repeat (first | apply Kd.R_alloc | apply Kd.R_drewN | apply Kd.R_drew)); exact HO_3.out) hb); have n1_ := QW (below_step (by repeat (first | (with_reducible first | exact HB.out | apply QE | apply QB | apply QD) | exact HB.out)) hb); clear HO_3; clear HB; have HO_3 := n0_; have HB := n1_; clear n0_ n1_; (try clear hb); (try clear hb2); (try clear hk); (try clear hi)))
    go_ret
    exact ⟨by first | rfl | (simp [errW_none, errW_some] <;> rfl) | (simp [*, errW_none, errW_some] <;> rfl), by repeat (first | (with_reducible first | exact HB.out | apply QE | apply QB | apply QD) | exact HB.out)⟩

/-! ### impl_allIn: function 157 -/
def impl_allIn.l0 : Nat → Int → Int → List Int → Int → Int → Option (Bool)
 | 0, _, _, _, _, _ => none
 | k + 1, x1, x2, x9, x10, x11 => if x11 < x10 then (if 0 ≤ x11 then (if x11 < (x9.length : Int) then ((impl_InRange.f (rd x9 x11) x1 x2).bind fun t251 => (if t251 = true then (impl_allIn.l0 k x1 x2 x9 x10 (wrap64 (x11 + 1))) else (some false))) else (none)) else (none)) else (some true)
def impl_allIn.f (k : Nat) (l0 : List Int) (a1 : Int) (a2 : Int) : Option (Bool) := impl_allIn.l0 k a1 a2 l0 (l0.length : Int) 0
theorem impl_allIn.mono_l : ∀ k, (∀ y0 y1 y2 y3 y4, LeO (impl_allIn.l0 k y0 y1 y2 y3 y4) (impl_allIn.l0 (k + 1) y0 y1 y2 y3 y4))
 | 0 => fun _ _ _ _ _ r h => by simp [impl_allIn.l0] at h
 | k + 1 => by
  have ih0 := impl_allIn.mono_l k
  ·intro y0 y1 y2 y3 y4
   unfold impl_allIn.l0
   repeat' first
   | (with_reducible exact ih0 _ _ _ _ _)
   | (with_reducible exact LeO.refl _)
   | (with_reducible exact LeO.none _)
   | (with_reducible refine LeO.ite ?_ ?_)
   | (with_reducible refine LeO.bind ?_ (fun _ => ?_))
   | exact ih0 _ _ _ _ _
   | exact LeO.none _
   | refine LeO.ite ?_ ?_
   | refine LeO.bind ?_ (fun _ => ?_)
theorem impl_allIn.mono : ∀ a0 a1 a2 k, LeO (impl_allIn.f k a0 a1 a2) (impl_allIn.f (k + 1) a0 a1 a2) := by
 intro a0 a1 a2 k
 have ih0 := impl_allIn.mono_l k
 unfold impl_allIn.f
 repeat' first
   | (with_reducible exact ih0 _ _ _ _ _)
   | (with_reducible exact LeO.refl _)
   | (with_reducible exact LeO.none _)
   | (with_reducible refine LeO.ite ?_ ?_)
   | (with_reducible refine LeO.bind ?_ (fun _ => ?_))
   | exact ih0 _ _ _ _ _
   | exact LeO.none _
   | refine LeO.ite ?_ ?_
   | refine LeO.bind ?_ (fun _ => ?_)
set_option maxHeartbeats 8000000 in
set_option maxRecDepth 100000 in
theorem impl_allIn.calls (k : Nat) (A0 : Option Addr) (c0 : Nat) (l0 : List Int) (a1 : Int) (a2 : Int) (r : Bool) (w : World) (hr0 : Kd.C (Kd.int .i64) w A0 l0.length l0) (hc0 : l0.length ≤ c0) (h : impl_allIn.f k l0 a1 a2 = some r) :
  Calls Try.prog 157 #[.slice A0 l0.length c0, .int .i64 a1, .int .i64 a2] w fun e w' => e = .returned (.bool r) ∧ Drawn0 w w' := by
 have HR0 := QW hr0
 have HC0 := QW hc0
 clear hr0 hc0
 have H : (impl_allIn.l0 k a1 a2 l0 (l0.length : Int) 0) = some r := h
 clear h
 have H' := QW H
 clear H
 go_enter Try.func157, Try.ntmps157
 go_wp2
 go_loopg [11] k (fun kq v11 w' => ∃ (x11_1 : Int), v11 = .int .i64 x11_1 ∧ Aside0 (impl_allIn.l0 kq a1 a2 l0 (l0.length : Int) x11_1 = some r) ∧ Aside0 (kq ≤ k) ∧ Drawn0 w w')
 case atStart => exact ⟨(0), (by first | rfl | (simp; done) | (simp [*]; done)), H', ⟨Nat.le_refl _⟩, by repeat (first | exact Drawn0.refl _ | apply Drawn0.step)⟩
 case round =>
  clear H'
  try clear c1
  try clear p2
  obtain ⟨x11_1, rfl, HA, HK1, ⟨m1, rfl⟩⟩ := hrel
  cases gk with
  | zero => exact absurd HA.out (by simp [impl_allIn.l0])
  | succ k1 =>
   have H := HA.out
   clear HA
   simp only [impl_allIn.l0] at H
   by_cases c4 : x11_1 < (l0.length : Int)
   ·rw [if_pos c4] at H
    have c4b0 : decide (x11_1 < (l0.length : Int)) = true := decide_eq_true c4
    clear c4
    by_cases c5 : 0 ≤ x11_1
    ·rw [if_pos c5] at H
     have c5b0 : decide (0 ≤ x11_1) = true := decide_eq_true c5
     clear c5
     by_cases c6 : x11_1 < (l0.length : Int)
     ·rw [if_pos c6] at H
      have c6b0 : decide (x11_1 < (l0.length : Int)) = true := decide_eq_true c6
      clear c6
      replace H := Option.bind_eq_some_iff.mp H
      obtain ⟨t251, A70, H⟩ := H
      have A7 := QW A70
      clear A70
      by_cases c8 : t251 = true
      ·subst c8
       rw [if_pos rfl] at H
       have H' := QW H
       clear H
       have p250 : 0 ≤ (x11_1 : Int) := of_decide_eq_true (by first | (with_reducible assumption) | assumption)
       have q250 : x11_1 < (l0.length : Int) := of_decide_eq_true (by first | (with_reducible assumption) | assumption)
       obtain ⟨ad250, e250, hx250_0⟩ := Kd.at_int HR0.out x11_1 p250 q250
       cases e250
       replace p250 := eq_true p250
       replace q250 := eq_true q250
       go_wp2_with (first | ((with_reducible refine gate_callee (f := 85) rfl ?_); refine goesL_ (some 18) rfl rfl Try.func85 (by kernel_rfl) rfl #[.int .i64 (rd l0 x11_1), .int .i64 a1, .int .i64 a2] rfl (by (try simp only [List.map_toArray, List.map_cons, List.map_nil]); first | done | rfl | (simp only [List.length_drop, List.length_take]; rfl)) ?_; (with_reducible refine (impl_InRange.calls (rd l0 x11_1) a1 a2 true _ A7.out).mono ?_); rintro e w' ⟨rfl, ⟨nd, rfl⟩⟩; refine ⟨_, rfl, ?_⟩))
       go_roundg k1
       case measure => have := HK1.out; omega
       case rel => exact ⟨(wrap64 (x11_1 + 1)), (by first | rfl | (simp; done) | (simp [*]; done)), H', ⟨by have := HK1.out; omega⟩, by repeat (first | exact Drawn0.refl _ | apply Drawn0.step)⟩
      ·replace c8 := Bool.eq_false_iff.mpr c8
       subst c8
       rw [if_neg (show ¬ (false = true) by decide)] at H
       obtain rfl := Option.some.inj H
       have p250 : 0 ≤ (x11_1 : Int) := of_decide_eq_true (by first | (with_reducible assumption) | assumption)
       have q250 : x11_1 < (l0.length : Int) := of_decide_eq_true (by first | (with_reducible assumption) | assumption)
       obtain ⟨ad250, e250, hx250_0⟩ := Kd.at_int HR0.out x11_1 p250 q250
       cases e250
       replace p250 := eq_true p250
       replace q250 := eq_true q250
       go_wp2_with (first | ((with_reducible refine gate_callee (f := 85) rfl ?_); refine goesL_ (some 18) rfl rfl Try.func85 (by kernel_rfl) rfl #[.int .i64 (rd l0 x11_1), .int .i64 a1, .int .i64 a2] rfl (by (try simp only [List.map_toArray, List.map_cons, List.map_nil]); first | done | rfl | (simp only [List.length_drop, List.length_take]; rfl)) ?_; (with_reducible refine (impl_InRange.calls (rd l0 x11_1) a1 a2 false _ A7.out).mono ?_); rintro e w' ⟨rfl, ⟨nd, rfl⟩⟩; refine ⟨_, rfl, ?_⟩))
       go_ret
       exact ⟨by first | rfl | (simp; done) | (simp [*]; done), by repeat (first | exact Drawn0.refl _ | apply Drawn0.step)⟩
     ·rw [if_neg c6] at H
      exact absurd H (by simp)
    ·rw [if_neg c5] at H
     exact absurd H (by simp)
   ·rw [if_neg c4] at H
    have c4b0 : decide (x11_1 < (l0.length : Int)) = false := decide_eq_false c4
    clear c4
    obtain rfl := Option.some.inj H
    go_wp2
    go_ret
    exact ⟨by first | rfl | (simp; done) | (simp [*]; done), by repeat (first | exact Drawn0.refl _ | apply Drawn0.step)⟩

/-! ### impl_sum: function 158 -/
def impl_sum.l0 : Nat → Int → List Int → Int → Int → Option (Int)
 | 0, _, _, _, _ => none
 | k + 1, x3, x6, x7, x8 => if x8 < x7 then (if 0 ≤ x8 then (if x8 < (x6.length : Int) then (impl_sum.l0 k (wrap64 (x3 + (rd x6 x8))) x6 x7 (wrap64 (x8 + 1))) else (none)) else (none)) else (some x3)
def impl_sum.f (k : Nat) (l0 : List Int) : Option (Int) := impl_sum.l0 k 0 l0 (l0.length : Int) 0
theorem impl_sum.mono_l : ∀ k, (∀ y0 y1 y2 y3, LeO (impl_sum.l0 k y0 y1 y2 y3) (impl_sum.l0 (k + 1) y0 y1 y2 y3))
 | 0 => fun _ _ _ _ r h => by simp [impl_sum.l0] at h
 | k + 1 => by
  have ih0 := impl_sum.mono_l k
  ·intro y0 y1 y2 y3
   unfold impl_sum.l0
   repeat' first
   | (with_reducible exact ih0 _ _ _ _)
   | (with_reducible exact LeO.refl _)
   | (with_reducible exact LeO.none _)
   | (with_reducible refine LeO.ite ?_ ?_)
   | (with_reducible refine LeO.bind ?_ (fun _ => ?_))
   | exact ih0 _ _ _ _
   | exact LeO.none _
   | refine LeO.ite ?_ ?_
   | refine LeO.bind ?_ (fun _ => ?_)
theorem impl_sum.mono : ∀ a0 k, LeO (impl_sum.f k a0) (impl_sum.f (k + 1) a0) := by
 intro a0 k
 have ih0 := impl_sum.mono_l k
 unfold impl_sum.f
 repeat' first
   | (with_reducible exact ih0 _ _ _ _)
   | (with_reducible exact LeO.refl _)
   | (with_reducible exact LeO.none _)
   | (with_reducible refine LeO.ite ?_ ?_)
   | (with_reducible refine LeO.bind ?_ (fun _ => ?_))
   | exact ih0 _ _ _ _
   | exact LeO.none _
   | refine LeO.ite ?_ ?_
   | refine LeO.bind ?_ (fun _ => ?_)
set_option maxHeartbeats 8000000 in
set_option maxRecDepth 100000 in
theorem impl_sum.calls (k : Nat) (A0 : Option Addr) (c0 : Nat) (l0 : List Int) (r : Int) (w : World) (hr0 : Kd.C (Kd.int .i64) w A0 l0.length l0) (hc0 : l0.length ≤ c0) (h : impl_sum.f k l0 = some r) :
  Calls Try.prog 158 #[.slice A0 l0.length c0] w fun e w' => e = .returned (.int .i64 r) ∧ Drawn0 w w' := by
 have HR0 := QW hr0
 have HC0 := QW hc0
 clear hr0 hc0
 have H : (impl_sum.l0 k 0 l0 (l0.length : Int) 0) = some r := h
 clear h
 have H' := QW H
 clear H
 go_enter Try.func158, Try.ntmps158
 go_wp2
 go_loopg [3, 8] k (fun kq v3 v8 w' => ∃ (x3_1 : Int) (x8_1 : Int), v3 = .int .i64 x3_1 ∧ v8 = .int .i64 x8_1 ∧ Aside0 (impl_sum.l0 kq x3_1 l0 (l0.length : Int) x8_1 = some r) ∧ Aside0 (kq ≤ k) ∧ Drawn0 w w')
 case atStart => exact ⟨(0), (0), (by first | rfl | (simp; done) | (simp [*]; done)), (by first | rfl | (simp; done) | (simp [*]; done)), H', ⟨Nat.le_refl _⟩, by repeat (first | exact Drawn0.refl _ | apply Drawn0.step)⟩
 case round =>
  clear H'
  try clear c1
  obtain ⟨x3_1, x8_1, rfl, rfl, HA, HK1, ⟨m1, rfl⟩⟩ := hrel
  cases gk with
  | zero => exact absurd HA.out (by simp [impl_sum.l0])
  | succ k1 =>
   have H := HA.out
   clear HA
   simp only [impl_sum.l0] at H
   by_cases c2 : x8_1 < (l0.length : Int)
   ·rw [if_pos c2] at H
    have c2b0 : decide (x8_1 < (l0.length : Int)) = true := decide_eq_true c2
    clear c2
    by_cases c3 : 0 ≤ x8_1
    ·rw [if_pos c3] at H
     have c3b0 : decide (0 ≤ x8_1) = true := decide_eq_true c3
     clear c3
     by_cases c4 : x8_1 < (l0.length : Int)
     ·rw [if_pos c4] at H
      have c4b0 : decide (x8_1 < (l0.length : Int)) = true := decide_eq_true c4
      clear c4
      have H' := QW H
      clear H
      have p252 : 0 ≤ (x8_1 : Int) := of_decide_eq_true (by first | (with_reducible assumption) | assumption)
      have q252 : x8_1 < (l0.length : Int) := of_decide_eq_true (by first | (with_reducible assumption) | assumption)
      obtain ⟨ad252, e252, hx252_0⟩ := Kd.at_int HR0.out x8_1 p252 q252
      cases e252
      replace p252 := eq_true p252
      replace q252 := eq_true q252
      go_wp2
      go_roundg k1
      case measure => have := HK1.out; omega
      case rel => exact ⟨(wrap64 (x3_1 + (rd l0 x8_1))), (wrap64 (x8_1 + 1)), (by first | rfl | (simp; done) | (simp [*]; done)), (by first | rfl | (simp; done) | (simp [*]; done)), H', ⟨by have := HK1.out; omega⟩, by repeat (first | exact Drawn0.refl _ | apply Drawn0.step)⟩
     ·rw [if_neg c4] at H
      exact absurd H (by simp)
    ·rw [if_neg c3] at H
     exact absurd H (by simp)
   ·rw [if_neg c2] at H
    have c2b0 : decide (x8_1 < (l0.length : Int)) = false := decide_eq_false c2
    clear c2
    obtain rfl := Option.some.inj H
    go_wp2
    go_ret
    exact ⟨by first | rfl | (simp; done) | (simp [*]; done), by repeat (first | exact Drawn0.refl _ | apply Drawn0.step)⟩

/-! ### impl_IsDeal: function 116 -/
mutual
def impl_IsDeal.j0 : Nat → Int → Bool → List (List Int) → Int → Int → List Int → List Int → List Int → Int → Option (Bool)
 | 0, _, _, _, _, _, _, _, _, _ => none
 | k + 1, x3, x33, x254000, x254001, x254002, x254003, x254004, x254005, x254006 => if x33 = true then (some false) else (impl_IsDeal.l0 k x3 x254005 (x254005.length : Int) 0 x254000 x254001 x254002 x254003 x254004 x254005 x254006)
def impl_IsDeal.l0 : Nat → Int → List Int → Int → Int → List (List Int) → Int → Int → List Int → List Int → List Int → Int → Option (Bool)
 | 0, _, _, _, _, _, _, _, _, _, _, _ => none
 | k + 1, x3, x35, x36, x37, x254000, x254001, x254002, x254003, x254004, x254005, x254006 => if x37 < x36 then (if 0 ≤ x37 then (if x37 < (x35.length : Int) then (if (rd x35 x37) < 0 then (some false) else (impl_IsDeal.l0 k x3 x35 x36 (wrap64 (x37 + 1)) x254000 x254001 x254002 x254003 x254004 x254005 x254006)) else (none)) else (none)) else ((impl_copyRows.f k x254000).bind fun t257 => ((some (([x254003] : List (List Int)) : List (List Int))).bind fun y260 => (if t257.length + y260.length < 5864062014805 then ((impl_AllApart.f k (t257 ++ y260)).bind fun t266 => (if t266 = true then ((impl_InRange.f x254001 0 (wrap64 (x3 - 1))).bind fun t267 => (if t267 = true then ((impl_InRange.f x254002 (-1) 3).bind fun t268 => (if t268 = true then ((impl_InRange.f x254006 0 26).bind fun t269 => (if t269 = true then (impl_IsDeal.j2 k x3 (decide ((x254003.length : Int) ≥ x3)) x254000 x254001 x254002 x254003 x254004 x254005 x254006) else (impl_IsDeal.j2 k x3 true x254000 x254001 x254002 x254003 x254004 x254005 x254006))) else (impl_IsDeal.j2 k x3 true x254000 x254001 x254002 x254003 x254004 x254005 x254006))) else (impl_IsDeal.j2 k x3 true x254000 x254001 x254002 x254003 x254004 x254005 x254006))) else (impl_IsDeal.j2 k x3 true x254000 x254001 x254002 x254003 x254004 x254005 x254006))) else (none))))
def impl_IsDeal.j2 : Nat → Int → Bool → List (List Int) → Int → Int → List Int → List Int → List Int → Int → Option (Bool)
 | 0, _, _, _, _, _, _, _, _, _ => none
 | k + 1, x3, x79, x254000, x254001, x254002, x254003, x254004, x254005, x254006 => if x79 = true then (some false) else (impl_IsDeal.l1 k x3 x3 0 x254000 x254001 x254002 x254003 x254004 x254005 x254006)
def impl_IsDeal.l1 : Nat → Int → Int → Int → List (List Int) → Int → Int → List Int → List Int → List Int → Int → Option (Bool)
 | 0, _, _, _, _, _, _, _, _, _, _ => none
 | k + 1, x3, x80, x81, x254000, x254001, x254002, x254003, x254004, x254005, x254006 => if x81 < x80 then ((impl_sum.f k x254004).bind fun t270 => (if x3 = 0 then (none) else (if (Int.tmod (wrap64 ((wrap64 (x81 - x254001)) + x3)) x3) < (x254003.length : Int) then (if 0 ≤ x81 then (if x81 < (x254000.length : Int) then (if ((rd_L1 x254000 x81).length : Int) = (wrap64 ((wrap64 (x254006 - t270)) - 1)) then (impl_IsDeal.l1 k x3 x80 (wrap64 (x81 + 1)) x254000 x254001 x254002 x254003 x254004 x254005 x254006) else (some false)) else (none)) else (none)) else (if 0 ≤ x81 then (if x81 < (x254000.length : Int) then (if ((rd_L1 x254000 x81).length : Int) = (wrap64 (x254006 - t270)) then (impl_IsDeal.l1 k x3 x80 (wrap64 (x81 + 1)) x254000 x254001 x254002 x254003 x254004 x254005 x254006) else (some false)) else (none)) else (none))))) else (some true)
end
def impl_IsDeal.f (k : Nat) (l0_0 : List (List Int)) (a0_1 : Int) (a0_2 : Int) (l0_3 : List Int) (l0_4 : List Int) (l0_5 : List Int) (a0_6 : Int) : Option (Bool) := (impl_InRange.f (l0_0.length : Int) 2 4).bind fun t254 => (if t254 = true then (if (l0_4.length : Int) = (l0_0.length : Int) then (if (l0_5.length : Int) = (l0_0.length : Int) then ((impl_allIn.f k l0_4 0 26).bind fun t255 => (impl_IsDeal.j0 k (l0_0.length : Int) (!t255) l0_0 a0_1 a0_2 l0_3 l0_4 l0_5 a0_6)) else (impl_IsDeal.j0 k (l0_0.length : Int) true l0_0 a0_1 a0_2 l0_3 l0_4 l0_5 a0_6)) else (impl_IsDeal.j0 k (l0_0.length : Int) true l0_0 a0_1 a0_2 l0_3 l0_4 l0_5 a0_6)) else (impl_IsDeal.j0 k (l0_0.length : Int) true l0_0 a0_1 a0_2 l0_3 l0_4 l0_5 a0_6))
theorem impl_IsDeal.mono_l : ∀ k, (∀ y0 y1 y2 y3 y4 y5 y6 y7 y8, LeO (impl_IsDeal.j0 k y0 y1 y2 y3 y4 y5 y6 y7 y8) (impl_IsDeal.j0 (k + 1) y0 y1 y2 y3 y4 y5 y6 y7 y8)) ∧ (∀ y0 y1 y2 y3 y4 y5 y6 y7 y8 y9 y10, LeO (impl_IsDeal.l0 k y0 y1 y2 y3 y4 y5 y6 y7 y8 y9 y10) (impl_IsDeal.l0 (k + 1) y0 y1 y2 y3 y4 y5 y6 y7 y8 y9 y10)) ∧ (∀ y0 y1 y2 y3 y4 y5 y6 y7 y8, LeO (impl_IsDeal.j2 k y0 y1 y2 y3 y4 y5 y6 y7 y8) (impl_IsDeal.j2 (k + 1) y0 y1 y2 y3 y4 y5 y6 y7 y8)) ∧ (∀ y0 y1 y2 y3 y4 y5 y6 y7 y8 y9, LeO (impl_IsDeal.l1 k y0 y1 y2 y3 y4 y5 y6 y7 y8 y9) (impl_IsDeal.l1 (k + 1) y0 y1 y2 y3 y4 y5 y6 y7 y8 y9))
 | 0 => ⟨fun _ _ _ _ _ _ _ _ _ r h => by simp [impl_IsDeal.j0] at h, fun _ _ _ _ _ _ _ _ _ _ _ r h => by simp [impl_IsDeal.l0] at h, fun _ _ _ _ _ _ _ _ _ r h => by simp [impl_IsDeal.j2] at h, fun _ _ _ _ _ _ _ _ _ _ r h => by simp [impl_IsDeal.l1] at h⟩
 | k + 1 => by
  obtain ⟨ih0, ih1, ih2, ih3⟩ := impl_IsDeal.mono_l k
  refine ⟨?_, ?_, ?_, ?_⟩
  ·intro y0 y1 y2 y3 y4 y5 y6 y7 y8
   unfold impl_IsDeal.j0
   repeat' first
   | (with_reducible exact ih0 _ _ _ _ _ _ _ _ _)
   | (with_reducible exact ih1 _ _ _ _ _ _ _ _ _ _ _)
   | (with_reducible exact ih2 _ _ _ _ _ _ _ _ _)
   | (with_reducible exact ih3 _ _ _ _ _ _ _ _ _ _)
   | (with_reducible exact impl_AllApart.mono _ _)
   | (with_reducible exact impl_allIn.mono _ _ _ _)
   | (with_reducible exact impl_copyRows.mono _ _)
   | (with_reducible exact impl_sum.mono _ _)
   | (with_reducible exact LeO.refl _)
   | (with_reducible exact LeO.none _)
   | (with_reducible refine LeO.ite ?_ ?_)
   | (with_reducible refine LeO.bind ?_ (fun _ => ?_))
   | exact ih0 _ _ _ _ _ _ _ _ _
   | exact ih1 _ _ _ _ _ _ _ _ _ _ _
   | exact ih2 _ _ _ _ _ _ _ _ _
   | exact ih3 _ _ _ _ _ _ _ _ _ _
   | exact impl_AllApart.mono _ _
   | exact impl_allIn.mono _ _ _ _
   | exact impl_copyRows.mono _ _
   | exact impl_sum.mono _ _
   | exact LeO.none _
   | refine LeO.ite ?_ ?_
   | refine LeO.bind ?_ (fun _ => ?_)
  ·intro y0 y1 y2 y3 y4 y5 y6 y7 y8 y9 y10
   unfold impl_IsDeal.l0
   repeat' first
   | (with_reducible exact ih0 _ _ _ _ _ _ _ _ _)
   | (with_reducible exact ih1 _ _ _ _ _ _ _ _ _ _ _)
   | (with_reducible exact ih2 _ _ _ _ _ _ _ _ _)
   | (with_reducible exact ih3 _ _ _ _ _ _ _ _ _ _)
   | (with_reducible exact impl_AllApart.mono _ _)
   | (with_reducible exact impl_allIn.mono _ _ _ _)
   | (with_reducible exact impl_copyRows.mono _ _)
   | (with_reducible exact impl_sum.mono _ _)
   | (with_reducible exact LeO.refl _)
   | (with_reducible exact LeO.none _)
   | (with_reducible refine LeO.ite ?_ ?_)
   | (with_reducible refine LeO.bind ?_ (fun _ => ?_))
   | exact ih0 _ _ _ _ _ _ _ _ _
   | exact ih1 _ _ _ _ _ _ _ _ _ _ _
   | exact ih2 _ _ _ _ _ _ _ _ _
   | exact ih3 _ _ _ _ _ _ _ _ _ _
   | exact impl_AllApart.mono _ _
   | exact impl_allIn.mono _ _ _ _
   | exact impl_copyRows.mono _ _
   | exact impl_sum.mono _ _
   | exact LeO.none _
   | refine LeO.ite ?_ ?_
   | refine LeO.bind ?_ (fun _ => ?_)
  ·intro y0 y1 y2 y3 y4 y5 y6 y7 y8
   unfold impl_IsDeal.j2
   repeat' first
   | (with_reducible exact ih0 _ _ _ _ _ _ _ _ _)
   | (with_reducible exact ih1 _ _ _ _ _ _ _ _ _ _ _)
   | (with_reducible exact ih2 _ _ _ _ _ _ _ _ _)
   | (with_reducible exact ih3 _ _ _ _ _ _ _ _ _ _)
   | (with_reducible exact impl_AllApart.mono _ _)
   | (with_reducible exact impl_allIn.mono _ _ _ _)
   | (with_reducible exact impl_copyRows.mono _ _)
   | (with_reducible exact impl_sum.mono _ _)
   | (with_reducible exact LeO.refl _)
   | (with_reducible exact LeO.none _)
   | (with_reducible refine LeO.ite ?_ ?_)
   | (with_reducible refine LeO.bind ?_ (fun _ => ?_))
   | exact ih0 _ _ _ _ _ _ _ _ _
   | exact ih1 _ _ _ _ _ _ _ _ _ _ _
   | exact ih2 _ _ _ _ _ _ _ _ _
   | exact ih3 _ _ _ _ _ _ _ _ _ _
   | exact impl_AllApart.mono _ _
   | exact impl_allIn.mono _ _ _ _
   | exact impl_copyRows.mono _ _
   | exact impl_sum.mono _ _
   | exact LeO.none _
   | refine LeO.ite ?_ ?_
   | refine LeO.bind ?_ (fun _ => ?_)
  ·intro y0 y1 y2 y3 y4 y5 y6 y7 y8 y9
   unfold impl_IsDeal.l1
   repeat' first
   | (with_reducible exact ih0 _ _ _ _ _ _ _ _ _)
   | (with_reducible exact ih1 _ _ _ _ _ _ _ _ _ _ _)
   | (with_reducible exact ih2 _ _ _ _ _ _ _ _ _)
   | (with_reducible exact ih3 _ _ _ _ _ _ _ _ _ _)
   | (with_reducible exact impl_AllApart.mono _ _)
   | (with_reducible exact impl_allIn.mono _ _ _ _)
   | (with_reducible exact impl_copyRows.mono _ _)
   | (with_reducible exact impl_sum.mono _ _)
   | (with_reducible exact LeO.refl _)
   | (with_reducible exact LeO.none _)
   | (with_reducible refine LeO.ite ?_ ?_)
   | (with_reducible refine LeO.bind ?_ (fun _ => ?_))
   | exact ih0 _ _ _ _ _ _ _ _ _
   | exact ih1 _ _ _ _ _ _ _ _ _ _ _
   | exact ih2 _ _ _ _ _ _ _ _ _
   | exact ih3 _ _ _ _ _ _ _ _ _ _
   | exact impl_AllApart.mono _ _
   | exact impl_allIn.mono _ _ _ _
   | exact impl_copyRows.mono _ _
   | exact impl_sum.mono _ _
   | exact LeO.none _
   | refine LeO.ite ?_ ?_
   | refine LeO.bind ?_ (fun _ => ?_)
theorem impl_IsDeal.mono : ∀ a0 a1 a2 a3 a4 a5 a6 k, LeO (impl_IsDeal.f k a0 a1 a2 a3 a4 a5 a6) (impl_IsDeal.f (k + 1) a0 a1 a2 a3 a4 a5 a6) := by
 intro a0 a1 a2 a3 a4 a5 a6 k
 obtain ⟨ih0, ih1, ih2, ih3⟩ := impl_IsDeal.mono_l k
 unfold impl_IsDeal.f
 repeat' first
   | (with_reducible exact ih0 _ _ _ _ _ _ _ _ _)
   | (with_reducible exact ih1 _ _ _ _ _ _ _ _ _ _ _)
   | (with_reducible exact ih2 _ _ _ _ _ _ _ _ _)
   | (with_reducible exact ih3 _ _ _ _ _ _ _ _ _ _)
   | (with_reducible exact impl_AllApart.mono _ _)
   | (with_reducible exact impl_allIn.mono _ _ _ _)
   | (with_reducible exact impl_copyRows.mono _ _)
   | (with_reducible exact impl_sum.mono _ _)
   | (with_reducible exact LeO.refl _)
   | (with_reducible exact LeO.none _)
   | (with_reducible refine LeO.ite ?_ ?_)
   | (with_reducible refine LeO.bind ?_ (fun _ => ?_))
   | exact ih0 _ _ _ _ _ _ _ _ _
   | exact ih1 _ _ _ _ _ _ _ _ _ _ _
   | exact ih2 _ _ _ _ _ _ _ _ _
   | exact ih3 _ _ _ _ _ _ _ _ _ _
   | exact impl_AllApart.mono _ _
   | exact impl_allIn.mono _ _ _ _
   | exact impl_copyRows.mono _ _
   | exact impl_sum.mono _ _
   | exact LeO.none _
   | refine LeO.ite ?_ ?_
   | refine LeO.bind ?_ (fun _ => ?_)
def impl_IsDeal.T10 : Bool × List (List Nat × List Nat) := (true, [([], []), ([0], [0]), ([1], [1]), ([], []), ([3], [3]), ([4], [4]), ([2, 5, 2], [2, 5]), ([6, 6], [6]), ([7], [7]), ([8, 7], [8]), ([9], [9]), ([10, 9], [9, 10]), ([9], [9]), ([12, 9], [9, 12]), ([11, 13, 9, 9], [9, 11, 13]), ([14, 9], [9, 14]), ([9, 15], [9, 15]), ([16, 14], [16]), ([17], [17]), ([18, 17], [17, 18]), ([19, 17, 17], [17, 19]), ([20, 17], [17, 20]), ([17, 21], [17, 21]), ([22, 20], [22]), ([23], [23]), ([24, 23], [23, 24]), ([25, 23, 23], [23, 25]), ([26, 23], [23, 26]), ([23, 27], [23, 27]), ([28, 26], [28]), ([29], [29]), ([30, 29], [29, 30]), ([31, 29], [29, 31]), ([29], [29]), ([32, 33, 29], [29, 32, 33]), ([29, 34], [29, 34])])
def impl_IsDeal.B10 : List Nat := [0, 1, 3, 0, 8, 24, 63, 127, 255, 511, 1023, 2047, 1023, 5119, 16383, 32767, 65535, 131071, 262143, 524287, 1048575, 2097151, 4194303, 8388607, 16777215, 33554431, 67108863, 134217727, 268435455, 536870911, 1073741823, 2147483647, 4294967295, 1073741823, 17179869183, 34359738367]
theorem impl_IsDeal.tab10 : rtab .any (opsOf Try.f116 10) = impl_IsDeal.T10 := by kernel_rfl
theorem impl_IsDeal.bits10 : waitsOk impl_IsDeal.T10.2 impl_IsDeal.B10 = true := by kernel_rfl
def impl_IsDeal.T16 : Bool × List (List Nat × List Nat) := (true, [([], []), ([], []), ([1], [1]), ([0, 2], [0, 2]), ([], []), ([3, 4], [3, 4]), ([], []), ([5, 6], [5, 6]), ([], []), ([8], [8]), ([9], [9]), ([7, 10], [7, 10])])
def impl_IsDeal.B16 : List Nat := [0, 0, 2, 7, 0, 31, 0, 127, 0, 256, 768, 2047]
theorem impl_IsDeal.tab16 : rtab .any (opsOf Try.f116 16) = impl_IsDeal.T16 := by kernel_rfl
theorem impl_IsDeal.bits16 : waitsOk impl_IsDeal.T16.2 impl_IsDeal.B16 = true := by kernel_rfl
set_option maxHeartbeats 8000000 in
set_option maxRecDepth 100000 in
theorem impl_IsDeal.calls (k : Nat) (A0_0 : Option Addr) (c0_0 : Nat) (l0_0 : List (List Int)) (a0_1 : Int) (a0_2 : Int) (P0_3_ : Nat → Prop) (A0_3 : Option Addr) (c0_3 : Nat) (l0_3 : List Int) (A0_4 : Option Addr) (c0_4 : Nat) (l0_4 : List Int) (A0_5 : Option Addr) (c0_5 : Nat) (l0_5 : List Int) (a0_6 : Int) (r : Bool) (w : World) (hr0_0 : Kd.C (Kd.slice 3 (Kd.int .i64)) w A0_0 l0_0.length l0_0) (hc0_0 : l0_0.length ≤ c0_0) (hs0_3 : Kd.V (Kd.int .i64) 3 w w.heap.size (fun k_ => P0_3_ k_) (.slice A0_3 l0_3.length c0_3) l0_3) (hr0_4 : Kd.C (Kd.int .i64) w A0_4 l0_4.length l0_4) (hc0_4 : l0_4.length ≤ c0_4) (hr0_5 : Kd.C (Kd.int .i64) w A0_5 l0_5.length l0_5) (hc0_5 : l0_5.length ≤ c0_5) (h : impl_IsDeal.f k l0_0 a0_1 a0_2 l0_3 l0_4 l0_5 a0_6 = some r) :
  Calls Try.prog 116 #[.agg #[.slice A0_0 l0_0.length c0_0, .int .i64 a0_1, .int .i64 a0_2, .slice A0_3 l0_3.length c0_3, .slice A0_4 l0_4.length c0_4, .slice A0_5 l0_5.length c0_5, .int .i64 a0_6]] w fun e w' => e = .returned (.bool r) ∧ Below w.heap.size w w' := by
 have hu67 := Try.underlying67
 have HR0_0 := QW hr0_0
 have HC0_0 := QW hc0_0
 clear hr0_0 hc0_0
 have HO0_3 := QW (show Kd.V (Kd.int .i64) 3 w w.heap.size (fun k_ => (P0_3_ k_ ∨ w.heap.size ≤ k_)) (.slice A0_3 l0_3.length c0_3) l0_3 from Kd.V_mono hs0_3 (fun k_ hk => .inl hk))
 have HR0_4 := QW hr0_4
 have HC0_4 := QW hc0_4
 clear hr0_4 hc0_4
 have HR0_5 := QW hr0_5
 have HC0_5 := QW hc0_5
 clear hr0_5 hc0_5
 have HB := QW (Below.refl w.heap.size w)
 have H : ((impl_InRange.f (l0_0.length : Int) 2 4).bind fun t254 => (if t254 = true then (if (l0_4.length : Int) = (l0_0.length : Int) then (if (l0_5.length : Int) = (l0_0.length : Int) then ((impl_allIn.f k l0_4 0 26).bind fun t255 => (impl_IsDeal.j0 k (l0_0.length : Int) (!t255) l0_0 a0_1 a0_2 l0_3 l0_4 l0_5 a0_6)) else (impl_IsDeal.j0 k (l0_0.length : Int) true l0_0 a0_1 a0_2 l0_3 l0_4 l0_5 a0_6)) else (impl_IsDeal.j0 k (l0_0.length : Int) true l0_0 a0_1 a0_2 l0_3 l0_4 l0_5 a0_6)) else (impl_IsDeal.j0 k (l0_0.length : Int) true l0_0 a0_1 a0_2 l0_3 l0_4 l0_5 a0_6))) = some r := h
 clear h
 have HC2 := QW H
 clear H
 go_enter Try.func116, Try.ntmps116
 go_upto_region 2 with (first | ((with_reducible refine gate_dst (N := 1) rfl ?_); (try (refine gate_guard (by rfl) ?_; dsimp only)); refine box_event ?hg (N := 1) ?hd (cs := #[.slice A0_0 l0_0.length c0_0, .int .i64 a0_1, .int .i64 a0_2, .slice A0_3 l0_3.length c0_3, .slice A0_4 l0_4.length c0_4, .slice A0_5 l0_5.length c0_5, .int .i64 a0_6]) (t := 67) ?hr ?_; (case hd => rfl); (case hg => rfl); (case hr => first | (go_simp; done) | (go_simp; rfl)); intro gb253 hg w3 hbox hb; have n0_ := QW (Kd.V_below (Kd.V_elderB (by (with_reducible repeat (first | apply QN | apply QO | apply QP)); exact HO0_3.out) gb253 (Nat.le_of_eq hg.symm)) hb); have n1_ := QW (below_step (by repeat (first | (with_reducible first | exact HB.out | apply QE | apply QB | apply QD) | exact HB.out)) hb); have n2_ := QW (hbox); have n3_ := QW ((by rw [hg]; exact (QS (by repeat (first | (with_reducible first | exact HB.out | apply QE | apply QB | apply QD) | exact HB.out))) : w.heap.size ≤ gb253)); have n4_ := QW ((by rw [hg]; exact (QS (by repeat (first | (with_reducible first | exact HB.out | apply QE | apply QB | apply QD) | exact HB.out))) : w.heap.size ≤ gb253)); clear HO0_3; clear HB; have HO0_3 := n0_; have HB := n1_; have BK253 := n2_; have GW253 := n3_; have GE253 := n4_; clear n0_ n1_ n2_ n3_ n4_; clear hb hbox hg; have hcz4_0 : w3.cell? ⟨gb253, 0, none⟩ = some (.slice A0_0 l0_0.length c0_0) := (QC BK253.out 0).trans rfl; have hcz4_1 : w3.cell? ⟨gb253, 1, none⟩ = some (.int .i64 a0_1) := (QC BK253.out 1).trans rfl; have hcz4_2 : w3.cell? ⟨gb253, 2, none⟩ = some (.int .i64 a0_2) := (QC BK253.out 2).trans rfl; have hcz4_3 : w3.cell? ⟨gb253, 3, none⟩ = some (.slice A0_3 l0_3.length c0_3) := (QC BK253.out 3).trans rfl; have hcz4_4 : w3.cell? ⟨gb253, 4, none⟩ = some (.slice A0_4 l0_4.length c0_4) := (QC BK253.out 4).trans rfl; have hcz4_5 : w3.cell? ⟨gb253, 5, none⟩ = some (.slice A0_5 l0_5.length c0_5) := (QC BK253.out 5).trans rfl; have hcz4_6 : w3.cell? ⟨gb253, 6, none⟩ = some (.int .i64 a0_6) := (QC BK253.out 6).trans rfl; have hfz4_0 := QI BK253.out 0; have hfz4_1 := QI BK253.out 1; have hfz4_2 := QI BK253.out 2; have hfz4_3 := QI BK253.out 3; have hfz4_4 := QI BK253.out 4; have hfz4_5 := QI BK253.out 5; have hfz4_6 := QI BK253.out 6))
 (try simp only [Act.put, QT, QU, QV])
 go_cut [33] (fun v33 wc => ∃ (kq : Nat) (x33_1 : Bool), v33 = .bool x33_1 ∧ Aside0 (impl_IsDeal.j0 kq (l0_0.length : Int) x33_1 l0_0 a0_1 a0_2 l0_3 l0_4 l0_5 a0_6 = some r) ∧ Aside0 (kq ≤ k) ∧ Aside0 (Kd.V (Kd.int .i64) 3 wc w.heap.size (fun k_ => (P0_3_ k_ ∨ w.heap.size ≤ k_) ∧ k_ ≠ gb253) (.slice A0_3 l0_3.length c0_3) l0_3) ∧ Aside0 (wc.heap[gb253]? = some (.cells #[(.slice A0_0 l0_0.length c0_0), .int .i64 a0_1, .int .i64 a0_2, (.slice A0_3 l0_3.length c0_3), (.slice A0_4 l0_4.length c0_4), (.slice A0_5 l0_5.length c0_5), .int .i64 a0_6] 67 (0, 0))) ∧ Aside0 (Below w.heap.size w wc))
 case first =>
  have H := HC2.out
  clear HC2
  replace H := Option.bind_eq_some_iff.mp H
  obtain ⟨t254, A50, H⟩ := H
  have A5 := QW A50
  clear A50
  by_cases c6 : t254 = true
  ·subst c6
   rw [if_pos rfl] at H
   by_cases c7 : (l0_4.length : Int) = (l0_0.length : Int)
   ·rw [if_pos c7] at H
    have c7b0 : ((l0_4.length : Int) == (l0_0.length : Int)) = true := beq_iff_eq.mpr c7
    have c7b1 : ((l0_4.length : Int) != (l0_0.length : Int)) = false := bne_eq_false_iff_eq.mpr c7
    have c7b2 : (l0_4.length == l0_0.length) = true := by first | simpa using c7 | (simp at c7 ⊢; omega)
    clear c7
    (first | rw [c7b0] | (simp only [QG, QH]; rw [c7b0]) | skip)
    by_cases c8 : (l0_5.length : Int) = (l0_0.length : Int)
    rotate_left
    rw [if_neg c8] at H
    have c8b0 : ((l0_5.length : Int) == (l0_0.length : Int)) = false := beq_eq_false_iff_ne.mpr c8
    have c8b1 : ((l0_5.length : Int) != (l0_0.length : Int)) = true := bne_iff_ne.mpr c8
    have c8b2 : (l0_5.length == l0_0.length) = false := by first | simpa using c8 | (simp at c8 ⊢; omega)
    have H' := QW H
    clear H
    rotate_right
    rw [if_pos c8] at H
    have c8b0 : ((l0_5.length : Int) == (l0_0.length : Int)) = true := beq_iff_eq.mpr c8
    have c8b1 : ((l0_5.length : Int) != (l0_0.length : Int)) = false := bne_eq_false_iff_eq.mpr c8
    have c8b2 : (l0_5.length == l0_0.length) = true := by first | simpa using c8 | (simp at c8 ⊢; omega)
    clear c8
    replace H := Option.bind_eq_some_iff.mp H
    obtain ⟨t255, A90, H⟩ := H
    have A9 := QW A90
    clear A90
    have H' := QW H
    clear H
    all_goals
     go_wp2_with (first | ((with_reducible refine gate_callee (f := 85) rfl ?_); refine goesL_ (some 12) rfl rfl Try.func85 (by kernel_rfl) rfl #[.int .i64 (l0_0.length : Int), .int .i64 2, .int .i64 4] rfl (by (try simp only [List.map_toArray, List.map_cons, List.map_nil]); first | done | rfl | (simp only [List.length_drop, List.length_take]; rfl)) ?_; (with_reducible refine (impl_InRange.calls (l0_0.length : Int) 2 4 true _ A5.out).mono ?_); rintro e w' ⟨rfl, ⟨nd, rfl⟩⟩; refine ⟨_, rfl, ?_⟩; have hcz10_0 : w3.cell? ⟨gb253, 0, none⟩ = some (.slice A0_0 l0_0.length c0_0) := (QC BK253.out 0).trans rfl; have hcz10_1 : w3.cell? ⟨gb253, 1, none⟩ = some (.int .i64 a0_1) := (QC BK253.out 1).trans rfl; have hcz10_2 : w3.cell? ⟨gb253, 2, none⟩ = some (.int .i64 a0_2) := (QC BK253.out 2).trans rfl; have hcz10_3 : w3.cell? ⟨gb253, 3, none⟩ = some (.slice A0_3 l0_3.length c0_3) := (QC BK253.out 3).trans rfl; have hcz10_4 : w3.cell? ⟨gb253, 4, none⟩ = some (.slice A0_4 l0_4.length c0_4) := (QC BK253.out 4).trans rfl; have hcz10_5 : w3.cell? ⟨gb253, 5, none⟩ = some (.slice A0_5 l0_5.length c0_5) := (QC BK253.out 5).trans rfl; have hcz10_6 : w3.cell? ⟨gb253, 6, none⟩ = some (.int .i64 a0_6) := (QC BK253.out 6).trans rfl; have hfz10_0 := QI BK253.out 0; have hfz10_1 := QI BK253.out 1; have hfz10_2 := QI BK253.out 2; have hfz10_3 := QI BK253.out 3; have hfz10_4 := QI BK253.out 4; have hfz10_5 := QI BK253.out 5; have hfz10_6 := QI BK253.out 6) | (go_at_call 157; (with_reducible refine (impl_allIn.calls k _ _ l0_4 0 26 t255 _ ?side1 ?side2 A9.out).mono ?_); (case side1 => repeat (first | exact (Kd.C_below HR0_4.out (by repeat (first | (with_reducible first | exact HB.out | apply QE | apply QB | apply QD | refine QK ?_ GE253.out) | exact HB.out))) | (with_reducible refine Kd.C_alloc ?_ _) | (with_reducible refine Kd.C_drewN ?_ _) | (with_reducible refine Kd.C_drew ?_))); (case side2 => exact HC0_4.out); rintro e w' ⟨rfl, ⟨nd, rfl⟩⟩))
     go_meet
     case rel => exact ⟨_, _, (by first | rfl | (simp; done) | (simp [*]; done)), H', ⟨by first | omega | exact Nat.le_refl _⟩, ⟨by (with_reducible repeat (first | apply QN | apply QO | apply QP)); exact HO0_3.out⟩, ⟨by (with_reducible repeat (first | refine QL ?_ _ | refine QR ?_ | refine QM ?_ _)); exact BK253.out⟩, ⟨by repeat (first | (with_reducible first | exact HB.out | apply QE | apply QB | apply QD | refine QK ?_ GE253.out) | exact HB.out)⟩⟩
   ·rw [if_neg c7] at H
    have c7b0 : ((l0_4.length : Int) == (l0_0.length : Int)) = false := beq_eq_false_iff_ne.mpr c7
    have c7b1 : ((l0_4.length : Int) != (l0_0.length : Int)) = true := bne_iff_ne.mpr c7
    have c7b2 : (l0_4.length == l0_0.length) = false := by first | simpa using c7 | (simp at c7 ⊢; omega)
    (first | rw [c7b0] | (simp only [QG, QH]; rw [c7b0]) | skip)
    have H' := QW H
    clear H
    go_wp2_with (first | ((with_reducible refine gate_callee (f := 85) rfl ?_); refine goesL_ (some 12) rfl rfl Try.func85 (by kernel_rfl) rfl #[.int .i64 (l0_0.length : Int), .int .i64 2, .int .i64 4] rfl (by (try simp only [List.map_toArray, List.map_cons, List.map_nil]); first | done | rfl | (simp only [List.length_drop, List.length_take]; rfl)) ?_; (with_reducible refine (impl_InRange.calls (l0_0.length : Int) 2 4 true _ A5.out).mono ?_); rintro e w' ⟨rfl, ⟨nd, rfl⟩⟩; refine ⟨_, rfl, ?_⟩; have hcz12_0 : w3.cell? ⟨gb253, 0, none⟩ = some (.slice A0_0 l0_0.length c0_0) := (QC BK253.out 0).trans rfl; have hcz12_1 : w3.cell? ⟨gb253, 1, none⟩ = some (.int .i64 a0_1) := (QC BK253.out 1).trans rfl; have hcz12_2 : w3.cell? ⟨gb253, 2, none⟩ = some (.int .i64 a0_2) := (QC BK253.out 2).trans rfl; have hcz12_3 : w3.cell? ⟨gb253, 3, none⟩ = some (.slice A0_3 l0_3.length c0_3) := (QC BK253.out 3).trans rfl; have hcz12_4 : w3.cell? ⟨gb253, 4, none⟩ = some (.slice A0_4 l0_4.length c0_4) := (QC BK253.out 4).trans rfl; have hcz12_5 : w3.cell? ⟨gb253, 5, none⟩ = some (.slice A0_5 l0_5.length c0_5) := (QC BK253.out 5).trans rfl; have hcz12_6 : w3.cell? ⟨gb253, 6, none⟩ = some (.int .i64 a0_6) := (QC BK253.out 6).trans rfl; have hfz12_0 := QI BK253.out 0; have hfz12_1 := QI BK253.out 1; have hfz12_2 := QI BK253.out 2; have hfz12_3 := QI BK253.out 3; have hfz12_4 := QI BK253.out 4; have hfz12_5 := QI BK253.out 5; have hfz12_6 := QI BK253.out 6))
    go_meet
    case rel => exact ⟨_, (true), (by first | rfl | (simp; done) | (simp [*]; done)), H', ⟨by first | omega | exact Nat.le_refl _⟩, ⟨by (with_reducible repeat (first | apply QN | apply QO | apply QP)); exact HO0_3.out⟩, ⟨by (with_reducible repeat (first | refine QL ?_ _ | refine QR ?_ | refine QM ?_ _)); exact BK253.out⟩, ⟨by repeat (first | (with_reducible first | exact HB.out | apply QE | apply QB | apply QD | refine QK ?_ GE253.out) | exact HB.out)⟩⟩
  ·replace c6 := Bool.eq_false_iff.mpr c6
   subst c6
   rw [if_neg (show ¬ (false = true) by decide)] at H
   have H' := QW H
   clear H
   go_wp2_with (first | ((with_reducible refine gate_callee (f := 85) rfl ?_); refine goesL_ (some 12) rfl rfl Try.func85 (by kernel_rfl) rfl #[.int .i64 (l0_0.length : Int), .int .i64 2, .int .i64 4] rfl (by (try simp only [List.map_toArray, List.map_cons, List.map_nil]); first | done | rfl | (simp only [List.length_drop, List.length_take]; rfl)) ?_; (with_reducible refine (impl_InRange.calls (l0_0.length : Int) 2 4 false _ A5.out).mono ?_); rintro e w' ⟨rfl, ⟨nd, rfl⟩⟩; refine ⟨_, rfl, ?_⟩))
   go_meet
   case rel => exact ⟨_, (true), (by first | rfl | (simp; done) | (simp [*]; done)), H', ⟨by first | omega | exact Nat.le_refl _⟩, ⟨by (with_reducible repeat (first | apply QN | apply QO | apply QP)); exact HO0_3.out⟩, ⟨by (with_reducible repeat (first | refine QL ?_ _ | refine QR ?_ | refine QM ?_ _)); exact BK253.out⟩, ⟨by repeat (first | (with_reducible first | exact HB.out | apply QE | apply QB | apply QD | refine QK ?_ GE253.out) | exact HB.out)⟩⟩
 case rest =>
  clear HC2
  try clear c1
  try clear p2
  try clear c6
  try clear c7
  try clear c7b0
  try clear c7b1
  try clear c7b2
  try clear c8
  try clear c8b0
  try clear c8b1
  try clear c8b2
  try clear c11
  try clear hcz10_0
  try clear hcz10_1
  try clear hcz10_2
  try clear hcz10_3
  try clear hcz10_4
  try clear hcz10_5
  try clear hcz10_6
  try clear hcz11_0
  try clear hcz11_1
  try clear hcz11_2
  try clear hcz11_3
  try clear hcz11_4
  try clear hcz11_5
  try clear hcz11_6
  try clear hcz12_0
  try clear hcz12_1
  try clear hcz12_2
  try clear hcz12_3
  try clear hcz12_4
  try clear hcz12_5
  try clear hcz12_6
  try clear hcz4_0
  try clear hcz4_1
  try clear hcz4_2
  try clear hcz4_3
  try clear hcz4_4
  try clear hcz4_5
  try clear hcz4_6
  try clear hfz10_0
  try clear hfz10_1
  try clear hfz10_2
  try clear hfz10_3
  try clear hfz10_4
  try clear hfz10_5
  try clear hfz10_6
  try clear hfz11_0
  try clear hfz11_1
  try clear hfz11_2
  try clear hfz11_3
  try clear hfz11_4
  try clear hfz11_5
  try clear hfz11_6
  try clear hfz12_0
  try clear hfz12_1
  try clear hfz12_2
  try clear hfz12_3
  try clear hfz12_4
  try clear hfz12_5
  try clear hfz12_6
  try clear hfz4_0
  try clear hfz4_1
  try clear hfz4_2
  try clear hfz4_3
  try clear hfz4_4
  try clear hfz4_5
  try clear hfz4_6
  obtain ⟨kq, x33_1, rfl, HA, HJ1, HO_254003, BK253, HB⟩ := hcut
  cases kq with
  | zero => exact absurd HA.out (by simp [impl_IsDeal.j0])
  | succ kj1 =>
   have H := HA.out
   clear HA
   simp only [impl_IsDeal.j0] at H
   by_cases c13 : x33_1 = true
   ·subst c13
    rw [if_pos rfl] at H
    obtain rfl := Option.some.inj H
    go_wp2
    go_ret
    exact ⟨by first | rfl | (simp [errW_none, errW_some] <;> rfl) | (simp [*, errW_none, errW_some] <;> rfl), by repeat (first | (with_reducible first | exact HB.out | apply QE | apply QB | apply QD | refine QK ?_ GE253.out) | exact HB.out)⟩
   ·replace c13 := Bool.eq_false_iff.mpr c13
    subst c13
    rw [if_neg (show ¬ (false = true) by decide)] at H
    have H' := QW H
    clear H
    have hcz14_0 : wc.cell? ⟨gb253, 0, none⟩ = some (.slice A0_0 l0_0.length c0_0) := (QC BK253.out 0).trans rfl
    have hcz14_1 : wc.cell? ⟨gb253, 1, none⟩ = some (.int .i64 a0_1) := (QC BK253.out 1).trans rfl
    have hcz14_2 : wc.cell? ⟨gb253, 2, none⟩ = some (.int .i64 a0_2) := (QC BK253.out 2).trans rfl
    have hcz14_3 : wc.cell? ⟨gb253, 3, none⟩ = some (.slice A0_3 l0_3.length c0_3) := (QC BK253.out 3).trans rfl
    have hcz14_4 : wc.cell? ⟨gb253, 4, none⟩ = some (.slice A0_4 l0_4.length c0_4) := (QC BK253.out 4).trans rfl
    have hcz14_5 : wc.cell? ⟨gb253, 5, none⟩ = some (.slice A0_5 l0_5.length c0_5) := (QC BK253.out 5).trans rfl
    have hcz14_6 : wc.cell? ⟨gb253, 6, none⟩ = some (.int .i64 a0_6) := (QC BK253.out 6).trans rfl
    have hfz14_0 := QI BK253.out 0
    have hfz14_1 := QI BK253.out 1
    have hfz14_2 := QI BK253.out 2
    have hfz14_3 := QI BK253.out 3
    have hfz14_4 := QI BK253.out 4
    have hfz14_5 := QI BK253.out 5
    have hfz14_6 := QI BK253.out 6
    go_wp2
    go_loopg [37] kj1 (fun kq v37 w' => ∃ (x37_2 : Int), v37 = .int .i64 x37_2 ∧ Aside0 (impl_IsDeal.l0 kq (l0_0.length : Int) l0_5 (l0_5.length : Int) x37_2 l0_0 a0_1 a0_2 l0_3 l0_4 l0_5 a0_6 = some r) ∧ Aside0 (kq ≤ kj1) ∧ Aside0 (Kd.V (Kd.int .i64) 3 w' w.heap.size (fun k_ => (P0_3_ k_ ∨ w.heap.size ≤ k_) ∧ k_ ≠ gb253) (.slice A0_3 l0_3.length c0_3) l0_3) ∧ Aside0 (w'.heap[gb253]? = some (.cells #[(.slice A0_0 l0_0.length c0_0), .int .i64 a0_1, .int .i64 a0_2, (.slice A0_3 l0_3.length c0_3), (.slice A0_4 l0_4.length c0_4), (.slice A0_5 l0_5.length c0_5), .int .i64 a0_6] 67 (0, 0))) ∧ Aside0 (Below w.heap.size w w'))
    case atStart => exact ⟨(0), (by first | rfl | (simp; done) | (simp [*]; done)), H', ⟨Nat.le_refl _⟩, ⟨by (with_reducible repeat (first | apply QN | apply QO | apply QP)); exact HO_254003.out⟩, ⟨by (with_reducible repeat (first | refine QL ?_ _ | refine QR ?_ | refine QM ?_ _)); exact BK253.out⟩, ⟨by repeat (first | (with_reducible first | exact HB.out | apply QE | apply QB | apply QD | refine QK ?_ GE253.out) | exact HB.out)⟩⟩
    case round =>
     clear H'
     try clear c1
     try clear p2
     try clear c6
     try clear c7
     try clear c7b0
     try clear c7b1
     try clear c7b2
     try clear c8
     try clear c8b0
     try clear c8b1
     try clear c8b2
     try clear c11
     try clear c13
     try clear hcz10_0
     try clear hcz10_1
     try clear hcz10_2
     try clear hcz10_3
     try clear hcz10_4
     try clear hcz10_5
     try clear hcz10_6
     try clear hcz11_0
     try clear hcz11_1
     try clear hcz11_2
     try clear hcz11_3
     try clear hcz11_4
     try clear hcz11_5
     try clear hcz11_6
     try clear hcz12_0
     try clear hcz12_1
     try clear hcz12_2
     try clear hcz12_3
     try clear hcz12_4
     try clear hcz12_5
     try clear hcz12_6
     try clear hcz14_0
     try clear hcz14_1
     try clear hcz14_2
     try clear hcz14_3
     try clear hcz14_4
     try clear hcz14_5
     try clear hcz14_6
     try clear hcz4_0
     try clear hcz4_1
     try clear hcz4_2
     try clear hcz4_3
     try clear hcz4_4
     try clear hcz4_5
     try clear hcz4_6
     try clear hfz10_0
     try clear hfz10_1
     try clear hfz10_2
     try clear hfz10_3
     try clear hfz10_4
     try clear hfz10_5
     try clear hfz10_6
     try clear hfz11_0
     try clear hfz11_1
     try clear hfz11_2
     try clear hfz11_3
     try clear hfz11_4
     try clear hfz11_5
     try clear hfz11_6
     try clear hfz12_0
     try clear hfz12_1
     try clear hfz12_2
     try clear hfz12_3
     try clear hfz12_4
     try clear hfz12_5
     try clear hfz12_6
     try clear hfz14_0
     try clear hfz14_1
     try clear hfz14_2
     try clear hfz14_3
     try clear hfz14_4
     try clear hfz14_5
     try clear hfz14_6
     try clear hfz4_0
     try clear hfz4_1
     try clear hfz4_2
     try clear hfz4_3
     try clear hfz4_4
     try clear hfz4_5
     try clear hfz4_6
     try clear p2
     obtain ⟨x37_2, rfl, HA, HK2, HO_254003, BK253, HB⟩ := hrel
     cases gk with
     | zero => exact absurd HA.out (by simp [impl_IsDeal.l0])
     | succ k2 =>
      have H := HA.out
      clear HA
      simp only [impl_IsDeal.l0] at H
      by_cases c15 : x37_2 < (l0_5.length : Int)
      ·rw [if_pos c15] at H
       have c15b0 : decide (x37_2 < (l0_5.length : Int)) = true := decide_eq_true c15
       clear c15
       by_cases c16 : 0 ≤ x37_2
       ·rw [if_pos c16] at H
        have c16b0 : decide (0 ≤ x37_2) = true := decide_eq_true c16
        clear c16
        by_cases c17 : x37_2 < (l0_5.length : Int)
        ·rw [if_pos c17] at H
         have c17b0 : decide (x37_2 < (l0_5.length : Int)) = true := decide_eq_true c17
         clear c17
         have p256 : 0 ≤ (x37_2 : Int) := of_decide_eq_true (by first | (with_reducible assumption) | assumption)
         have q256 : x37_2 < (l0_5.length : Int) := of_decide_eq_true (by first | (with_reducible assumption) | assumption)
         obtain ⟨ad256, e256, hx256_0⟩ := Kd.at_int HR0_5.out x37_2 p256 q256
         cases e256
         replace hx256_0 := (HB.out.cell (World.block_lt_of_cell? w _ hx256_0)).trans hx256_0
         replace p256 := eq_true p256
         replace q256 := eq_true q256
         by_cases c18 : (rd l0_5 x37_2) < 0
         ·rw [if_pos c18] at H
          have c18b0 : decide ((rd l0_5 x37_2) < 0) = true := decide_eq_true c18
          clear c18
          obtain rfl := Option.some.inj H
          (try simp only [c18b0])
          go_wp2
          go_ret
          exact ⟨by first | rfl | (simp [errW_none, errW_some] <;> rfl) | (simp [*, errW_none, errW_some] <;> rfl), by repeat (first | (with_reducible first | exact HB.out | apply QE | apply QB | apply QD | refine QK ?_ GE253.out) | exact HB.out)⟩
         ·rw [if_neg c18] at H
          have c18b0 : decide ((rd l0_5 x37_2) < 0) = false := decide_eq_false c18
          clear c18
          have H' := QW H
          clear H
          (try simp only [c18b0])
          go_wp2
          go_roundg k2
          case measure => have := HJ1.out; have := HK2.out; omega
          case rel => exact ⟨(wrap64 (x37_2 + 1)), (by first | rfl | (simp; done) | (simp [*]; done)), H', ⟨by have := HJ1.out; have := HK2.out; omega⟩, ⟨by (with_reducible repeat (first | apply QN | apply QO | apply QP)); exact HO_254003.out⟩, ⟨by (with_reducible repeat (first | refine QL ?_ _ | refine QR ?_ | refine QM ?_ _)); exact BK253.out⟩, ⟨by repeat (first | (with_reducible first | exact HB.out | apply QE | apply QB | apply QD | refine QK ?_ GE253.out) | exact HB.out)⟩⟩
        ·rw [if_neg c17] at H
         exact absurd H (by simp)
       ·rw [if_neg c16] at H
        exact absurd H (by simp)
      ·rw [if_neg c15] at H
       have c15b0 : decide (x37_2 < (l0_5.length : Int)) = false := decide_eq_false c15
       clear c15
       have HC19 := QW H
       clear H
       go_upto_region 10 with (fail)
       go_cut [79] (fun v79 wc => ∃ (kq : Nat) (x79_18 : Bool), v79 = .bool x79_18 ∧ Aside0 (impl_IsDeal.j2 kq (l0_0.length : Int) x79_18 l0_0 a0_1 a0_2 l0_3 l0_4 l0_5 a0_6 = some r) ∧ Aside0 (kq ≤ k2) ∧ Aside0 (Kd.V (Kd.int .i64) 3 wc w.heap.size (fun k_ => (P0_3_ k_ ∨ w.heap.size ≤ k_) ∧ k_ ≠ gb253) (.slice A0_3 l0_3.length c0_3) l0_3) ∧ Aside0 (wc.heap[gb253]? = some (.cells #[(.slice A0_0 l0_0.length c0_0), .int .i64 a0_1, .int .i64 a0_2, (.slice A0_3 l0_3.length c0_3), (.slice A0_4 l0_4.length c0_4), (.slice A0_5 l0_5.length c0_5), .int .i64 a0_6] 67 (0, 0))) ∧ Aside0 (Below w.heap.size w wc))
       case first =>
        have H := HC19.out
        clear HC19
        replace H := Option.bind_eq_some_iff.mp H
        obtain ⟨t257, A200, H⟩ := H
        have A20 := QW A200
        clear A200
        obtain ⟨y260, hy260⟩ : ∃ y_ : List (List Int), y_ = (([l0_3] : List (List Int))) := ⟨_, rfl⟩
        replace H : (if t257.length + y260.length < 5864062014805 then ((impl_AllApart.f k2 (t257 ++ y260)).bind fun t266 => (if t266 = true then ((impl_InRange.f a0_1 0 (wrap64 ((l0_0.length : Int) - 1))).bind fun t267 => (if t267 = true then ((impl_InRange.f a0_2 (-1) 3).bind fun t268 => (if t268 = true then ((impl_InRange.f a0_6 0 26).bind fun t269 => (if t269 = true then (impl_IsDeal.j2 k2 (l0_0.length : Int) (decide ((l0_3.length : Int) ≥ (l0_0.length : Int))) l0_0 a0_1 a0_2 l0_3 l0_4 l0_5 a0_6) else (impl_IsDeal.j2 k2 (l0_0.length : Int) true l0_0 a0_1 a0_2 l0_3 l0_4 l0_5 a0_6))) else (impl_IsDeal.j2 k2 (l0_0.length : Int) true l0_0 a0_1 a0_2 l0_3 l0_4 l0_5 a0_6))) else (impl_IsDeal.j2 k2 (l0_0.length : Int) true l0_0 a0_1 a0_2 l0_3 l0_4 l0_5 a0_6))) else (impl_IsDeal.j2 k2 (l0_0.length : Int) true l0_0 a0_1 a0_2 l0_3 l0_4 l0_5 a0_6))) else (none)) = some r := by first | (rw [hy260]; with_reducible exact H) | (have H2_ := (Option.bind_some _ _).symm.trans H; rw [hy260]; with_reducible exact H2_) | (have H2_ := (Option.bind_some _ _).symm.trans H; with_reducible exact H2_) | with_reducible exact H | (rw [hy260]; exact H) | exact H
        have Ny260 := QW hy260
        clear hy260
        by_cases c21 : t257.length + y260.length < 5864062014805
        ·rw [if_pos c21] at H
         have LMc21 := QW c21
         clear c21
         obtain ⟨y263, hy263⟩ : ∃ y_ : List (List Int), y_ = (t257 ++ y260) := ⟨_, rfl⟩
         replace H : ((impl_AllApart.f k2 y263).bind fun t266 => (if t266 = true then ((impl_InRange.f a0_1 0 (wrap64 ((l0_0.length : Int) - 1))).bind fun t267 => (if t267 = true then ((impl_InRange.f a0_2 (-1) 3).bind fun t268 => (if t268 = true then ((impl_InRange.f a0_6 0 26).bind fun t269 => (if t269 = true then (impl_IsDeal.j2 k2 (l0_0.length : Int) (decide ((l0_3.length : Int) ≥ (l0_0.length : Int))) l0_0 a0_1 a0_2 l0_3 l0_4 l0_5 a0_6) else (impl_IsDeal.j2 k2 (l0_0.length : Int) true l0_0 a0_1 a0_2 l0_3 l0_4 l0_5 a0_6))) else (impl_IsDeal.j2 k2 (l0_0.length : Int) true l0_0 a0_1 a0_2 l0_3 l0_4 l0_5 a0_6))) else (impl_IsDeal.j2 k2 (l0_0.length : Int) true l0_0 a0_1 a0_2 l0_3 l0_4 l0_5 a0_6))) else (impl_IsDeal.j2 k2 (l0_0.length : Int) true l0_0 a0_1 a0_2 l0_3 l0_4 l0_5 a0_6))) = some r := by first | (rw [hy263]; with_reducible exact H) | (have H2_ := (Option.bind_some _ _).symm.trans H; rw [hy263]; with_reducible exact H2_) | (have H2_ := (Option.bind_some _ _).symm.trans H; with_reducible exact H2_) | with_reducible exact H | (rw [hy263]; exact H) | exact H
         have Ny263 := QW hy263
         clear hy263
         replace H := Option.bind_eq_some_iff.mp H
         obtain ⟨t266, A220, H⟩ := H
         have A22 := QW A220
         clear A220
         try go_wp2
         have n0_ := QW (QP HO_254003.out)
         have n1_ := QW (QR BK253.out)
         have n2_ := QW (QD HB.out)
         clear HO_254003
         clear BK253
         clear HB
         have HO_254003 := n0_
         have BK253 := n1_
         have HB := n2_
         clear n0_ n1_ n2_
         refine start_ (n := 36) (S := fun w' => w'.cell? ⟨gb253, 0, none⟩ = some (.slice A0_0 l0_0.length c0_0) ∧ w'.cell? ⟨gb253, 1, none⟩ = some (.int .i64 a0_1) ∧ w'.cell? ⟨gb253, 2, none⟩ = some (.int .i64 a0_2) ∧ w'.cell? ⟨gb253, 3, none⟩ = some (.slice A0_3 l0_3.length c0_3) ∧ w'.cell? ⟨gb253, 4, none⟩ = some (.slice A0_4 l0_4.length c0_4) ∧ w'.cell? ⟨gb253, 5, none⟩ = some (.slice A0_5 l0_5.length c0_5) ∧ w'.cell? ⟨gb253, 6, none⟩ = some (.int .i64 a0_6)) (ds := []) #[Y0,Y0,Y0,Y0,Y0,Y0,Y0,Y0,Y0,Y0,Y0,Y0,Y0,Y0,Y0,Y0,Y0,Y0,Y0,Y0,Y0,Y0,Y0,Y0,Y0,Y0,Y0,Y0,Y0,Y0,Y0,Y0,Y0,Y0,Y0,Y0] (by kernel_rfl) rfl rfl ⟨(QC BK253.out 0).trans rfl, (QC BK253.out 1).trans rfl, (QC BK253.out 2).trans rfl, (QC BK253.out 3).trans rfl, (QC BK253.out 4).trans rfl, (QC BK253.out 5).trans rfl, (QC BK253.out 6).trans rfl⟩ (fun hHeld => ?_); refine with_tabW impl_IsDeal.tab10 impl_IsDeal.bits10 (fun HT_ HW_ => ?_)
         generalize wr.drew = w30 at HO_254003 BK253 HB hHeld ⊢
         refine QJ (i := 0) (N := some 44) (v := ?_) (a' := ?_) #[Y1,Y0,Y0,Y0,Y0,Y0,Y0,Y0,Y0,Y0,Y0,Y0,Y0,Y0,Y0,Y0,Y0,Y0,Y0,Y0,Y0,Y0,Y0,Y0,Y0,Y0,Y0,Y0,Y0,Y0,Y0,Y0,Y0,Y0,Y0,Y0] rfl rfl (QF HT_.out (by kernel_rfl)) (fun _ _ _ h => h) (Or.inl ⟨by rfl, ?_⟩) ?_ ?_
         rotate_left
         ·intro w'
          go_simp
          with_reducible rfl
         rotate_left
         ·simp only [Act.put, QT, QU, QV, QG, QH]
          rfl
         refine QJ (i := 3) (N := some 47) (v := ?_) (a' := ?_) #[Y1,Y0,Y0,Y1,Y0,Y0,Y0,Y0,Y0,Y0,Y0,Y0,Y0,Y0,Y0,Y0,Y0,Y0,Y0,Y0,Y0,Y0,Y0,Y0,Y0,Y0,Y0,Y0,Y0,Y0,Y0,Y0,Y0,Y0,Y0,Y0] rfl rfl (QF HT_.out (by kernel_rfl)) (fun _ _ _ h => h) (Or.inl ⟨by rfl, ?_⟩) ?_ ?_
         rotate_left
         ·intro w'
          go_simp
          with_reducible rfl
         rotate_left
         ·simp only [Act.put, QT, QU, QV, QG, QH]
          rfl
         refine take_ (i := 1) (N := some 45) (v := ?_) (a' := ?_) #[Y1,Y1,Y0,Y1,Y0,Y0,Y0,Y0,Y0,Y0,Y0,Y0,Y0,Y0,Y0,Y0,Y0,Y0,Y0,Y0,Y0,Y0,Y0,Y0,Y0,Y0,Y0,Y0,Y0,Y0,Y0,Y0,Y0,Y0,Y0,Y0] rfl rfl (take_ofW HT_.out HW_.out (by kernel_rfl)) (fun _ _ _ h => h) (Or.inl ⟨by rfl, ?_⟩) hHeld ?_ ?_
         rotate_left
         ·rintro w' ⟨s0, s1, s2, s3, s4, s5, s6⟩
          go_simp
          with_reducible rfl
         rotate_left
         ·simp only [Act.put, QT, QU, QV, QG, QH]
          rfl
         refine take_ (i := 4) (N := some 48) (v := ?_) (a' := ?_) #[Y1,Y1,Y0,Y1,Y1,Y0,Y0,Y0,Y0,Y0,Y0,Y0,Y0,Y0,Y0,Y0,Y0,Y0,Y0,Y0,Y0,Y0,Y0,Y0,Y0,Y0,Y0,Y0,Y0,Y0,Y0,Y0,Y0,Y0,Y0,Y0] rfl rfl (take_ofW HT_.out HW_.out (by kernel_rfl)) (fun _ _ _ h => h) (Or.inl ⟨by rfl, ?_⟩) hHeld ?_ ?_
         rotate_left
         ·rintro w' ⟨s0, s1, s2, s3, s4, s5, s6⟩
          go_simp
          with_reducible rfl
         rotate_left
         ·simp only [Act.put, QT, QU, QV, QG, QH]
          rfl
         refine join_ (σ := Value × Value) 30 #[Y1,Y1,Y1,Y1,Y1,Y1,Y0,Y0,Y0,Y0,Y0,Y0,Y0,Y0,Y0,Y0,Y0,Y0,Y0,Y0,Y0,Y0,Y0,Y0,Y0,Y0,Y0,Y0,Y0,Y0,Y0,Y0,Y0,Y0,Y0,Y0] (fun s_ => [(46, s_.1), (49, s_.2)]) (fun s_ w' => (w'.cell? ⟨gb253, 0, none⟩ = some (.slice A0_0 l0_0.length c0_0) ∧ w'.cell? ⟨gb253, 1, none⟩ = some (.int .i64 a0_1) ∧ w'.cell? ⟨gb253, 2, none⟩ = some (.int .i64 a0_2) ∧ w'.cell? ⟨gb253, 3, none⟩ = some (.slice A0_3 l0_3.length c0_3) ∧ w'.cell? ⟨gb253, 4, none⟩ = some (.slice A0_4 l0_4.length c0_4) ∧ w'.cell? ⟨gb253, 5, none⟩ = some (.slice A0_5 l0_5.length c0_5) ∧ w'.cell? ⟨gb253, 6, none⟩ = some (.int .i64 a0_6)) ∧ (Kd.N (Kd.slice 3 (Kd.int .i64)) 24 w' w.heap.size (fun k_ => (P0_3_ k_ ∨ w.heap.size ≤ k_) ∧ some k_ ≠ (s_.2 : Value).ownBlock ∧ k_ ≠ gb253) s_.1 t257) ∧ (Kd.N (Kd.slice 3 (Kd.int .i64)) 24 w' w.heap.size (fun k_ => (P0_3_ k_ ∨ w.heap.size ≤ k_) ∧ some k_ ≠ (s_.1 : Value).ownBlock ∧ k_ ≠ gb253) s_.2 y260) ∧ (Kd.V (Kd.int .i64) 3 w' w.heap.size (fun k_ => (P0_3_ k_ ∨ w.heap.size ≤ k_) ∧ some k_ ≠ (s_.1 : Value).ownBlock ∧ some k_ ≠ (s_.2 : Value).ownBlock ∧ k_ ≠ gb253) (.slice A0_3 l0_3.length c0_3) l0_3) ∧ (w'.heap[gb253]? = some (.cells #[.slice A0_0 l0_0.length c0_0, .int .i64 a0_1, .int .i64 a0_2, .slice A0_3 l0_3.length c0_3, .slice A0_4 l0_4.length c0_4, .slice A0_5 l0_5.length c0_5, .int .i64 a0_6] 67 (0, 0))) ∧ (Below w.heap.size w w')) ?_ ?_
         rotate_left
         ·intro hCont
          refine two_ (i := 2) (j := 5) (Ni := some 46) (Nj := some 49) #[Y1,Y1,Y1,Y1,Y1,Y0,Y0,Y0,Y0,Y0,Y0,Y0,Y0,Y0,Y0,Y0,Y0,Y0,Y0,Y0,Y0,Y0,Y0,Y0,Y0,Y0,Y0,Y0,Y0,Y0,Y0,Y0,Y0,Y0,Y0,Y0] #[Y1,Y1,Y0,Y1,Y1,Y1,Y0,Y0,Y0,Y0,Y0,Y0,Y0,Y0,Y0,Y0,Y0,Y0,Y0,Y0,Y0,Y0,Y0,Y0,Y0,Y0,Y0,Y0,Y0,Y0,Y0,Y0,Y0,Y0,Y0,Y0] rfl rfl rfl rfl (two_of HT_.out (by kernel_rfl)) (by decide) (by decide) (fun K hK => ?_) (fun K hK => ?_)
          ·skip
           refine goes_ Try.func112 (by kernel_rfl) rfl #[.slice A0_0 l0_0.length c0_0] (by rfl) rfl rfl (by (try simp only [List.map_toArray, List.map_cons, List.map_nil]); first | done | rfl | (simp only [List.length_drop, List.length_take]; rfl)) ?_
           with_reducible refine (impl_copyRows.calls k2 _ _ l0_0 t257 _ ?side1 ?side2 A20.out).mono ?_
           (case side1 => repeat (first | exact (Kd.C_below HR0_0.out HB.out) | (with_reducible refine Kd.C_alloc ?_ _) | (with_reducible refine Kd.C_drewN ?_ _) | (with_reducible refine Kd.C_drew ?_)))
           (case side2 => exact HC0_0.out)
           rintro e w31 ⟨v258, rfl, ho0, hb⟩
           refine ⟨_, rfl, ?_⟩
           have n0_ := QW (Kd.V_elder' (by (with_reducible repeat (first | apply QN | apply QO | apply QP)); exact HO_254003.out) (Kd.S_base ho0) hb)
           have n1_ := QW (Kd.N_lower (Kd.N_mono (ok' := fun k_ => (P0_3_ k_ ∨ w.heap.size ≤ k_) ∧ k_ ≠ gb253) (Kd.S_N (Kd.S_bound ho0)) (fun k_ hk_ => ⟨(.inr (Nat.le_trans (QS (by repeat (first | (with_reducible first | exact HB.out | apply QE | apply QB | apply QD | refine QK ?_ GE253.out) | exact HB.out))) hk_.2.1)), (Kd.freshB (g := gb253) (o := _) (by (with_reducible repeat (first | refine QL ?_ _ | refine QR ?_ | refine QM ?_ _)); exact BK253.out) k_ hk_.2.1)⟩)) (QS (by repeat (first | (with_reducible first | exact HB.out | apply QE | apply QB | apply QD | refine QK ?_ GE253.out) | exact HB.out))))
           have n2_ := QW (blk_below (g := gb253) (o := _) (by (with_reducible repeat (first | refine QL ?_ _ | refine QR ?_ | refine QM ?_ _)); exact BK253.out) hb)
           have n3_ := QW (below_step (by repeat (first | (with_reducible first | exact HB.out | apply QE | apply QB | apply QD | refine QK ?_ GE253.out) | exact HB.out)) hb)
           clear HO_254003
           clear BK253
           clear HB
           have HO_254003 := n0_
           have HO259 := n1_
           have BK253 := n2_
           have HB := n3_
           clear n0_ n1_ n2_ n3_
           (try clear hb)
           (try clear hb2)
           (try clear hk)
           (try clear hi)
           (try clear ho0)
           refine hK.out _ _ ⟨(QC BK253.out 0).trans rfl, (QC BK253.out 1).trans rfl, (QC BK253.out 2).trans rfl, (QC BK253.out 3).trans rfl, (QC BK253.out 4).trans rfl, (QC BK253.out 5).trans rfl, (QC BK253.out 6).trans rfl⟩ (fun hHeld => ?_)
           clear hK K
           refine norm_ (a' := ?_) ?_ ?_
           rotate_left
           ·show Act.put _ (some 46) _ = _
            simp only [Act.put, QT, QU, QV, QG, QH]
            rfl
           refine one_ (i := 5) (N := some 49) #[Y1,Y1,Y1,Y1,Y1,Y1,Y0,Y0,Y0,Y0,Y0,Y0,Y0,Y0,Y0,Y0,Y0,Y0,Y0,Y0,Y0,Y0,Y0,Y0,Y0,Y0,Y0,Y0,Y0,Y0,Y0,Y0,Y0,Y0,Y0,Y0] rfl rfl (one_of HT_.out (by kernel_rfl)) (by decide) (fun K hK => ?_)
           refine Kd.N_lit_step (Kd.slice 3 (Kd.int .i64)) _ 24 ?hg (N' := 49) ?hd (xs := ([l0_3] : List (List Int))) (inner := [.slice A0_3 l0_3.length c0_3]) (ok := (fun k_ => (P0_3_ k_ ∨ w.heap.size ≤ k_) ∧ some k_ ≠ (v258 : Value).ownBlock ∧ k_ ≠ gb253)) (okp := (fun k_ => (P0_3_ k_ ∨ w.heap.size ≤ k_) ∧ some k_ ≠ (v258 : Value).ownBlock ∧ k_ ≠ gb253)) ?hr ?hp (fun _ hk => hk) ((show ∀ k_, w31.heap.size ≤ k_ → (fun k_ => (P0_3_ k_ ∨ w.heap.size ≤ k_) ∧ some k_ ≠ (v258 : Value).ownBlock ∧ k_ ≠ gb253) k_ from fun k_ hk => ⟨(.inr (Nat.le_trans (QS (by repeat (first | (with_reducible first | exact HB.out | apply QE | apply QB | apply QD | refine QK ?_ GE253.out) | exact HB.out))) hk)), Kd.fresh' (Kd.N_lt (by (with_reducible repeat (first | apply Kd.N_alloc | apply Kd.N_drewN | apply Kd.N_drew)); exact HO259.out)) k_ hk, Kd.freshB (g := gb253) (o := _) (by (with_reducible repeat (first | refine QL ?_ _ | refine QR ?_ | refine QM ?_ _)); exact BK253.out) k_ hk⟩) _ (Nat.le_refl _)) (Below.refl _ _) (Nat.le_refl _) (by simp) ?_; (case hd => rfl); (case hg => rfl); (case hr => first | (go_simp; done) | (go_simp; rfl)); (case hp => exact (Reps.one (show Kd.FK (Kd.slice 3 (Kd.int .i64)) _ _ l0_3 [.slice A0_3 l0_3.length c0_3] from (Kd.FK_slice_mk (Kd.V_reads' (Kd.V_mono (ok' := (fun k_ => (P0_3_ k_ ∨ w.heap.size ≤ k_) ∧ some k_ ≠ (v258 : Value).ownBlock ∧ k_ ≠ gb253)) (HO_254003.out) (fun k_ hk => ⟨hk.1.1, ⟨hk.2, hk.1.2⟩⟩))).2.1 (Kd.V_F (Kd.V_mono (ok' := (fun k_ => (P0_3_ k_ ∨ w.heap.size ≤ k_) ∧ some k_ ≠ (v258 : Value).ownBlock ∧ k_ ≠ gb253)) (HO_254003.out) (fun k_ hk => ⟨hk.1.1, ⟨hk.2, hk.1.2⟩⟩))))) (Reps.none _ _)))
           intro v261 w32 ho33 hb hg_ hnew_
           clear hg_ hnew_
           (first | rw [← Ny260.out] at ho33 | (simp only [Int.reduceToNat] at ho33; rw [← Ny260.out] at ho33))
           have n0_ := QW (Kd.V_elder' (by (with_reducible repeat (first | apply QN | apply QO | apply QP)); exact HO_254003.out) (Kd.N_base ho33) hb)
           have n1_ := QW (Kd.N_elder' (by (with_reducible repeat (first | apply Kd.N_alloc | apply Kd.N_drewN | apply Kd.N_drew)); exact HO259.out) (Kd.N_base ho33) hb)
           have n2_ := QW (Kd.N_lower ho33 (QS (by repeat (first | (with_reducible first | exact HB.out | apply QE | apply QB | apply QD | refine QK ?_ GE253.out) | exact HB.out))))
           have n3_ := QW (blk_below (g := gb253) (o := _) (by (with_reducible repeat (first | refine QL ?_ _ | refine QR ?_ | refine QM ?_ _)); exact BK253.out) hb)
           have n4_ := QW (below_step (by repeat (first | (with_reducible first | exact HB.out | apply QE | apply QB | apply QD | refine QK ?_ GE253.out) | exact HB.out)) hb)
           clear HO_254003
           clear HO259
           clear BK253
           clear HB
           have HO_254003 := n0_
           have HO259 := n1_
           have HO262 := n2_
           have BK253 := n3_
           have HB := n4_
           clear n0_ n1_ n2_ n3_ n4_
           clear hb ho33
           refine hK.out _ _ ⟨(QC BK253.out 0).trans rfl, (QC BK253.out 1).trans rfl, (QC BK253.out 2).trans rfl, (QC BK253.out 3).trans rfl, (QC BK253.out 4).trans rfl, (QC BK253.out 5).trans rfl, (QC BK253.out 6).trans rfl⟩ (fun hHeld => ?_)
           clear hK K
           refine norm_ (a' := ?_) ?_ ?_
           rotate_left
           ·show Act.put _ (some 49) _ = _
            simp only [Act.put, QT, QU, QV, QG, QH]
            rfl
           exact norm_ (by simp only [putAll, Act.put, QT, QU, QV]) (hCont (v258, v261) _ ⟨hHeld, (by (with_reducible repeat (first | apply Kd.N_alloc | apply Kd.N_drewN | apply Kd.N_drew)); exact Kd.N_mono HO259.out (fun _ hk => ⟨hk.1.1, ⟨hk.2, hk.1.2⟩⟩)), (by (with_reducible repeat (first | apply Kd.N_alloc | apply Kd.N_drewN | apply Kd.N_drew)); exact HO262.out), (by (with_reducible repeat (first | apply QN | apply QO | apply QP)); exact Kd.V_mono HO_254003.out (fun _ hk => ⟨hk.1.1.1, ⟨hk.1.2, ⟨hk.2, hk.1.1.2⟩⟩⟩)), (by (with_reducible repeat (first | refine QL ?_ _ | refine QR ?_ | refine QM ?_ _)); exact BK253.out), (by repeat (first | (with_reducible first | exact HB.out | apply QE | apply QB | apply QD | refine QK ?_ GE253.out) | exact HB.out))⟩)
          ·skip
           refine Kd.N_lit_step (Kd.slice 3 (Kd.int .i64)) _ 24 ?hg (N' := 49) ?hd (xs := ([l0_3] : List (List Int))) (inner := [.slice A0_3 l0_3.length c0_3]) (ok := (fun k_ => (P0_3_ k_ ∨ w.heap.size ≤ k_) ∧ k_ ≠ gb253)) (okp := (fun k_ => (P0_3_ k_ ∨ w.heap.size ≤ k_) ∧ k_ ≠ gb253)) ?hr ?hp (fun _ hk => hk) ((show ∀ k_, w30.heap.size ≤ k_ → (fun k_ => (P0_3_ k_ ∨ w.heap.size ≤ k_) ∧ k_ ≠ gb253) k_ from fun k_ hk => ⟨(.inr (Nat.le_trans (QS (by repeat (first | (with_reducible first | exact HB.out | apply QE | apply QB | apply QD | refine QK ?_ GE253.out) | exact HB.out))) hk)), Kd.freshB (g := gb253) (o := _) (by (with_reducible repeat (first | refine QL ?_ _ | refine QR ?_ | refine QM ?_ _)); exact BK253.out) k_ hk⟩) _ (Nat.le_refl _)) (Below.refl _ _) (Nat.le_refl _) (by simp) ?_; (case hd => rfl); (case hg => rfl); (case hr => first | (go_simp; done) | (go_simp; rfl)); (case hp => exact (Reps.one (show Kd.FK (Kd.slice 3 (Kd.int .i64)) _ _ l0_3 [.slice A0_3 l0_3.length c0_3] from (Kd.FK_slice_mk (Kd.V_reads' (Kd.V_mono (ok' := (fun k_ => (P0_3_ k_ ∨ w.heap.size ≤ k_) ∧ k_ ≠ gb253)) (HO_254003.out) (fun k_ hk => ⟨hk.1, hk.2⟩))).2.1 (Kd.V_F (Kd.V_mono (ok' := (fun k_ => (P0_3_ k_ ∨ w.heap.size ≤ k_) ∧ k_ ≠ gb253)) (HO_254003.out) (fun k_ hk => ⟨hk.1, hk.2⟩))))) (Reps.none _ _)))
           intro v261 w31 ho32 hb hg_ hnew_
           clear hg_ hnew_
           (first | rw [← Ny260.out] at ho32 | (simp only [Int.reduceToNat] at ho32; rw [← Ny260.out] at ho32))
           have n0_ := QW (Kd.V_elder' (by (with_reducible repeat (first | apply QN | apply QO | apply QP)); exact HO_254003.out) (Kd.N_base ho32) hb)
           have n1_ := QW (Kd.N_lower ho32 (QS (by repeat (first | (with_reducible first | exact HB.out | apply QE | apply QB | apply QD | refine QK ?_ GE253.out) | exact HB.out))))
           have n2_ := QW (blk_below (g := gb253) (o := _) (by (with_reducible repeat (first | refine QL ?_ _ | refine QR ?_ | refine QM ?_ _)); exact BK253.out) hb)
           have n3_ := QW (below_step (by repeat (first | (with_reducible first | exact HB.out | apply QE | apply QB | apply QD | refine QK ?_ GE253.out) | exact HB.out)) hb)
           clear HO_254003
           clear BK253
           clear HB
           have HO_254003 := n0_
           have HO262 := n1_
           have BK253 := n2_
           have HB := n3_
           clear n0_ n1_ n2_ n3_
           clear hb ho32
           refine hK.out _ _ ⟨(QC BK253.out 0).trans rfl, (QC BK253.out 1).trans rfl, (QC BK253.out 2).trans rfl, (QC BK253.out 3).trans rfl, (QC BK253.out 4).trans rfl, (QC BK253.out 5).trans rfl, (QC BK253.out 6).trans rfl⟩ (fun hHeld => ?_)
           clear hK K
           refine norm_ (a' := ?_) ?_ ?_
           rotate_left
           ·show Act.put _ (some 49) _ = _
            simp only [Act.put, QT, QU, QV, QG, QH]
            rfl
           refine one_ (i := 2) (N := some 46) #[Y1,Y1,Y1,Y1,Y1,Y1,Y0,Y0,Y0,Y0,Y0,Y0,Y0,Y0,Y0,Y0,Y0,Y0,Y0,Y0,Y0,Y0,Y0,Y0,Y0,Y0,Y0,Y0,Y0,Y0,Y0,Y0,Y0,Y0,Y0,Y0] rfl rfl (one_of HT_.out (by kernel_rfl)) (by decide) (fun K hK => ?_)
           refine goes_ Try.func112 (by kernel_rfl) rfl #[.slice A0_0 l0_0.length c0_0] (by rfl) rfl rfl (by (try simp only [List.map_toArray, List.map_cons, List.map_nil]); first | done | rfl | (simp only [List.length_drop, List.length_take]; rfl)) ?_
           with_reducible refine (impl_copyRows.calls k2 _ _ l0_0 t257 _ ?side1 ?side2 A20.out).mono ?_
           (case side1 => repeat (first | exact (Kd.C_below HR0_0.out HB.out) | (with_reducible refine Kd.C_alloc ?_ _) | (with_reducible refine Kd.C_drewN ?_ _) | (with_reducible refine Kd.C_drew ?_)))
           (case side2 => exact HC0_0.out)
           rintro e w33 ⟨v258, rfl, ho0, hb⟩
           refine ⟨_, rfl, ?_⟩
           have n0_ := QW (Kd.V_elder' (by (with_reducible repeat (first | apply QN | apply QO | apply QP)); exact HO_254003.out) (Kd.S_base ho0) hb)
           have n1_ := QW (Kd.N_elder' (by (with_reducible repeat (first | apply Kd.N_alloc | apply Kd.N_drewN | apply Kd.N_drew)); exact HO262.out) (Kd.S_base ho0) hb)
           have n2_ := QW (Kd.N_lower (Kd.N_mono (ok' := fun k_ => (P0_3_ k_ ∨ w.heap.size ≤ k_) ∧ some k_ ≠ (v261 : Value).ownBlock ∧ k_ ≠ gb253) (Kd.S_N (Kd.S_bound ho0)) (fun k_ hk_ => ⟨(.inr (Nat.le_trans (QS (by repeat (first | (with_reducible first | exact HB.out | apply QE | apply QB | apply QD | refine QK ?_ GE253.out) | exact HB.out))) hk_.2.1)), (Kd.fresh' (Kd.N_lt (by (with_reducible repeat (first | apply Kd.N_alloc | apply Kd.N_drewN | apply Kd.N_drew)); exact HO262.out)) k_ hk_.2.1), (Kd.freshB (g := gb253) (o := _) (by (with_reducible repeat (first | refine QL ?_ _ | refine QR ?_ | refine QM ?_ _)); exact BK253.out) k_ hk_.2.1)⟩)) (QS (by repeat (first | (with_reducible first | exact HB.out | apply QE | apply QB | apply QD | refine QK ?_ GE253.out) | exact HB.out))))
           have n3_ := QW (blk_below (g := gb253) (o := _) (by (with_reducible repeat (first | refine QL ?_ _ | refine QR ?_ | refine QM ?_ _)); exact BK253.out) hb)
           have n4_ := QW (below_step (by repeat (first | (with_reducible first | exact HB.out | apply QE | apply QB | apply QD | refine QK ?_ GE253.out) | exact HB.out)) hb)
           clear HO_254003
           clear HO262
           clear BK253
           clear HB
           have HO_254003 := n0_
           have HO262 := n1_
           have HO259 := n2_
           have BK253 := n3_
           have HB := n4_
           clear n0_ n1_ n2_ n3_ n4_
           (try clear hb)
           (try clear hb2)
           (try clear hk)
           (try clear hi)
           (try clear ho0)
           refine hK.out _ _ ⟨(QC BK253.out 0).trans rfl, (QC BK253.out 1).trans rfl, (QC BK253.out 2).trans rfl, (QC BK253.out 3).trans rfl, (QC BK253.out 4).trans rfl, (QC BK253.out 5).trans rfl, (QC BK253.out 6).trans rfl⟩ (fun hHeld => ?_)
           clear hK K
           refine norm_ (a' := ?_) ?_ ?_
           rotate_left
           ·show Act.put _ (some 46) _ = _
            simp only [Act.put, QT, QU, QV, QG, QH]
            rfl
           exact norm_ (by simp only [putAll, Act.put, QT, QU, QV]) (hCont (v258, v261) _ ⟨hHeld, (by (with_reducible repeat (first | apply Kd.N_alloc | apply Kd.N_drewN | apply Kd.N_drew)); exact HO259.out), (by (with_reducible repeat (first | apply Kd.N_alloc | apply Kd.N_drewN | apply Kd.N_drew)); exact Kd.N_mono HO262.out (fun _ hk => ⟨hk.1.1, ⟨hk.2, hk.1.2⟩⟩)), (by (with_reducible repeat (first | apply QN | apply QO | apply QP)); exact Kd.V_mono HO_254003.out (fun _ hk => ⟨hk.1.1.1, ⟨hk.2, ⟨hk.1.2, hk.1.1.2⟩⟩⟩)), (by (with_reducible repeat (first | refine QL ?_ _ | refine QR ?_ | refine QM ?_ _)); exact BK253.out), (by repeat (first | (with_reducible first | exact HB.out | apply QE | apply QB | apply QD | refine QK ?_ GE253.out) | exact HB.out))⟩)
         rintro ⟨v258, v261⟩ w34 ⟨hS_, h0_, h1_, h2_, h3_, h4_⟩
         have n0_ : Aside0 (Kd.N (Kd.slice 3 (Kd.int .i64)) 24 w34 w.heap.size (fun k_ => (P0_3_ k_ ∨ w.heap.size ≤ k_) ∧ some k_ ≠ (v261 : Value).ownBlock ∧ k_ ≠ gb253) v258 t257) := ⟨h0_⟩
         have n1_ : Aside0 (Kd.N (Kd.slice 3 (Kd.int .i64)) 24 w34 w.heap.size (fun k_ => (P0_3_ k_ ∨ w.heap.size ≤ k_) ∧ some k_ ≠ (v258 : Value).ownBlock ∧ k_ ≠ gb253) v261 y260) := ⟨h1_⟩
         have n2_ : Aside0 (Kd.V (Kd.int .i64) 3 w34 w.heap.size (fun k_ => (P0_3_ k_ ∨ w.heap.size ≤ k_) ∧ some k_ ≠ (v258 : Value).ownBlock ∧ some k_ ≠ (v261 : Value).ownBlock ∧ k_ ≠ gb253) (.slice A0_3 l0_3.length c0_3) l0_3) := ⟨h2_⟩
         have n3_ : Aside0 (w34.heap[gb253]? = some (.cells #[.slice A0_0 l0_0.length c0_0, .int .i64 a0_1, .int .i64 a0_2, .slice A0_3 l0_3.length c0_3, .slice A0_4 l0_4.length c0_4, .slice A0_5 l0_5.length c0_5, .int .i64 a0_6] 67 (0, 0))) := ⟨h3_⟩
         have n4_ : Aside0 (Below w.heap.size w w34) := ⟨h4_⟩
         clear HO_254003
         clear BK253
         clear HB
         clear h0_ h1_ h2_ h3_ h4_
         have HO259 := n0_
         have HO262 := n1_
         have HO_254003 := n2_
         have BK253 := n3_
         have HB := n4_
         clear n0_ n1_ n2_ n3_ n4_
         have hHeld : w34.cell? ⟨gb253, 0, none⟩ = some (.slice A0_0 l0_0.length c0_0) ∧ w34.cell? ⟨gb253, 1, none⟩ = some (.int .i64 a0_1) ∧ w34.cell? ⟨gb253, 2, none⟩ = some (.int .i64 a0_2) ∧ w34.cell? ⟨gb253, 3, none⟩ = some (.slice A0_3 l0_3.length c0_3) ∧ w34.cell? ⟨gb253, 4, none⟩ = some (.slice A0_4 l0_4.length c0_4) ∧ w34.cell? ⟨gb253, 5, none⟩ = some (.slice A0_5 l0_5.length c0_5) ∧ w34.cell? ⟨gb253, 6, none⟩ = some (.int .i64 a0_6) := hS_
         obtain ⟨Ao36, co36, eo36⟩ := Kd.N_slice HO262.out
         (first | subst eo36 | (injection eo36 with f1_ f2_ f3_; have f4_ := f1_.symm; have f5_ := f3_.symm; clear f1_ f2_ f3_; subst f4_; subst f5_))
         refine norm_ (a' := ?_) ?_ ?_
         rotate_left
         ·simp only [putAll, Act.put, QT, QU, QV]
          rfl
         refine one_ (i := 6) (N := some 50) #[Y1,Y1,Y1,Y1,Y1,Y1,Y1,Y0,Y0,Y0,Y0,Y0,Y0,Y0,Y0,Y0,Y0,Y0,Y0,Y0,Y0,Y0,Y0,Y0,Y0,Y0,Y0,Y0,Y0,Y0,Y0,Y0,Y0,Y0,Y0,Y0] rfl rfl (one_of HT_.out (by kernel_rfl)) (by decide) (fun K hK => ?_)
         refine Kd.N_append_rows_step (Kd.slice 3 (Kd.int .i64)) (w0 := w) w.heap.size (by rfl) (.tmp 46) (.tmp 49) 53 24 (.slice none 0 0) 24 rfl Try.underlying53 info24 rfl (by decide) (by omega) v258 t257 y260 _ _ _ (fun k_ => (P0_3_ k_ ∨ w.heap.size ≤ k_) ∧ k_ ≠ gb253) (fun k_ => ((fun k_ => (P0_3_ k_ ∨ w.heap.size ≤ k_) ∧ k_ ≠ gb253)) k_ ∧ some k_ ≠ (v258 : Value).ownBlock) rfl rfl ?aO ?aR (fun _ hk => hk) ?aF ?aB ?aS ?aL ?_
         (case aR => exact (by skip; exact Kd.N_F (Kd.N_mono (ok' := (fun k_ => ((fun k_ => (P0_3_ k_ ∨ w.heap.size ≤ k_) ∧ k_ ≠ gb253)) k_ ∧ some k_ ≠ (v258 : Value).ownBlock)) (HO262.out) (fun k_ hk => ⟨⟨hk.1, hk.2.2⟩, hk.2.1⟩))))
         (case aB => exact (by repeat (first | (with_reducible first | exact HB.out | apply QE | apply QB | apply QD | refine QK ?_ GE253.out) | exact HB.out)))
         (case aF => exact (fun k_ hk => ⟨(.inr (Nat.le_trans (QS (by repeat (first | (with_reducible first | exact HB.out | apply QE | apply QB | apply QD | refine QK ?_ GE253.out) | exact HB.out))) hk)), Kd.freshB (g := gb253) (o := _) (by (with_reducible repeat (first | refine QL ?_ _ | refine QR ?_ | refine QM ?_ _)); exact BK253.out) k_ hk⟩))
         (case aO => exact (by (with_reducible repeat (first | apply Kd.N_alloc | apply Kd.N_drewN | apply Kd.N_drew)); exact Kd.N_mono HO259.out (fun _ hk => ⟨hk.1, hk.2.2⟩)))
         (case aS => exact (QS (by repeat (first | (with_reducible first | exact HB.out | apply QE | apply QB | apply QD | refine QK ?_ GE253.out) | exact HB.out))))
         (case aL => have := LMc21.out; omega)
         intro v264 w35 ho hb hg hat
         rw [← Ny263.out] at ho
         have n0_ := QW (Kd.V_afterv (ok := (fun k_ => (P0_3_ k_ ∨ w.heap.size ≤ k_) ∧ some k_ ≠ (.slice Ao36 y260.length co36 : Value).ownBlock ∧ k_ ≠ gb253)) (by (with_reducible repeat (first | apply QN | apply QO | apply QP)); exact Kd.V_mono HO_254003.out (fun _ hk => ⟨⟨hk.1, ⟨hk.2.2.1, hk.2.2.2⟩⟩, hk.2.1⟩)) hg hat)
         have n1_ := QW (blk_grown (g := gb253) (o := _) (by (with_reducible repeat (first | refine QL ?_ _ | refine QR ?_ | refine QM ?_ _)); exact BK253.out) hg (Kd.N_ne HO259.out BK253.out (by decide)))
         have n2_ := QW (Kd.N_afterv (ok := (fun k_ => (P0_3_ k_ ∨ w.heap.size ≤ k_) ∧ k_ ≠ gb253)) (by (with_reducible repeat (first | apply Kd.N_alloc | apply Kd.N_drewN | apply Kd.N_drew)); exact Kd.N_mono HO262.out (fun _ hk => ⟨⟨hk.1, hk.2.2⟩, hk.2.1⟩)) hg hat)
         have n3_ := QW (hb)
         have n4_ := QW (ho)
         clear HO_254003
         clear BK253
         clear HO262
         clear HB
         clear HO259
         have HO_254003 := n0_
         have BK253 := n1_
         have HO262 := n2_
         have HB := n3_
         have HO265 := n4_
         clear n0_ n1_ n2_ n3_ n4_
         clear ho hb hg hat
         obtain ⟨Ao37, co37, eo37⟩ := Kd.N_slice HO265.out
         (first | subst eo37 | (injection eo37 with f1_ f2_ f3_; have f4_ := f1_.symm; have f5_ := f3_.symm; clear f1_ f2_ f3_; subst f4_; subst f5_))
         refine hK.out _ _ ⟨(QC BK253.out 0).trans rfl, (QC BK253.out 1).trans rfl, (QC BK253.out 2).trans rfl, (QC BK253.out 3).trans rfl, (QC BK253.out 4).trans rfl, (QC BK253.out 5).trans rfl, (QC BK253.out 6).trans rfl⟩ (fun hHeld => ?_)
         clear hK K
         refine norm_ (a' := ?_) ?_ ?_
         rotate_left
         ·show Act.put _ (some 50) _ = _
          simp only [Act.put, QT, QU, QV, QG, QH]
          rfl
         refine one_ (i := 7) (N := some 51) #[Y1,Y1,Y1,Y1,Y1,Y1,Y1,Y1,Y0,Y0,Y0,Y0,Y0,Y0,Y0,Y0,Y0,Y0,Y0,Y0,Y0,Y0,Y0,Y0,Y0,Y0,Y0,Y0,Y0,Y0,Y0,Y0,Y0,Y0,Y0,Y0] rfl rfl (one_of HT_.out (by kernel_rfl)) (by decide) (fun K hK => ?_)
         refine goes_ Try.func153 (by kernel_rfl) rfl #[.slice Ao37 y263.length co37] (by rfl) rfl rfl (by (try simp only [List.map_toArray, List.map_cons, List.map_nil]); first | done | rfl | (simp only [List.length_drop, List.length_take]; rfl)) ?_
         with_reducible refine (impl_AllApart.calls k2 _ _ y263 t266 _ ?side1 ?side2 A22.out).mono ?_
         (case side1 => repeat (first | exact (Kd.N_reads' HO265.out).2.2 | (with_reducible refine Kd.C_alloc ?_ _) | (with_reducible refine Kd.C_drewN ?_ _) | (with_reducible refine Kd.C_drew ?_)))
         (case side2 => exact (Kd.N_reads' HO265.out).2.1)
         rintro e w38 ⟨rfl, hb⟩
         refine ⟨_, rfl, ?_⟩
         have n0_ := QW (Kd.V_below (by (with_reducible repeat (first | apply QN | apply QO | apply QP)); exact HO_254003.out) hb)
         have n1_ := QW (Kd.N_below (by (with_reducible repeat (first | apply Kd.N_alloc | apply Kd.N_drewN | apply Kd.N_drew)); exact HO262.out) hb)
         have n2_ := QW (Kd.N_below (by (with_reducible repeat (first | apply Kd.N_alloc | apply Kd.N_drewN | apply Kd.N_drew)); exact HO265.out) hb)
         have n3_ := QW (blk_below (g := gb253) (o := _) (by (with_reducible repeat (first | refine QL ?_ _ | refine QR ?_ | refine QM ?_ _)); exact BK253.out) hb)
         have n4_ := QW (below_step (by repeat (first | (with_reducible first | exact HB.out | apply QE | apply QB | apply QD | refine QK ?_ GE253.out) | exact HB.out)) hb)
         clear HO_254003
         clear HO262
         clear HO265
         clear BK253
         clear HB
         have HO_254003 := n0_
         have HO262 := n1_
         have HO265 := n2_
         have BK253 := n3_
         have HB := n4_
         clear n0_ n1_ n2_ n3_ n4_
         (try clear hb)
         (try clear hb2)
         (try clear hk)
         (try clear hi)
         refine hK.out _ _ ⟨(QC BK253.out 0).trans rfl, (QC BK253.out 1).trans rfl, (QC BK253.out 2).trans rfl, (QC BK253.out 3).trans rfl, (QC BK253.out 4).trans rfl, (QC BK253.out 5).trans rfl, (QC BK253.out 6).trans rfl⟩ (fun hHeld => ?_)
         clear hK K
         refine norm_ (a' := ?_) ?_ ?_
         rotate_left
         ·show Act.put _ (some 51) _ = _
          simp only [Act.put, QT, QU, QV, QG, QH]
          rfl
         refine QJ (i := 8) (N := some 52) (v := ?_) (a' := ?_) #[Y1,Y1,Y1,Y1,Y1,Y1,Y1,Y1,Y1,Y0,Y0,Y0,Y0,Y0,Y0,Y0,Y0,Y0,Y0,Y0,Y0,Y0,Y0,Y0,Y0,Y0,Y0,Y0,Y0,Y0,Y0,Y0,Y0,Y0,Y0,Y0] rfl rfl (QF HT_.out (by kernel_rfl)) (fun _ _ _ h => h) (Or.inl ⟨by rfl, ?_⟩) ?_ ?_
         rotate_left
         ·intro w'
          go_simp
          with_reducible rfl
         rotate_left
         ·simp only [Act.put, QT, QU, QV, QG, QH]
          rfl
         refine QJ (i := 9) (N := some 53) (v := ?_) (a' := ?_) #[Y1,Y1,Y1,Y1,Y1,Y1,Y1,Y1,Y1,Y1,Y0,Y0,Y0,Y0,Y0,Y0,Y0,Y0,Y0,Y0,Y0,Y0,Y0,Y0,Y0,Y0,Y0,Y0,Y0,Y0,Y0,Y0,Y0,Y0,Y0,Y0] rfl rfl (QF HT_.out (by kernel_rfl)) (fun _ _ _ h => h) (Or.inl ⟨by rfl, ?_⟩) ?_ ?_
         rotate_left
         ·intro w'
          go_simp
          with_reducible rfl
         rotate_left
         ·simp only [Act.put, QT, QU, QV, QG, QH]
          rfl
         by_cases c23 : t266 = true
         ·subst c23
          rw [if_pos rfl] at H
          replace H := Option.bind_eq_some_iff.mp H
          obtain ⟨t267, A240, H⟩ := H
          have A24 := QW A240
          clear A240
          refine QJ (i := 10) (N := some 54) (v := ?_) (a' := ?_) #[Y1,Y1,Y1,Y1,Y1,Y1,Y1,Y1,Y1,Y1,Y1,Y0,Y0,Y0,Y0,Y0,Y0,Y0,Y0,Y0,Y0,Y0,Y0,Y0,Y0,Y0,Y0,Y0,Y0,Y0,Y0,Y0,Y0,Y0,Y0,Y0] rfl rfl (QF HT_.out (by kernel_rfl)) (fun _ _ _ h => h) (Or.inl ⟨by rfl, ?_⟩) ?_ ?_
          rotate_left
          ·intro w'
           go_simp
           with_reducible rfl
          rotate_left
          ·simp only [Act.put, QT, QU, QV, QG, QH]
           rfl
          refine QJ (i := 12) (N := some 56) (v := ?_) (a' := ?_) #[Y1,Y1,Y1,Y1,Y1,Y1,Y1,Y1,Y1,Y1,Y1,Y0,Y1,Y0,Y0,Y0,Y0,Y0,Y0,Y0,Y0,Y0,Y0,Y0,Y0,Y0,Y0,Y0,Y0,Y0,Y0,Y0,Y0,Y0,Y0,Y0] rfl rfl (QF HT_.out (by kernel_rfl)) (fun _ _ _ h => h) (Or.inl ⟨by rfl, ?_⟩) ?_ ?_
          rotate_left
          ·intro w'
           go_simp
           with_reducible rfl
          rotate_left
          ·simp only [Act.put, QT, QU, QV, QG, QH]
           rfl
          refine QJ (i := 13) (N := some 57) (v := ?_) (a' := ?_) #[Y1,Y1,Y1,Y1,Y1,Y1,Y1,Y1,Y1,Y1,Y1,Y0,Y1,Y1,Y0,Y0,Y0,Y0,Y0,Y0,Y0,Y0,Y0,Y0,Y0,Y0,Y0,Y0,Y0,Y0,Y0,Y0,Y0,Y0,Y0,Y0] rfl rfl (QF HT_.out (by kernel_rfl)) (fun _ _ _ h => h) (Or.inl ⟨by rfl, ?_⟩) ?_ ?_
          rotate_left
          ·intro w'
           go_simp
           with_reducible rfl
          rotate_left
          ·simp only [Act.put, QT, QU, QV, QG, QH]
           rfl
          refine take_ (i := 11) (N := some 55) (v := ?_) (a' := ?_) #[Y1,Y1,Y1,Y1,Y1,Y1,Y1,Y1,Y1,Y1,Y1,Y1,Y1,Y1,Y0,Y0,Y0,Y0,Y0,Y0,Y0,Y0,Y0,Y0,Y0,Y0,Y0,Y0,Y0,Y0,Y0,Y0,Y0,Y0,Y0,Y0] rfl rfl (take_ofW HT_.out HW_.out (by kernel_rfl)) (fun _ _ _ h => h) (Or.inl ⟨by rfl, ?_⟩) hHeld ?_ ?_
          rotate_left
          ·rintro w' ⟨s0, s1, s2, s3, s4, s5, s6⟩
           go_simp
           with_reducible rfl
          rotate_left
          ·simp only [Act.put, QT, QU, QV, QG, QH]
           rfl
          refine one_ (i := 14) (N := some 58) #[Y1,Y1,Y1,Y1,Y1,Y1,Y1,Y1,Y1,Y1,Y1,Y1,Y1,Y1,Y1,Y0,Y0,Y0,Y0,Y0,Y0,Y0,Y0,Y0,Y0,Y0,Y0,Y0,Y0,Y0,Y0,Y0,Y0,Y0,Y0,Y0] rfl rfl (one_of HT_.out (by kernel_rfl)) (by decide) (fun K hK => ?_)
          refine goes_ Try.func85 (by kernel_rfl) rfl #[.int .i64 a0_1, .int .i64 0, .int .i64 (wrap64 ((l0_0.length : Int) - 1))] (by rfl) rfl rfl (by (try simp only [List.map_toArray, List.map_cons, List.map_nil]); first | done | rfl | (simp only [List.length_drop, List.length_take]; rfl)) ?_
          with_reducible refine (impl_InRange.calls a0_1 0 (wrap64 ((l0_0.length : Int) - 1)) t267 _ A24.out).mono ?_
          rintro e w' ⟨rfl, ⟨nd, rfl⟩⟩
          refine ⟨_, rfl, ?_⟩
          refine hK.out _ _ ⟨(QC BK253.out 0).trans rfl, (QC BK253.out 1).trans rfl, (QC BK253.out 2).trans rfl, (QC BK253.out 3).trans rfl, (QC BK253.out 4).trans rfl, (QC BK253.out 5).trans rfl, (QC BK253.out 6).trans rfl⟩ (fun hHeld => ?_)
          clear hK K
          refine norm_ (a' := ?_) ?_ ?_
          rotate_left
          ·show Act.put _ (some 58) _ = _
           simp only [Act.put, QT, QU, QV, QG, QH]
           rfl
          refine QJ (i := 15) (N := some 59) (v := ?_) (a' := ?_) #[Y1,Y1,Y1,Y1,Y1,Y1,Y1,Y1,Y1,Y1,Y1,Y1,Y1,Y1,Y1,Y1,Y0,Y0,Y0,Y0,Y0,Y0,Y0,Y0,Y0,Y0,Y0,Y0,Y0,Y0,Y0,Y0,Y0,Y0,Y0,Y0] rfl rfl (QF HT_.out (by kernel_rfl)) (fun _ _ _ h => h) (Or.inl ⟨by rfl, ?_⟩) ?_ ?_
          rotate_left
          ·intro w'
           go_simp
           with_reducible rfl
          rotate_left
          ·simp only [Act.put, QT, QU, QV, QG, QH]
           rfl
          refine QJ (i := 16) (N := some 60) (v := ?_) (a' := ?_) #[Y1,Y1,Y1,Y1,Y1,Y1,Y1,Y1,Y1,Y1,Y1,Y1,Y1,Y1,Y1,Y1,Y1,Y0,Y0,Y0,Y0,Y0,Y0,Y0,Y0,Y0,Y0,Y0,Y0,Y0,Y0,Y0,Y0,Y0,Y0,Y0] rfl rfl (QF HT_.out (by kernel_rfl)) (fun _ _ _ h => h) (Or.inl ⟨by rfl, ?_⟩) ?_ ?_
          rotate_left
          ·intro w'
           go_simp
           with_reducible rfl
          rotate_left
          ·simp only [Act.put, QT, QU, QV, QG, QH]
           rfl
          refine QJ (i := 17) (N := some 61) (v := ?_) (a' := ?_) #[Y1,Y1,Y1,Y1,Y1,Y1,Y1,Y1,Y1,Y1,Y1,Y1,Y1,Y1,Y1,Y1,Y1,Y1,Y0,Y0,Y0,Y0,Y0,Y0,Y0,Y0,Y0,Y0,Y0,Y0,Y0,Y0,Y0,Y0,Y0,Y0] rfl rfl (QF HT_.out (by kernel_rfl)) (fun _ _ _ h => h) (Or.inl ⟨by rfl, ?_⟩) ?_ ?_
          rotate_left
          ·intro w'
           go_simp
           with_reducible rfl
          rotate_left
          ·simp only [Act.put, QT, QU, QV, QG, QH]
           rfl
          by_cases c25 : t267 = true
          ·subst c25
           rw [if_pos rfl] at H
           replace H := Option.bind_eq_some_iff.mp H
           obtain ⟨t268, A260, H⟩ := H
           have A26 := QW A260
           clear A260
           refine QJ (i := 18) (N := some 62) (v := ?_) (a' := ?_) #[Y1,Y1,Y1,Y1,Y1,Y1,Y1,Y1,Y1,Y1,Y1,Y1,Y1,Y1,Y1,Y1,Y1,Y1,Y1,Y0,Y0,Y0,Y0,Y0,Y0,Y0,Y0,Y0,Y0,Y0,Y0,Y0,Y0,Y0,Y0,Y0] rfl rfl (QF HT_.out (by kernel_rfl)) (fun _ _ _ h => h) (Or.inl ⟨by rfl, ?_⟩) ?_ ?_
           rotate_left
           ·intro w'
            go_simp
            with_reducible rfl
           rotate_left
           ·simp only [Act.put, QT, QU, QV, QG, QH]
            rfl
           refine take_ (i := 19) (N := some 63) (v := ?_) (a' := ?_) #[Y1,Y1,Y1,Y1,Y1,Y1,Y1,Y1,Y1,Y1,Y1,Y1,Y1,Y1,Y1,Y1,Y1,Y1,Y1,Y1,Y0,Y0,Y0,Y0,Y0,Y0,Y0,Y0,Y0,Y0,Y0,Y0,Y0,Y0,Y0,Y0] rfl rfl (take_ofW HT_.out HW_.out (by kernel_rfl)) (fun _ _ _ h => h) (Or.inl ⟨by rfl, ?_⟩) hHeld ?_ ?_
           rotate_left
           ·rintro w' ⟨s0, s1, s2, s3, s4, s5, s6⟩
            go_simp
            with_reducible rfl
           rotate_left
           ·simp only [Act.put, QT, QU, QV, QG, QH]
            rfl
           refine one_ (i := 20) (N := some 64) #[Y1,Y1,Y1,Y1,Y1,Y1,Y1,Y1,Y1,Y1,Y1,Y1,Y1,Y1,Y1,Y1,Y1,Y1,Y1,Y1,Y1,Y0,Y0,Y0,Y0,Y0,Y0,Y0,Y0,Y0,Y0,Y0,Y0,Y0,Y0,Y0] rfl rfl (one_of HT_.out (by kernel_rfl)) (by decide) (fun K hK => ?_)
           refine goes_ Try.func85 (by kernel_rfl) rfl #[.int .i64 a0_2, .int .i64 (-1), .int .i64 3] (by rfl) rfl rfl (by (try simp only [List.map_toArray, List.map_cons, List.map_nil]); first | done | rfl | (simp only [List.length_drop, List.length_take]; rfl)) ?_
           with_reducible refine (impl_InRange.calls a0_2 (-1) 3 t268 _ A26.out).mono ?_
           rintro e w' ⟨rfl, ⟨nd, rfl⟩⟩
           refine ⟨_, rfl, ?_⟩
           refine hK.out _ _ ⟨(QC BK253.out 0).trans rfl, (QC BK253.out 1).trans rfl, (QC BK253.out 2).trans rfl, (QC BK253.out 3).trans rfl, (QC BK253.out 4).trans rfl, (QC BK253.out 5).trans rfl, (QC BK253.out 6).trans rfl⟩ (fun hHeld => ?_)
           clear hK K
           refine norm_ (a' := ?_) ?_ ?_
           rotate_left
           ·show Act.put _ (some 64) _ = _
            simp only [Act.put, QT, QU, QV, QG, QH]
            rfl
           refine QJ (i := 21) (N := some 65) (v := ?_) (a' := ?_) #[Y1,Y1,Y1,Y1,Y1,Y1,Y1,Y1,Y1,Y1,Y1,Y1,Y1,Y1,Y1,Y1,Y1,Y1,Y1,Y1,Y1,Y1,Y0,Y0,Y0,Y0,Y0,Y0,Y0,Y0,Y0,Y0,Y0,Y0,Y0,Y0] rfl rfl (QF HT_.out (by kernel_rfl)) (fun _ _ _ h => h) (Or.inl ⟨by rfl, ?_⟩) ?_ ?_
           rotate_left
           ·intro w'
            go_simp
            with_reducible rfl
           rotate_left
           ·simp only [Act.put, QT, QU, QV, QG, QH]
            rfl
           refine QJ (i := 22) (N := some 66) (v := ?_) (a' := ?_) #[Y1,Y1,Y1,Y1,Y1,Y1,Y1,Y1,Y1,Y1,Y1,Y1,Y1,Y1,Y1,Y1,Y1,Y1,Y1,Y1,Y1,Y1,Y1,Y0,Y0,Y0,Y0,Y0,Y0,Y0,Y0,Y0,Y0,Y0,Y0,Y0] rfl rfl (QF HT_.out (by kernel_rfl)) (fun _ _ _ h => h) (Or.inl ⟨by rfl, ?_⟩) ?_ ?_
           rotate_left
           ·intro w'
            go_simp
            with_reducible rfl
           rotate_left
           ·simp only [Act.put, QT, QU, QV, QG, QH]
            rfl
           refine QJ (i := 23) (N := some 67) (v := ?_) (a' := ?_) #[Y1,Y1,Y1,Y1,Y1,Y1,Y1,Y1,Y1,Y1,Y1,Y1,Y1,Y1,Y1,Y1,Y1,Y1,Y1,Y1,Y1,Y1,Y1,Y1,Y0,Y0,Y0,Y0,Y0,Y0,Y0,Y0,Y0,Y0,Y0,Y0] rfl rfl (QF HT_.out (by kernel_rfl)) (fun _ _ _ h => h) (Or.inl ⟨by rfl, ?_⟩) ?_ ?_
           rotate_left
           ·intro w'
            go_simp
            with_reducible rfl
           rotate_left
           ·simp only [Act.put, QT, QU, QV, QG, QH]
            rfl
           by_cases c27 : t268 = true
           ·subst c27
            rw [if_pos rfl] at H
            replace H := Option.bind_eq_some_iff.mp H
            obtain ⟨t269, A280, H⟩ := H
            have A28 := QW A280
            clear A280
            refine QJ (i := 24) (N := some 68) (v := ?_) (a' := ?_) #[Y1,Y1,Y1,Y1,Y1,Y1,Y1,Y1,Y1,Y1,Y1,Y1,Y1,Y1,Y1,Y1,Y1,Y1,Y1,Y1,Y1,Y1,Y1,Y1,Y1,Y0,Y0,Y0,Y0,Y0,Y0,Y0,Y0,Y0,Y0,Y0] rfl rfl (QF HT_.out (by kernel_rfl)) (fun _ _ _ h => h) (Or.inl ⟨by rfl, ?_⟩) ?_ ?_
            rotate_left
            ·intro w'
             go_simp
             with_reducible rfl
            rotate_left
            ·simp only [Act.put, QT, QU, QV, QG, QH]
             rfl
            refine take_ (i := 25) (N := some 69) (v := ?_) (a' := ?_) #[Y1,Y1,Y1,Y1,Y1,Y1,Y1,Y1,Y1,Y1,Y1,Y1,Y1,Y1,Y1,Y1,Y1,Y1,Y1,Y1,Y1,Y1,Y1,Y1,Y1,Y1,Y0,Y0,Y0,Y0,Y0,Y0,Y0,Y0,Y0,Y0] rfl rfl (take_ofW HT_.out HW_.out (by kernel_rfl)) (fun _ _ _ h => h) (Or.inl ⟨by rfl, ?_⟩) hHeld ?_ ?_
            rotate_left
            ·rintro w' ⟨s0, s1, s2, s3, s4, s5, s6⟩
             go_simp
             with_reducible rfl
            rotate_left
            ·simp only [Act.put, QT, QU, QV, QG, QH]
             rfl
            refine one_ (i := 26) (N := some 70) #[Y1,Y1,Y1,Y1,Y1,Y1,Y1,Y1,Y1,Y1,Y1,Y1,Y1,Y1,Y1,Y1,Y1,Y1,Y1,Y1,Y1,Y1,Y1,Y1,Y1,Y1,Y1,Y0,Y0,Y0,Y0,Y0,Y0,Y0,Y0,Y0] rfl rfl (one_of HT_.out (by kernel_rfl)) (by decide) (fun K hK => ?_)
            refine goes_ Try.func85 (by kernel_rfl) rfl #[.int .i64 a0_6, .int .i64 0, .int .i64 26] (by rfl) rfl rfl (by (try simp only [List.map_toArray, List.map_cons, List.map_nil]); first | done | rfl | (simp only [List.length_drop, List.length_take]; rfl)) ?_
            with_reducible refine (impl_InRange.calls a0_6 0 26 t269 _ A28.out).mono ?_
            rintro e w' ⟨rfl, ⟨nd, rfl⟩⟩
            refine ⟨_, rfl, ?_⟩
            refine hK.out _ _ ⟨(QC BK253.out 0).trans rfl, (QC BK253.out 1).trans rfl, (QC BK253.out 2).trans rfl, (QC BK253.out 3).trans rfl, (QC BK253.out 4).trans rfl, (QC BK253.out 5).trans rfl, (QC BK253.out 6).trans rfl⟩ (fun hHeld => ?_)
            clear hK K
            refine norm_ (a' := ?_) ?_ ?_
            rotate_left
            ·show Act.put _ (some 70) _ = _
             simp only [Act.put, QT, QU, QV, QG, QH]
             rfl
            refine QJ (i := 27) (N := some 71) (v := ?_) (a' := ?_) #[Y1,Y1,Y1,Y1,Y1,Y1,Y1,Y1,Y1,Y1,Y1,Y1,Y1,Y1,Y1,Y1,Y1,Y1,Y1,Y1,Y1,Y1,Y1,Y1,Y1,Y1,Y1,Y1,Y0,Y0,Y0,Y0,Y0,Y0,Y0,Y0] rfl rfl (QF HT_.out (by kernel_rfl)) (fun _ _ _ h => h) (Or.inl ⟨by rfl, ?_⟩) ?_ ?_
            rotate_left
            ·intro w'
             go_simp
             with_reducible rfl
            rotate_left
            ·simp only [Act.put, QT, QU, QV, QG, QH]
             rfl
            refine QJ (i := 28) (N := some 72) (v := ?_) (a' := ?_) #[Y1,Y1,Y1,Y1,Y1,Y1,Y1,Y1,Y1,Y1,Y1,Y1,Y1,Y1,Y1,Y1,Y1,Y1,Y1,Y1,Y1,Y1,Y1,Y1,Y1,Y1,Y1,Y1,Y1,Y0,Y0,Y0,Y0,Y0,Y0,Y0] rfl rfl (QF HT_.out (by kernel_rfl)) (fun _ _ _ h => h) (Or.inl ⟨by rfl, ?_⟩) ?_ ?_
            rotate_left
            ·intro w'
             go_simp
             with_reducible rfl
            rotate_left
            ·simp only [Act.put, QT, QU, QV, QG, QH]
             rfl
            refine QJ (i := 29) (N := some 73) (v := ?_) (a' := ?_) #[Y1,Y1,Y1,Y1,Y1,Y1,Y1,Y1,Y1,Y1,Y1,Y1,Y1,Y1,Y1,Y1,Y1,Y1,Y1,Y1,Y1,Y1,Y1,Y1,Y1,Y1,Y1,Y1,Y1,Y1,Y0,Y0,Y0,Y0,Y0,Y0] rfl rfl (QF HT_.out (by kernel_rfl)) (fun _ _ _ h => h) (Or.inl ⟨by rfl, ?_⟩) ?_ ?_
            rotate_left
            ·intro w'
             go_simp
             with_reducible rfl
            rotate_left
            ·simp only [Act.put, QT, QU, QV, QG, QH]
             rfl
            by_cases c29 : t269 = true
            ·subst c29
             rw [if_pos rfl] at H
             have H' := QW H
             clear H
             refine QJ (i := 30) (N := some 74) (v := ?_) (a' := ?_) #[Y1,Y1,Y1,Y1,Y1,Y1,Y1,Y1,Y1,Y1,Y1,Y1,Y1,Y1,Y1,Y1,Y1,Y1,Y1,Y1,Y1,Y1,Y1,Y1,Y1,Y1,Y1,Y1,Y1,Y1,Y1,Y0,Y0,Y0,Y0,Y0] rfl rfl (QF HT_.out (by kernel_rfl)) (fun _ _ _ h => h) (Or.inl ⟨by rfl, ?_⟩) ?_ ?_
             rotate_left
             ·intro w'
              go_simp
              with_reducible rfl
             rotate_left
             ·simp only [Act.put, QT, QU, QV, QG, QH]
              rfl
             refine QJ (i := 33) (N := some 77) (v := ?_) (a' := ?_) #[Y1,Y1,Y1,Y1,Y1,Y1,Y1,Y1,Y1,Y1,Y1,Y1,Y1,Y1,Y1,Y1,Y1,Y1,Y1,Y1,Y1,Y1,Y1,Y1,Y1,Y1,Y1,Y1,Y1,Y1,Y1,Y0,Y0,Y1,Y0,Y0] rfl rfl (QF HT_.out (by kernel_rfl)) (fun _ _ _ h => h) (Or.inl ⟨by rfl, ?_⟩) ?_ ?_
             rotate_left
             ·intro w'
              go_simp
              with_reducible rfl
             rotate_left
             ·simp only [Act.put, QT, QU, QV, QG, QH]
              rfl
             refine take_ (i := 31) (N := some 75) (v := ?_) (a' := ?_) #[Y1,Y1,Y1,Y1,Y1,Y1,Y1,Y1,Y1,Y1,Y1,Y1,Y1,Y1,Y1,Y1,Y1,Y1,Y1,Y1,Y1,Y1,Y1,Y1,Y1,Y1,Y1,Y1,Y1,Y1,Y1,Y1,Y0,Y1,Y0,Y0] rfl rfl (take_ofW HT_.out HW_.out (by kernel_rfl)) (fun _ _ _ h => h) (Or.inl ⟨by rfl, ?_⟩) hHeld ?_ ?_
             rotate_left
             ·rintro w' ⟨s0, s1, s2, s3, s4, s5, s6⟩
              go_simp
              with_reducible rfl
             rotate_left
             ·simp only [Act.put, QT, QU, QV, QG, QH]
              rfl
             refine QJ (i := 32) (N := some 76) (v := ?_) (a' := ?_) #[Y1,Y1,Y1,Y1,Y1,Y1,Y1,Y1,Y1,Y1,Y1,Y1,Y1,Y1,Y1,Y1,Y1,Y1,Y1,Y1,Y1,Y1,Y1,Y1,Y1,Y1,Y1,Y1,Y1,Y1,Y1,Y1,Y1,Y1,Y0,Y0] rfl rfl (QF HT_.out (by kernel_rfl)) (fun _ _ _ h => h) (Or.inl ⟨by rfl, ?_⟩) ?_ ?_
             rotate_left
             ·intro w'
              go_simp
              with_reducible rfl
             rotate_left
             ·simp only [Act.put, QT, QU, QV, QG, QH]
              rfl
             refine QJ (i := 34) (N := some 78) (v := ?_) (a' := ?_) #[Y1,Y1,Y1,Y1,Y1,Y1,Y1,Y1,Y1,Y1,Y1,Y1,Y1,Y1,Y1,Y1,Y1,Y1,Y1,Y1,Y1,Y1,Y1,Y1,Y1,Y1,Y1,Y1,Y1,Y1,Y1,Y1,Y1,Y1,Y1,Y0] rfl rfl (QF HT_.out (by kernel_rfl)) (fun _ _ _ h => h) (Or.inl ⟨by rfl, ?_⟩) ?_ ?_
             rotate_left
             ·intro w'
              go_simp
              with_reducible rfl
             rotate_left
             ·simp only [Act.put, QT, QU, QV, QG, QH]
              rfl
             refine QJ (i := 35) (N := some 79) (v := ?_) (a' := ?_) #[Y1,Y1,Y1,Y1,Y1,Y1,Y1,Y1,Y1,Y1,Y1,Y1,Y1,Y1,Y1,Y1,Y1,Y1,Y1,Y1,Y1,Y1,Y1,Y1,Y1,Y1,Y1,Y1,Y1,Y1,Y1,Y1,Y1,Y1,Y1,Y1] rfl rfl (QF HT_.out (by kernel_rfl)) (fun _ _ _ h => h) (Or.inl ⟨by rfl, ?_⟩) ?_ ?_
             rotate_left
             ·intro w'
              go_simp
              with_reducible rfl
             rotate_left
             ·simp only [Act.put, QT, QU, QV, QG, QH]
              rfl
             refine done_ (done_of HT_.out (by kernel_rfl)) ?_
             try go_wp2
             go_meet
             case rel => exact ⟨_, (decide ((l0_3.length : Int) ≥ (l0_0.length : Int))), (by first | rfl | (simp; done) | (simp [*]; done)), H', ⟨by have := HJ1.out; have := HK2.out; first | omega | exact Nat.le_refl _⟩, ⟨by (with_reducible repeat (first | apply QN | apply QO | apply QP)); exact Kd.V_mono HO_254003.out (fun _ hk => ⟨hk.1.1, hk.1.2.2⟩)⟩, ⟨by (with_reducible repeat (first | refine QL ?_ _ | refine QR ?_ | refine QM ?_ _)); exact BK253.out⟩, ⟨by repeat (first | (with_reducible first | exact HB.out | apply QE | apply QB | apply QD | refine QK ?_ GE253.out) | exact HB.out)⟩⟩
            ·replace c29 := Bool.eq_false_iff.mpr c29
             subst c29
             rw [if_neg (show ¬ (false = true) by decide)] at H
             have H' := QW H
             clear H
             refine QJ (i := 30) (N := some 74) (v := undef) (a' := ?_) #[Y1,Y1,Y1,Y1,Y1,Y1,Y1,Y1,Y1,Y1,Y1,Y1,Y1,Y1,Y1,Y1,Y1,Y1,Y1,Y1,Y1,Y1,Y1,Y1,Y1,Y1,Y1,Y1,Y1,Y1,Y1,Y0,Y0,Y0,Y0,Y0] rfl rfl (QF HT_.out (by kernel_rfl)) (fun _ _ _ h => h) (Or.inr ⟨by rfl, rfl⟩) ?_ ?_
             rotate_left
             ·simp only [Act.put, QT, QU, QV, QG, QH]
              rfl
             refine QJ (i := 31) (N := some 75) (v := undef) (a' := ?_) #[Y1,Y1,Y1,Y1,Y1,Y1,Y1,Y1,Y1,Y1,Y1,Y1,Y1,Y1,Y1,Y1,Y1,Y1,Y1,Y1,Y1,Y1,Y1,Y1,Y1,Y1,Y1,Y1,Y1,Y1,Y1,Y1,Y0,Y0,Y0,Y0] rfl rfl (QF HT_.out (by kernel_rfl)) (fun _ _ _ h => h) (Or.inr ⟨by rfl, rfl⟩) ?_ ?_
             rotate_left
             ·simp only [Act.put, QT, QU, QV, QG, QH]
              rfl
             refine QJ (i := 32) (N := some 76) (v := undef) (a' := ?_) #[Y1,Y1,Y1,Y1,Y1,Y1,Y1,Y1,Y1,Y1,Y1,Y1,Y1,Y1,Y1,Y1,Y1,Y1,Y1,Y1,Y1,Y1,Y1,Y1,Y1,Y1,Y1,Y1,Y1,Y1,Y1,Y1,Y1,Y0,Y0,Y0] rfl rfl (QF HT_.out (by kernel_rfl)) (fun _ _ _ h => h) (Or.inr ⟨by rfl, rfl⟩) ?_ ?_
             rotate_left
             ·simp only [Act.put, QT, QU, QV, QG, QH]
              rfl
             refine QJ (i := 33) (N := some 77) (v := undef) (a' := ?_) #[Y1,Y1,Y1,Y1,Y1,Y1,Y1,Y1,Y1,Y1,Y1,Y1,Y1,Y1,Y1,Y1,Y1,Y1,Y1,Y1,Y1,Y1,Y1,Y1,Y1,Y1,Y1,Y1,Y1,Y1,Y1,Y1,Y1,Y1,Y0,Y0] rfl rfl (QF HT_.out (by kernel_rfl)) (fun _ _ _ h => h) (Or.inr ⟨by rfl, rfl⟩) ?_ ?_
             rotate_left
             ·simp only [Act.put, QT, QU, QV, QG, QH]
              rfl
             refine QJ (i := 34) (N := some 78) (v := undef) (a' := ?_) #[Y1,Y1,Y1,Y1,Y1,Y1,Y1,Y1,Y1,Y1,Y1,Y1,Y1,Y1,Y1,Y1,Y1,Y1,Y1,Y1,Y1,Y1,Y1,Y1,Y1,Y1,Y1,Y1,Y1,Y1,Y1,Y1,Y1,Y1,Y1,Y0] rfl rfl (QF HT_.out (by kernel_rfl)) (fun _ _ _ h => h) (Or.inr ⟨by rfl, rfl⟩) ?_ ?_
             rotate_left
             ·simp only [Act.put, QT, QU, QV, QG, QH]
              rfl
             refine QJ (i := 35) (N := some 79) (v := ?_) (a' := ?_) #[Y1,Y1,Y1,Y1,Y1,Y1,Y1,Y1,Y1,Y1,Y1,Y1,Y1,Y1,Y1,Y1,Y1,Y1,Y1,Y1,Y1,Y1,Y1,Y1,Y1,Y1,Y1,Y1,Y1,Y1,Y1,Y1,Y1,Y1,Y1,Y1] rfl rfl (QF HT_.out (by kernel_rfl)) (fun _ _ _ h => h) (Or.inl ⟨by rfl, ?_⟩) ?_ ?_
             rotate_left
             ·intro w'
              go_simp
              with_reducible rfl
             rotate_left
             ·simp only [Act.put, QT, QU, QV, QG, QH]
              rfl
             refine done_ (done_of HT_.out (by kernel_rfl)) ?_
             try go_wp2
             go_meet
             case rel => exact ⟨_, (true), (by first | rfl | (simp; done) | (simp [*]; done)), H', ⟨by have := HJ1.out; have := HK2.out; first | omega | exact Nat.le_refl _⟩, ⟨by (with_reducible repeat (first | apply QN | apply QO | apply QP)); exact Kd.V_mono HO_254003.out (fun _ hk => ⟨hk.1.1, hk.1.2.2⟩)⟩, ⟨by (with_reducible repeat (first | refine QL ?_ _ | refine QR ?_ | refine QM ?_ _)); exact BK253.out⟩, ⟨by repeat (first | (with_reducible first | exact HB.out | apply QE | apply QB | apply QD | refine QK ?_ GE253.out) | exact HB.out)⟩⟩
           ·replace c27 := Bool.eq_false_iff.mpr c27
            subst c27
            rw [if_neg (show ¬ (false = true) by decide)] at H
            have H' := QW H
            clear H
            refine QJ (i := 24) (N := some 68) (v := undef) (a' := ?_) #[Y1,Y1,Y1,Y1,Y1,Y1,Y1,Y1,Y1,Y1,Y1,Y1,Y1,Y1,Y1,Y1,Y1,Y1,Y1,Y1,Y1,Y1,Y1,Y1,Y1,Y0,Y0,Y0,Y0,Y0,Y0,Y0,Y0,Y0,Y0,Y0] rfl rfl (QF HT_.out (by kernel_rfl)) (fun _ _ _ h => h) (Or.inr ⟨by rfl, rfl⟩) ?_ ?_
            rotate_left
            ·simp only [Act.put, QT, QU, QV, QG, QH]
             rfl
            refine QJ (i := 25) (N := some 69) (v := undef) (a' := ?_) #[Y1,Y1,Y1,Y1,Y1,Y1,Y1,Y1,Y1,Y1,Y1,Y1,Y1,Y1,Y1,Y1,Y1,Y1,Y1,Y1,Y1,Y1,Y1,Y1,Y1,Y1,Y0,Y0,Y0,Y0,Y0,Y0,Y0,Y0,Y0,Y0] rfl rfl (QF HT_.out (by kernel_rfl)) (fun _ _ _ h => h) (Or.inr ⟨by rfl, rfl⟩) ?_ ?_
            rotate_left
            ·simp only [Act.put, QT, QU, QV, QG, QH]
             rfl
            refine QJ (i := 26) (N := some 70) (v := undef) (a' := ?_) #[Y1,Y1,Y1,Y1,Y1,Y1,Y1,Y1,Y1,Y1,Y1,Y1,Y1,Y1,Y1,Y1,Y1,Y1,Y1,Y1,Y1,Y1,Y1,Y1,Y1,Y1,Y1,Y0,Y0,Y0,Y0,Y0,Y0,Y0,Y0,Y0] rfl rfl (QF HT_.out (by kernel_rfl)) (fun _ _ _ h => h) (Or.inr ⟨by rfl, rfl⟩) ?_ ?_
            rotate_left
            ·simp only [Act.put, QT, QU, QV, QG, QH]
             rfl
            refine QJ (i := 27) (N := some 71) (v := undef) (a' := ?_) #[Y1,Y1,Y1,Y1,Y1,Y1,Y1,Y1,Y1,Y1,Y1,Y1,Y1,Y1,Y1,Y1,Y1,Y1,Y1,Y1,Y1,Y1,Y1,Y1,Y1,Y1,Y1,Y1,Y0,Y0,Y0,Y0,Y0,Y0,Y0,Y0] rfl rfl (QF HT_.out (by kernel_rfl)) (fun _ _ _ h => h) (Or.inr ⟨by rfl, rfl⟩) ?_ ?_
            rotate_left
            ·simp only [Act.put, QT, QU, QV, QG, QH]
             rfl
            refine QJ (i := 28) (N := some 72) (v := ?_) (a' := ?_) #[Y1,Y1,Y1,Y1,Y1,Y1,Y1,Y1,Y1,Y1,Y1,Y1,Y1,Y1,Y1,Y1,Y1,Y1,Y1,Y1,Y1,Y1,Y1,Y1,Y1,Y1,Y1,Y1,Y1,Y0,Y0,Y0,Y0,Y0,Y0,Y0] rfl rfl (QF HT_.out (by kernel_rfl)) (fun _ _ _ h => h) (Or.inl ⟨by rfl, ?_⟩) ?_ ?_
            rotate_left
            ·intro w'
             go_simp
             with_reducible rfl
            rotate_left
            ·simp only [Act.put, QT, QU, QV, QG, QH]
             rfl
            refine QJ (i := 29) (N := some 73) (v := ?_) (a' := ?_) #[Y1,Y1,Y1,Y1,Y1,Y1,Y1,Y1,Y1,Y1,Y1,Y1,Y1,Y1,Y1,Y1,Y1,Y1,Y1,Y1,Y1,Y1,Y1,Y1,Y1,Y1,Y1,Y1,Y1,Y1,Y0,Y0,Y0,Y0,Y0,Y0] rfl rfl (QF HT_.out (by kernel_rfl)) (fun _ _ _ h => h) (Or.inl ⟨by rfl, ?_⟩) ?_ ?_
            rotate_left
            ·intro w'
             go_simp
             with_reducible rfl
            rotate_left
            ·simp only [Act.put, QT, QU, QV, QG, QH]
             rfl
            refine QJ (i := 30) (N := some 74) (v := undef) (a' := ?_) #[Y1,Y1,Y1,Y1,Y1,Y1,Y1,Y1,Y1,Y1,Y1,Y1,Y1,Y1,Y1,Y1,Y1,Y1,Y1,Y1,Y1,Y1,Y1,Y1,Y1,Y1,Y1,Y1,Y1,Y1,Y1,Y0,Y0,Y0,Y0,Y0] rfl rfl (QF HT_.out (by kernel_rfl)) (fun _ _ _ h => h) (Or.inr ⟨by rfl, rfl⟩) ?_ ?_
            rotate_left
            ·simp only [Act.put, QT, QU, QV, QG, QH]
             rfl
            refine QJ (i := 31) (N := some 75) (v := undef) (a' := ?_) #[Y1,Y1,Y1,Y1,Y1,Y1,Y1,Y1,Y1,Y1,Y1,Y1,Y1,Y1,Y1,Y1,Y1,Y1,Y1,Y1,Y1,Y1,Y1,Y1,Y1,Y1,Y1,Y1,Y1,Y1,Y1,Y1,Y0,Y0,Y0,Y0] rfl rfl (QF HT_.out (by kernel_rfl)) (fun _ _ _ h => h) (Or.inr ⟨by rfl, rfl⟩) ?_ ?_
            rotate_left
            ·simp only [Act.put, QT, QU, QV, QG, QH]
             rfl
            refine QJ (i := 32) (N := some 76) (v := undef) (a' := ?_) #[Y1,Y1,Y1,Y1,Y1,Y1,Y1,Y1,Y1,Y1,Y1,Y1,Y1,Y1,Y1,Y1,Y1,Y1,Y1,Y1,Y1,Y1,Y1,Y1,Y1,Y1,Y1,Y1,Y1,Y1,Y1,Y1,Y1,Y0,Y0,Y0] rfl rfl (QF HT_.out (by kernel_rfl)) (fun _ _ _ h => h) (Or.inr ⟨by rfl, rfl⟩) ?_ ?_
            rotate_left
            ·simp only [Act.put, QT, QU, QV, QG, QH]
             rfl
            refine QJ (i := 33) (N := some 77) (v := undef) (a' := ?_) #[Y1,Y1,Y1,Y1,Y1,Y1,Y1,Y1,Y1,Y1,Y1,Y1,Y1,Y1,Y1,Y1,Y1,Y1,Y1,Y1,Y1,Y1,Y1,Y1,Y1,Y1,Y1,Y1,Y1,Y1,Y1,Y1,Y1,Y1,Y0,Y0] rfl rfl (QF HT_.out (by kernel_rfl)) (fun _ _ _ h => h) (Or.inr ⟨by rfl, rfl⟩) ?_ ?_
            rotate_left
            ·simp only [Act.put, QT, QU, QV, QG, QH]
             rfl
            refine QJ (i := 34) (N := some 78) (v := undef) (a' := ?_) #[Y1,Y1,Y1,Y1,Y1,Y1,Y1,Y1,Y1,Y1,Y1,Y1,Y1,Y1,Y1,Y1,Y1,Y1,Y1,Y1,Y1,Y1,Y1,Y1,Y1,Y1,Y1,Y1,Y1,Y1,Y1,Y1,Y1,Y1,Y1,Y0] rfl rfl (QF HT_.out (by kernel_rfl)) (fun _ _ _ h => h) (Or.inr ⟨by rfl, rfl⟩) ?_ ?_
            rotate_left
            ·simp only [Act.put, QT, QU, QV, QG, QH]
             rfl
            refine QJ (i := 35) (N := some 79) (v := ?_) (a' := ?_) #[Y1,Y1,Y1,Y1,Y1,Y1,Y1,Y1,Y1,Y1,Y1,Y1,Y1,Y1,Y1,Y1,Y1,Y1,Y1,Y1,Y1,Y1,Y1,Y1,Y1,Y1,Y1,Y1,Y1,Y1,Y1,Y1,Y1,Y1,Y1,Y1] rfl rfl (QF HT_.out (by kernel_rfl)) (fun _ _ _ h => h) (Or.inl ⟨by rfl, ?_⟩) ?_ ?_
            rotate_left
            ·intro w'
             go_simp
             with_reducible rfl
            rotate_left
            ·simp only [Act.put, QT, QU, QV, QG, QH]
             rfl
            refine done_ (done_of HT_.out (by kernel_rfl)) ?_
            try go_wp2
            go_meet
            case rel => exact ⟨_, (true), (by first | rfl | (simp; done) | (simp [*]; done)), H', ⟨by have := HJ1.out; have := HK2.out; first | omega | exact Nat.le_refl _⟩, ⟨by (with_reducible repeat (first | apply QN | apply QO | apply QP)); exact Kd.V_mono HO_254003.out (fun _ hk => ⟨hk.1.1, hk.1.2.2⟩)⟩, ⟨by (with_reducible repeat (first | refine QL ?_ _ | refine QR ?_ | refine QM ?_ _)); exact BK253.out⟩, ⟨by repeat (first | (with_reducible first | exact HB.out | apply QE | apply QB | apply QD | refine QK ?_ GE253.out) | exact HB.out)⟩⟩
          ·replace c25 := Bool.eq_false_iff.mpr c25
           subst c25
           rw [if_neg (show ¬ (false = true) by decide)] at H
           have H' := QW H
           clear H
           refine QJ (i := 18) (N := some 62) (v := undef) (a' := ?_) #[Y1,Y1,Y1,Y1,Y1,Y1,Y1,Y1,Y1,Y1,Y1,Y1,Y1,Y1,Y1,Y1,Y1,Y1,Y1,Y0,Y0,Y0,Y0,Y0,Y0,Y0,Y0,Y0,Y0,Y0,Y0,Y0,Y0,Y0,Y0,Y0] rfl rfl (QF HT_.out (by kernel_rfl)) (fun _ _ _ h => h) (Or.inr ⟨by rfl, rfl⟩) ?_ ?_
           rotate_left
           ·simp only [Act.put, QT, QU, QV, QG, QH]
            rfl
           refine QJ (i := 19) (N := some 63) (v := undef) (a' := ?_) #[Y1,Y1,Y1,Y1,Y1,Y1,Y1,Y1,Y1,Y1,Y1,Y1,Y1,Y1,Y1,Y1,Y1,Y1,Y1,Y1,Y0,Y0,Y0,Y0,Y0,Y0,Y0,Y0,Y0,Y0,Y0,Y0,Y0,Y0,Y0,Y0] rfl rfl (QF HT_.out (by kernel_rfl)) (fun _ _ _ h => h) (Or.inr ⟨by rfl, rfl⟩) ?_ ?_
           rotate_left
           ·simp only [Act.put, QT, QU, QV, QG, QH]
            rfl
           refine QJ (i := 20) (N := some 64) (v := undef) (a' := ?_) #[Y1,Y1,Y1,Y1,Y1,Y1,Y1,Y1,Y1,Y1,Y1,Y1,Y1,Y1,Y1,Y1,Y1,Y1,Y1,Y1,Y1,Y0,Y0,Y0,Y0,Y0,Y0,Y0,Y0,Y0,Y0,Y0,Y0,Y0,Y0,Y0] rfl rfl (QF HT_.out (by kernel_rfl)) (fun _ _ _ h => h) (Or.inr ⟨by rfl, rfl⟩) ?_ ?_
           rotate_left
           ·simp only [Act.put, QT, QU, QV, QG, QH]
            rfl
           refine QJ (i := 21) (N := some 65) (v := undef) (a' := ?_) #[Y1,Y1,Y1,Y1,Y1,Y1,Y1,Y1,Y1,Y1,Y1,Y1,Y1,Y1,Y1,Y1,Y1,Y1,Y1,Y1,Y1,Y1,Y0,Y0,Y0,Y0,Y0,Y0,Y0,Y0,Y0,Y0,Y0,Y0,Y0,Y0] rfl rfl (QF HT_.out (by kernel_rfl)) (fun _ _ _ h => h) (Or.inr ⟨by rfl, rfl⟩) ?_ ?_
           rotate_left
           ·simp only [Act.put, QT, QU, QV, QG, QH]
            rfl
           refine QJ (i := 22) (N := some 66) (v := ?_) (a' := ?_) #[Y1,Y1,Y1,Y1,Y1,Y1,Y1,Y1,Y1,Y1,Y1,Y1,Y1,Y1,Y1,Y1,Y1,Y1,Y1,Y1,Y1,Y1,Y1,Y0,Y0,Y0,Y0,Y0,Y0,Y0,Y0,Y0,Y0,Y0,Y0,Y0] rfl rfl (QF HT_.out (by kernel_rfl)) (fun _ _ _ h => h) (Or.inl ⟨by rfl, ?_⟩) ?_ ?_
           rotate_left
           ·intro w'
            go_simp
            with_reducible rfl
           rotate_left
           ·simp only [Act.put, QT, QU, QV, QG, QH]
            rfl
           refine QJ (i := 23) (N := some 67) (v := ?_) (a' := ?_) #[Y1,Y1,Y1,Y1,Y1,Y1,Y1,Y1,Y1,Y1,Y1,Y1,Y1,Y1,Y1,Y1,Y1,Y1,Y1,Y1,Y1,Y1,Y1,Y1,Y0,Y0,Y0,Y0,Y0,Y0,Y0,Y0,Y0,Y0,Y0,Y0] rfl rfl (QF HT_.out (by kernel_rfl)) (fun _ _ _ h => h) (Or.inl ⟨by rfl, ?_⟩) ?_ ?_
           rotate_left
           ·intro w'
            go_simp
            with_reducible rfl
           rotate_left
           ·simp only [Act.put, QT, QU, QV, QG, QH]
            rfl
           refine QJ (i := 24) (N := some 68) (v := undef) (a' := ?_) #[Y1,Y1,Y1,Y1,Y1,Y1,Y1,Y1,Y1,Y1,Y1,Y1,Y1,Y1,Y1,Y1,Y1,Y1,Y1,Y1,Y1,Y1,Y1,Y1,Y1,Y0,Y0,Y0,Y0,Y0,Y0,Y0,Y0,Y0,Y0,Y0] rfl rfl (QF HT_.out (by kernel_rfl)) (fun _ _ _ h => h) (Or.inr ⟨by rfl, rfl⟩) ?_ ?_
           rotate_left
           ·simp only [Act.put, QT, QU, QV, QG, QH]
            rfl
           refine QJ (i := 25) (N := some 69) (v := undef) (a' := ?_) #[Y1,Y1,Y1,Y1,Y1,Y1,Y1,Y1,Y1,Y1,Y1,Y1,Y1,Y1,Y1,Y1,Y1,Y1,Y1,Y1,Y1,Y1,Y1,Y1,Y1,Y1,Y0,Y0,Y0,Y0,Y0,Y0,Y0,Y0,Y0,Y0] rfl rfl (QF HT_.out (by kernel_rfl)) (fun _ _ _ h => h) (Or.inr ⟨by rfl, rfl⟩) ?_ ?_
           rotate_left
           ·simp only [Act.put, QT, QU, QV, QG, QH]
            rfl
           refine QJ (i := 26) (N := some 70) (v := undef) (a' := ?_) #[Y1,Y1,Y1,Y1,Y1,Y1,Y1,Y1,Y1,Y1,Y1,Y1,Y1,Y1,Y1,Y1,Y1,Y1,Y1,Y1,Y1,Y1,Y1,Y1,Y1,Y1,Y1,Y0,Y0,Y0,Y0,Y0,Y0,Y0,Y0,Y0] rfl rfl (QF HT_.out (by kernel_rfl)) (fun _ _ _ h => h) (Or.inr ⟨by rfl, rfl⟩) ?_ ?_
           rotate_left
           ·simp only [Act.put, QT, QU, QV, QG, QH]
            rfl
           refine QJ (i := 27) (N := some 71) (v := undef) (a' := ?_) #[Y1,Y1,Y1,Y1,Y1,Y1,Y1,Y1,Y1,Y1,Y1,Y1,Y1,Y1,Y1,Y1,Y1,Y1,Y1,Y1,Y1,Y1,Y1,Y1,Y1,Y1,Y1,Y1,Y0,Y0,Y0,Y0,Y0,Y0,Y0,Y0] rfl rfl (QF HT_.out (by kernel_rfl)) (fun _ _ _ h => h) (Or.inr ⟨by rfl, rfl⟩) ?_ ?_
           rotate_left
           ·simp only [Act.put, QT, QU, QV, QG, QH]
            rfl
           refine QJ (i := 28) (N := some 72) (v := ?_) (a' := ?_) #[Y1,Y1,Y1,Y1,Y1,Y1,Y1,Y1,Y1,Y1,Y1,Y1,Y1,Y1,Y1,Y1,Y1,Y1,Y1,Y1,Y1,Y1,Y1,Y1,Y1,Y1,Y1,Y1,Y1,Y0,Y0,Y0,Y0,Y0,Y0,Y0] rfl rfl (QF HT_.out (by kernel_rfl)) (fun _ _ _ h => h) (Or.inl ⟨by rfl, ?_⟩) ?_ ?_
           rotate_left
           ·intro w'
            go_simp
            with_reducible rfl
           rotate_left
           ·simp only [Act.put, QT, QU, QV, QG, QH]
            rfl
           refine QJ (i := 29) (N := some 73) (v := ?_) (a' := ?_) #[Y1,Y1,Y1,Y1,Y1,Y1,Y1,Y1,Y1,Y1,Y1,Y1,Y1,Y1,Y1,Y1,Y1,Y1,Y1,Y1,Y1,Y1,Y1,Y1,Y1,Y1,Y1,Y1,Y1,Y1,Y0,Y0,Y0,Y0,Y0,Y0] rfl rfl (QF HT_.out (by kernel_rfl)) (fun _ _ _ h => h) (Or.inl ⟨by rfl, ?_⟩) ?_ ?_
           rotate_left
           ·intro w'
            go_simp
            with_reducible rfl
           rotate_left
           ·simp only [Act.put, QT, QU, QV, QG, QH]
            rfl
           refine QJ (i := 30) (N := some 74) (v := undef) (a' := ?_) #[Y1,Y1,Y1,Y1,Y1,Y1,Y1,Y1,Y1,Y1,Y1,Y1,Y1,Y1,Y1,Y1,Y1,Y1,Y1,Y1,Y1,Y1,Y1,Y1,Y1,Y1,Y1,Y1,Y1,Y1,Y1,Y0,Y0,Y0,Y0,Y0] rfl rfl (QF HT_.out (by kernel_rfl)) (fun _ _ _ h => h) (Or.inr ⟨by rfl, rfl⟩) ?_ ?_
           rotate_left
           ·simp only [Act.put, QT, QU, QV, QG, QH]
            rfl
           refine QJ (i := 31) (N := some 75) (v := undef) (a' := ?_) #[Y1,Y1,Y1,Y1,Y1,Y1,Y1,Y1,Y1,Y1,Y1,Y1,Y1,Y1,Y1,Y1,Y1,Y1,Y1,Y1,Y1,Y1,Y1,Y1,Y1,Y1,Y1,Y1,Y1,Y1,Y1,Y1,Y0,Y0,Y0,Y0] rfl rfl (QF HT_.out (by kernel_rfl)) (fun _ _ _ h => h) (Or.inr ⟨by rfl, rfl⟩) ?_ ?_
           rotate_left
           ·simp only [Act.put, QT, QU, QV, QG, QH]
            rfl
           refine QJ (i := 32) (N := some 76) (v := undef) (a' := ?_) #[Y1,Y1,Y1,Y1,Y1,Y1,Y1,Y1,Y1,Y1,Y1,Y1,Y1,Y1,Y1,Y1,Y1,Y1,Y1,Y1,Y1,Y1,Y1,Y1,Y1,Y1,Y1,Y1,Y1,Y1,Y1,Y1,Y1,Y0,Y0,Y0] rfl rfl (QF HT_.out (by kernel_rfl)) (fun _ _ _ h => h) (Or.inr ⟨by rfl, rfl⟩) ?_ ?_
           rotate_left
           ·simp only [Act.put, QT, QU, QV, QG, QH]
            rfl
           refine QJ (i := 33) (N := some 77) (v := undef) (a' := ?_) #[Y1,Y1,Y1,Y1,Y1,Y1,Y1,Y1,Y1,Y1,Y1,Y1,Y1,Y1,Y1,Y1,Y1,Y1,Y1,Y1,Y1,Y1,Y1,Y1,Y1,Y1,Y1,Y1,Y1,Y1,Y1,Y1,Y1,Y1,Y0,Y0] rfl rfl (QF HT_.out (by kernel_rfl)) (fun _ _ _ h => h) (Or.inr ⟨by rfl, rfl⟩) ?_ ?_
           rotate_left
           ·simp only [Act.put, QT, QU, QV, QG, QH]
            rfl
           refine QJ (i := 34) (N := some 78) (v := undef) (a' := ?_) #[Y1,Y1,Y1,Y1,Y1,Y1,Y1,Y1,Y1,Y1,Y1,Y1,Y1,Y1,Y1,Y1,Y1,Y1,Y1,Y1,Y1,Y1,Y1,Y1,Y1,Y1,Y1,Y1,Y1,Y1,Y1,Y1,Y1,Y1,Y1,Y0] rfl rfl (QF HT_.out (by kernel_rfl)) (fun _ _ _ h => h) (Or.inr ⟨by rfl, rfl⟩) ?_ ?_
           rotate_left
           ·simp only [Act.put, QT, QU, QV, QG, QH]
            rfl
           refine QJ (i := 35) (N := some 79) (v := ?_) (a' := ?_) #[Y1,Y1,Y1,Y1,Y1,Y1,Y1,Y1,Y1,Y1,Y1,Y1,Y1,Y1,Y1,Y1,Y1,Y1,Y1,Y1,Y1,Y1,Y1,Y1,Y1,Y1,Y1,Y1,Y1,Y1,Y1,Y1,Y1,Y1,Y1,Y1] rfl rfl (QF HT_.out (by kernel_rfl)) (fun _ _ _ h => h) (Or.inl ⟨by rfl, ?_⟩) ?_ ?_
           rotate_left
           ·intro w'
            go_simp
            with_reducible rfl
           rotate_left
           ·simp only [Act.put, QT, QU, QV, QG, QH]
            rfl
           refine done_ (done_of HT_.out (by kernel_rfl)) ?_
           try go_wp2
           go_meet
           case rel => exact ⟨_, (true), (by first | rfl | (simp; done) | (simp [*]; done)), H', ⟨by have := HJ1.out; have := HK2.out; first | omega | exact Nat.le_refl _⟩, ⟨by (with_reducible repeat (first | apply QN | apply QO | apply QP)); exact Kd.V_mono HO_254003.out (fun _ hk => ⟨hk.1.1, hk.1.2.2⟩)⟩, ⟨by (with_reducible repeat (first | refine QL ?_ _ | refine QR ?_ | refine QM ?_ _)); exact BK253.out⟩, ⟨by repeat (first | (with_reducible first | exact HB.out | apply QE | apply QB | apply QD | refine QK ?_ GE253.out) | exact HB.out)⟩⟩
         ·replace c23 := Bool.eq_false_iff.mpr c23
          subst c23
          rw [if_neg (show ¬ (false = true) by decide)] at H
          have H' := QW H
          clear H
          refine QJ (i := 10) (N := some 54) (v := undef) (a' := ?_) #[Y1,Y1,Y1,Y1,Y1,Y1,Y1,Y1,Y1,Y1,Y1,Y0,Y0,Y0,Y0,Y0,Y0,Y0,Y0,Y0,Y0,Y0,Y0,Y0,Y0,Y0,Y0,Y0,Y0,Y0,Y0,Y0,Y0,Y0,Y0,Y0] rfl rfl (QF HT_.out (by kernel_rfl)) (fun _ _ _ h => h) (Or.inr ⟨by rfl, rfl⟩) ?_ ?_
          rotate_left
          ·simp only [Act.put, QT, QU, QV, QG, QH]
           rfl
          refine QJ (i := 11) (N := some 55) (v := undef) (a' := ?_) #[Y1,Y1,Y1,Y1,Y1,Y1,Y1,Y1,Y1,Y1,Y1,Y1,Y0,Y0,Y0,Y0,Y0,Y0,Y0,Y0,Y0,Y0,Y0,Y0,Y0,Y0,Y0,Y0,Y0,Y0,Y0,Y0,Y0,Y0,Y0,Y0] rfl rfl (QF HT_.out (by kernel_rfl)) (fun _ _ _ h => h) (Or.inr ⟨by rfl, rfl⟩) ?_ ?_
          rotate_left
          ·simp only [Act.put, QT, QU, QV, QG, QH]
           rfl
          refine QJ (i := 12) (N := some 56) (v := undef) (a' := ?_) #[Y1,Y1,Y1,Y1,Y1,Y1,Y1,Y1,Y1,Y1,Y1,Y1,Y1,Y0,Y0,Y0,Y0,Y0,Y0,Y0,Y0,Y0,Y0,Y0,Y0,Y0,Y0,Y0,Y0,Y0,Y0,Y0,Y0,Y0,Y0,Y0] rfl rfl (QF HT_.out (by kernel_rfl)) (fun _ _ _ h => h) (Or.inr ⟨by rfl, rfl⟩) ?_ ?_
          rotate_left
          ·simp only [Act.put, QT, QU, QV, QG, QH]
           rfl
          refine QJ (i := 13) (N := some 57) (v := undef) (a' := ?_) #[Y1,Y1,Y1,Y1,Y1,Y1,Y1,Y1,Y1,Y1,Y1,Y1,Y1,Y1,Y0,Y0,Y0,Y0,Y0,Y0,Y0,Y0,Y0,Y0,Y0,Y0,Y0,Y0,Y0,Y0,Y0,Y0,Y0,Y0,Y0,Y0] rfl rfl (QF HT_.out (by kernel_rfl)) (fun _ _ _ h => h) (Or.inr ⟨by rfl, rfl⟩) ?_ ?_
          rotate_left
          ·simp only [Act.put, QT, QU, QV, QG, QH]
           rfl
          refine QJ (i := 14) (N := some 58) (v := undef) (a' := ?_) #[Y1,Y1,Y1,Y1,Y1,Y1,Y1,Y1,Y1,Y1,Y1,Y1,Y1,Y1,Y1,Y0,Y0,Y0,Y0,Y0,Y0,Y0,Y0,Y0,Y0,Y0,Y0,Y0,Y0,Y0,Y0,Y0,Y0,Y0,Y0,Y0] rfl rfl (QF HT_.out (by kernel_rfl)) (fun _ _ _ h => h) (Or.inr ⟨by rfl, rfl⟩) ?_ ?_
          rotate_left
          ·simp only [Act.put, QT, QU, QV, QG, QH]
           rfl
          refine QJ (i := 15) (N := some 59) (v := undef) (a' := ?_) #[Y1,Y1,Y1,Y1,Y1,Y1,Y1,Y1,Y1,Y1,Y1,Y1,Y1,Y1,Y1,Y1,Y0,Y0,Y0,Y0,Y0,Y0,Y0,Y0,Y0,Y0,Y0,Y0,Y0,Y0,Y0,Y0,Y0,Y0,Y0,Y0] rfl rfl (QF HT_.out (by kernel_rfl)) (fun _ _ _ h => h) (Or.inr ⟨by rfl, rfl⟩) ?_ ?_
          rotate_left
          ·simp only [Act.put, QT, QU, QV, QG, QH]
           rfl
          refine QJ (i := 16) (N := some 60) (v := ?_) (a' := ?_) #[Y1,Y1,Y1,Y1,Y1,Y1,Y1,Y1,Y1,Y1,Y1,Y1,Y1,Y1,Y1,Y1,Y1,Y0,Y0,Y0,Y0,Y0,Y0,Y0,Y0,Y0,Y0,Y0,Y0,Y0,Y0,Y0,Y0,Y0,Y0,Y0] rfl rfl (QF HT_.out (by kernel_rfl)) (fun _ _ _ h => h) (Or.inl ⟨by rfl, ?_⟩) ?_ ?_
          rotate_left
          ·intro w'
           go_simp
           with_reducible rfl
          rotate_left
          ·simp only [Act.put, QT, QU, QV, QG, QH]
           rfl
          refine QJ (i := 17) (N := some 61) (v := ?_) (a' := ?_) #[Y1,Y1,Y1,Y1,Y1,Y1,Y1,Y1,Y1,Y1,Y1,Y1,Y1,Y1,Y1,Y1,Y1,Y1,Y0,Y0,Y0,Y0,Y0,Y0,Y0,Y0,Y0,Y0,Y0,Y0,Y0,Y0,Y0,Y0,Y0,Y0] rfl rfl (QF HT_.out (by kernel_rfl)) (fun _ _ _ h => h) (Or.inl ⟨by rfl, ?_⟩) ?_ ?_
          rotate_left
          ·intro w'
           go_simp
           with_reducible rfl
          rotate_left
          ·simp only [Act.put, QT, QU, QV, QG, QH]
           rfl
          refine QJ (i := 18) (N := some 62) (v := undef) (a' := ?_) #[Y1,Y1,Y1,Y1,Y1,Y1,Y1,Y1,Y1,Y1,Y1,Y1,Y1,Y1,Y1,Y1,Y1,Y1,Y1,Y0,Y0,Y0,Y0,Y0,Y0,Y0,Y0,Y0,Y0,Y0,Y0,Y0,Y0,Y0,Y0,Y0] rfl rfl (QF HT_.out (by kernel_rfl)) (fun _ _ _ h => h) (Or.inr ⟨by rfl, rfl⟩) ?_ ?_
          rotate_left
          ·simp only [Act.put, QT, QU, QV, QG, QH]
           rfl
          refine QJ (i := 19) (N := some 63) (v := undef) (a' := ?_) #[Y1,Y1,Y1,Y1,Y1,Y1,Y1,Y1,Y1,Y1,Y1,Y1,Y1,Y1,Y1,Y1,Y1,Y1,Y1,Y1,Y0,Y0,Y0,Y0,Y0,Y0,Y0,Y0,Y0,Y0,Y0,Y0,Y0,Y0,Y0,Y0] rfl rfl (QF HT_.out (by kernel_rfl)) (fun _ _ _ h => h) (Or.inr ⟨by rfl, rfl⟩) ?_ ?_
          rotate_left
          ·simp only [Act.put, QT, QU, QV, QG, QH]
           rfl
          refine QJ (i := 20) (N := some 64) (v := undef) (a' := ?_) #[Y1,Y1,Y1,Y1,Y1,Y1,Y1,Y1,Y1,Y1,Y1,Y1,Y1,Y1,Y1,Y1,Y1,Y1,Y1,Y1,Y1,Y0,Y0,Y0,Y0,Y0,Y0,Y0,Y0,Y0,Y0,Y0,Y0,Y0,Y0,Y0] rfl rfl (QF HT_.out (by kernel_rfl)) (fun _ _ _ h => h) (Or.inr ⟨by rfl, rfl⟩) ?_ ?_
          rotate_left
          ·simp only [Act.put, QT, QU, QV, QG, QH]
           rfl
          refine QJ (i := 21) (N := some 65) (v := undef) (a' := ?_) #[Y1,Y1,Y1,Y1,Y1,Y1,Y1,Y1,Y1,Y1,Y1,Y1,Y1,Y1,Y1,Y1,Y1,Y1,Y1,Y1,Y1,Y1,Y0,Y0,Y0,Y0,Y0,Y0,Y0,Y0,Y0,Y0,Y0,Y0,Y0,Y0] rfl rfl (QF HT_.out (by kernel_rfl)) (fun _ _ _ h => h) (Or.inr ⟨by rfl, rfl⟩) ?_ ?_
          rotate_left
          ·simp only [Act.put, QT, QU, QV, QG, QH]
           rfl
          refine QJ (i := 22) (N := some 66) (v := ?_) (a' := ?_) #[Y1,Y1,Y1,Y1,Y1,Y1,Y1,Y1,Y1,Y1,Y1,Y1,Y1,Y1,Y1,Y1,Y1,Y1,Y1,Y1,Y1,Y1,Y1,Y0,Y0,Y0,Y0,Y0,Y0,Y0,Y0,Y0,Y0,Y0,Y0,Y0] rfl rfl (QF HT_.out (by kernel_rfl)) (fun _ _ _ h => h) (Or.inl ⟨by rfl, ?_⟩) ?_ ?_
          rotate_left
          ·intro w'
           go_simp
           with_reducible rfl
          rotate_left
          ·simp only [Act.put, QT, QU, QV, QG, QH]
           rfl
          refine QJ (i := 23) (N := some 67) (v := ?_) (a' := ?_) #[Y1,Y1,Y1,Y1,Y1,Y1,Y1,Y1,Y1,Y1,Y1,Y1,Y1,Y1,Y1,Y1,Y1,Y1,Y1,Y1,Y1,Y1,Y1,Y1,Y0,Y0,Y0,Y0,Y0,Y0,Y0,Y0,Y0,Y0,Y0,Y0] rfl rfl (QF HT_.out (by kernel_rfl)) (fun _ _ _ h => h) (Or.inl ⟨by rfl, ?_⟩) ?_ ?_
          rotate_left
          ·intro w'
           go_simp
           with_reducible rfl
          rotate_left
          ·simp only [Act.put, QT, QU, QV, QG, QH]
           rfl
          refine QJ (i := 24) (N := some 68) (v := undef) (a' := ?_) #[Y1,Y1,Y1,Y1,Y1,Y1,Y1,Y1,Y1,Y1,Y1,Y1,Y1,Y1,Y1,Y1,Y1,Y1,Y1,Y1,Y1,Y1,Y1,Y1,Y1,Y0,Y0,Y0,Y0,Y0,Y0,Y0,Y0,Y0,Y0,Y0] rfl rfl (QF HT_.out (by kernel_rfl)) (fun _ _ _ h => h) (Or.inr ⟨by rfl, rfl⟩) ?_ ?_
          rotate_left
          ·simp only [Act.put, QT, QU, QV, QG, QH]
           rfl
          refine QJ (i := 25) (N := some 69) (v := undef) (a' := ?_) #[Y1,Y1,Y1,Y1,Y1,Y1,Y1,Y1,Y1,Y1,Y1,Y1,Y1,Y1,Y1,Y1,Y1,Y1,Y1,Y1,Y1,Y1,Y1,Y1,Y1,Y1,Y0,Y0,Y0,Y0,Y0,Y0,Y0,Y0,Y0,Y0] rfl rfl (QF HT_.out (by kernel_rfl)) (fun _ _ _ h => h) (Or.inr ⟨by rfl, rfl⟩) ?_ ?_
          rotate_left
          ·simp only [Act.put, QT, QU, QV, QG, QH]
           rfl
          refine QJ (i := 26) (N := some 70) (v := undef) (a' := ?_) #[Y1,Y1,Y1,Y1,Y1,Y1,Y1,Y1,Y1,Y1,Y1,Y1,Y1,Y1,Y1,Y1,Y1,Y1,Y1,Y1,Y1,Y1,Y1,Y1,Y1,Y1,Y1,Y0,Y0,Y0,Y0,Y0,Y0,Y0,Y0,Y0] rfl rfl (QF HT_.out (by kernel_rfl)) (fun _ _ _ h => h) (Or.inr ⟨by rfl, rfl⟩) ?_ ?_
          rotate_left
          ·simp only [Act.put, QT, QU, QV, QG, QH]
           rfl
          refine QJ (i := 27) (N := some 71) (v := undef) (a' := ?_) #[Y1,Y1,Y1,Y1,Y1,Y1,Y1,Y1,Y1,Y1,Y1,Y1,Y1,Y1,Y1,Y1,Y1,Y1,Y1,Y1,Y1,Y1,Y1,Y1,Y1,Y1,Y1,Y1,Y0,Y0,Y0,Y0,Y0,Y0,Y0,Y0] rfl rfl (QF HT_.out (by kernel_rfl)) (fun _ _ _ h => h) (Or.inr ⟨by rfl, rfl⟩) ?_ ?_
          rotate_left
          ·simp only [Act.put, QT, QU, QV, QG, QH]
           rfl
          refine QJ (i := 28) (N := some 72) (v := ?_) (a' := ?_) #[Y1,Y1,Y1,Y1,Y1,Y1,Y1,Y1,Y1,Y1,Y1,Y1,Y1,Y1,Y1,Y1,Y1,Y1,Y1,Y1,Y1,Y1,Y1,Y1,Y1,Y1,Y1,Y1,Y1,Y0,Y0,Y0,Y0,Y0,Y0,Y0] rfl rfl (QF HT_.out (by kernel_rfl)) (fun _ _ _ h => h) (Or.inl ⟨by rfl, ?_⟩) ?_ ?_
          rotate_left
          ·intro w'
           go_simp
           with_reducible rfl
          rotate_left
          ·simp only [Act.put, QT, QU, QV, QG, QH]
           rfl
          refine QJ (i := 29) (N := some 73) (v := ?_) (a' := ?_) #[Y1,Y1,Y1,Y1,Y1,Y1,Y1,Y1,Y1,Y1,Y1,Y1,Y1,Y1,Y1,Y1,Y1,Y1,Y1,Y1,Y1,Y1,Y1,Y1,Y1,Y1,Y1,Y1,Y1,Y1,Y0,Y0,Y0,Y0,Y0,Y0] rfl rfl (QF HT_.out (by kernel_rfl)) (fun _ _ _ h => h) (Or.inl ⟨by rfl, ?_⟩) ?_ ?_
          rotate_left
          ·intro w'
           go_simp
           with_reducible rfl
          rotate_left
          ·simp only [Act.put, QT, QU, QV, QG, QH]
           rfl
          refine QJ (i := 30) (N := some 74) (v := undef) (a' := ?_) #[Y1,Y1,Y1,Y1,Y1,Y1,Y1,Y1,Y1,Y1,Y1,Y1,Y1,Y1,Y1,Y1,Y1,Y1,Y1,Y1,Y1,Y1,Y1,Y1,Y1,Y1,Y1,Y1,Y1,Y1,Y1,Y0,Y0,Y0,Y0,Y0] rfl rfl (QF HT_.out (by kernel_rfl)) (fun _ _ _ h => h) (Or.inr ⟨by rfl, rfl⟩) ?_ ?_
          rotate_left
          ·simp only [Act.put, QT, QU, QV, QG, QH]
           rfl
          refine QJ (i := 31) (N := some 75) (v := undef) (a' := ?_) #[Y1,Y1,Y1,Y1,Y1,Y1,Y1,Y1,Y1,Y1,Y1,Y1,Y1,Y1,Y1,Y1,Y1,Y1,Y1,Y1,Y1,Y1,Y1,Y1,Y1,Y1,Y1,Y1,Y1,Y1,Y1,Y1,Y0,Y0,Y0,Y0] rfl rfl (QF HT_.out (by kernel_rfl)) (fun _ _ _ h => h) (Or.inr ⟨by rfl, rfl⟩) ?_ ?_
          rotate_left
          ·simp only [Act.put, QT, QU, QV, QG, QH]
           rfl
          refine QJ (i := 32) (N := some 76) (v := undef) (a' := ?_) #[Y1,Y1,Y1,Y1,Y1,Y1,Y1,Y1,Y1,Y1,Y1,Y1,Y1,Y1,Y1,Y1,Y1,Y1,Y1,Y1,Y1,Y1,Y1,Y1,Y1,Y1,Y1,Y1,Y1,Y1,Y1,Y1,Y1,Y0,Y0,Y0] rfl rfl (QF HT_.out (by kernel_rfl)) (fun _ _ _ h => h) (Or.inr ⟨by rfl, rfl⟩) ?_ ?_
          rotate_left
          ·simp only [Act.put, QT, QU, QV, QG, QH]
           rfl
          refine QJ (i := 33) (N := some 77) (v := undef) (a' := ?_) #[Y1,Y1,Y1,Y1,Y1,Y1,Y1,Y1,Y1,Y1,Y1,Y1,Y1,Y1,Y1,Y1,Y1,Y1,Y1,Y1,Y1,Y1,Y1,Y1,Y1,Y1,Y1,Y1,Y1,Y1,Y1,Y1,Y1,Y1,Y0,Y0] rfl rfl (QF HT_.out (by kernel_rfl)) (fun _ _ _ h => h) (Or.inr ⟨by rfl, rfl⟩) ?_ ?_
          rotate_left
          ·simp only [Act.put, QT, QU, QV, QG, QH]
           rfl
          refine QJ (i := 34) (N := some 78) (v := undef) (a' := ?_) #[Y1,Y1,Y1,Y1,Y1,Y1,Y1,Y1,Y1,Y1,Y1,Y1,Y1,Y1,Y1,Y1,Y1,Y1,Y1,Y1,Y1,Y1,Y1,Y1,Y1,Y1,Y1,Y1,Y1,Y1,Y1,Y1,Y1,Y1,Y1,Y0] rfl rfl (QF HT_.out (by kernel_rfl)) (fun _ _ _ h => h) (Or.inr ⟨by rfl, rfl⟩) ?_ ?_
          rotate_left
          ·simp only [Act.put, QT, QU, QV, QG, QH]
           rfl
          refine QJ (i := 35) (N := some 79) (v := ?_) (a' := ?_) #[Y1,Y1,Y1,Y1,Y1,Y1,Y1,Y1,Y1,Y1,Y1,Y1,Y1,Y1,Y1,Y1,Y1,Y1,Y1,Y1,Y1,Y1,Y1,Y1,Y1,Y1,Y1,Y1,Y1,Y1,Y1,Y1,Y1,Y1,Y1,Y1] rfl rfl (QF HT_.out (by kernel_rfl)) (fun _ _ _ h => h) (Or.inl ⟨by rfl, ?_⟩) ?_ ?_
          rotate_left
          ·intro w'
           go_simp
           with_reducible rfl
          rotate_left
          ·simp only [Act.put, QT, QU, QV, QG, QH]
           rfl
          refine done_ (done_of HT_.out (by kernel_rfl)) ?_
          try go_wp2
          go_meet
          case rel => exact ⟨_, (true), (by first | rfl | (simp; done) | (simp [*]; done)), H', ⟨by have := HJ1.out; have := HK2.out; first | omega | exact Nat.le_refl _⟩, ⟨by (with_reducible repeat (first | apply QN | apply QO | apply QP)); exact Kd.V_mono HO_254003.out (fun _ hk => ⟨hk.1.1, hk.1.2.2⟩)⟩, ⟨by (with_reducible repeat (first | refine QL ?_ _ | refine QR ?_ | refine QM ?_ _)); exact BK253.out⟩, ⟨by repeat (first | (with_reducible first | exact HB.out | apply QE | apply QB | apply QD | refine QK ?_ GE253.out) | exact HB.out)⟩⟩
        ·rw [if_neg c21] at H
         exact absurd H (by simp)
       case rest =>
        clear HC19
        try clear c1
        try clear c2
        try clear p2
        try clear p6
        try clear c8
        try clear c11
        try clear c15
        try clear c21
        try clear c23
        try clear p64
        obtain ⟨kq, x79_18, rfl, HA, HJ18, HO_254003, BK253, HB⟩ := hcut
        cases kq with
        | zero => exact absurd HA.out (by simp [impl_IsDeal.j2])
        | succ kj18 =>
         have H := HA.out
         clear HA
         simp only [impl_IsDeal.j2] at H
         by_cases c75 : x79_18 = true
         ·subst c75
          rw [if_pos rfl] at H
          obtain rfl := Option.some.inj H
          go_wp2
          go_ret
          exact ⟨by first | rfl | (simp [errW_none, errW_some] <;> rfl) | (simp [*, errW_none, errW_some] <;> rfl), by repeat (first | (with_reducible first | exact HB.out | apply QE | apply QB | apply QD | refine QK ?_ GE253.out) | exact HB.out)⟩
         ·replace c75 := Bool.eq_false_iff.mpr c75
          subst c75
          rw [if_neg (show ¬ (false = true) by decide)] at H
          have H' := QW H
          clear H
          go_wp2
          go_loopg [81] kj18 (fun kq v81 w' => ∃ (x81_4 : Int), v81 = .int .i64 x81_4 ∧ Aside0 (impl_IsDeal.l1 kq (l0_0.length : Int) (l0_0.length : Int) x81_4 l0_0 a0_1 a0_2 l0_3 l0_4 l0_5 a0_6 = some r) ∧ Aside0 (kq ≤ kj18) ∧ Aside0 (Kd.V (Kd.int .i64) 3 w' w.heap.size (fun k_ => (P0_3_ k_ ∨ w.heap.size ≤ k_) ∧ k_ ≠ gb253) (.slice A0_3 l0_3.length c0_3) l0_3) ∧ Aside0 (w'.heap[gb253]? = some (.cells #[(.slice A0_0 l0_0.length c0_0), .int .i64 a0_1, .int .i64 a0_2, (.slice A0_3 l0_3.length c0_3), (.slice A0_4 l0_4.length c0_4), (.slice A0_5 l0_5.length c0_5), .int .i64 a0_6] 67 (0, 0))) ∧ Aside0 (Below w.heap.size w w'))
          case atStart => exact ⟨(0), (by first | rfl | (simp; done) | (simp [*]; done)), H', ⟨Nat.le_refl _⟩, ⟨by (with_reducible repeat (first | apply QN | apply QO | apply QP)); exact HO_254003.out⟩, ⟨by (with_reducible repeat (first | refine QL ?_ _ | refine QR ?_ | refine QM ?_ _)); exact BK253.out⟩, ⟨by repeat (first | (with_reducible first | exact HB.out | apply QE | apply QB | apply QD | refine QK ?_ GE253.out) | exact HB.out)⟩⟩
          case round =>
           clear H'
           try clear c1
           try clear c2
           try clear p2
           try clear p6
           try clear c7
           try clear c8
           try clear c11
           try clear c15
           try clear c21
           try clear c23
           try clear p64
           try clear c75
           try clear p2
           try clear p6
           try clear p64
           obtain ⟨x81_4, rfl, HA, HK4, HO_254003, BK253, HB⟩ := hrel
           cases gk with
           | zero => exact absurd HA.out (by simp [impl_IsDeal.l1])
           | succ k4 =>
            have H := HA.out
            clear HA
            simp only [impl_IsDeal.l1] at H
            by_cases c76 : x81_4 < (l0_0.length : Int)
            ·rw [if_pos c76] at H
             have c76b0 : decide (x81_4 < (l0_0.length : Int)) = true := decide_eq_true c76
             clear c76
             replace H := Option.bind_eq_some_iff.mp H
             obtain ⟨t270, A770, H⟩ := H
             have A77 := QW A770
             clear A770
             by_cases c78 : (l0_0.length : Int) = 0
             ·rw [if_pos c78] at H
              exact absurd H (by simp)
             ·rw [if_neg c78] at H
              have c78b0 : ((l0_0.length : Int) == 0) = false := beq_eq_false_iff_ne.mpr c78
              have c78b1 : ((l0_0.length : Int) != 0) = true := bne_iff_ne.mpr c78
              have c78b2 : ¬ (l0_0 = []) := fun h_ => c78 (by rw [h_]; rfl)
              try go_wp2
              have n0_ := QW (QP HO_254003.out)
              have n1_ := QW (QR BK253.out)
              have n2_ := QW (QD HB.out)
              clear HO_254003
              clear BK253
              clear HB
              have HO_254003 := n0_
              have BK253 := n1_
              have HB := n2_
              clear n0_ n1_ n2_
              refine start_ (n := 7) (S := fun w' => w'.cell? ⟨gb253, 0, none⟩ = some (.slice A0_0 l0_0.length c0_0) ∧ w'.cell? ⟨gb253, 1, none⟩ = some (.int .i64 a0_1) ∧ w'.cell? ⟨gb253, 2, none⟩ = some (.int .i64 a0_2) ∧ w'.cell? ⟨gb253, 3, none⟩ = some (.slice A0_3 l0_3.length c0_3) ∧ w'.cell? ⟨gb253, 4, none⟩ = some (.slice A0_4 l0_4.length c0_4) ∧ w'.cell? ⟨gb253, 5, none⟩ = some (.slice A0_5 l0_5.length c0_5) ∧ w'.cell? ⟨gb253, 6, none⟩ = some (.int .i64 a0_6)) (ds := []) #[Y0,Y0,Y0,Y0,Y0,Y0,Y0] (by kernel_rfl) rfl rfl ⟨(QC BK253.out 0).trans rfl, (QC BK253.out 1).trans rfl, (QC BK253.out 2).trans rfl, (QC BK253.out 3).trans rfl, (QC BK253.out 4).trans rfl, (QC BK253.out 5).trans rfl, (QC BK253.out 6).trans rfl⟩ (fun hHeld => ?_)
              generalize wr.drew = w83 at HO_254003 BK253 HB hHeld ⊢
              refine QJ (i := 0) (N := some 84) (v := ?_) (a' := ?_) #[Y1,Y0,Y0,Y0,Y0,Y0,Y0] rfl rfl (by kernel_rfl) (fun _ _ _ h => h) (Or.inl ⟨by rfl, ?_⟩) ?_ ?_
              rotate_left
              ·intro w'
               go_simp
               with_reducible rfl
              rotate_left
              ·simp only [Act.put, QT, QU, QV, QG, QH]
               rfl
              refine QJ (i := 2) (N := some 86) (v := ?_) (a' := ?_) #[Y1,Y0,Y1,Y0,Y0,Y0,Y0] rfl rfl (by kernel_rfl) (fun _ _ _ h => h) (Or.inl ⟨by rfl, ?_⟩) ?_ ?_
              rotate_left
              ·intro w'
               go_simp
               with_reducible rfl
              rotate_left
              ·simp only [Act.put, QT, QU, QV, QG, QH]
               rfl
              refine take_ (i := 1) (N := some 85) (v := ?_) (a' := ?_) #[Y1,Y1,Y1,Y0,Y0,Y0,Y0] rfl rfl (by kernel_rfl) (fun _ _ _ h => h) (Or.inl ⟨by rfl, ?_⟩) hHeld ?_ ?_
              rotate_left
              ·rintro w' ⟨s0, s1, s2, s3, s4, s5, s6⟩
               go_simp
               with_reducible rfl
              rotate_left
              ·simp only [Act.put, QT, QU, QV, QG, QH]
               rfl
              refine take_ (i := 3) (N := some 87) (v := ?_) (a' := ?_) #[Y1,Y1,Y1,Y1,Y0,Y0,Y0] rfl rfl (by kernel_rfl) (fun _ _ _ h => h) (Or.inl ⟨by rfl, ?_⟩) hHeld ?_ ?_
              rotate_left
              ·rintro w' ⟨s0, s1, s2, s3, s4, s5, s6⟩
               go_simp
               with_reducible rfl
              rotate_left
              ·simp only [Act.put, QT, QU, QV, QG, QH]
               rfl
              refine one_ (i := 4) (N := some 88) #[Y1,Y1,Y1,Y1,Y1,Y0,Y0] rfl rfl (by kernel_rfl) (by decide) (fun K hK => ?_)
              refine goes_ Try.func158 (by kernel_rfl) rfl #[.slice A0_4 l0_4.length c0_4] (by rfl) rfl rfl (by (try simp only [List.map_toArray, List.map_cons, List.map_nil]); first | done | rfl | (simp only [List.length_drop, List.length_take]; rfl)) ?_
              with_reducible refine (impl_sum.calls k4 _ _ l0_4 t270 _ ?side1 ?side2 A77.out).mono ?_
              (case side1 => repeat (first | exact (Kd.C_below HR0_4.out HB.out) | (with_reducible refine Kd.C_alloc ?_ _) | (with_reducible refine Kd.C_drewN ?_ _) | (with_reducible refine Kd.C_drew ?_)))
              (case side2 => exact HC0_4.out)
              rintro e w' ⟨rfl, ⟨nd, rfl⟩⟩
              refine ⟨_, rfl, ?_⟩
              refine hK.out _ _ ⟨(QC BK253.out 0).trans rfl, (QC BK253.out 1).trans rfl, (QC BK253.out 2).trans rfl, (QC BK253.out 3).trans rfl, (QC BK253.out 4).trans rfl, (QC BK253.out 5).trans rfl, (QC BK253.out 6).trans rfl⟩ (fun hHeld => ?_)
              clear hK K
              refine norm_ (a' := ?_) ?_ ?_
              rotate_left
              ·show Act.put _ (some 88) _ = _
               simp only [Act.put, QT, QU, QV, QG, QH]
               rfl
              refine QJ (i := 5) (N := some 89) (v := ?_) (a' := ?_) #[Y1,Y1,Y1,Y1,Y1,Y1,Y0] rfl rfl (by kernel_rfl) (fun _ _ _ h => h) (Or.inl ⟨by rfl, ?_⟩) ?_ ?_
              rotate_left
              ·intro w'
               go_simp
               with_reducible rfl
              rotate_left
              ·simp only [Act.put, QT, QU, QV, QG, QH]
               rfl
              refine QJ (i := 6) (N := some 7) (v := ?_) (a' := ?_) #[Y1,Y1,Y1,Y1,Y1,Y1,Y1] rfl rfl (by kernel_rfl) (fun _ _ _ h => h) (Or.inl ⟨by rfl, ?_⟩) ?_ ?_
              rotate_left
              ·intro w'
               go_simp
               with_reducible rfl
              rotate_left
              ·simp only [Act.put, QT, QU, QV, QG, QH]
               rfl
              refine done_ (by kernel_rfl) ?_
              try go_wp2
              (try (rw [drewN_self w83]; generalize hq_ : World.drewN w83 _ = w83; have n0_ : Aside0 (Kd.V (Kd.int .i64) 3 w83 w.heap.size (fun k_ => (P0_3_ k_ ∨ w.heap.size ≤ k_) ∧ k_ ≠ gb253) (.slice A0_3 l0_3.length c0_3) l0_3) := ⟨by rw [← hq_]; exact (by (with_reducible repeat (first | apply QN | apply QO | apply QP)); exact HO_254003.out)⟩; have n1_ : Aside0 (w83.heap[gb253]? = some (.cells #[.slice A0_0 l0_0.length c0_0, .int .i64 a0_1, .int .i64 a0_2, .slice A0_3 l0_3.length c0_3, .slice A0_4 l0_4.length c0_4, .slice A0_5 l0_5.length c0_5, .int .i64 a0_6] 67 (0, 0))) := ⟨by rw [← hq_]; exact (by (with_reducible repeat (first | refine QL ?_ _ | refine QR ?_ | refine QM ?_ _)); exact BK253.out)⟩; have n2_ : Aside0 (Below w.heap.size w w83) := ⟨by rw [← hq_]; exact (by repeat (first | (with_reducible first | exact HB.out | apply QE | apply QB | apply QD | refine QK ?_ GE253.out) | exact HB.out))⟩; clear HO_254003 BK253 HB hq_; have HO_254003 := n0_; have BK253 := n1_; have HB := n2_; clear n0_ n1_ n2_))
              have n0_ := QW (QP HO_254003.out)
              have n1_ := QW (QR BK253.out)
              have n2_ := QW (QD HB.out)
              clear HO_254003
              clear BK253
              clear HB
              have HO_254003 := n0_
              have BK253 := n1_
              have HB := n2_
              clear n0_ n1_ n2_
              refine start_ (n := 12) (S := fun w' => w'.cell? ⟨gb253, 0, none⟩ = some (.slice A0_0 l0_0.length c0_0) ∧ w'.cell? ⟨gb253, 1, none⟩ = some (.int .i64 a0_1) ∧ w'.cell? ⟨gb253, 2, none⟩ = some (.int .i64 a0_2) ∧ w'.cell? ⟨gb253, 3, none⟩ = some (.slice A0_3 l0_3.length c0_3) ∧ w'.cell? ⟨gb253, 4, none⟩ = some (.slice A0_4 l0_4.length c0_4) ∧ w'.cell? ⟨gb253, 5, none⟩ = some (.slice A0_5 l0_5.length c0_5) ∧ w'.cell? ⟨gb253, 6, none⟩ = some (.int .i64 a0_6)) (ds := []) #[Y0,Y0,Y0,Y0,Y0,Y0,Y0,Y0,Y0,Y0,Y0,Y0] (by kernel_rfl) rfl rfl ⟨(QC BK253.out 0).trans rfl, (QC BK253.out 1).trans rfl, (QC BK253.out 2).trans rfl, (QC BK253.out 3).trans rfl, (QC BK253.out 4).trans rfl, (QC BK253.out 5).trans rfl, (QC BK253.out 6).trans rfl⟩ (fun hHeld => ?_); refine with_tabW impl_IsDeal.tab16 impl_IsDeal.bits16 (fun HT_ HW_ => ?_)
              generalize w83.drew = w84 at HO_254003 BK253 HB hHeld ⊢
              refine QJ (i := 0) (N := some 90) (v := ?_) (a' := ?_) #[Y1,Y0,Y0,Y0,Y0,Y0,Y0,Y0,Y0,Y0,Y0,Y0] rfl rfl (QF HT_.out (by kernel_rfl)) (fun _ _ _ h => h) (Or.inl ⟨by rfl, ?_⟩) ?_ ?_
              rotate_left
              ·intro w'
               go_simp
               with_reducible rfl
              rotate_left
              ·simp only [Act.put, QT, QU, QV, QG, QH]
               rfl
              refine QJ (i := 1) (N := some 91) (v := ?_) (a' := ?_) #[Y1,Y1,Y0,Y0,Y0,Y0,Y0,Y0,Y0,Y0,Y0,Y0] rfl rfl (QF HT_.out (by kernel_rfl)) (fun _ _ _ h => h) (Or.inl ⟨by rfl, ?_⟩) ?_ ?_
              rotate_left
              ·intro w'
               go_simp
               with_reducible rfl
              rotate_left
              ·simp only [Act.put, QT, QU, QV, QG, QH]
               rfl
              refine QJ (i := 4) (N := some 94) (v := ?_) (a' := ?_) #[Y1,Y1,Y0,Y0,Y1,Y0,Y0,Y0,Y0,Y0,Y0,Y0] rfl rfl (QF HT_.out (by kernel_rfl)) (fun _ _ _ h => h) (Or.inl ⟨by rfl, ?_⟩) ?_ ?_
              rotate_left
              ·intro w'
               go_simp
               with_reducible rfl
              rotate_left
              ·simp only [Act.put, QT, QU, QV, QG, QH]
               rfl
              refine QJ (i := 6) (N := some 96) (v := ?_) (a' := ?_) #[Y1,Y1,Y0,Y0,Y1,Y0,Y1,Y0,Y0,Y0,Y0,Y0] rfl rfl (QF HT_.out (by kernel_rfl)) (fun _ _ _ h => h) (Or.inl ⟨by rfl, ?_⟩) ?_ ?_
              rotate_left
              ·intro w'
               go_simp
               with_reducible rfl
              rotate_left
              ·simp only [Act.put, QT, QU, QV, QG, QH]
               rfl
              refine QJ (i := 8) (N := some 98) (v := ?_) (a' := ?_) #[Y1,Y1,Y0,Y0,Y1,Y0,Y1,Y0,Y1,Y0,Y0,Y0] rfl rfl (QF HT_.out (by kernel_rfl)) (fun _ _ _ h => h) (Or.inl ⟨by rfl, ?_⟩) ?_ ?_
              rotate_left
              ·intro w'
               go_simp
               with_reducible rfl
              rotate_left
              ·simp only [Act.put, QT, QU, QV, QG, QH]
               rfl
              refine take_ (i := 2) (N := some 92) (v := ?_) (a' := ?_) #[Y1,Y1,Y1,Y0,Y1,Y0,Y1,Y0,Y1,Y0,Y0,Y0] rfl rfl (take_ofW HT_.out HW_.out (by kernel_rfl)) (fun _ _ _ h => h) (Or.inl ⟨by rfl, ?_⟩) hHeld ?_ ?_
              rotate_left
              ·rintro w' ⟨s0, s1, s2, s3, s4, s5, s6⟩
               go_simp
               with_reducible rfl
              rotate_left
              ·simp only [Act.put, QT, QU, QV, QG, QH]
               rfl
              refine QJ (i := 3) (N := some 93) (v := ?_) (a' := ?_) #[Y1,Y1,Y1,Y1,Y1,Y0,Y1,Y0,Y1,Y0,Y0,Y0] rfl rfl (QF HT_.out (by kernel_rfl)) (fun _ _ _ h => h) (Or.inl ⟨by rfl, ?_⟩) ?_ ?_
              rotate_left
              ·intro w'
               go_simp
               with_reducible rfl
              rotate_left
              ·simp only [Act.put, QT, QU, QV, QG, QH]
               rfl
              refine QJ (i := 5) (N := some 95) (v := ?_) (a' := ?_) #[Y1,Y1,Y1,Y1,Y1,Y1,Y1,Y0,Y1,Y0,Y0,Y0] rfl rfl (QF HT_.out (by kernel_rfl)) (fun _ _ _ h => h) (Or.inl ⟨by rfl, ?_⟩) ?_ ?_
              rotate_left
              ·intro w'
               go_simp
               with_reducible rfl
              rotate_left
              ·simp only [Act.put, QT, QU, QV, QG, QH]
               rfl
              refine QJ (i := 7) (N := some 97) (v := ?_) (a' := ?_) #[Y1,Y1,Y1,Y1,Y1,Y1,Y1,Y1,Y1,Y0,Y0,Y0] rfl rfl (QF HT_.out (by kernel_rfl)) (fun _ _ _ h => h) (Or.inl ⟨by rfl, ?_⟩) ?_ ?_
              rotate_left
              ·intro w'
               go_simp
               with_reducible rfl
              rotate_left
              ·simp only [Act.put, QT, QU, QV, QG, QH]
               rfl
              refine take_ (i := 9) (N := some 99) (v := ?_) (a' := ?_) #[Y1,Y1,Y1,Y1,Y1,Y1,Y1,Y1,Y1,Y1,Y0,Y0] rfl rfl (take_ofW HT_.out HW_.out (by kernel_rfl)) (fun _ _ _ h => h) (Or.inl ⟨by rfl, ?_⟩) hHeld ?_ ?_
              rotate_left
              ·rintro w' ⟨s0, s1, s2, s3, s4, s5, s6⟩
               go_simp
               with_reducible rfl
              rotate_left
              ·simp only [Act.put, QT, QU, QV, QG, QH]
               rfl
              refine QJ (i := 10) (N := some 100) (v := ?_) (a' := ?_) #[Y1,Y1,Y1,Y1,Y1,Y1,Y1,Y1,Y1,Y1,Y1,Y0] rfl rfl (QF HT_.out (by kernel_rfl)) (fun _ _ _ h => h) (Or.inl ⟨by rfl, ?_⟩) ?_ ?_
              rotate_left
              ·intro w'
               go_simp
               with_reducible rfl
              rotate_left
              ·simp only [Act.put, QT, QU, QV, QG, QH]
               rfl
              by_cases c79 : (Int.tmod (wrap64 ((wrap64 (x81_4 - a0_1)) + (l0_0.length : Int))) (l0_0.length : Int)) < (l0_3.length : Int)
              ·rw [if_pos c79] at H
               have c79b0 : decide ((Int.tmod (wrap64 ((wrap64 (x81_4 - a0_1)) + (l0_0.length : Int))) (l0_0.length : Int)) < (l0_3.length : Int)) = true := decide_eq_true c79
               clear c79
               (try simp only [c79b0])
               by_cases c80 : 0 ≤ x81_4
               ·rw [if_pos c80] at H
                have c80b0 : decide (0 ≤ x81_4) = true := decide_eq_true c80
                clear c80
                by_cases c81 : x81_4 < (l0_0.length : Int)
                ·rw [if_pos c81] at H
                 have c81b0 : decide (x81_4 < (l0_0.length : Int)) = true := decide_eq_true c81
                 clear c81
                 refine QJ (i := 11) (N := some 101) (v := ?_) (a' := ?_) #[Y1,Y1,Y1,Y1,Y1,Y1,Y1,Y1,Y1,Y1,Y1,Y1] rfl rfl (QF HT_.out (by kernel_rfl)) (fun _ _ _ h => h) (Or.inl ⟨by rfl, ?_⟩) ?_ ?_
                 rotate_left
                 ·intro w'
                  go_simp
                  with_reducible rfl
                 rotate_left
                 ·simp only [Act.put, QT, QU, QV, QG, QH]
                  rfl
                 refine done_ (done_of HT_.out (by kernel_rfl)) ?_
                 have hcz85_0 : w84.cell? ⟨gb253, 0, none⟩ = some (.slice A0_0 l0_0.length c0_0) := (QC BK253.out 0).trans rfl
                 have hcz85_1 : w84.cell? ⟨gb253, 1, none⟩ = some (.int .i64 a0_1) := (QC BK253.out 1).trans rfl
                 have hcz85_2 : w84.cell? ⟨gb253, 2, none⟩ = some (.int .i64 a0_2) := (QC BK253.out 2).trans rfl
                 have hcz85_3 : w84.cell? ⟨gb253, 3, none⟩ = some (.slice A0_3 l0_3.length c0_3) := (QC BK253.out 3).trans rfl
                 have hcz85_4 : w84.cell? ⟨gb253, 4, none⟩ = some (.slice A0_4 l0_4.length c0_4) := (QC BK253.out 4).trans rfl
                 have hcz85_5 : w84.cell? ⟨gb253, 5, none⟩ = some (.slice A0_5 l0_5.length c0_5) := (QC BK253.out 5).trans rfl
                 have hcz85_6 : w84.cell? ⟨gb253, 6, none⟩ = some (.int .i64 a0_6) := (QC BK253.out 6).trans rfl
                 have hfz85_0 := QI BK253.out 0
                 have hfz85_1 := QI BK253.out 1
                 have hfz85_2 := QI BK253.out 2
                 have hfz85_3 := QI BK253.out 3
                 have hfz85_4 := QI BK253.out 4
                 have hfz85_5 := QI BK253.out 5
                 have hfz85_6 := QI BK253.out 6
                 have p271 : 0 ≤ (x81_4 : Int) := of_decide_eq_true (by first | (with_reducible assumption) | assumption)
                 have q271 : x81_4 < (l0_0.length : Int) := of_decide_eq_true (by first | (with_reducible assumption) | assumption)
                 obtain ⟨ad271, A271_0, c271_0, e271, hx271_0, hl271_0, hi271_0⟩ := at_L1 HR0_0.out x81_4 p271 q271
                 cases e271
                 replace hx271_0 := (HB.out.cell (World.block_lt_of_cell? w _ hx271_0)).trans hx271_0
                 have HR271_0 := QW hi271_0
                 have HC271_0 := QW hl271_0
                 clear hi271_0 hl271_0
                 replace p271 := eq_true p271
                 replace q271 := eq_true q271
                 by_cases c82 : ((rd_L1 l0_0 x81_4).length : Int) = (wrap64 ((wrap64 (a0_6 - t270)) - 1))
                 ·rw [if_pos c82] at H
                  have c82b0 : (((rd_L1 l0_0 x81_4).length : Int) == (wrap64 ((wrap64 (a0_6 - t270)) - 1))) = true := beq_iff_eq.mpr c82
                  have c82b1 : (((rd_L1 l0_0 x81_4).length : Int) != (wrap64 ((wrap64 (a0_6 - t270)) - 1))) = false := bne_eq_false_iff_eq.mpr c82
                  clear c82
                  have H' := QW H
                  clear H
                  (try simp only [c82b0, c82b1])
                  try go_wp2
                  go_roundg k4
                  case measure => have := HJ1.out; have := HK2.out; have := HJ18.out; have := HK4.out; omega
                  case rel => exact ⟨(wrap64 (x81_4 + 1)), (by first | rfl | (simp; done) | (simp [*]; done)), H', ⟨by have := HJ1.out; have := HK2.out; have := HJ18.out; have := HK4.out; omega⟩, ⟨by (with_reducible repeat (first | apply QN | apply QO | apply QP)); exact HO_254003.out⟩, ⟨by (with_reducible repeat (first | refine QL ?_ _ | refine QR ?_ | refine QM ?_ _)); exact BK253.out⟩, ⟨by repeat (first | (with_reducible first | exact HB.out | apply QE | apply QB | apply QD | refine QK ?_ GE253.out) | exact HB.out)⟩⟩
                 ·rw [if_neg c82] at H
                  have c82b0 : (((rd_L1 l0_0 x81_4).length : Int) == (wrap64 ((wrap64 (a0_6 - t270)) - 1))) = false := beq_eq_false_iff_ne.mpr c82
                  have c82b1 : (((rd_L1 l0_0 x81_4).length : Int) != (wrap64 ((wrap64 (a0_6 - t270)) - 1))) = true := bne_iff_ne.mpr c82
                  obtain rfl := Option.some.inj H
                  (try simp only [c82b0, c82b1])
                  try go_wp2
                  go_ret
                  exact ⟨by first | rfl | (simp [errW_none, errW_some] <;> rfl) | (simp [*, errW_none, errW_some] <;> rfl), by repeat (first | (with_reducible first | exact HB.out | apply QE | apply QB | apply QD | refine QK ?_ GE253.out) | exact HB.out)⟩
                ·rw [if_neg c81] at H
                 exact absurd H (by simp)
               ·rw [if_neg c80] at H
                exact absurd H (by simp)
              ·rw [if_neg c79] at H
               have c79b0 : decide ((Int.tmod (wrap64 ((wrap64 (x81_4 - a0_1)) + (l0_0.length : Int))) (l0_0.length : Int)) < (l0_3.length : Int)) = false := decide_eq_false c79
               clear c79
               (try simp only [c79b0])
               by_cases c80 : 0 ≤ x81_4
               ·rw [if_pos c80] at H
                have c80b0 : decide (0 ≤ x81_4) = true := decide_eq_true c80
                clear c80
                by_cases c81 : x81_4 < (l0_0.length : Int)
                ·rw [if_pos c81] at H
                 have c81b0 : decide (x81_4 < (l0_0.length : Int)) = true := decide_eq_true c81
                 clear c81
                 refine QJ (i := 11) (N := some 101) (v := ?_) (a' := ?_) #[Y1,Y1,Y1,Y1,Y1,Y1,Y1,Y1,Y1,Y1,Y1,Y1] rfl rfl (QF HT_.out (by kernel_rfl)) (fun _ _ _ h => h) (Or.inl ⟨by rfl, ?_⟩) ?_ ?_
                 rotate_left
                 ·intro w'
                  go_simp
                  with_reducible rfl
                 rotate_left
                 ·simp only [Act.put, QT, QU, QV, QG, QH]
                  rfl
                 refine done_ (done_of HT_.out (by kernel_rfl)) ?_
                 have hcz94_0 : w84.cell? ⟨gb253, 0, none⟩ = some (.slice A0_0 l0_0.length c0_0) := (QC BK253.out 0).trans rfl
                 have hcz94_1 : w84.cell? ⟨gb253, 1, none⟩ = some (.int .i64 a0_1) := (QC BK253.out 1).trans rfl
                 have hcz94_2 : w84.cell? ⟨gb253, 2, none⟩ = some (.int .i64 a0_2) := (QC BK253.out 2).trans rfl
                 have hcz94_3 : w84.cell? ⟨gb253, 3, none⟩ = some (.slice A0_3 l0_3.length c0_3) := (QC BK253.out 3).trans rfl
                 have hcz94_4 : w84.cell? ⟨gb253, 4, none⟩ = some (.slice A0_4 l0_4.length c0_4) := (QC BK253.out 4).trans rfl
                 have hcz94_5 : w84.cell? ⟨gb253, 5, none⟩ = some (.slice A0_5 l0_5.length c0_5) := (QC BK253.out 5).trans rfl
                 have hcz94_6 : w84.cell? ⟨gb253, 6, none⟩ = some (.int .i64 a0_6) := (QC BK253.out 6).trans rfl
                 have hfz94_0 := QI BK253.out 0
                 have hfz94_1 := QI BK253.out 1
                 have hfz94_2 := QI BK253.out 2
                 have hfz94_3 := QI BK253.out 3
                 have hfz94_4 := QI BK253.out 4
                 have hfz94_5 := QI BK253.out 5
                 have hfz94_6 := QI BK253.out 6
                 have p272 : 0 ≤ (x81_4 : Int) := of_decide_eq_true (by first | (with_reducible assumption) | assumption)
                 have q272 : x81_4 < (l0_0.length : Int) := of_decide_eq_true (by first | (with_reducible assumption) | assumption)
                 obtain ⟨ad272, A272_0, c272_0, e272, hx272_0, hl272_0, hi272_0⟩ := at_L1 HR0_0.out x81_4 p272 q272
                 cases e272
                 replace hx272_0 := (HB.out.cell (World.block_lt_of_cell? w _ hx272_0)).trans hx272_0
                 have HR272_0 := QW hi272_0
                 have HC272_0 := QW hl272_0
                 clear hi272_0 hl272_0
                 replace p272 := eq_true p272
                 replace q272 := eq_true q272
                 by_cases c91 : ((rd_L1 l0_0 x81_4).length : Int) = (wrap64 (a0_6 - t270))
                 ·rw [if_pos c91] at H
                  have c91b0 : (((rd_L1 l0_0 x81_4).length : Int) == (wrap64 (a0_6 - t270))) = true := beq_iff_eq.mpr c91
                  have c91b1 : (((rd_L1 l0_0 x81_4).length : Int) != (wrap64 (a0_6 - t270))) = false := bne_eq_false_iff_eq.mpr c91
                  clear c91
                  have H' := QW H
                  clear H
                  (try simp only [c91b0, c91b1])
                  try go_wp2
                  go_roundg k4
                  case measure => have := HJ1.out; have := HK2.out; have := HJ18.out; have := HK4.out; omega
                  case rel => exact ⟨(wrap64 (x81_4 + 1)), (by first | rfl | (simp; done) | (simp [*]; done)), H', ⟨by have := HJ1.out; have := HK2.out; have := HJ18.out; have := HK4.out; omega⟩, ⟨by (with_reducible repeat (first | apply QN | apply QO | apply QP)); exact HO_254003.out⟩, ⟨by (with_reducible repeat (first | refine QL ?_ _ | refine QR ?_ | refine QM ?_ _)); exact BK253.out⟩, ⟨by repeat (first | (with_reducible first | exact HB.out | apply QE | apply QB | apply QD | refine QK ?_ GE253.out) | exact HB.out)⟩⟩
                 ·rw [if_neg c91] at H
                  have c91b0 : (((rd_L1 l0_0 x81_4).length : Int) == (wrap64 (a0_6 - t270))) = false := beq_eq_false_iff_ne.mpr c91
                  have c91b1 : (((rd_L1 l0_0 x81_4).length : Int) != (wrap64 (a0_6 - t270))) = true := bne_iff_ne.mpr c91
                  obtain rfl := Option.some.inj H
                  (try simp only [c91b0, c91b1])
                  try go_wp2
                  go_ret
                  exact ⟨by first | rfl | (simp [errW_none, errW_some] <;> rfl) | (simp [*, errW_none, errW_some] <;> rfl), by repeat (first | (with_reducible first | exact HB.out | apply QE | apply QB | apply QD | refine QK ?_ GE253.out) | exact HB.out)⟩
                ·rw [if_neg c81] at H
                 exact absurd H (by simp)
               ·rw [if_neg c80] at H
                exact absurd H (by simp)
            ·rw [if_neg c76] at H
             have c76b0 : decide (x81_4 < (l0_0.length : Int)) = false := decide_eq_false c76
             clear c76
             obtain rfl := Option.some.inj H
             go_wp2
             go_ret
             exact ⟨by first | rfl | (simp [errW_none, errW_some] <;> rfl) | (simp [*, errW_none, errW_some] <;> rfl), by repeat (first | (with_reducible first | exact HB.out | apply QE | apply QB | apply QD | refine QK ?_ GE253.out) | exact HB.out)⟩

/-! ### impl_Sorted: function 131 -/
-- impl.Sorted stands with spec.Sorted.

/-! ### impl_sizes: function 133 -/
def impl_sizes.l0 : Nat → List Int → List (List Int) → Int → Int → Option (List Int)
 | 0, _, _, _, _ => none
 | k + 1, x3, x7, x8, x9 => if x9 < x8 then (if 0 ≤ x9 then (if x9 < (x7.length : Int) then (if x3.length < 17592186044416 then (impl_sizes.l0 k (x3 ++ [((rd_L1 x7 x9).length : Int)]) x7 x8 (wrap64 (x9 + 1))) else (none)) else (none)) else (none)) else (some x3)
def impl_sizes.f (k : Nat) (l0 : List (List Int)) : Option (List Int) := impl_sizes.l0 k (([] : List Int)) l0 (l0.length : Int) 0
theorem impl_sizes.mono_l : ∀ k, (∀ y0 y1 y2 y3, LeO (impl_sizes.l0 k y0 y1 y2 y3) (impl_sizes.l0 (k + 1) y0 y1 y2 y3))
 | 0 => fun _ _ _ _ r h => by simp [impl_sizes.l0] at h
 | k + 1 => by
  have ih0 := impl_sizes.mono_l k
  ·intro y0 y1 y2 y3
   unfold impl_sizes.l0
   repeat' first
   | (with_reducible exact ih0 _ _ _ _)
   | (with_reducible exact LeO.refl _)
   | (with_reducible exact LeO.none _)
   | (with_reducible refine LeO.ite ?_ ?_)
   | (with_reducible refine LeO.bind ?_ (fun _ => ?_))
   | exact ih0 _ _ _ _
   | exact LeO.none _
   | refine LeO.ite ?_ ?_
   | refine LeO.bind ?_ (fun _ => ?_)
theorem impl_sizes.mono : ∀ a0 k, LeO (impl_sizes.f k a0) (impl_sizes.f (k + 1) a0) := by
 intro a0 k
 have ih0 := impl_sizes.mono_l k
 unfold impl_sizes.f
 repeat' first
   | (with_reducible exact ih0 _ _ _ _)
   | (with_reducible exact LeO.refl _)
   | (with_reducible exact LeO.none _)
   | (with_reducible refine LeO.ite ?_ ?_)
   | (with_reducible refine LeO.bind ?_ (fun _ => ?_))
   | exact ih0 _ _ _ _
   | exact LeO.none _
   | refine LeO.ite ?_ ?_
   | refine LeO.bind ?_ (fun _ => ?_)
set_option maxHeartbeats 8000000 in
set_option maxRecDepth 100000 in
theorem impl_sizes.calls (k : Nat) (A0 : Option Addr) (c0 : Nat) (l0 : List (List Int)) (r : List Int) (w : World) (hr0 : Kd.C (Kd.slice 3 (Kd.int .i64)) w A0 l0.length l0) (hc0 : l0.length ≤ c0) (h : impl_sizes.f k l0 = some r) :
  Calls Try.prog 133 #[.slice A0 l0.length c0] w fun e w' => ∃ v0_ : Value, e = .returned (v0_) ∧ Kd.R (Kd.int .i64) 3 w' w.heap.size (fun _ => True) v0_ r ∧ Below w.heap.size w w' := by
 have HR0 := QW hr0
 have HC0 := QW hc0
 clear hr0 hc0
 have HB := QW (Below.refl w.heap.size w)
 have H : (impl_sizes.l0 k (([] : List Int)) l0 (l0.length : Int) 0) = some r := h
 clear h
 obtain ⟨y279, hy279⟩ : ∃ y_ : List Int, y_ = (([] : List Int)) := ⟨_, rfl⟩
 replace H : (impl_sizes.l0 k y279 l0 (l0.length : Int) 0) = some r := by first | (rw [hy279]; with_reducible exact H) | (have H2_ := (Option.bind_some _ _).symm.trans H; rw [hy279]; with_reducible exact H2_) | (have H2_ := (Option.bind_some _ _).symm.trans H; with_reducible exact H2_) | with_reducible exact H | (rw [hy279]; exact H) | exact H
 have Ny279 := QW hy279
 clear hy279
 have H' := QW H
 clear H
 go_enter Try.func133, Try.ntmps133
 go_wp2_with (first | ((with_reducible refine gate_dst (N := 6) rfl ?_); refine Kd.R_lit (Kd.int .i64) _ 3 ?hg (N := 6) ?hd (xs := ([] : List Int)) (inner := []) (ok := fun _ => True) (okp := fun _ => True) ?hr ?hp (fun _ hk => hk) trivial (Below.refl _ _) (Nat.le_refl _) (by simp) ?_; (case hd => rfl); (case hg => rfl); (case hr => first | (go_simp; done) | (go_simp; rfl)); (case hp => exact (Reps.none _ _)); intro v280 w2 ho3 hb hg_ hnew_; clear hg_ hnew_; (first | rw [← Ny279.out] at ho3 | (simp only [Int.reduceToNat] at ho3; rw [← Ny279.out] at ho3)); have n0_ := QW (Kd.R_lower ho3 (QS (by repeat (first | (with_reducible first | exact HB.out | apply QE | apply QB | apply QD) | exact HB.out)))); have n1_ := QW (below_step (by repeat (first | (with_reducible first | exact HB.out | apply QE | apply QB | apply QD) | exact HB.out)) hb); clear HB; have HO281 := n0_; have HB := n1_; clear n0_ n1_; clear hb ho3))
 go_loopg [3, 9] k (fun kq v3 v9 w' => ∃ (x3_1 : List Int) (x9_1 : Int), v9 = .int .i64 x9_1 ∧ Aside0 (impl_sizes.l0 kq x3_1 l0 (l0.length : Int) x9_1 = some r) ∧ Aside0 (kq ≤ k) ∧ Aside0 (Kd.R (Kd.int .i64) 3 w' w.heap.size (fun _ => True) v3 x3_1) ∧ Aside0 (Below w.heap.size w w'))
 case atStart => exact ⟨(y279), (0), (by first | rfl | (simp; done) | (simp [*]; done)), H', ⟨Nat.le_refl _⟩, ⟨by (with_reducible repeat (first | apply Kd.R_alloc | apply Kd.R_drewN | apply Kd.R_drew)); exact HO281.out⟩, ⟨by repeat (first | (with_reducible first | exact HB.out | apply QE | apply QB | apply QD) | exact HB.out)⟩⟩
 case round =>
  clear H'
  try clear c1
  try clear p2
  obtain ⟨x3_1, x9_1, rfl, HA, HK1, HO_3, HB⟩ := hrel
  cases gk with
  | zero => exact absurd HA.out (by simp [impl_sizes.l0])
  | succ k1 =>
   have H := HA.out
   clear HA
   simp only [impl_sizes.l0] at H
   by_cases c4 : x9_1 < (l0.length : Int)
   ·rw [if_pos c4] at H
    have c4b0 : decide (x9_1 < (l0.length : Int)) = true := decide_eq_true c4
    clear c4
    by_cases c5 : 0 ≤ x9_1
    ·rw [if_pos c5] at H
     have c5b0 : decide (0 ≤ x9_1) = true := decide_eq_true c5
     clear c5
     by_cases c6 : x9_1 < (l0.length : Int)
     ·rw [if_pos c6] at H
      have c6b0 : decide (x9_1 < (l0.length : Int)) = true := decide_eq_true c6
      clear c6
      by_cases c7 : x3_1.length < 17592186044416
      ·rw [if_pos c7] at H
       have LMc7 := QW c7
       clear c7
       obtain ⟨y283, hy283⟩ : ∃ y_ : List Int, y_ = (x3_1 ++ [((rd_L1 l0 x9_1).length : Int)]) := ⟨_, rfl⟩
       replace H : (impl_sizes.l0 k1 y283 l0 (l0.length : Int) (wrap64 (x9_1 + 1))) = some r := by first | (rw [hy283]; with_reducible exact H) | (have H2_ := (Option.bind_some _ _).symm.trans H; rw [hy283]; with_reducible exact H2_) | (have H2_ := (Option.bind_some _ _).symm.trans H; with_reducible exact H2_) | with_reducible exact H | (rw [hy283]; exact H) | exact H
       have Ny283 := QW hy283
       clear hy283
       have H' := QW H
       clear H
       have p282 : 0 ≤ (x9_1 : Int) := of_decide_eq_true (by first | (with_reducible assumption) | assumption)
       have q282 : x9_1 < (l0.length : Int) := of_decide_eq_true (by first | (with_reducible assumption) | assumption)
       obtain ⟨ad282, A282_0, c282_0, e282, hx282_0, hl282_0, hi282_0⟩ := at_L1 HR0.out x9_1 p282 q282
       cases e282
       replace hx282_0 := (HB.out.cell (World.block_lt_of_cell? w _ hx282_0)).trans hx282_0
       have HR282_0 := QW hi282_0
       have HC282_0 := QW hl282_0
       clear hi282_0 hl282_0
       replace p282 := eq_true p282
       replace q282 := eq_true q282
       go_wp2_with (first | ((with_reducible refine gate_builtin (b := .append) (xs := #[.tmp 13, .tmp 16]) rfl ?_); at_builtin; refine Kd.R_append (Kd.int .i64) (w0 := w) w.heap.size rfl (.tmp 13) (.tmp 16) 24 3 (.int .i64 0) 8 rfl Try.underlying24 info3 rfl (by decide) (by omega) u3 x3_1 ((rd_L1 l0 x9_1).length : Int) [.int .i64 ((rd_L1 l0 x9_1).length : Int)] (fun _ => True) (fun _ => False) rfl rfl ?aP (fun _ hk => hk.elim) ?aF ?aO ?aB ?aS ?aL ?_; (case aP => exact rfl); (case aB => exact (by repeat (first | (with_reducible first | exact HB.out | apply QE | apply QB | apply QD) | exact HB.out))); (case aF => exact (fun _ _ => trivial)); (case aO => exact (by (with_reducible repeat (first | apply Kd.R_alloc | apply Kd.R_drewN | apply Kd.R_drew)); exact HO_3.out)); (case aS => exact (QS (by repeat (first | (with_reducible first | exact HB.out | apply QE | apply QB | apply QD) | exact HB.out)))); (case aL => have := LMc7.out; omega); intro v284 w8 ho hb hg hat; rw [← Ny283.out] at ho; have n0_ := QW (hb); have n1_ := QW (ho); clear HB; clear HO_3; have HB := n0_; have HO285 := n1_; clear n0_ n1_; clear ho hb hg hat))
       go_roundg k1
       case measure => have := HK1.out; omega
       case rel => exact ⟨(y283), (wrap64 (x9_1 + 1)), (by first | rfl | (simp; done) | (simp [*]; done)), H', ⟨by have := HK1.out; omega⟩, ⟨by (with_reducible repeat (first | apply Kd.R_alloc | apply Kd.R_drewN | apply Kd.R_drew)); exact HO285.out⟩, ⟨by repeat (first | (with_reducible first | exact HB.out | apply QE | apply QB | apply QD) | exact HB.out)⟩⟩
      ·rw [if_neg c7] at H
       exact absurd H (by simp)
     ·rw [if_neg c6] at H
      exact absurd H (by simp)
    ·rw [if_neg c5] at H
     exact absurd H (by simp)
   ·rw [if_neg c4] at H
    have c4b0 : decide (x9_1 < (l0.length : Int)) = false := decide_eq_false c4
    clear c4
    obtain rfl := Option.some.inj H
    go_wp2
    go_ret
    exact ⟨_, by first | rfl | (simp [errW_none, errW_some] <;> rfl) | (simp [*, errW_none, errW_some] <;> rfl), by (with_reducible repeat (first | apply Kd.R_alloc | apply Kd.R_drewN | apply Kd.R_drew)); exact HO_3.out, by repeat (first | (with_reducible first | exact HB.out | apply QE | apply QB | apply QD) | exact HB.out)⟩

end Go.Proofs.Ytkhgeockdjjhmaa.QFnExactSightOf
