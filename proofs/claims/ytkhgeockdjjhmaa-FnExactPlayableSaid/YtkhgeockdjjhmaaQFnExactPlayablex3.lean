/- What a call of each Go function that FnExactPlayable reaches comes to, as a Lean function: texts of the kit's print, turned by wip/remake.py. No condition beyond what each names. -/
import Derived.Test.YtkhgeockdjjhmaaQFnExactPlayablex2
namespace Go.Proofs.Ytkhgeockdjjhmaa.QFnExactPlayable
open Go.RowKit Go.Proofs.YtkhgeockdjjhmaaW.PrintWords Go.Proofs.YtkhgeockdjjhmaaW.PrintLast Go.Proofs.YtkhgeockdjjhmaaW.PrintMore
open Go.Proofs.YtkhgeockdjjhmaaW.PrintWords renaming blk_frozen → QB, blk_cell → QC, pw_below_drewN → QD, below_drew1 → QE, below_alloc → QF, below_size → QK
open Go.Proofs.YtkhgeockdjjhmaaW.PrintLast renaming i64_w → QG, i32_w → QH, any_of → QI, pure_ → QJ
open List renaming setIfInBounds_toArray → QL, set_cons_zero → QM, set_cons_succ → QN
open Go.Proofs.YtkhgeockdjjhmaaW.PrintWords.Aside0 renaming mk → QO
open Bool renaming true → Y1, false → Y0
attribute [local go_sem] max2_int min2_int max_two min_two max_three min_three max_four min_four   -- for this text's walks alone
set_option linter.unusedVariables false
set_option linter.unusedSimpArgs false

/-! ### spec_Matches: function 143 -/
mutual
def spec_Matches.j0 : Nat → List Int → Int → Bool → Option (Bool)
 | 0, _, _, _ => none
 | k + 1, x0, x1, x15 => if x15 = true then (some false) else (spec_Matches.l0 k x0 x1 (([] : List Bool)) 0)
def spec_Matches.l0 : Nat → List Int → Int → List Bool → Int → Option (Bool)
 | 0, _, _, _, _ => none
 | k + 1, x0, x1, x5, x6 => if x6 < (x0.length : Int) then (if 0 ≤ x6 then (if (rd x0 x6) = (-1) then (if 0 ≤ (wrap64 ((x5.length : Int) - 1)) then (if (wrap64 ((x5.length : Int) - 1)) < (x5.length : Int) then (spec_Matches.l0 k x0 x1 (x5.set ((wrap64 ((x5.length : Int) - 1)) : Int).toNat (!(rdOf false x5 (wrap64 ((x5.length : Int) - 1))))) (wrap64 (x6 + 1))) else (none)) else (none)) else (if (rd x0 x6) = (-2) then (if 0 ≤ (wrap64 ((x5.length : Int) - 2)) then (if (wrap64 ((x5.length : Int) - 2)) < (x5.length : Int) then (if rdOf false x5 (wrap64 ((x5.length : Int) - 2)) = true then (if 0 ≤ (wrap64 ((x5.length : Int) - 1)) then (if (wrap64 ((x5.length : Int) - 1)) < (x5.length : Int) then (if (wrap64 ((x5.length : Int) - 2)) ≤ (x5.length : Int) then ((some (x5.take ((wrap64 ((x5.length : Int) - 2)) : Int).toNat : List Bool)).bind fun y237 => (if y237.length < 140737488355328 then (spec_Matches.l0 k x0 x1 (y237 ++ [rdOf false x5 (wrap64 ((x5.length : Int) - 1))]) (wrap64 (x6 + 1))) else (none))) else (none)) else (none)) else (none)) else (if (wrap64 ((x5.length : Int) - 2)) ≤ (x5.length : Int) then ((some (x5.take ((wrap64 ((x5.length : Int) - 2)) : Int).toNat : List Bool)).bind fun y243 => (if y243.length < 140737488355328 then (spec_Matches.l0 k x0 x1 (y243 ++ [false]) (wrap64 (x6 + 1))) else (none))) else (none))) else (none)) else (none)) else (if (rd x0 x6) = (-3) then (if 0 ≤ (wrap64 ((x5.length : Int) - 2)) then (if (wrap64 ((x5.length : Int) - 2)) < (x5.length : Int) then (if rdOf false x5 (wrap64 ((x5.length : Int) - 2)) = true then (if (wrap64 ((x5.length : Int) - 2)) ≤ (x5.length : Int) then ((some (x5.take ((wrap64 ((x5.length : Int) - 2)) : Int).toNat : List Bool)).bind fun y250 => (if y250.length < 140737488355328 then (spec_Matches.l0 k x0 x1 (y250 ++ [true]) (wrap64 (x6 + 1))) else (none))) else (none)) else (if 0 ≤ (wrap64 ((x5.length : Int) - 1)) then (if (wrap64 ((x5.length : Int) - 1)) < (x5.length : Int) then (if (wrap64 ((x5.length : Int) - 2)) ≤ (x5.length : Int) then ((some (x5.take ((wrap64 ((x5.length : Int) - 2)) : Int).toNat : List Bool)).bind fun y257 => (if y257.length < 140737488355328 then (spec_Matches.l0 k x0 x1 (y257 ++ [rdOf false x5 (wrap64 ((x5.length : Int) - 1))]) (wrap64 (x6 + 1))) else (none))) else (none)) else (none)) else (none))) else (none)) else (none)) else ((spec_l8Value.f (rd x0 x6) x1).bind fun t264 => (if x5.length < 140737488355328 then (spec_Matches.l0 k x0 x1 (x5 ++ [t264]) (wrap64 (x6 + 1))) else (none)))))) else (none)) else (if 0 < (x5.length : Int) then (some (rdOf false x5 0)) else (none))
end
def spec_Matches.f (k : Nat) (l0 : List Int) (a1 : Int) : Option (Bool) := (spec_IsPattern.f k l0).bind fun t226 => (if t226 = true then ((spec_IsCard.f a1).bind fun t227 => (spec_Matches.j0 k l0 a1 (!t227))) else (spec_Matches.j0 k l0 a1 true))
theorem spec_Matches.mono_l : ∀ k, (∀ y0 y1 y2, LeO (spec_Matches.j0 k y0 y1 y2) (spec_Matches.j0 (k + 1) y0 y1 y2)) ∧ (∀ y0 y1 y2 y3, LeO (spec_Matches.l0 k y0 y1 y2 y3) (spec_Matches.l0 (k + 1) y0 y1 y2 y3))
 | 0 => ⟨fun _ _ _ r h => by simp [spec_Matches.j0] at h, fun _ _ _ _ r h => by simp [spec_Matches.l0] at h⟩
 | k + 1 => by
  obtain ⟨ih0, ih1⟩ := spec_Matches.mono_l k
  refine ⟨?_, ?_⟩
  ·intro y0 y1 y2
   unfold spec_Matches.j0
   repeat' first
   | (with_reducible exact ih0 _ _ _)
   | (with_reducible exact ih1 _ _ _ _)
   | (with_reducible exact spec_IsPattern.mono _ _)
   | (with_reducible exact LeO.refl _)
   | (with_reducible exact LeO.none _)
   | (with_reducible refine LeO.ite ?_ ?_)
   | (with_reducible refine LeO.bind ?_ (fun _ => ?_))
   | exact ih0 _ _ _
   | exact ih1 _ _ _ _
   | exact spec_IsPattern.mono _ _
   | exact LeO.none _
   | refine LeO.ite ?_ ?_
   | refine LeO.bind ?_ (fun _ => ?_)
  ·intro y0 y1 y2 y3
   unfold spec_Matches.l0
   repeat' first
   | (with_reducible exact ih0 _ _ _)
   | (with_reducible exact ih1 _ _ _ _)
   | (with_reducible exact spec_IsPattern.mono _ _)
   | (with_reducible exact LeO.refl _)
   | (with_reducible exact LeO.none _)
   | (with_reducible refine LeO.ite ?_ ?_)
   | (with_reducible refine LeO.bind ?_ (fun _ => ?_))
   | exact ih0 _ _ _
   | exact ih1 _ _ _ _
   | exact spec_IsPattern.mono _ _
   | exact LeO.none _
   | refine LeO.ite ?_ ?_
   | refine LeO.bind ?_ (fun _ => ?_)
theorem spec_Matches.mono : ∀ a0 a1 k, LeO (spec_Matches.f k a0 a1) (spec_Matches.f (k + 1) a0 a1) := by
 intro a0 a1 k
 obtain ⟨ih0, ih1⟩ := spec_Matches.mono_l k
 unfold spec_Matches.f
 repeat' first
   | (with_reducible exact ih0 _ _ _)
   | (with_reducible exact ih1 _ _ _ _)
   | (with_reducible exact spec_IsPattern.mono _ _)
   | (with_reducible exact LeO.refl _)
   | (with_reducible exact LeO.none _)
   | (with_reducible refine LeO.ite ?_ ?_)
   | (with_reducible refine LeO.bind ?_ (fun _ => ?_))
   | exact ih0 _ _ _
   | exact ih1 _ _ _ _
   | exact spec_IsPattern.mono _ _
   | exact LeO.none _
   | refine LeO.ite ?_ ?_
   | refine LeO.bind ?_ (fun _ => ?_)
def spec_Matches.T13 : Bool × List (List Nat × List Nat) := (true, [([], []), ([], []), ([1], [1]), ([0, 2], [0, 2]), ([], []), ([], []), ([5], [5]), ([4, 6], [4, 6]), ([7], [7]), ([8], [8]), ([9], [9]), ([9], [9]), ([11, 9], [9, 11]), ([10, 12, 9], [9, 10, 12]), ([13, 9], [9, 13]), ([9, 14], [9, 14]), ([15], [15]), ([3, 16, 9], [3, 16]), ([17, 17, 0, 1, 2, 3, 4, 5, 6, 7, 8, 9, 10, 11, 12, 13, 14, 15, 16, 17], [0, 4, 10, 17])])
def spec_Matches.B13 : List Nat := [0, 0, 2, 7, 0, 0, 32, 112, 240, 496, 1008, 1008, 3056, 8176, 16368, 32752, 65520, 131071, 262143]
theorem spec_Matches.tab13 : rtab .any (opsOf Try.f143 13) = spec_Matches.T13 := by kernel_rfl
theorem spec_Matches.bits13 : waitsOk spec_Matches.T13.2 spec_Matches.B13 = true := by kernel_rfl
def spec_Matches.T15 : Bool × List (List Nat × List Nat) := (true, [([], []), ([], []), ([1], [1]), ([0, 2], [0, 2]), ([], []), ([], []), ([5], [5]), ([4, 6], [4, 6]), ([7], [7]), ([8], [8]), ([9], [9]), ([9], [9]), ([11, 9], [9, 11]), ([10, 12, 9], [9, 10, 12]), ([13, 9], [9, 13]), ([9, 14], [9, 14]), ([15], [15]), ([3, 16, 9], [3, 16]), ([17, 17, 0, 1, 2, 3, 4, 5, 6, 7, 8, 9, 10, 11, 12, 13, 14, 15, 16, 17], [0, 4, 10, 17])])
def spec_Matches.B15 : List Nat := [0, 0, 2, 7, 0, 0, 32, 112, 240, 496, 1008, 1008, 3056, 8176, 16368, 32752, 65520, 131071, 262143]
theorem spec_Matches.tab15 : rtab .any (opsOf Try.f143 15) = spec_Matches.T15 := by kernel_rfl
theorem spec_Matches.bits15 : waitsOk spec_Matches.T15.2 spec_Matches.B15 = true := by kernel_rfl
set_option maxHeartbeats 8000000 in
set_option maxRecDepth 100000 in
theorem spec_Matches.calls (k : Nat) (A0 : Option Addr) (c0 : Nat) (l0 : List Int) (a1 : Int) (r : Bool) (w : World) (hr0 : Kd.C (Kd.int .i64) w A0 l0.length l0) (hc0 : l0.length ≤ c0) (h : spec_Matches.f k l0 a1 = some r) :
  Calls Try.prog 143 #[.slice A0 l0.length c0, .int .i64 a1] w fun e w' => e = .returned (.bool r) ∧ Below w.heap.size w w' := by
 have HR0 := QO hr0
 have HC0 := QO hc0
 clear hr0 hc0
 have HB := QO (Below.refl w.heap.size w)
 have H : ((spec_IsPattern.f k l0).bind fun t226 => (if t226 = true then ((spec_IsCard.f a1).bind fun t227 => (spec_Matches.j0 k l0 a1 (!t227))) else (spec_Matches.j0 k l0 a1 true))) = some r := h
 clear h
 have HC3 := QO H
 clear H
 go_enter Try.func143, Try.ntmps143
 go_upto_region 1 with (fail)
 go_cut [15] (fun v15 wc => ∃ (kq : Nat) (x15_2 : Bool), v15 = .bool x15_2 ∧ Aside0 (spec_Matches.j0 kq l0 a1 x15_2 = some r) ∧ Aside0 (kq ≤ k) ∧ Aside0 (Below w.heap.size w wc))
 case first =>
  have H := HC3.out
  clear HC3
  replace H := Option.bind_eq_some_iff.mp H
  obtain ⟨t226, A40, H⟩ := H
  have A4 := QO A40
  clear A40
  by_cases c5 : t226 = true
  ·subst c5
   rw [if_pos rfl] at H
   replace H := Option.bind_eq_some_iff.mp H
   obtain ⟨t227, A60, H⟩ := H
   have A6 := QO A60
   clear A60
   have H' := QO H
   clear H
   go_wp2_with (first | ((with_reducible refine gate_callee (f := 167) rfl ?_); refine goesL_ (some 9) rfl rfl Try.func167 (by kernel_rfl) rfl #[.slice A0 l0.length c0] rfl (by (try simp only [List.map_toArray, List.map_cons, List.map_nil]); first | done | rfl | (simp only [List.length_drop, List.length_take]; rfl)) ?_; (with_reducible refine (spec_IsPattern.calls k _ _ l0 true _ ?side1 ?side2 A4.out).mono ?_); (case side1 => repeat (first | exact (Kd.C_below HR0.out HB.out) | (with_reducible refine Kd.C_alloc ?_ _) | (with_reducible refine Kd.C_drewN ?_ _) | (with_reducible refine Kd.C_drew ?_))); (case side2 => exact HC0.out); rintro e w' ⟨rfl, ⟨nd, rfl⟩⟩; refine ⟨_, rfl, ?_⟩) | (go_at_call 141; (with_reducible refine (spec_IsCard.calls a1 t227 _ A6.out).mono ?_); rintro e w' ⟨rfl, ⟨nd, rfl⟩⟩))
   go_meet
   case rel => exact ⟨_, (!t227), (by first | rfl | (simp; done) | (simp [*]; done)), H', ⟨by first | omega | exact Nat.le_refl _⟩, ⟨by repeat (first | (with_reducible first | exact HB.out | apply QF | apply QD | apply QE) | exact HB.out)⟩⟩
  ·replace c5 := Bool.eq_false_iff.mpr c5
   subst c5
   rw [if_neg (show ¬ (false = true) by decide)] at H
   have H' := QO H
   clear H
   go_wp2_with (first | ((with_reducible refine gate_callee (f := 167) rfl ?_); refine goesL_ (some 9) rfl rfl Try.func167 (by kernel_rfl) rfl #[.slice A0 l0.length c0] rfl (by (try simp only [List.map_toArray, List.map_cons, List.map_nil]); first | done | rfl | (simp only [List.length_drop, List.length_take]; rfl)) ?_; (with_reducible refine (spec_IsPattern.calls k _ _ l0 false _ ?side1 ?side2 A4.out).mono ?_); (case side1 => repeat (first | exact (Kd.C_below HR0.out HB.out) | (with_reducible refine Kd.C_alloc ?_ _) | (with_reducible refine Kd.C_drewN ?_ _) | (with_reducible refine Kd.C_drew ?_))); (case side2 => exact HC0.out); rintro e w' ⟨rfl, ⟨nd, rfl⟩⟩; refine ⟨_, rfl, ?_⟩))
   go_meet
   case rel => exact ⟨_, (true), (by first | rfl | (simp; done) | (simp [*]; done)), H', ⟨by first | omega | exact Nat.le_refl _⟩, ⟨by repeat (first | (with_reducible first | exact HB.out | apply QF | apply QD | apply QE) | exact HB.out)⟩⟩
 case rest =>
  clear HC3
  try clear c1
  try clear p2
  try clear c5
  obtain ⟨kq, x15_2, rfl, HA, HJ2, HB⟩ := hcut
  cases kq with
  | zero => exact absurd HA.out (by simp [spec_Matches.j0])
  | succ kj2 =>
   have H := HA.out
   clear HA
   simp only [spec_Matches.j0] at H
   by_cases c7 : x15_2 = true
   ·subst c7
    rw [if_pos rfl] at H
    obtain rfl := Option.some.inj H
    go_wp2
    go_ret
    exact ⟨by first | rfl | (simp [errW_none, errW_some] <;> rfl) | (simp [*, errW_none, errW_some] <;> rfl), by repeat (first | (with_reducible first | exact HB.out | apply QF | apply QD | apply QE) | exact HB.out)⟩
   ·replace c7 := Bool.eq_false_iff.mpr c7
    subst c7
    rw [if_neg (show ¬ (false = true) by decide)] at H
    obtain ⟨y228, hy228⟩ : ∃ y_ : List Bool, y_ = (([] : List Bool)) := ⟨_, rfl⟩
    replace H : (spec_Matches.l0 kj2 l0 a1 y228 0) = some r := by first | (rw [hy228]; with_reducible exact H) | (have H2_ := (Option.bind_some _ _).symm.trans H; rw [hy228]; with_reducible exact H2_) | (have H2_ := (Option.bind_some _ _).symm.trans H; with_reducible exact H2_) | with_reducible exact H | (rw [hy228]; exact H) | exact H
    have Ny228 := QO hy228
    clear hy228
    have H' := QO H
    clear H
    go_wp2_with (first | ((with_reducible refine gate_dst (N := 16) rfl ?_); refine Kd.R_lit Kd.bool _ 4 ?hg (N := 16) ?hd (xs := ([] : List Bool)) (inner := []) (ok := fun _ => True) (okp := fun _ => True) ?hr ?hp (fun _ hk => hk) trivial (Below.refl _ _) (Nat.le_refl _) (by simp) ?_; (case hd => rfl); (case hg => rfl); (case hr => first | (go_simp; done) | (go_simp; rfl)); (case hp => exact (Reps.none _ _)); intro v229 w8 ho9 hb hg_ hnew_; clear hg_ hnew_; (first | rw [← Ny228.out] at ho9 | (simp only [Int.reduceToNat] at ho9; rw [← Ny228.out] at ho9)); have n0_ := QO (Kd.R_lower ho9 (QK (by repeat (first | (with_reducible first | exact HB.out | apply QF | apply QD | apply QE) | exact HB.out)))); have n1_ := QO (below_step (by repeat (first | (with_reducible first | exact HB.out | apply QF | apply QD | apply QE) | exact HB.out)) hb); clear HB; have HO230 := n0_; have HB := n1_; clear n0_ n1_; clear hb ho9))
    go_loopg [5, 6] kj2 (fun kq v5 v6 w' => ∃ (x5_2 : List Bool) (x6_2 : Int), v6 = .int .i64 x6_2 ∧ Aside0 (spec_Matches.l0 kq l0 a1 x5_2 x6_2 = some r) ∧ Aside0 (kq ≤ kj2) ∧ Aside0 (Kd.R Kd.bool 4 w' w.heap.size (fun _ => True) v5 x5_2) ∧ Aside0 (Below w.heap.size w w'))
    case atStart => exact ⟨(y228), (0), (by first | rfl | (simp; done) | (simp [*]; done)), H', ⟨Nat.le_refl _⟩, ⟨by (with_reducible repeat (first | apply Kd.R_alloc | apply Kd.R_drewN | apply Kd.R_drew)); exact HO230.out⟩, ⟨by repeat (first | (with_reducible first | exact HB.out | apply QF | apply QD | apply QE) | exact HB.out)⟩⟩
    case round =>
     clear H'
     try clear c1
     try clear p2
     try clear c5
     try clear c7
     try clear p2
     obtain ⟨x5_2, x6_2, rfl, HA, HK2, HO_5, HB⟩ := hrel
     cases gk with
     | zero => exact absurd HA.out (by simp [spec_Matches.l0])
     | succ k2 =>
      have H := HA.out
      clear HA
      simp only [spec_Matches.l0] at H
      by_cases c10 : x6_2 < (l0.length : Int)
      ·rw [if_pos c10] at H
       have c10b0 : decide (x6_2 < (l0.length : Int)) = true := decide_eq_true c10
       clear c10
       by_cases c11 : 0 ≤ x6_2
       ·rw [if_pos c11] at H
        have c11b0 : decide (0 ≤ x6_2) = true := decide_eq_true c11
        clear c11
        by_cases c12 : (rd l0 x6_2) = (-1)
        ·rw [if_pos c12] at H
         have c12b0 : ((rd l0 x6_2) == (-1)) = true := beq_iff_eq.mpr c12
         have c12b1 : ((rd l0 x6_2) != (-1)) = false := bne_eq_false_iff_eq.mpr c12
         clear c12
         obtain ⟨ji13, hji13⟩ : ∃ j_ : Int, (wrap64 ((x5_2.length : Int) - 1)) = j_ := ⟨_, rfl⟩
         replace H : (if 0 ≤ (ji13) then (if (ji13) < (x5_2.length : Int) then (spec_Matches.l0 k2 l0 a1 (x5_2.set ((ji13) : Int).toNat (!(rdOf false x5_2 (ji13)))) (wrap64 (x6_2 + 1))) else (none)) else (none)) = some r := by first | (rw [hji13] at H; exact H) | (simp only [hji13] at H ⊢; exact H)
         have hji13w : (IntKind.i64.wrap ((x5_2.length : Int) - 1)) = ji13 := (QG _).trans hji13
         by_cases c14 : 0 ≤ (ji13)
         ·rw [if_pos c14] at H
          have c14b0 : decide (0 ≤ (ji13)) = true := decide_eq_true c14
          clear c14
          by_cases c15 : (ji13) < (x5_2.length : Int)
          ·rw [if_pos c15] at H
           have c15b0 : decide ((ji13) < (x5_2.length : Int)) = true := decide_eq_true c15
           clear c15
           obtain ⟨y234, hy234⟩ : ∃ y_ : List Bool, y_ = (x5_2.set ((ji13) : Int).toNat (!(rdOf false x5_2 (ji13)))) := ⟨_, rfl⟩
           replace H : (spec_Matches.l0 k2 l0 a1 y234 (wrap64 (x6_2 + 1))) = some r := by first | (rw [hy234]; with_reducible exact H) | (have H2_ := (Option.bind_some _ _).symm.trans H; rw [hy234]; with_reducible exact H2_) | (have H2_ := (Option.bind_some _ _).symm.trans H; with_reducible exact H2_) | with_reducible exact H | (rw [hy234]; exact H) | exact H
           have Ny234 := QO hy234
           clear hy234
           have H' := QO H
           clear H
           obtain ⟨Ao17, co17, eo17⟩ := Kd.R_slice HO_5.out
           subst eo17
           have p232 : 0 ≤ (x6_2 : Int) := of_decide_eq_true (by first | (with_reducible assumption) | assumption)
           have q232 : x6_2 < (l0.length : Int) := of_decide_eq_true (by first | (with_reducible assumption) | assumption)
           obtain ⟨ad232, e232, hx232_0⟩ := Kd.at_int HR0.out x6_2 p232 q232
           cases e232
           replace hx232_0 := (HB.out.cell (World.block_lt_of_cell? w _ hx232_0)).trans hx232_0
           replace p232 := eq_true p232
           replace q232 := eq_true q232
           have p233 : 0 ≤ ((ji13) : Int) := of_decide_eq_true (by first | (with_reducible assumption) | assumption)
           have q233 : (ji13) < (x5_2.length : Int) := of_decide_eq_true (by first | (with_reducible assumption) | assumption)
           obtain ⟨ad233, e233, hx233_0⟩ := Kd.at_bool (Kd.R_reads' HO_5.out).2.2 (ji13) p233 q233
           cases e233
           replace p233 := eq_true p233
           replace q233 := eq_true q233
           have p16 : 0 ≤ ((ji13) : Int) := of_decide_eq_true (by first | (with_reducible assumption) | assumption)
           have q16 : ((ji13) : Int) < ((x5_2.length : Int) : Int) := of_decide_eq_true (by first | (with_reducible assumption) | assumption)
           obtain ⟨go16, co16, eo16, gb16, gl16, cl16, HG16⟩ := Kd.R_form HO_5.out (by omega)
           (first | cases eo16 | (injection eo16 with ea_ en_ ec_; (first | subst ea_ | (injection ea_ with ea_; subst ea_)); subst ec_; clear en_))
           have GB16 := QO gb16
           have GG16 := QO HG16
           clear gb16 gl16 HG16
           (first | simp only [add_plain] at hx233_0 | skip)
           obtain ⟨hx16_0, hf16_0⟩ := Kd.R_celln false HO_5.out ((ji13) : Int) p16 q16
           replace p16 := eq_true p16
           replace q16 := eq_true q16
           have HP18 := Kd.R_putg HO_5.out ((ji13) : Int) (!(rdOf false x5_2 (ji13)))
           go_wp2_with (first | ((with_reducible refine gate_store (t := 4) (p := 49) rfl ?_); refine store_event (t := 4) (p := 49) (v := ?vo_w19) (w1 := (wr.setCell ⟨go16, ((ji13) : Int).toNat, none⟩ (.bool (!(rdOf false x5_2 (ji13)))))) ?hg ?ho ?hn ?hr ?_; (case ho => rfl); (case hg => rfl); (case hn => rfl); (case hr => first | (go_simp; done) | (go_simp; rfl)); intro w19 hw; have hg : wr.grownBy w19 (some go16) := (by rw [hw]; exact HP18.2); have hp_ : Kd.R Kd.bool 4 w19 w.heap.size (fun _ => True) (.slice (some ⟨go16, 0, none⟩) x5_2.length co17) y234 := (by rw [hw, Ny234.out]; exact HP18.1); clear HP18; have n0_ := QO (hp_); have n1_ := QO ((by rw [hw]; exact below_set (HB.out) GB16.out : Below w.heap.size w w19)); clear HO_5; clear HB; have HO_5 := n0_; have HB := n1_; clear n0_ n1_; clear hg hw hp_))
           go_roundg k2
           case measure => have := HJ2.out; have := HK2.out; omega
           case rel => exact ⟨(y234), (wrap64 (x6_2 + 1)), (by first | rfl | (simp; done) | (simp [*]; done)), H', ⟨by have := HJ2.out; have := HK2.out; omega⟩, ⟨by (with_reducible repeat (first | apply Kd.R_alloc | apply Kd.R_drewN | apply Kd.R_drew)); exact HO_5.out⟩, ⟨by repeat (first | (with_reducible first | exact HB.out | apply QF | apply QD | apply QE) | exact HB.out)⟩⟩
          ·rw [if_neg c15] at H
           exact absurd H (by simp)
         ·rw [if_neg c14] at H
          exact absurd H (by simp)
        ·rw [if_neg c12] at H
         have c12b0 : ((rd l0 x6_2) == (-1)) = false := beq_eq_false_iff_ne.mpr c12
         have c12b1 : ((rd l0 x6_2) != (-1)) = true := bne_iff_ne.mpr c12
         by_cases c20 : (rd l0 x6_2) = (-2)
         ·rw [if_pos c20] at H
          have c20b0 : ((rd l0 x6_2) == (-2)) = true := beq_iff_eq.mpr c20
          have c20b1 : ((rd l0 x6_2) != (-2)) = false := bne_eq_false_iff_eq.mpr c20
          clear c20
          obtain ⟨ji21, hji21⟩ : ∃ j_ : Int, (wrap64 ((x5_2.length : Int) - 2)) = j_ := ⟨_, rfl⟩
          replace H : (if 0 ≤ (ji21) then (if (ji21) < (x5_2.length : Int) then (if rdOf false x5_2 (ji21) = true then (if 0 ≤ (wrap64 ((x5_2.length : Int) - 1)) then (if (wrap64 ((x5_2.length : Int) - 1)) < (x5_2.length : Int) then (if (ji21) ≤ (x5_2.length : Int) then ((some (x5_2.take ((ji21) : Int).toNat : List Bool)).bind fun y237 => (if y237.length < 140737488355328 then (spec_Matches.l0 k2 l0 a1 (y237 ++ [rdOf false x5_2 (wrap64 ((x5_2.length : Int) - 1))]) (wrap64 (x6_2 + 1))) else (none))) else (none)) else (none)) else (none)) else (if (ji21) ≤ (x5_2.length : Int) then ((some (x5_2.take ((ji21) : Int).toNat : List Bool)).bind fun y243 => (if y243.length < 140737488355328 then (spec_Matches.l0 k2 l0 a1 (y243 ++ [false]) (wrap64 (x6_2 + 1))) else (none))) else (none))) else (none)) else (none)) = some r := by first | (rw [hji21] at H; exact H) | (simp only [hji21] at H ⊢; exact H)
          have hji21w : (IntKind.i64.wrap ((x5_2.length : Int) - 2)) = ji21 := (QG _).trans hji21
          by_cases c22 : 0 ≤ (ji21)
          ·rw [if_pos c22] at H
           have c22b0 : decide (0 ≤ (ji21)) = true := decide_eq_true c22
           clear c22
           by_cases c23 : (ji21) < (x5_2.length : Int)
           ·rw [if_pos c23] at H
            have c23b0 : decide ((ji21) < (x5_2.length : Int)) = true := decide_eq_true c23
            clear c23
            obtain ⟨bq24, hbq24⟩ : ∃ b_ : Bool, b_ = (rdOf false x5_2 (ji21)) := ⟨_, rfl⟩
            replace H : (if bq24 = true then (if 0 ≤ (wrap64 ((x5_2.length : Int) - 1)) then (if (wrap64 ((x5_2.length : Int) - 1)) < (x5_2.length : Int) then (if (ji21) ≤ (x5_2.length : Int) then ((some (x5_2.take ((ji21) : Int).toNat : List Bool)).bind fun y237 => (if y237.length < 140737488355328 then (spec_Matches.l0 k2 l0 a1 (y237 ++ [rdOf false x5_2 (wrap64 ((x5_2.length : Int) - 1))]) (wrap64 (x6_2 + 1))) else (none))) else (none)) else (none)) else (none)) else (if (ji21) ≤ (x5_2.length : Int) then ((some (x5_2.take ((ji21) : Int).toNat : List Bool)).bind fun y243 => (if y243.length < 140737488355328 then (spec_Matches.l0 k2 l0 a1 (y243 ++ [false]) (wrap64 (x6_2 + 1))) else (none))) else (none))) = some r := by rw [← hbq24] at H; exact H
            have Nbq24 := QO hbq24
            clear hbq24
            by_cases c25 : bq24 = true
            ·subst c25
             rw [if_pos rfl] at H
             obtain ⟨ji26, hji26⟩ : ∃ j_ : Int, (wrap64 ((x5_2.length : Int) - 1)) = j_ := ⟨_, rfl⟩
             replace H : (if 0 ≤ (ji26) then (if (ji26) < (x5_2.length : Int) then (if (ji21) ≤ (x5_2.length : Int) then ((some (x5_2.take ((ji21) : Int).toNat : List Bool)).bind fun y237 => (if y237.length < 140737488355328 then (spec_Matches.l0 k2 l0 a1 (y237 ++ [rdOf false x5_2 (ji26)]) (wrap64 (x6_2 + 1))) else (none))) else (none)) else (none)) else (none)) = some r := by first | (rw [hji26] at H; exact H) | (simp only [hji26] at H ⊢; exact H)
             have hji26w : (IntKind.i64.wrap ((x5_2.length : Int) - 1)) = ji26 := (QG _).trans hji26
             by_cases c27 : 0 ≤ (ji26)
             ·rw [if_pos c27] at H
              have c27b0 : decide (0 ≤ (ji26)) = true := decide_eq_true c27
              clear c27
              by_cases c28 : (ji26) < (x5_2.length : Int)
              ·rw [if_pos c28] at H
               have c28b0 : decide ((ji26) < (x5_2.length : Int)) = true := decide_eq_true c28
               clear c28
               by_cases c29 : (ji21) ≤ (x5_2.length : Int)
               ·rw [if_pos c29] at H
                have c29b0 := eq_true c29
                have c29b1 : decide ((ji21) ≤ (x5_2.length : Int)) = true := decide_eq_true c29
                clear c29
                obtain ⟨y237, hy237⟩ : ∃ y_ : List Bool, y_ = (x5_2.take ((ji21) : Int).toNat) := ⟨_, rfl⟩
                replace H : (if y237.length < 140737488355328 then (spec_Matches.l0 k2 l0 a1 (y237 ++ [rdOf false x5_2 (ji26)]) (wrap64 (x6_2 + 1))) else (none)) = some r := by first | (rw [hy237]; with_reducible exact H) | (have H2_ := (Option.bind_some _ _).symm.trans H; rw [hy237]; with_reducible exact H2_) | (have H2_ := (Option.bind_some _ _).symm.trans H; with_reducible exact H2_) | with_reducible exact H | (rw [hy237]; exact H) | exact H
                have Ny237 := QO hy237
                clear hy237
                by_cases c30 : y237.length < 140737488355328
                ·rw [if_pos c30] at H
                 have LMc30 := QO c30
                 clear c30
                 obtain ⟨y240, hy240⟩ : ∃ y_ : List Bool, y_ = (y237 ++ [rdOf false x5_2 (ji26)]) := ⟨_, rfl⟩
                 replace H : (spec_Matches.l0 k2 l0 a1 y240 (wrap64 (x6_2 + 1))) = some r := by first | (rw [hy240]; with_reducible exact H) | (have H2_ := (Option.bind_some _ _).symm.trans H; rw [hy240]; with_reducible exact H2_) | (have H2_ := (Option.bind_some _ _).symm.trans H; with_reducible exact H2_) | with_reducible exact H | (rw [hy240]; exact H) | exact H
                 have Ny240 := QO hy240
                 clear hy240
                 have H' := QO H
                 clear H
                 obtain ⟨Ao31, co31, eo31⟩ := Kd.R_slice HO_5.out
                 subst eo31
                 have p232 : 0 ≤ (x6_2 : Int) := of_decide_eq_true (by first | (with_reducible assumption) | assumption)
                 have q232 : x6_2 < (l0.length : Int) := of_decide_eq_true (by first | (with_reducible assumption) | assumption)
                 obtain ⟨ad232, e232, hx232_0⟩ := Kd.at_int HR0.out x6_2 p232 q232
                 cases e232
                 replace hx232_0 := (HB.out.cell (World.block_lt_of_cell? w _ hx232_0)).trans hx232_0
                 replace p232 := eq_true p232
                 replace q232 := eq_true q232
                 try go_wp2
                 have n0_ := QO (Kd.R_drew HO_5.out)
                 have n1_ := QO (QE HB.out)
                 clear HO_5
                 clear HB
                 have HO_5 := n0_
                 have HB := n1_
                 clear n0_ n1_
                 have p235 : 0 ≤ ((ji21) : Int) := of_decide_eq_true (by first | (with_reducible assumption) | assumption)
                 have q235 : (ji21) < (x5_2.length : Int) := of_decide_eq_true (by first | (with_reducible assumption) | assumption)
                 obtain ⟨ad235, e235, hx235_0⟩ := Kd.at_bool (Kd.R_reads' HO_5.out).2.2 (ji21) p235 q235
                 (try rw [← Nbq24.out] at hx235_0)
                 cases e235
                 replace p235 := eq_true p235
                 replace q235 := eq_true q235
                 have p236 : 0 ≤ ((ji26) : Int) := of_decide_eq_true (by first | (with_reducible assumption) | assumption)
                 have q236 : (ji26) < (x5_2.length : Int) := of_decide_eq_true (by first | (with_reducible assumption) | assumption)
                 obtain ⟨ad236, e236, hx236_0⟩ := Kd.at_bool (Kd.R_reads' HO_5.out).2.2 (ji26) p236 q236
                 (try rw [← Nbq24.out] at hx236_0)
                 obtain rfl : ad235 = ad236 := (by injection e236)
                 replace p236 := eq_true p236
                 replace q236 := eq_true q236
                 have q33 : ((ji21) : Int) ≤ ((x5_2.length : Int) : Int) := of_decide_eq_true (by first | (with_reducible assumption) | assumption)
                 obtain ⟨i033, hi033, _, hsz33, _⟩ := info_parts info4
                 have hcut33 := cut_to (P := Try.prog) 126 4 .i64 Try.underlying126 hi033 (some ad235) x5_2.length co31 (ji21) (of_decide_eq_true (by first | (with_reducible assumption) | assumption)) q33 (Kd.R_reads' HO_5.out).2.1
                 have hr33 := Kd.R_take (m := ((ji21) : Int).toNat) HO_5.out (by omega)
                 have hy33 : y237.length = ((ji21) : Int).toNat := (by rw [Ny237.out, List.length_take]; omega)
                 rw [← Ny237.out] at hr33
                 rw [← hy33] at hr33 hcut33
                 clear hy33 hi033 hsz33 HO_5
                 have HO239 := QO hr33
                 clear hr33
                 replace q33 := eq_true q33
                 refine start_ (n := 19) (S := fun w' => w'.cell? (ad235.add ((ji21)).toNat) = some (.bool true) ∧ w'.cell? (ad235.add ((ji26)).toNat) = some (.bool (rdOf false x5_2 (ji26)))) (ds := [16, 17]) #[Y0,Y0,Y0,Y0,Y0,Y0,Y0,Y0,Y0,Y0,Y0,Y0,Y0,Y0,Y0,Y0,Y0,Y0,Y0] (by kernel_rfl) rfl rfl ⟨hx235_0, hx236_0⟩ (fun hHeld => ?_); refine with_tabW spec_Matches.tab13 spec_Matches.bits13 (fun HT_ HW_ => ?_)
                 generalize wr.drew = w32 at HB HO239 hx235_0 hx236_0 hHeld ⊢
                 refine QJ (i := 0) (N := some 52) (v := ?_) (a' := ?_) #[Y1,Y0,Y0,Y0,Y0,Y0,Y0,Y0,Y0,Y0,Y0,Y0,Y0,Y0,Y0,Y0,Y0,Y0,Y0] rfl rfl (QI HT_.out (by kernel_rfl)) (fun _ _ _ h => h) (Or.inl ⟨by rfl, ?_⟩) ?_ ?_
                 rotate_left
                 ·intro w'
                  go_simp
                  with_reducible rfl
                 rotate_left
                 ·simp only [Act.put, QL, QM, QN, QG, QH]
                  rfl
                 refine QJ (i := 1) (N := some 53) (v := ?_) (a' := ?_) #[Y1,Y1,Y0,Y0,Y0,Y0,Y0,Y0,Y0,Y0,Y0,Y0,Y0,Y0,Y0,Y0,Y0,Y0,Y0] rfl rfl (QI HT_.out (by kernel_rfl)) (fun _ _ _ h => h) (Or.inl ⟨by rfl, ?_⟩) ?_ ?_
                 rotate_left
                 ·intro w'
                  go_simp
                  with_reducible rfl
                 rotate_left
                 ·simp only [Act.put, QL, QM, QN, QG, QH]
                  rfl
                 refine QJ (i := 2) (N := some 54) (v := ?_) (a' := ?_) #[Y1,Y1,Y1,Y0,Y0,Y0,Y0,Y0,Y0,Y0,Y0,Y0,Y0,Y0,Y0,Y0,Y0,Y0,Y0] rfl rfl (QI HT_.out (by kernel_rfl)) (fun _ _ _ h => h) (Or.inl ⟨by rfl, ?_⟩) ?_ ?_
                 rotate_left
                 ·intro w'
                  go_simp
                  with_reducible rfl
                 rotate_left
                 ·simp only [Act.put, QL, QM, QN, QG, QH]
                  rfl
                 refine QJ (i := 4) (N := some 56) (v := ?_) (a' := ?_) #[Y1,Y1,Y1,Y0,Y1,Y0,Y0,Y0,Y0,Y0,Y0,Y0,Y0,Y0,Y0,Y0,Y0,Y0,Y0] rfl rfl (QI HT_.out (by kernel_rfl)) (fun _ _ _ h => h) (Or.inl ⟨by rfl, ?_⟩) ?_ ?_
                 rotate_left
                 ·intro w'
                  go_simp
                  with_reducible rfl
                 rotate_left
                 ·simp only [Act.put, QL, QM, QN, QG, QH]
                  rfl
                 refine QJ (i := 5) (N := some 57) (v := ?_) (a' := ?_) #[Y1,Y1,Y1,Y0,Y1,Y1,Y0,Y0,Y0,Y0,Y0,Y0,Y0,Y0,Y0,Y0,Y0,Y0,Y0] rfl rfl (QI HT_.out (by kernel_rfl)) (fun _ _ _ h => h) (Or.inl ⟨by rfl, ?_⟩) ?_ ?_
                 rotate_left
                 ·intro w'
                  go_simp
                  with_reducible rfl
                 rotate_left
                 ·simp only [Act.put, QL, QM, QN, QG, QH]
                  rfl
                 refine QJ (i := 6) (N := some 58) (v := ?_) (a' := ?_) #[Y1,Y1,Y1,Y0,Y1,Y1,Y1,Y0,Y0,Y0,Y0,Y0,Y0,Y0,Y0,Y0,Y0,Y0,Y0] rfl rfl (QI HT_.out (by kernel_rfl)) (fun _ _ _ h => h) (Or.inl ⟨by rfl, ?_⟩) ?_ ?_
                 rotate_left
                 ·intro w'
                  go_simp
                  with_reducible rfl
                 rotate_left
                 ·simp only [Act.put, QL, QM, QN, QG, QH]
                  rfl
                 refine QJ (i := 7) (N := some 59) (v := ?_) (a' := ?_) #[Y1,Y1,Y1,Y0,Y1,Y1,Y1,Y1,Y0,Y0,Y0,Y0,Y0,Y0,Y0,Y0,Y0,Y0,Y0] rfl rfl (QI HT_.out (by kernel_rfl)) (fun _ _ _ h => h) (Or.inl ⟨by rfl, ?_⟩) ?_ ?_
                 rotate_left
                 ·intro w'
                  go_simp
                  with_reducible rfl
                 rotate_left
                 ·simp only [Act.put, QL, QM, QN, QG, QH]
                  rfl
                 refine QJ (i := 3) (N := some 55) (v := ?_) (a' := ?_) #[Y1,Y1,Y1,Y1,Y1,Y1,Y1,Y1,Y0,Y0,Y0,Y0,Y0,Y0,Y0,Y0,Y0,Y0,Y0] rfl rfl (QI HT_.out (by kernel_rfl)) (fun _ _ _ h => h) (Or.inl ⟨by rfl, ?_⟩) ?_ ?_
                 rotate_left
                 ·intro w'
                  go_simp
                  with_reducible rfl
                 rotate_left
                 ·simp only [Act.put, QL, QM, QN, QG, QH]
                  rfl
                 refine take_ (i := 8) (N := some 60) (v := ?_) (a' := ?_) #[Y1,Y1,Y1,Y1,Y1,Y1,Y1,Y1,Y1,Y0,Y0,Y0,Y0,Y0,Y0,Y0,Y0,Y0,Y0] rfl rfl (take_ofW HT_.out HW_.out (by kernel_rfl)) (fun _ _ _ h => h) (Or.inl ⟨by rfl, ?_⟩) hHeld ?_ ?_
                 rotate_left
                 ·rintro w' ⟨s0, s1⟩
                  go_simp
                  with_reducible rfl
                 rotate_left
                 ·simp only [Act.put, QL, QM, QN, QG, QH]
                  rfl
                 refine QJ (i := 9) (N := some 61) (v := ?_) (a' := ?_) #[Y1,Y1,Y1,Y1,Y1,Y1,Y1,Y1,Y1,Y1,Y0,Y0,Y0,Y0,Y0,Y0,Y0,Y0,Y0] rfl rfl (QI HT_.out (by kernel_rfl)) (fun _ _ _ h => h) (Or.inl ⟨by rfl, ?_⟩) ?_ ?_
                 rotate_left
                 ·intro w'
                  go_simp
                  with_reducible rfl
                 rotate_left
                 ·simp only [Act.put, QL, QM, QN, QG, QH]
                  rfl
                 refine QJ (i := 10) (N := some 62) (v := ?_) (a' := ?_) #[Y1,Y1,Y1,Y1,Y1,Y1,Y1,Y1,Y1,Y1,Y1,Y0,Y0,Y0,Y0,Y0,Y0,Y0,Y0] rfl rfl (QI HT_.out (by kernel_rfl)) (fun _ _ _ h => h) (Or.inl ⟨by rfl, ?_⟩) ?_ ?_
                 rotate_left
                 ·intro w'
                  go_simp
                  with_reducible rfl
                 rotate_left
                 ·simp only [Act.put, QL, QM, QN, QG, QH]
                  rfl
                 refine QJ (i := 11) (N := some 63) (v := ?_) (a' := ?_) #[Y1,Y1,Y1,Y1,Y1,Y1,Y1,Y1,Y1,Y1,Y1,Y1,Y0,Y0,Y0,Y0,Y0,Y0,Y0] rfl rfl (QI HT_.out (by kernel_rfl)) (fun _ _ _ h => h) (Or.inl ⟨by rfl, ?_⟩) ?_ ?_
                 rotate_left
                 ·intro w'
                  go_simp
                  with_reducible rfl
                 rotate_left
                 ·simp only [Act.put, QL, QM, QN, QG, QH]
                  rfl
                 refine QJ (i := 12) (N := some 64) (v := ?_) (a' := ?_) #[Y1,Y1,Y1,Y1,Y1,Y1,Y1,Y1,Y1,Y1,Y1,Y1,Y1,Y0,Y0,Y0,Y0,Y0,Y0] rfl rfl (QI HT_.out (by kernel_rfl)) (fun _ _ _ h => h) (Or.inl ⟨by rfl, ?_⟩) ?_ ?_
                 rotate_left
                 ·intro w'
                  go_simp
                  with_reducible rfl
                 rotate_left
                 ·simp only [Act.put, QL, QM, QN, QG, QH]
                  rfl
                 refine QJ (i := 13) (N := some 65) (v := ?_) (a' := ?_) #[Y1,Y1,Y1,Y1,Y1,Y1,Y1,Y1,Y1,Y1,Y1,Y1,Y1,Y1,Y0,Y0,Y0,Y0,Y0] rfl rfl (QI HT_.out (by kernel_rfl)) (fun _ _ _ h => h) (Or.inl ⟨by rfl, ?_⟩) ?_ ?_
                 rotate_left
                 ·intro w'
                  go_simp
                  with_reducible rfl
                 rotate_left
                 ·simp only [Act.put, QL, QM, QN, QG, QH]
                  rfl
                 refine take_ (i := 14) (N := some 66) (v := ?_) (a' := ?_) #[Y1,Y1,Y1,Y1,Y1,Y1,Y1,Y1,Y1,Y1,Y1,Y1,Y1,Y1,Y1,Y0,Y0,Y0,Y0] rfl rfl (take_ofW HT_.out HW_.out (by kernel_rfl)) (fun _ _ _ h => h) (Or.inl ⟨by rfl, ?_⟩) hHeld ?_ ?_
                 rotate_left
                 ·rintro w' ⟨s0, s1⟩
                  go_simp
                  with_reducible rfl
                 rotate_left
                 ·simp only [Act.put, QL, QM, QN, QG, QH]
                  rfl
                 refine QJ (i := 15) (N := some 67) (v := ?_) (a' := ?_) #[Y1,Y1,Y1,Y1,Y1,Y1,Y1,Y1,Y1,Y1,Y1,Y1,Y1,Y1,Y1,Y1,Y0,Y0,Y0] rfl rfl (QI HT_.out (by kernel_rfl)) (fun _ _ _ h => h) (Or.inl ⟨by rfl, ?_⟩) ?_ ?_
                 rotate_left
                 ·intro w'
                  go_simp
                  with_reducible rfl
                 rotate_left
                 ·simp only [Act.put, QL, QM, QN, QG, QH]
                  rfl
                 refine last_ (i := 16) (N := some 68) #[Y1,Y1,Y1,Y1,Y1,Y1,Y1,Y1,Y1,Y1,Y1,Y1,Y1,Y1,Y1,Y1,Y1,Y0,Y0] rfl rfl (one_of HT_.out (by kernel_rfl)) (by decide) (fun K hK => ?_)
                 refine value_ (w1 := ?_) (v := ?_) (by rfl) rfl ?_ ?_
                 rotate_left 2
                 ·go_simp
                  constructor
                  ·rfl
                  ·rfl
                 refine hK.out _ _ ?_
                 clear hK K
                 refine norm_ (a' := ?_) ?_ ?_
                 rotate_left
                 ·show Act.put _ (some 68) _ = _
                  simp only [Act.put, QL, QM, QN, QG, QH]
                  rfl
                 refine last_ (i := 17) (N := some 69) #[Y1,Y1,Y1,Y1,Y1,Y1,Y1,Y1,Y1,Y1,Y1,Y1,Y1,Y1,Y1,Y1,Y1,Y1,Y0] rfl rfl (one_of HT_.out (by kernel_rfl)) (by decide) (fun K hK => ?_)
                 refine Kd.R_append_step Kd.bool (w0 := w) w.heap.size (by rfl) (.tmp 55) (.tmp 68) 126 4 (.bool false) 1 rfl Try.underlying126 info4 rfl (by decide) (by omega) (.slice (some ad235) y237.length co31) y237 (rdOf false x5_2 (ji26)) [.bool (rdOf false x5_2 (ji26))] (fun _ => True) (fun _ => False) rfl rfl ?aP (fun _ hk => hk.elim) ?aF ?aO ?aB ?aS ?aL ?_
                 (case aP => exact rfl)
                 (case aB => exact (by repeat (first | (with_reducible first | exact HB.out | apply QF | apply QD | apply QE) | exact HB.out)))
                 (case aF => exact (fun _ _ => trivial))
                 (case aO => exact (by (with_reducible repeat (first | apply Kd.R_alloc | apply Kd.R_drewN | apply Kd.R_drew)); exact HO239.out))
                 (case aS => exact (QK (by repeat (first | (with_reducible first | exact HB.out | apply QF | apply QD | apply QE) | exact HB.out))))
                 (case aL => have := LMc30.out; omega)
                 intro v241 w34 ho hb hg hat
                 rw [← Ny240.out] at ho
                 have n0_ := QO (hb)
                 have n1_ := QO (ho)
                 clear HB
                 clear HO239
                 have HB := n0_
                 have HO242 := n1_
                 clear n0_ n1_
                 clear ho hb hg hat
                 refine hK.out _ _ ?_
                 clear hK K
                 refine norm_ (a' := ?_) ?_ ?_
                 rotate_left
                 ·show Act.put _ (some 69) _ = _
                  simp only [Act.put, QL, QM, QN, QG, QH]
                  rfl
                 refine QJ (i := 18) (N := some 5) (v := ?_) (a' := ?_) #[Y1,Y1,Y1,Y1,Y1,Y1,Y1,Y1,Y1,Y1,Y1,Y1,Y1,Y1,Y1,Y1,Y1,Y1,Y1] rfl rfl (QI HT_.out (by kernel_rfl)) (fun _ _ _ h => h) (Or.inl ⟨by rfl, ?_⟩) ?_ ?_
                 rotate_left
                 ·intro w'
                  go_simp
                  with_reducible rfl
                 rotate_left
                 ·simp only [Act.put, QL, QM, QN, QG, QH]
                  rfl
                 refine done_ (done_of HT_.out (by kernel_rfl)) ?_
                 try go_wp2
                 go_roundg k2
                 case measure => have := HJ2.out; have := HK2.out; omega
                 case rel => exact ⟨(y240), (wrap64 (x6_2 + 1)), (by first | rfl | (simp; done) | (simp [*]; done)), H', ⟨by have := HJ2.out; have := HK2.out; omega⟩, ⟨by (with_reducible repeat (first | apply Kd.R_alloc | apply Kd.R_drewN | apply Kd.R_drew)); exact HO242.out⟩, ⟨by repeat (first | (with_reducible first | exact HB.out | apply QF | apply QD | apply QE) | exact HB.out)⟩⟩
                ·rw [if_neg c30] at H
                 exact absurd H (by simp)
               ·rw [if_neg c29] at H
                exact absurd H (by simp)
              ·rw [if_neg c28] at H
               exact absurd H (by simp)
             ·rw [if_neg c27] at H
              exact absurd H (by simp)
            ·replace c25 := Bool.eq_false_iff.mpr c25
             subst c25
             rw [if_neg (show ¬ (false = true) by decide)] at H
             by_cases c35 : (ji21) ≤ (x5_2.length : Int)
             ·rw [if_pos c35] at H
              have c35b0 := eq_true c35
              have c35b1 : decide ((ji21) ≤ (x5_2.length : Int)) = true := decide_eq_true c35
              clear c35
              obtain ⟨y243, hy243⟩ : ∃ y_ : List Bool, y_ = (x5_2.take ((ji21) : Int).toNat) := ⟨_, rfl⟩
              replace H : (if y243.length < 140737488355328 then (spec_Matches.l0 k2 l0 a1 (y243 ++ [false]) (wrap64 (x6_2 + 1))) else (none)) = some r := by first | (rw [hy243]; with_reducible exact H) | (have H2_ := (Option.bind_some _ _).symm.trans H; rw [hy243]; with_reducible exact H2_) | (have H2_ := (Option.bind_some _ _).symm.trans H; with_reducible exact H2_) | with_reducible exact H | (rw [hy243]; exact H) | exact H
              have Ny243 := QO hy243
              clear hy243
              by_cases c36 : y243.length < 140737488355328
              ·rw [if_pos c36] at H
               have LMc36 := QO c36
               clear c36
               obtain ⟨y246, hy246⟩ : ∃ y_ : List Bool, y_ = (y243 ++ [false]) := ⟨_, rfl⟩
               replace H : (spec_Matches.l0 k2 l0 a1 y246 (wrap64 (x6_2 + 1))) = some r := by first | (rw [hy246]; with_reducible exact H) | (have H2_ := (Option.bind_some _ _).symm.trans H; rw [hy246]; with_reducible exact H2_) | (have H2_ := (Option.bind_some _ _).symm.trans H; with_reducible exact H2_) | with_reducible exact H | (rw [hy246]; exact H) | exact H
               have Ny246 := QO hy246
               clear hy246
               have H' := QO H
               clear H
               obtain ⟨Ao37, co37, eo37⟩ := Kd.R_slice HO_5.out
               subst eo37
               have p232 : 0 ≤ (x6_2 : Int) := of_decide_eq_true (by first | (with_reducible assumption) | assumption)
               have q232 : x6_2 < (l0.length : Int) := of_decide_eq_true (by first | (with_reducible assumption) | assumption)
               obtain ⟨ad232, e232, hx232_0⟩ := Kd.at_int HR0.out x6_2 p232 q232
               cases e232
               replace hx232_0 := (HB.out.cell (World.block_lt_of_cell? w _ hx232_0)).trans hx232_0
               replace p232 := eq_true p232
               replace q232 := eq_true q232
               try go_wp2
               have n0_ := QO (Kd.R_drew HO_5.out)
               have n1_ := QO (QE HB.out)
               clear HO_5
               clear HB
               have HO_5 := n0_
               have HB := n1_
               clear n0_ n1_
               have p235 : 0 ≤ ((ji21) : Int) := of_decide_eq_true (by first | (with_reducible assumption) | assumption)
               have q235 : (ji21) < (x5_2.length : Int) := of_decide_eq_true (by first | (with_reducible assumption) | assumption)
               obtain ⟨ad235, e235, hx235_0⟩ := Kd.at_bool (Kd.R_reads' HO_5.out).2.2 (ji21) p235 q235
               (try rw [← Nbq24.out] at hx235_0)
               cases e235
               replace p235 := eq_true p235
               replace q235 := eq_true q235
               have q39 : ((ji21) : Int) ≤ ((x5_2.length : Int) : Int) := of_decide_eq_true (by first | (with_reducible assumption) | assumption)
               obtain ⟨i039, hi039, _, hsz39, _⟩ := info_parts info4
               have hcut39 := cut_to (P := Try.prog) 126 4 .i64 Try.underlying126 hi039 (some ad235) x5_2.length co37 (ji21) (of_decide_eq_true (by first | (with_reducible assumption) | assumption)) q39 (Kd.R_reads' HO_5.out).2.1
               have hr39 := Kd.R_take (m := ((ji21) : Int).toNat) HO_5.out (by omega)
               have hy39 : y243.length = ((ji21) : Int).toNat := (by rw [Ny243.out, List.length_take]; omega)
               rw [← Ny243.out] at hr39
               rw [← hy39] at hr39 hcut39
               clear hy39 hi039 hsz39 HO_5
               have HO245 := QO hr39
               clear hr39
               replace q39 := eq_true q39
               refine start_ (n := 19) (S := fun w' => w'.cell? (ad235.add ((ji21)).toNat) = some (.bool false)) (ds := [16, 17]) #[Y0,Y0,Y0,Y0,Y0,Y0,Y0,Y0,Y0,Y0,Y0,Y0,Y0,Y0,Y0,Y0,Y0,Y0,Y0] (by kernel_rfl) rfl rfl (hx235_0) (fun hHeld => ?_); refine with_tabW spec_Matches.tab13 spec_Matches.bits13 (fun HT_ HW_ => ?_)
               generalize wr.drew = w38 at HB HO245 hx235_0 hHeld ⊢
               refine QJ (i := 0) (N := some 52) (v := ?_) (a' := ?_) #[Y1,Y0,Y0,Y0,Y0,Y0,Y0,Y0,Y0,Y0,Y0,Y0,Y0,Y0,Y0,Y0,Y0,Y0,Y0] rfl rfl (QI HT_.out (by kernel_rfl)) (fun _ _ _ h => h) (Or.inl ⟨by rfl, ?_⟩) ?_ ?_
               rotate_left
               ·intro w'
                go_simp
                with_reducible rfl
               rotate_left
               ·simp only [Act.put, QL, QM, QN, QG, QH]
                rfl
               refine QJ (i := 1) (N := some 53) (v := ?_) (a' := ?_) #[Y1,Y1,Y0,Y0,Y0,Y0,Y0,Y0,Y0,Y0,Y0,Y0,Y0,Y0,Y0,Y0,Y0,Y0,Y0] rfl rfl (QI HT_.out (by kernel_rfl)) (fun _ _ _ h => h) (Or.inl ⟨by rfl, ?_⟩) ?_ ?_
               rotate_left
               ·intro w'
                go_simp
                with_reducible rfl
               rotate_left
               ·simp only [Act.put, QL, QM, QN, QG, QH]
                rfl
               refine QJ (i := 2) (N := some 54) (v := ?_) (a' := ?_) #[Y1,Y1,Y1,Y0,Y0,Y0,Y0,Y0,Y0,Y0,Y0,Y0,Y0,Y0,Y0,Y0,Y0,Y0,Y0] rfl rfl (QI HT_.out (by kernel_rfl)) (fun _ _ _ h => h) (Or.inl ⟨by rfl, ?_⟩) ?_ ?_
               rotate_left
               ·intro w'
                go_simp
                with_reducible rfl
               rotate_left
               ·simp only [Act.put, QL, QM, QN, QG, QH]
                rfl
               refine QJ (i := 4) (N := some 56) (v := ?_) (a' := ?_) #[Y1,Y1,Y1,Y0,Y1,Y0,Y0,Y0,Y0,Y0,Y0,Y0,Y0,Y0,Y0,Y0,Y0,Y0,Y0] rfl rfl (QI HT_.out (by kernel_rfl)) (fun _ _ _ h => h) (Or.inl ⟨by rfl, ?_⟩) ?_ ?_
               rotate_left
               ·intro w'
                go_simp
                with_reducible rfl
               rotate_left
               ·simp only [Act.put, QL, QM, QN, QG, QH]
                rfl
               refine QJ (i := 5) (N := some 57) (v := ?_) (a' := ?_) #[Y1,Y1,Y1,Y0,Y1,Y1,Y0,Y0,Y0,Y0,Y0,Y0,Y0,Y0,Y0,Y0,Y0,Y0,Y0] rfl rfl (QI HT_.out (by kernel_rfl)) (fun _ _ _ h => h) (Or.inl ⟨by rfl, ?_⟩) ?_ ?_
               rotate_left
               ·intro w'
                go_simp
                with_reducible rfl
               rotate_left
               ·simp only [Act.put, QL, QM, QN, QG, QH]
                rfl
               refine QJ (i := 6) (N := some 58) (v := ?_) (a' := ?_) #[Y1,Y1,Y1,Y0,Y1,Y1,Y1,Y0,Y0,Y0,Y0,Y0,Y0,Y0,Y0,Y0,Y0,Y0,Y0] rfl rfl (QI HT_.out (by kernel_rfl)) (fun _ _ _ h => h) (Or.inl ⟨by rfl, ?_⟩) ?_ ?_
               rotate_left
               ·intro w'
                go_simp
                with_reducible rfl
               rotate_left
               ·simp only [Act.put, QL, QM, QN, QG, QH]
                rfl
               refine QJ (i := 7) (N := some 59) (v := ?_) (a' := ?_) #[Y1,Y1,Y1,Y0,Y1,Y1,Y1,Y1,Y0,Y0,Y0,Y0,Y0,Y0,Y0,Y0,Y0,Y0,Y0] rfl rfl (QI HT_.out (by kernel_rfl)) (fun _ _ _ h => h) (Or.inl ⟨by rfl, ?_⟩) ?_ ?_
               rotate_left
               ·intro w'
                go_simp
                with_reducible rfl
               rotate_left
               ·simp only [Act.put, QL, QM, QN, QG, QH]
                rfl
               refine QJ (i := 3) (N := some 55) (v := ?_) (a' := ?_) #[Y1,Y1,Y1,Y1,Y1,Y1,Y1,Y1,Y0,Y0,Y0,Y0,Y0,Y0,Y0,Y0,Y0,Y0,Y0] rfl rfl (QI HT_.out (by kernel_rfl)) (fun _ _ _ h => h) (Or.inl ⟨by rfl, ?_⟩) ?_ ?_
               rotate_left
               ·intro w'
                go_simp
                with_reducible rfl
               rotate_left
               ·simp only [Act.put, QL, QM, QN, QG, QH]
                rfl
               refine take_ (i := 8) (N := some 60) (v := ?_) (a' := ?_) #[Y1,Y1,Y1,Y1,Y1,Y1,Y1,Y1,Y1,Y0,Y0,Y0,Y0,Y0,Y0,Y0,Y0,Y0,Y0] rfl rfl (take_ofW HT_.out HW_.out (by kernel_rfl)) (fun _ _ _ h => h) (Or.inl ⟨by rfl, ?_⟩) hHeld ?_ ?_
               rotate_left
               ·intro w' s0
                go_simp
                with_reducible rfl
               rotate_left
               ·simp only [Act.put, QL, QM, QN, QG, QH]
                rfl
               refine QJ (i := 9) (N := some 61) (v := ?_) (a' := ?_) #[Y1,Y1,Y1,Y1,Y1,Y1,Y1,Y1,Y1,Y1,Y0,Y0,Y0,Y0,Y0,Y0,Y0,Y0,Y0] rfl rfl (QI HT_.out (by kernel_rfl)) (fun _ _ _ h => h) (Or.inl ⟨by rfl, ?_⟩) ?_ ?_
               rotate_left
               ·intro w'
                go_simp
                with_reducible rfl
               rotate_left
               ·simp only [Act.put, QL, QM, QN, QG, QH]
                rfl
               refine QJ (i := 10) (N := some 62) (v := undef) (a' := ?_) #[Y1,Y1,Y1,Y1,Y1,Y1,Y1,Y1,Y1,Y1,Y1,Y0,Y0,Y0,Y0,Y0,Y0,Y0,Y0] rfl rfl (QI HT_.out (by kernel_rfl)) (fun _ _ _ h => h) (Or.inr ⟨by rfl, rfl⟩) ?_ ?_
               rotate_left
               ·simp only [Act.put, QL, QM, QN, QG, QH]
                rfl
               refine QJ (i := 11) (N := some 63) (v := undef) (a' := ?_) #[Y1,Y1,Y1,Y1,Y1,Y1,Y1,Y1,Y1,Y1,Y1,Y1,Y0,Y0,Y0,Y0,Y0,Y0,Y0] rfl rfl (QI HT_.out (by kernel_rfl)) (fun _ _ _ h => h) (Or.inr ⟨by rfl, rfl⟩) ?_ ?_
               rotate_left
               ·simp only [Act.put, QL, QM, QN, QG, QH]
                rfl
               refine QJ (i := 12) (N := some 64) (v := undef) (a' := ?_) #[Y1,Y1,Y1,Y1,Y1,Y1,Y1,Y1,Y1,Y1,Y1,Y1,Y1,Y0,Y0,Y0,Y0,Y0,Y0] rfl rfl (QI HT_.out (by kernel_rfl)) (fun _ _ _ h => h) (Or.inr ⟨by rfl, rfl⟩) ?_ ?_
               rotate_left
               ·simp only [Act.put, QL, QM, QN, QG, QH]
                rfl
               refine QJ (i := 13) (N := some 65) (v := undef) (a' := ?_) #[Y1,Y1,Y1,Y1,Y1,Y1,Y1,Y1,Y1,Y1,Y1,Y1,Y1,Y1,Y0,Y0,Y0,Y0,Y0] rfl rfl (QI HT_.out (by kernel_rfl)) (fun _ _ _ h => h) (Or.inr ⟨by rfl, rfl⟩) ?_ ?_
               rotate_left
               ·simp only [Act.put, QL, QM, QN, QG, QH]
                rfl
               refine QJ (i := 14) (N := some 66) (v := undef) (a' := ?_) #[Y1,Y1,Y1,Y1,Y1,Y1,Y1,Y1,Y1,Y1,Y1,Y1,Y1,Y1,Y1,Y0,Y0,Y0,Y0] rfl rfl (QI HT_.out (by kernel_rfl)) (fun _ _ _ h => h) (Or.inr ⟨by rfl, rfl⟩) ?_ ?_
               rotate_left
               ·simp only [Act.put, QL, QM, QN, QG, QH]
                rfl
               refine QJ (i := 15) (N := some 67) (v := ?_) (a' := ?_) #[Y1,Y1,Y1,Y1,Y1,Y1,Y1,Y1,Y1,Y1,Y1,Y1,Y1,Y1,Y1,Y1,Y0,Y0,Y0] rfl rfl (QI HT_.out (by kernel_rfl)) (fun _ _ _ h => h) (Or.inl ⟨by rfl, ?_⟩) ?_ ?_
               rotate_left
               ·intro w'
                go_simp
                with_reducible rfl
               rotate_left
               ·simp only [Act.put, QL, QM, QN, QG, QH]
                rfl
               refine last_ (i := 16) (N := some 68) #[Y1,Y1,Y1,Y1,Y1,Y1,Y1,Y1,Y1,Y1,Y1,Y1,Y1,Y1,Y1,Y1,Y1,Y0,Y0] rfl rfl (one_of HT_.out (by kernel_rfl)) (by decide) (fun K hK => ?_)
               refine value_ (w1 := ?_) (v := ?_) (by rfl) rfl ?_ ?_
               rotate_left 2
               ·go_simp
                constructor
                ·rfl
                ·rfl
               refine hK.out _ _ ?_
               clear hK K
               refine norm_ (a' := ?_) ?_ ?_
               rotate_left
               ·show Act.put _ (some 68) _ = _
                simp only [Act.put, QL, QM, QN, QG, QH]
                rfl
               refine last_ (i := 17) (N := some 69) #[Y1,Y1,Y1,Y1,Y1,Y1,Y1,Y1,Y1,Y1,Y1,Y1,Y1,Y1,Y1,Y1,Y1,Y1,Y0] rfl rfl (one_of HT_.out (by kernel_rfl)) (by decide) (fun K hK => ?_)
               refine Kd.R_append_step Kd.bool (w0 := w) w.heap.size (by rfl) (.tmp 55) (.tmp 68) 126 4 (.bool false) 1 rfl Try.underlying126 info4 rfl (by decide) (by omega) (.slice (some ad235) y243.length co37) y243 false [.bool false] (fun _ => True) (fun _ => False) rfl rfl ?aP (fun _ hk => hk.elim) ?aF ?aO ?aB ?aS ?aL ?_
               (case aP => exact rfl)
               (case aB => exact (by repeat (first | (with_reducible first | exact HB.out | apply QF | apply QD | apply QE) | exact HB.out)))
               (case aF => exact (fun _ _ => trivial))
               (case aO => exact (by (with_reducible repeat (first | apply Kd.R_alloc | apply Kd.R_drewN | apply Kd.R_drew)); exact HO245.out))
               (case aS => exact (QK (by repeat (first | (with_reducible first | exact HB.out | apply QF | apply QD | apply QE) | exact HB.out))))
               (case aL => have := LMc36.out; omega)
               intro v247 w40 ho hb hg hat
               rw [← Ny246.out] at ho
               have n0_ := QO (hb)
               have n1_ := QO (ho)
               clear HB
               clear HO245
               have HB := n0_
               have HO248 := n1_
               clear n0_ n1_
               clear ho hb hg hat
               refine hK.out _ _ ?_
               clear hK K
               refine norm_ (a' := ?_) ?_ ?_
               rotate_left
               ·show Act.put _ (some 69) _ = _
                simp only [Act.put, QL, QM, QN, QG, QH]
                rfl
               refine QJ (i := 18) (N := some 5) (v := ?_) (a' := ?_) #[Y1,Y1,Y1,Y1,Y1,Y1,Y1,Y1,Y1,Y1,Y1,Y1,Y1,Y1,Y1,Y1,Y1,Y1,Y1] rfl rfl (QI HT_.out (by kernel_rfl)) (fun _ _ _ h => h) (Or.inl ⟨by rfl, ?_⟩) ?_ ?_
               rotate_left
               ·intro w'
                go_simp
                with_reducible rfl
               rotate_left
               ·simp only [Act.put, QL, QM, QN, QG, QH]
                rfl
               refine done_ (done_of HT_.out (by kernel_rfl)) ?_
               try go_wp2
               go_roundg k2
               case measure => have := HJ2.out; have := HK2.out; omega
               case rel => exact ⟨(y246), (wrap64 (x6_2 + 1)), (by first | rfl | (simp; done) | (simp [*]; done)), H', ⟨by have := HJ2.out; have := HK2.out; omega⟩, ⟨by (with_reducible repeat (first | apply Kd.R_alloc | apply Kd.R_drewN | apply Kd.R_drew)); exact HO248.out⟩, ⟨by repeat (first | (with_reducible first | exact HB.out | apply QF | apply QD | apply QE) | exact HB.out)⟩⟩
              ·rw [if_neg c36] at H
               exact absurd H (by simp)
             ·rw [if_neg c35] at H
              exact absurd H (by simp)
           ·rw [if_neg c23] at H
            exact absurd H (by simp)
          ·rw [if_neg c22] at H
           exact absurd H (by simp)
         ·rw [if_neg c20] at H
          have c20b0 : ((rd l0 x6_2) == (-2)) = false := beq_eq_false_iff_ne.mpr c20
          have c20b1 : ((rd l0 x6_2) != (-2)) = true := bne_iff_ne.mpr c20
          by_cases c41 : (rd l0 x6_2) = (-3)
          ·rw [if_pos c41] at H
           have c41b0 : ((rd l0 x6_2) == (-3)) = true := beq_iff_eq.mpr c41
           have c41b1 : ((rd l0 x6_2) != (-3)) = false := bne_eq_false_iff_eq.mpr c41
           clear c41
           obtain ⟨ji42, hji42⟩ : ∃ j_ : Int, (wrap64 ((x5_2.length : Int) - 2)) = j_ := ⟨_, rfl⟩
           replace H : (if 0 ≤ (ji42) then (if (ji42) < (x5_2.length : Int) then (if rdOf false x5_2 (ji42) = true then (if (ji42) ≤ (x5_2.length : Int) then ((some (x5_2.take ((ji42) : Int).toNat : List Bool)).bind fun y250 => (if y250.length < 140737488355328 then (spec_Matches.l0 k2 l0 a1 (y250 ++ [true]) (wrap64 (x6_2 + 1))) else (none))) else (none)) else (if 0 ≤ (wrap64 ((x5_2.length : Int) - 1)) then (if (wrap64 ((x5_2.length : Int) - 1)) < (x5_2.length : Int) then (if (ji42) ≤ (x5_2.length : Int) then ((some (x5_2.take ((ji42) : Int).toNat : List Bool)).bind fun y257 => (if y257.length < 140737488355328 then (spec_Matches.l0 k2 l0 a1 (y257 ++ [rdOf false x5_2 (wrap64 ((x5_2.length : Int) - 1))]) (wrap64 (x6_2 + 1))) else (none))) else (none)) else (none)) else (none))) else (none)) else (none)) = some r := by first | (rw [hji42] at H; exact H) | (simp only [hji42] at H ⊢; exact H)
           have hji42w : (IntKind.i64.wrap ((x5_2.length : Int) - 2)) = ji42 := (QG _).trans hji42
           by_cases c43 : 0 ≤ (ji42)
           ·rw [if_pos c43] at H
            have c43b0 : decide (0 ≤ (ji42)) = true := decide_eq_true c43
            clear c43
            by_cases c44 : (ji42) < (x5_2.length : Int)
            ·rw [if_pos c44] at H
             have c44b0 : decide ((ji42) < (x5_2.length : Int)) = true := decide_eq_true c44
             clear c44
             obtain ⟨bq45, hbq45⟩ : ∃ b_ : Bool, b_ = (rdOf false x5_2 (ji42)) := ⟨_, rfl⟩
             replace H : (if bq45 = true then (if (ji42) ≤ (x5_2.length : Int) then ((some (x5_2.take ((ji42) : Int).toNat : List Bool)).bind fun y250 => (if y250.length < 140737488355328 then (spec_Matches.l0 k2 l0 a1 (y250 ++ [true]) (wrap64 (x6_2 + 1))) else (none))) else (none)) else (if 0 ≤ (wrap64 ((x5_2.length : Int) - 1)) then (if (wrap64 ((x5_2.length : Int) - 1)) < (x5_2.length : Int) then (if (ji42) ≤ (x5_2.length : Int) then ((some (x5_2.take ((ji42) : Int).toNat : List Bool)).bind fun y257 => (if y257.length < 140737488355328 then (spec_Matches.l0 k2 l0 a1 (y257 ++ [rdOf false x5_2 (wrap64 ((x5_2.length : Int) - 1))]) (wrap64 (x6_2 + 1))) else (none))) else (none)) else (none)) else (none))) = some r := by rw [← hbq45] at H; exact H
             have Nbq45 := QO hbq45
             clear hbq45
             by_cases c46 : bq45 = true
             ·subst c46
              rw [if_pos rfl] at H
              by_cases c47 : (ji42) ≤ (x5_2.length : Int)
              ·rw [if_pos c47] at H
               have c47b0 := eq_true c47
               have c47b1 : decide ((ji42) ≤ (x5_2.length : Int)) = true := decide_eq_true c47
               clear c47
               obtain ⟨y250, hy250⟩ : ∃ y_ : List Bool, y_ = (x5_2.take ((ji42) : Int).toNat) := ⟨_, rfl⟩
               replace H : (if y250.length < 140737488355328 then (spec_Matches.l0 k2 l0 a1 (y250 ++ [true]) (wrap64 (x6_2 + 1))) else (none)) = some r := by first | (rw [hy250]; with_reducible exact H) | (have H2_ := (Option.bind_some _ _).symm.trans H; rw [hy250]; with_reducible exact H2_) | (have H2_ := (Option.bind_some _ _).symm.trans H; with_reducible exact H2_) | with_reducible exact H | (rw [hy250]; exact H) | exact H
               have Ny250 := QO hy250
               clear hy250
               by_cases c48 : y250.length < 140737488355328
               ·rw [if_pos c48] at H
                have LMc48 := QO c48
                clear c48
                obtain ⟨y253, hy253⟩ : ∃ y_ : List Bool, y_ = (y250 ++ [true]) := ⟨_, rfl⟩
                replace H : (spec_Matches.l0 k2 l0 a1 y253 (wrap64 (x6_2 + 1))) = some r := by first | (rw [hy253]; with_reducible exact H) | (have H2_ := (Option.bind_some _ _).symm.trans H; rw [hy253]; with_reducible exact H2_) | (have H2_ := (Option.bind_some _ _).symm.trans H; with_reducible exact H2_) | with_reducible exact H | (rw [hy253]; exact H) | exact H
                have Ny253 := QO hy253
                clear hy253
                have H' := QO H
                clear H
                obtain ⟨Ao49, co49, eo49⟩ := Kd.R_slice HO_5.out
                subst eo49
                have p232 : 0 ≤ (x6_2 : Int) := of_decide_eq_true (by first | (with_reducible assumption) | assumption)
                have q232 : x6_2 < (l0.length : Int) := of_decide_eq_true (by first | (with_reducible assumption) | assumption)
                obtain ⟨ad232, e232, hx232_0⟩ := Kd.at_int HR0.out x6_2 p232 q232
                cases e232
                replace hx232_0 := (HB.out.cell (World.block_lt_of_cell? w _ hx232_0)).trans hx232_0
                replace p232 := eq_true p232
                replace q232 := eq_true q232
                try go_wp2
                have n0_ := QO (Kd.R_drew HO_5.out)
                have n1_ := QO (QE HB.out)
                clear HO_5
                clear HB
                have HO_5 := n0_
                have HB := n1_
                clear n0_ n1_
                have p249 : 0 ≤ ((ji42) : Int) := of_decide_eq_true (by first | (with_reducible assumption) | assumption)
                have q249 : (ji42) < (x5_2.length : Int) := of_decide_eq_true (by first | (with_reducible assumption) | assumption)
                obtain ⟨ad249, e249, hx249_0⟩ := Kd.at_bool (Kd.R_reads' HO_5.out).2.2 (ji42) p249 q249
                (try rw [← Nbq45.out] at hx249_0)
                cases e249
                replace p249 := eq_true p249
                replace q249 := eq_true q249
                have q51 : ((ji42) : Int) ≤ ((x5_2.length : Int) : Int) := of_decide_eq_true (by first | (with_reducible assumption) | assumption)
                obtain ⟨i051, hi051, _, hsz51, _⟩ := info_parts info4
                have hcut51 := cut_to (P := Try.prog) 126 4 .i64 Try.underlying126 hi051 (some ad249) x5_2.length co49 (ji42) (of_decide_eq_true (by first | (with_reducible assumption) | assumption)) q51 (Kd.R_reads' HO_5.out).2.1
                have hr51 := Kd.R_take (m := ((ji42) : Int).toNat) HO_5.out (by omega)
                have hy51 : y250.length = ((ji42) : Int).toNat := (by rw [Ny250.out, List.length_take]; omega)
                rw [← Ny250.out] at hr51
                rw [← hy51] at hr51 hcut51
                clear hy51 hi051 hsz51 HO_5
                have HO252 := QO hr51
                clear hr51
                replace q51 := eq_true q51
                refine start_ (n := 19) (S := fun w' => w'.cell? (ad249.add ((ji42)).toNat) = some (.bool true)) (ds := [16, 17]) #[Y0,Y0,Y0,Y0,Y0,Y0,Y0,Y0,Y0,Y0,Y0,Y0,Y0,Y0,Y0,Y0,Y0,Y0,Y0] (by kernel_rfl) rfl rfl (hx249_0) (fun hHeld => ?_); refine with_tabW spec_Matches.tab15 spec_Matches.bits15 (fun HT_ HW_ => ?_)
                generalize wr.drew = w50 at HB HO252 hx249_0 hHeld ⊢
                refine QJ (i := 0) (N := some 72) (v := ?_) (a' := ?_) #[Y1,Y0,Y0,Y0,Y0,Y0,Y0,Y0,Y0,Y0,Y0,Y0,Y0,Y0,Y0,Y0,Y0,Y0,Y0] rfl rfl (QI HT_.out (by kernel_rfl)) (fun _ _ _ h => h) (Or.inl ⟨by rfl, ?_⟩) ?_ ?_
                rotate_left
                ·intro w'
                 go_simp
                 with_reducible rfl
                rotate_left
                ·simp only [Act.put, QL, QM, QN, QG, QH]
                 rfl
                refine QJ (i := 1) (N := some 73) (v := ?_) (a' := ?_) #[Y1,Y1,Y0,Y0,Y0,Y0,Y0,Y0,Y0,Y0,Y0,Y0,Y0,Y0,Y0,Y0,Y0,Y0,Y0] rfl rfl (QI HT_.out (by kernel_rfl)) (fun _ _ _ h => h) (Or.inl ⟨by rfl, ?_⟩) ?_ ?_
                rotate_left
                ·intro w'
                 go_simp
                 with_reducible rfl
                rotate_left
                ·simp only [Act.put, QL, QM, QN, QG, QH]
                 rfl
                refine QJ (i := 2) (N := some 74) (v := ?_) (a' := ?_) #[Y1,Y1,Y1,Y0,Y0,Y0,Y0,Y0,Y0,Y0,Y0,Y0,Y0,Y0,Y0,Y0,Y0,Y0,Y0] rfl rfl (QI HT_.out (by kernel_rfl)) (fun _ _ _ h => h) (Or.inl ⟨by rfl, ?_⟩) ?_ ?_
                rotate_left
                ·intro w'
                 go_simp
                 with_reducible rfl
                rotate_left
                ·simp only [Act.put, QL, QM, QN, QG, QH]
                 rfl
                refine QJ (i := 4) (N := some 76) (v := ?_) (a' := ?_) #[Y1,Y1,Y1,Y0,Y1,Y0,Y0,Y0,Y0,Y0,Y0,Y0,Y0,Y0,Y0,Y0,Y0,Y0,Y0] rfl rfl (QI HT_.out (by kernel_rfl)) (fun _ _ _ h => h) (Or.inl ⟨by rfl, ?_⟩) ?_ ?_
                rotate_left
                ·intro w'
                 go_simp
                 with_reducible rfl
                rotate_left
                ·simp only [Act.put, QL, QM, QN, QG, QH]
                 rfl
                refine QJ (i := 5) (N := some 77) (v := ?_) (a' := ?_) #[Y1,Y1,Y1,Y0,Y1,Y1,Y0,Y0,Y0,Y0,Y0,Y0,Y0,Y0,Y0,Y0,Y0,Y0,Y0] rfl rfl (QI HT_.out (by kernel_rfl)) (fun _ _ _ h => h) (Or.inl ⟨by rfl, ?_⟩) ?_ ?_
                rotate_left
                ·intro w'
                 go_simp
                 with_reducible rfl
                rotate_left
                ·simp only [Act.put, QL, QM, QN, QG, QH]
                 rfl
                refine QJ (i := 6) (N := some 78) (v := ?_) (a' := ?_) #[Y1,Y1,Y1,Y0,Y1,Y1,Y1,Y0,Y0,Y0,Y0,Y0,Y0,Y0,Y0,Y0,Y0,Y0,Y0] rfl rfl (QI HT_.out (by kernel_rfl)) (fun _ _ _ h => h) (Or.inl ⟨by rfl, ?_⟩) ?_ ?_
                rotate_left
                ·intro w'
                 go_simp
                 with_reducible rfl
                rotate_left
                ·simp only [Act.put, QL, QM, QN, QG, QH]
                 rfl
                refine QJ (i := 7) (N := some 79) (v := ?_) (a' := ?_) #[Y1,Y1,Y1,Y0,Y1,Y1,Y1,Y1,Y0,Y0,Y0,Y0,Y0,Y0,Y0,Y0,Y0,Y0,Y0] rfl rfl (QI HT_.out (by kernel_rfl)) (fun _ _ _ h => h) (Or.inl ⟨by rfl, ?_⟩) ?_ ?_
                rotate_left
                ·intro w'
                 go_simp
                 with_reducible rfl
                rotate_left
                ·simp only [Act.put, QL, QM, QN, QG, QH]
                 rfl
                refine QJ (i := 3) (N := some 75) (v := ?_) (a' := ?_) #[Y1,Y1,Y1,Y1,Y1,Y1,Y1,Y1,Y0,Y0,Y0,Y0,Y0,Y0,Y0,Y0,Y0,Y0,Y0] rfl rfl (QI HT_.out (by kernel_rfl)) (fun _ _ _ h => h) (Or.inl ⟨by rfl, ?_⟩) ?_ ?_
                rotate_left
                ·intro w'
                 go_simp
                 with_reducible rfl
                rotate_left
                ·simp only [Act.put, QL, QM, QN, QG, QH]
                 rfl
                refine take_ (i := 8) (N := some 80) (v := ?_) (a' := ?_) #[Y1,Y1,Y1,Y1,Y1,Y1,Y1,Y1,Y1,Y0,Y0,Y0,Y0,Y0,Y0,Y0,Y0,Y0,Y0] rfl rfl (take_ofW HT_.out HW_.out (by kernel_rfl)) (fun _ _ _ h => h) (Or.inl ⟨by rfl, ?_⟩) hHeld ?_ ?_
                rotate_left
                ·intro w' s0
                 go_simp
                 with_reducible rfl
                rotate_left
                ·simp only [Act.put, QL, QM, QN, QG, QH]
                 rfl
                refine QJ (i := 9) (N := some 81) (v := ?_) (a' := ?_) #[Y1,Y1,Y1,Y1,Y1,Y1,Y1,Y1,Y1,Y1,Y0,Y0,Y0,Y0,Y0,Y0,Y0,Y0,Y0] rfl rfl (QI HT_.out (by kernel_rfl)) (fun _ _ _ h => h) (Or.inl ⟨by rfl, ?_⟩) ?_ ?_
                rotate_left
                ·intro w'
                 go_simp
                 with_reducible rfl
                rotate_left
                ·simp only [Act.put, QL, QM, QN, QG, QH]
                 rfl
                refine QJ (i := 10) (N := some 82) (v := undef) (a' := ?_) #[Y1,Y1,Y1,Y1,Y1,Y1,Y1,Y1,Y1,Y1,Y1,Y0,Y0,Y0,Y0,Y0,Y0,Y0,Y0] rfl rfl (QI HT_.out (by kernel_rfl)) (fun _ _ _ h => h) (Or.inr ⟨by rfl, rfl⟩) ?_ ?_
                rotate_left
                ·simp only [Act.put, QL, QM, QN, QG, QH]
                 rfl
                refine QJ (i := 11) (N := some 83) (v := undef) (a' := ?_) #[Y1,Y1,Y1,Y1,Y1,Y1,Y1,Y1,Y1,Y1,Y1,Y1,Y0,Y0,Y0,Y0,Y0,Y0,Y0] rfl rfl (QI HT_.out (by kernel_rfl)) (fun _ _ _ h => h) (Or.inr ⟨by rfl, rfl⟩) ?_ ?_
                rotate_left
                ·simp only [Act.put, QL, QM, QN, QG, QH]
                 rfl
                refine QJ (i := 12) (N := some 84) (v := undef) (a' := ?_) #[Y1,Y1,Y1,Y1,Y1,Y1,Y1,Y1,Y1,Y1,Y1,Y1,Y1,Y0,Y0,Y0,Y0,Y0,Y0] rfl rfl (QI HT_.out (by kernel_rfl)) (fun _ _ _ h => h) (Or.inr ⟨by rfl, rfl⟩) ?_ ?_
                rotate_left
                ·simp only [Act.put, QL, QM, QN, QG, QH]
                 rfl
                refine QJ (i := 13) (N := some 85) (v := undef) (a' := ?_) #[Y1,Y1,Y1,Y1,Y1,Y1,Y1,Y1,Y1,Y1,Y1,Y1,Y1,Y1,Y0,Y0,Y0,Y0,Y0] rfl rfl (QI HT_.out (by kernel_rfl)) (fun _ _ _ h => h) (Or.inr ⟨by rfl, rfl⟩) ?_ ?_
                rotate_left
                ·simp only [Act.put, QL, QM, QN, QG, QH]
                 rfl
                refine QJ (i := 14) (N := some 86) (v := undef) (a' := ?_) #[Y1,Y1,Y1,Y1,Y1,Y1,Y1,Y1,Y1,Y1,Y1,Y1,Y1,Y1,Y1,Y0,Y0,Y0,Y0] rfl rfl (QI HT_.out (by kernel_rfl)) (fun _ _ _ h => h) (Or.inr ⟨by rfl, rfl⟩) ?_ ?_
                rotate_left
                ·simp only [Act.put, QL, QM, QN, QG, QH]
                 rfl
                refine QJ (i := 15) (N := some 87) (v := ?_) (a' := ?_) #[Y1,Y1,Y1,Y1,Y1,Y1,Y1,Y1,Y1,Y1,Y1,Y1,Y1,Y1,Y1,Y1,Y0,Y0,Y0] rfl rfl (QI HT_.out (by kernel_rfl)) (fun _ _ _ h => h) (Or.inl ⟨by rfl, ?_⟩) ?_ ?_
                rotate_left
                ·intro w'
                 go_simp
                 with_reducible rfl
                rotate_left
                ·simp only [Act.put, QL, QM, QN, QG, QH]
                 rfl
                refine last_ (i := 16) (N := some 88) #[Y1,Y1,Y1,Y1,Y1,Y1,Y1,Y1,Y1,Y1,Y1,Y1,Y1,Y1,Y1,Y1,Y1,Y0,Y0] rfl rfl (one_of HT_.out (by kernel_rfl)) (by decide) (fun K hK => ?_)
                refine value_ (w1 := ?_) (v := ?_) (by rfl) rfl ?_ ?_
                rotate_left 2
                ·go_simp
                 constructor
                 ·rfl
                 ·rfl
                refine hK.out _ _ ?_
                clear hK K
                refine norm_ (a' := ?_) ?_ ?_
                rotate_left
                ·show Act.put _ (some 88) _ = _
                 simp only [Act.put, QL, QM, QN, QG, QH]
                 rfl
                refine last_ (i := 17) (N := some 89) #[Y1,Y1,Y1,Y1,Y1,Y1,Y1,Y1,Y1,Y1,Y1,Y1,Y1,Y1,Y1,Y1,Y1,Y1,Y0] rfl rfl (one_of HT_.out (by kernel_rfl)) (by decide) (fun K hK => ?_)
                refine Kd.R_append_step Kd.bool (w0 := w) w.heap.size (by rfl) (.tmp 75) (.tmp 88) 126 4 (.bool false) 1 rfl Try.underlying126 info4 rfl (by decide) (by omega) (.slice (some ad249) y250.length co49) y250 true [.bool true] (fun _ => True) (fun _ => False) rfl rfl ?aP (fun _ hk => hk.elim) ?aF ?aO ?aB ?aS ?aL ?_
                (case aP => exact rfl)
                (case aB => exact (by repeat (first | (with_reducible first | exact HB.out | apply QF | apply QD | apply QE) | exact HB.out)))
                (case aF => exact (fun _ _ => trivial))
                (case aO => exact (by (with_reducible repeat (first | apply Kd.R_alloc | apply Kd.R_drewN | apply Kd.R_drew)); exact HO252.out))
                (case aS => exact (QK (by repeat (first | (with_reducible first | exact HB.out | apply QF | apply QD | apply QE) | exact HB.out))))
                (case aL => have := LMc48.out; omega)
                intro v254 w52 ho hb hg hat
                rw [← Ny253.out] at ho
                have n0_ := QO (hb)
                have n1_ := QO (ho)
                clear HB
                clear HO252
                have HB := n0_
                have HO255 := n1_
                clear n0_ n1_
                clear ho hb hg hat
                refine hK.out _ _ ?_
                clear hK K
                refine norm_ (a' := ?_) ?_ ?_
                rotate_left
                ·show Act.put _ (some 89) _ = _
                 simp only [Act.put, QL, QM, QN, QG, QH]
                 rfl
                refine QJ (i := 18) (N := some 5) (v := ?_) (a' := ?_) #[Y1,Y1,Y1,Y1,Y1,Y1,Y1,Y1,Y1,Y1,Y1,Y1,Y1,Y1,Y1,Y1,Y1,Y1,Y1] rfl rfl (QI HT_.out (by kernel_rfl)) (fun _ _ _ h => h) (Or.inl ⟨by rfl, ?_⟩) ?_ ?_
                rotate_left
                ·intro w'
                 go_simp
                 with_reducible rfl
                rotate_left
                ·simp only [Act.put, QL, QM, QN, QG, QH]
                 rfl
                refine done_ (done_of HT_.out (by kernel_rfl)) ?_
                try go_wp2
                go_roundg k2
                case measure => have := HJ2.out; have := HK2.out; omega
                case rel => exact ⟨(y253), (wrap64 (x6_2 + 1)), (by first | rfl | (simp; done) | (simp [*]; done)), H', ⟨by have := HJ2.out; have := HK2.out; omega⟩, ⟨by (with_reducible repeat (first | apply Kd.R_alloc | apply Kd.R_drewN | apply Kd.R_drew)); exact HO255.out⟩, ⟨by repeat (first | (with_reducible first | exact HB.out | apply QF | apply QD | apply QE) | exact HB.out)⟩⟩
               ·rw [if_neg c48] at H
                exact absurd H (by simp)
              ·rw [if_neg c47] at H
               exact absurd H (by simp)
             ·replace c46 := Bool.eq_false_iff.mpr c46
              subst c46
              rw [if_neg (show ¬ (false = true) by decide)] at H
              obtain ⟨ji53, hji53⟩ : ∃ j_ : Int, (wrap64 ((x5_2.length : Int) - 1)) = j_ := ⟨_, rfl⟩
              replace H : (if 0 ≤ (ji53) then (if (ji53) < (x5_2.length : Int) then (if (ji42) ≤ (x5_2.length : Int) then ((some (x5_2.take ((ji42) : Int).toNat : List Bool)).bind fun y257 => (if y257.length < 140737488355328 then (spec_Matches.l0 k2 l0 a1 (y257 ++ [rdOf false x5_2 (ji53)]) (wrap64 (x6_2 + 1))) else (none))) else (none)) else (none)) else (none)) = some r := by first | (rw [hji53] at H; exact H) | (simp only [hji53] at H ⊢; exact H)
              have hji53w : (IntKind.i64.wrap ((x5_2.length : Int) - 1)) = ji53 := (QG _).trans hji53
              by_cases c54 : 0 ≤ (ji53)
              ·rw [if_pos c54] at H
               have c54b0 : decide (0 ≤ (ji53)) = true := decide_eq_true c54
               clear c54
               by_cases c55 : (ji53) < (x5_2.length : Int)
               ·rw [if_pos c55] at H
                have c55b0 : decide ((ji53) < (x5_2.length : Int)) = true := decide_eq_true c55
                clear c55
                by_cases c56 : (ji42) ≤ (x5_2.length : Int)
                ·rw [if_pos c56] at H
                 have c56b0 := eq_true c56
                 have c56b1 : decide ((ji42) ≤ (x5_2.length : Int)) = true := decide_eq_true c56
                 clear c56
                 obtain ⟨y257, hy257⟩ : ∃ y_ : List Bool, y_ = (x5_2.take ((ji42) : Int).toNat) := ⟨_, rfl⟩
                 replace H : (if y257.length < 140737488355328 then (spec_Matches.l0 k2 l0 a1 (y257 ++ [rdOf false x5_2 (ji53)]) (wrap64 (x6_2 + 1))) else (none)) = some r := by first | (rw [hy257]; with_reducible exact H) | (have H2_ := (Option.bind_some _ _).symm.trans H; rw [hy257]; with_reducible exact H2_) | (have H2_ := (Option.bind_some _ _).symm.trans H; with_reducible exact H2_) | with_reducible exact H | (rw [hy257]; exact H) | exact H
                 have Ny257 := QO hy257
                 clear hy257
                 by_cases c57 : y257.length < 140737488355328
                 ·rw [if_pos c57] at H
                  have LMc57 := QO c57
                  clear c57
                  obtain ⟨y260, hy260⟩ : ∃ y_ : List Bool, y_ = (y257 ++ [rdOf false x5_2 (ji53)]) := ⟨_, rfl⟩
                  replace H : (spec_Matches.l0 k2 l0 a1 y260 (wrap64 (x6_2 + 1))) = some r := by first | (rw [hy260]; with_reducible exact H) | (have H2_ := (Option.bind_some _ _).symm.trans H; rw [hy260]; with_reducible exact H2_) | (have H2_ := (Option.bind_some _ _).symm.trans H; with_reducible exact H2_) | with_reducible exact H | (rw [hy260]; exact H) | exact H
                  have Ny260 := QO hy260
                  clear hy260
                  have H' := QO H
                  clear H
                  obtain ⟨Ao58, co58, eo58⟩ := Kd.R_slice HO_5.out
                  subst eo58
                  have p232 : 0 ≤ (x6_2 : Int) := of_decide_eq_true (by first | (with_reducible assumption) | assumption)
                  have q232 : x6_2 < (l0.length : Int) := of_decide_eq_true (by first | (with_reducible assumption) | assumption)
                  obtain ⟨ad232, e232, hx232_0⟩ := Kd.at_int HR0.out x6_2 p232 q232
                  cases e232
                  replace hx232_0 := (HB.out.cell (World.block_lt_of_cell? w _ hx232_0)).trans hx232_0
                  replace p232 := eq_true p232
                  replace q232 := eq_true q232
                  try go_wp2
                  have n0_ := QO (Kd.R_drew HO_5.out)
                  have n1_ := QO (QE HB.out)
                  clear HO_5
                  clear HB
                  have HO_5 := n0_
                  have HB := n1_
                  clear n0_ n1_
                  have p249 : 0 ≤ ((ji42) : Int) := of_decide_eq_true (by first | (with_reducible assumption) | assumption)
                  have q249 : (ji42) < (x5_2.length : Int) := of_decide_eq_true (by first | (with_reducible assumption) | assumption)
                  obtain ⟨ad249, e249, hx249_0⟩ := Kd.at_bool (Kd.R_reads' HO_5.out).2.2 (ji42) p249 q249
                  (try rw [← Nbq45.out] at hx249_0)
                  cases e249
                  replace p249 := eq_true p249
                  replace q249 := eq_true q249
                  have p256 : 0 ≤ ((ji53) : Int) := of_decide_eq_true (by first | (with_reducible assumption) | assumption)
                  have q256 : (ji53) < (x5_2.length : Int) := of_decide_eq_true (by first | (with_reducible assumption) | assumption)
                  obtain ⟨ad256, e256, hx256_0⟩ := Kd.at_bool (Kd.R_reads' HO_5.out).2.2 (ji53) p256 q256
                  (try rw [← Nbq45.out] at hx256_0)
                  obtain rfl : ad249 = ad256 := (by injection e256)
                  replace p256 := eq_true p256
                  replace q256 := eq_true q256
                  have q60 : ((ji42) : Int) ≤ ((x5_2.length : Int) : Int) := of_decide_eq_true (by first | (with_reducible assumption) | assumption)
                  obtain ⟨i060, hi060, _, hsz60, _⟩ := info_parts info4
                  have hcut60 := cut_to (P := Try.prog) 126 4 .i64 Try.underlying126 hi060 (some ad249) x5_2.length co58 (ji42) (of_decide_eq_true (by first | (with_reducible assumption) | assumption)) q60 (Kd.R_reads' HO_5.out).2.1
                  have hr60 := Kd.R_take (m := ((ji42) : Int).toNat) HO_5.out (by omega)
                  have hy60 : y257.length = ((ji42) : Int).toNat := (by rw [Ny257.out, List.length_take]; omega)
                  rw [← Ny257.out] at hr60
                  rw [← hy60] at hr60 hcut60
                  clear hy60 hi060 hsz60 HO_5
                  have HO259 := QO hr60
                  clear hr60
                  replace q60 := eq_true q60
                  refine start_ (n := 19) (S := fun w' => w'.cell? (ad249.add ((ji42)).toNat) = some (.bool false) ∧ w'.cell? (ad249.add ((ji53)).toNat) = some (.bool (rdOf false x5_2 (ji53)))) (ds := [16, 17]) #[Y0,Y0,Y0,Y0,Y0,Y0,Y0,Y0,Y0,Y0,Y0,Y0,Y0,Y0,Y0,Y0,Y0,Y0,Y0] (by kernel_rfl) rfl rfl ⟨hx249_0, hx256_0⟩ (fun hHeld => ?_); refine with_tabW spec_Matches.tab15 spec_Matches.bits15 (fun HT_ HW_ => ?_)
                  generalize wr.drew = w59 at HB HO259 hx249_0 hx256_0 hHeld ⊢
                  refine QJ (i := 0) (N := some 72) (v := ?_) (a' := ?_) #[Y1,Y0,Y0,Y0,Y0,Y0,Y0,Y0,Y0,Y0,Y0,Y0,Y0,Y0,Y0,Y0,Y0,Y0,Y0] rfl rfl (QI HT_.out (by kernel_rfl)) (fun _ _ _ h => h) (Or.inl ⟨by rfl, ?_⟩) ?_ ?_
                  rotate_left
                  ·intro w'
                   go_simp
                   with_reducible rfl
                  rotate_left
                  ·simp only [Act.put, QL, QM, QN, QG, QH]
                   rfl
                  refine QJ (i := 1) (N := some 73) (v := ?_) (a' := ?_) #[Y1,Y1,Y0,Y0,Y0,Y0,Y0,Y0,Y0,Y0,Y0,Y0,Y0,Y0,Y0,Y0,Y0,Y0,Y0] rfl rfl (QI HT_.out (by kernel_rfl)) (fun _ _ _ h => h) (Or.inl ⟨by rfl, ?_⟩) ?_ ?_
                  rotate_left
                  ·intro w'
                   go_simp
                   with_reducible rfl
                  rotate_left
                  ·simp only [Act.put, QL, QM, QN, QG, QH]
                   rfl
                  refine QJ (i := 2) (N := some 74) (v := ?_) (a' := ?_) #[Y1,Y1,Y1,Y0,Y0,Y0,Y0,Y0,Y0,Y0,Y0,Y0,Y0,Y0,Y0,Y0,Y0,Y0,Y0] rfl rfl (QI HT_.out (by kernel_rfl)) (fun _ _ _ h => h) (Or.inl ⟨by rfl, ?_⟩) ?_ ?_
                  rotate_left
                  ·intro w'
                   go_simp
                   with_reducible rfl
                  rotate_left
                  ·simp only [Act.put, QL, QM, QN, QG, QH]
                   rfl
                  refine QJ (i := 4) (N := some 76) (v := ?_) (a' := ?_) #[Y1,Y1,Y1,Y0,Y1,Y0,Y0,Y0,Y0,Y0,Y0,Y0,Y0,Y0,Y0,Y0,Y0,Y0,Y0] rfl rfl (QI HT_.out (by kernel_rfl)) (fun _ _ _ h => h) (Or.inl ⟨by rfl, ?_⟩) ?_ ?_
                  rotate_left
                  ·intro w'
                   go_simp
                   with_reducible rfl
                  rotate_left
                  ·simp only [Act.put, QL, QM, QN, QG, QH]
                   rfl
                  refine QJ (i := 5) (N := some 77) (v := ?_) (a' := ?_) #[Y1,Y1,Y1,Y0,Y1,Y1,Y0,Y0,Y0,Y0,Y0,Y0,Y0,Y0,Y0,Y0,Y0,Y0,Y0] rfl rfl (QI HT_.out (by kernel_rfl)) (fun _ _ _ h => h) (Or.inl ⟨by rfl, ?_⟩) ?_ ?_
                  rotate_left
                  ·intro w'
                   go_simp
                   with_reducible rfl
                  rotate_left
                  ·simp only [Act.put, QL, QM, QN, QG, QH]
                   rfl
                  refine QJ (i := 6) (N := some 78) (v := ?_) (a' := ?_) #[Y1,Y1,Y1,Y0,Y1,Y1,Y1,Y0,Y0,Y0,Y0,Y0,Y0,Y0,Y0,Y0,Y0,Y0,Y0] rfl rfl (QI HT_.out (by kernel_rfl)) (fun _ _ _ h => h) (Or.inl ⟨by rfl, ?_⟩) ?_ ?_
                  rotate_left
                  ·intro w'
                   go_simp
                   with_reducible rfl
                  rotate_left
                  ·simp only [Act.put, QL, QM, QN, QG, QH]
                   rfl
                  refine QJ (i := 7) (N := some 79) (v := ?_) (a' := ?_) #[Y1,Y1,Y1,Y0,Y1,Y1,Y1,Y1,Y0,Y0,Y0,Y0,Y0,Y0,Y0,Y0,Y0,Y0,Y0] rfl rfl (QI HT_.out (by kernel_rfl)) (fun _ _ _ h => h) (Or.inl ⟨by rfl, ?_⟩) ?_ ?_
                  rotate_left
                  ·intro w'
                   go_simp
                   with_reducible rfl
                  rotate_left
                  ·simp only [Act.put, QL, QM, QN, QG, QH]
                   rfl
                  refine QJ (i := 3) (N := some 75) (v := ?_) (a' := ?_) #[Y1,Y1,Y1,Y1,Y1,Y1,Y1,Y1,Y0,Y0,Y0,Y0,Y0,Y0,Y0,Y0,Y0,Y0,Y0] rfl rfl (QI HT_.out (by kernel_rfl)) (fun _ _ _ h => h) (Or.inl ⟨by rfl, ?_⟩) ?_ ?_
                  rotate_left
                  ·intro w'
                   go_simp
                   with_reducible rfl
                  rotate_left
                  ·simp only [Act.put, QL, QM, QN, QG, QH]
                   rfl
                  refine take_ (i := 8) (N := some 80) (v := ?_) (a' := ?_) #[Y1,Y1,Y1,Y1,Y1,Y1,Y1,Y1,Y1,Y0,Y0,Y0,Y0,Y0,Y0,Y0,Y0,Y0,Y0] rfl rfl (take_ofW HT_.out HW_.out (by kernel_rfl)) (fun _ _ _ h => h) (Or.inl ⟨by rfl, ?_⟩) hHeld ?_ ?_
                  rotate_left
                  ·rintro w' ⟨s0, s1⟩
                   go_simp
                   with_reducible rfl
                  rotate_left
                  ·simp only [Act.put, QL, QM, QN, QG, QH]
                   rfl
                  refine QJ (i := 9) (N := some 81) (v := ?_) (a' := ?_) #[Y1,Y1,Y1,Y1,Y1,Y1,Y1,Y1,Y1,Y1,Y0,Y0,Y0,Y0,Y0,Y0,Y0,Y0,Y0] rfl rfl (QI HT_.out (by kernel_rfl)) (fun _ _ _ h => h) (Or.inl ⟨by rfl, ?_⟩) ?_ ?_
                  rotate_left
                  ·intro w'
                   go_simp
                   with_reducible rfl
                  rotate_left
                  ·simp only [Act.put, QL, QM, QN, QG, QH]
                   rfl
                  refine QJ (i := 10) (N := some 82) (v := ?_) (a' := ?_) #[Y1,Y1,Y1,Y1,Y1,Y1,Y1,Y1,Y1,Y1,Y1,Y0,Y0,Y0,Y0,Y0,Y0,Y0,Y0] rfl rfl (QI HT_.out (by kernel_rfl)) (fun _ _ _ h => h) (Or.inl ⟨by rfl, ?_⟩) ?_ ?_
                  rotate_left
                  ·intro w'
                   go_simp
                   with_reducible rfl
                  rotate_left
                  ·simp only [Act.put, QL, QM, QN, QG, QH]
                   rfl
                  refine QJ (i := 11) (N := some 83) (v := ?_) (a' := ?_) #[Y1,Y1,Y1,Y1,Y1,Y1,Y1,Y1,Y1,Y1,Y1,Y1,Y0,Y0,Y0,Y0,Y0,Y0,Y0] rfl rfl (QI HT_.out (by kernel_rfl)) (fun _ _ _ h => h) (Or.inl ⟨by rfl, ?_⟩) ?_ ?_
                  rotate_left
                  ·intro w'
                   go_simp
                   with_reducible rfl
                  rotate_left
                  ·simp only [Act.put, QL, QM, QN, QG, QH]
                   rfl
                  refine QJ (i := 12) (N := some 84) (v := ?_) (a' := ?_) #[Y1,Y1,Y1,Y1,Y1,Y1,Y1,Y1,Y1,Y1,Y1,Y1,Y1,Y0,Y0,Y0,Y0,Y0,Y0] rfl rfl (QI HT_.out (by kernel_rfl)) (fun _ _ _ h => h) (Or.inl ⟨by rfl, ?_⟩) ?_ ?_
                  rotate_left
                  ·intro w'
                   go_simp
                   with_reducible rfl
                  rotate_left
                  ·simp only [Act.put, QL, QM, QN, QG, QH]
                   rfl
                  refine QJ (i := 13) (N := some 85) (v := ?_) (a' := ?_) #[Y1,Y1,Y1,Y1,Y1,Y1,Y1,Y1,Y1,Y1,Y1,Y1,Y1,Y1,Y0,Y0,Y0,Y0,Y0] rfl rfl (QI HT_.out (by kernel_rfl)) (fun _ _ _ h => h) (Or.inl ⟨by rfl, ?_⟩) ?_ ?_
                  rotate_left
                  ·intro w'
                   go_simp
                   with_reducible rfl
                  rotate_left
                  ·simp only [Act.put, QL, QM, QN, QG, QH]
                   rfl
                  refine take_ (i := 14) (N := some 86) (v := ?_) (a' := ?_) #[Y1,Y1,Y1,Y1,Y1,Y1,Y1,Y1,Y1,Y1,Y1,Y1,Y1,Y1,Y1,Y0,Y0,Y0,Y0] rfl rfl (take_ofW HT_.out HW_.out (by kernel_rfl)) (fun _ _ _ h => h) (Or.inl ⟨by rfl, ?_⟩) hHeld ?_ ?_
                  rotate_left
                  ·rintro w' ⟨s0, s1⟩
                   go_simp
                   with_reducible rfl
                  rotate_left
                  ·simp only [Act.put, QL, QM, QN, QG, QH]
                   rfl
                  refine QJ (i := 15) (N := some 87) (v := ?_) (a' := ?_) #[Y1,Y1,Y1,Y1,Y1,Y1,Y1,Y1,Y1,Y1,Y1,Y1,Y1,Y1,Y1,Y1,Y0,Y0,Y0] rfl rfl (QI HT_.out (by kernel_rfl)) (fun _ _ _ h => h) (Or.inl ⟨by rfl, ?_⟩) ?_ ?_
                  rotate_left
                  ·intro w'
                   go_simp
                   with_reducible rfl
                  rotate_left
                  ·simp only [Act.put, QL, QM, QN, QG, QH]
                   rfl
                  refine last_ (i := 16) (N := some 88) #[Y1,Y1,Y1,Y1,Y1,Y1,Y1,Y1,Y1,Y1,Y1,Y1,Y1,Y1,Y1,Y1,Y1,Y0,Y0] rfl rfl (one_of HT_.out (by kernel_rfl)) (by decide) (fun K hK => ?_)
                  refine value_ (w1 := ?_) (v := ?_) (by rfl) rfl ?_ ?_
                  rotate_left 2
                  ·go_simp
                   constructor
                   ·rfl
                   ·rfl
                  refine hK.out _ _ ?_
                  clear hK K
                  refine norm_ (a' := ?_) ?_ ?_
                  rotate_left
                  ·show Act.put _ (some 88) _ = _
                   simp only [Act.put, QL, QM, QN, QG, QH]
                   rfl
                  refine last_ (i := 17) (N := some 89) #[Y1,Y1,Y1,Y1,Y1,Y1,Y1,Y1,Y1,Y1,Y1,Y1,Y1,Y1,Y1,Y1,Y1,Y1,Y0] rfl rfl (one_of HT_.out (by kernel_rfl)) (by decide) (fun K hK => ?_)
                  refine Kd.R_append_step Kd.bool (w0 := w) w.heap.size (by rfl) (.tmp 75) (.tmp 88) 126 4 (.bool false) 1 rfl Try.underlying126 info4 rfl (by decide) (by omega) (.slice (some ad249) y257.length co58) y257 (rdOf false x5_2 (ji53)) [.bool (rdOf false x5_2 (ji53))] (fun _ => True) (fun _ => False) rfl rfl ?aP (fun _ hk => hk.elim) ?aF ?aO ?aB ?aS ?aL ?_
                  (case aP => exact rfl)
                  (case aB => exact (by repeat (first | (with_reducible first | exact HB.out | apply QF | apply QD | apply QE) | exact HB.out)))
                  (case aF => exact (fun _ _ => trivial))
                  (case aO => exact (by (with_reducible repeat (first | apply Kd.R_alloc | apply Kd.R_drewN | apply Kd.R_drew)); exact HO259.out))
                  (case aS => exact (QK (by repeat (first | (with_reducible first | exact HB.out | apply QF | apply QD | apply QE) | exact HB.out))))
                  (case aL => have := LMc57.out; omega)
                  intro v261 w61 ho hb hg hat
                  rw [← Ny260.out] at ho
                  have n0_ := QO (hb)
                  have n1_ := QO (ho)
                  clear HB
                  clear HO259
                  have HB := n0_
                  have HO262 := n1_
                  clear n0_ n1_
                  clear ho hb hg hat
                  refine hK.out _ _ ?_
                  clear hK K
                  refine norm_ (a' := ?_) ?_ ?_
                  rotate_left
                  ·show Act.put _ (some 89) _ = _
                   simp only [Act.put, QL, QM, QN, QG, QH]
                   rfl
                  refine QJ (i := 18) (N := some 5) (v := ?_) (a' := ?_) #[Y1,Y1,Y1,Y1,Y1,Y1,Y1,Y1,Y1,Y1,Y1,Y1,Y1,Y1,Y1,Y1,Y1,Y1,Y1] rfl rfl (QI HT_.out (by kernel_rfl)) (fun _ _ _ h => h) (Or.inl ⟨by rfl, ?_⟩) ?_ ?_
                  rotate_left
                  ·intro w'
                   go_simp
                   with_reducible rfl
                  rotate_left
                  ·simp only [Act.put, QL, QM, QN, QG, QH]
                   rfl
                  refine done_ (done_of HT_.out (by kernel_rfl)) ?_
                  try go_wp2
                  go_roundg k2
                  case measure => have := HJ2.out; have := HK2.out; omega
                  case rel => exact ⟨(y260), (wrap64 (x6_2 + 1)), (by first | rfl | (simp; done) | (simp [*]; done)), H', ⟨by have := HJ2.out; have := HK2.out; omega⟩, ⟨by (with_reducible repeat (first | apply Kd.R_alloc | apply Kd.R_drewN | apply Kd.R_drew)); exact HO262.out⟩, ⟨by repeat (first | (with_reducible first | exact HB.out | apply QF | apply QD | apply QE) | exact HB.out)⟩⟩
                 ·rw [if_neg c57] at H
                  exact absurd H (by simp)
                ·rw [if_neg c56] at H
                 exact absurd H (by simp)
               ·rw [if_neg c55] at H
                exact absurd H (by simp)
              ·rw [if_neg c54] at H
               exact absurd H (by simp)
            ·rw [if_neg c44] at H
             exact absurd H (by simp)
           ·rw [if_neg c43] at H
            exact absurd H (by simp)
          ·rw [if_neg c41] at H
           have c41b0 : ((rd l0 x6_2) == (-3)) = false := beq_eq_false_iff_ne.mpr c41
           have c41b1 : ((rd l0 x6_2) != (-3)) = true := bne_iff_ne.mpr c41
           replace H := Option.bind_eq_some_iff.mp H
           obtain ⟨t264, A620, H⟩ := H
           have A62 := QO A620
           clear A620
           by_cases c63 : x5_2.length < 140737488355328
           ·rw [if_pos c63] at H
            have LMc63 := QO c63
            clear c63
            obtain ⟨y265, hy265⟩ : ∃ y_ : List Bool, y_ = (x5_2 ++ [t264]) := ⟨_, rfl⟩
            replace H : (spec_Matches.l0 k2 l0 a1 y265 (wrap64 (x6_2 + 1))) = some r := by first | (rw [hy265]; with_reducible exact H) | (have H2_ := (Option.bind_some _ _).symm.trans H; rw [hy265]; with_reducible exact H2_) | (have H2_ := (Option.bind_some _ _).symm.trans H; with_reducible exact H2_) | with_reducible exact H | (rw [hy265]; exact H) | exact H
            have Ny265 := QO hy265
            clear hy265
            have H' := QO H
            clear H
            obtain ⟨Ao64, co64, eo64⟩ := Kd.R_slice HO_5.out
            subst eo64
            have p232 : 0 ≤ (x6_2 : Int) := of_decide_eq_true (by first | (with_reducible assumption) | assumption)
            have q232 : x6_2 < (l0.length : Int) := of_decide_eq_true (by first | (with_reducible assumption) | assumption)
            obtain ⟨ad232, e232, hx232_0⟩ := Kd.at_int HR0.out x6_2 p232 q232
            cases e232
            replace hx232_0 := (HB.out.cell (World.block_lt_of_cell? w _ hx232_0)).trans hx232_0
            replace p232 := eq_true p232
            replace q232 := eq_true q232
            have p263 : 0 ≤ (x6_2 : Int) := of_decide_eq_true (by first | (with_reducible assumption) | assumption)
            have q263 : x6_2 < (l0.length : Int) := of_decide_eq_true (by first | (with_reducible assumption) | assumption)
            obtain ⟨ad263, e263, hx263_0⟩ := Kd.at_int HR0.out x6_2 p263 q263
            obtain rfl : ad232 = ad263 := (by injection e263)
            replace hx263_0 := (HB.out.cell (World.block_lt_of_cell? w _ hx263_0)).trans hx263_0
            replace p263 := eq_true p263
            replace q263 := eq_true q263
            go_wp2_with (first | ((with_reducible refine gate_callee (f := 168) rfl ?_); refine goesL_ (some 35) rfl rfl Try.func168 (by kernel_rfl) rfl #[.int .i64 (rd l0 x6_2), .int .i64 a1] rfl (by (try simp only [List.map_toArray, List.map_cons, List.map_nil]); first | done | rfl | (simp only [List.length_drop, List.length_take]; rfl)) ?_; (with_reducible refine (spec_l8Value.calls (rd l0 x6_2) a1 t264 _ A62.out).mono ?_); rintro e w' ⟨rfl, ⟨nd, rfl⟩⟩; refine ⟨_, rfl, ?_⟩) | ((with_reducible refine gate_builtin (b := .append) (xs := #[.tmp 29, .tmp 36]) rfl ?_); at_builtin; refine Kd.R_append Kd.bool (w0 := w) w.heap.size rfl (.tmp 29) (.tmp 36) 126 4 (.bool false) 1 rfl Try.underlying126 info4 rfl (by decide) (by omega) (.slice Ao64 x5_2.length co64) x5_2 t264 [.bool t264] (fun _ => True) (fun _ => False) rfl rfl ?aP (fun _ hk => hk.elim) ?aF ?aO ?aB ?aS ?aL ?_; (case aP => exact rfl); (case aB => exact (by repeat (first | (with_reducible first | exact HB.out | apply QF | apply QD | apply QE) | exact HB.out))); (case aF => exact (fun _ _ => trivial)); (case aO => exact (by (with_reducible repeat (first | apply Kd.R_alloc | apply Kd.R_drewN | apply Kd.R_drew)); exact HO_5.out)); (case aS => exact (QK (by repeat (first | (with_reducible first | exact HB.out | apply QF | apply QD | apply QE) | exact HB.out)))); (case aL => have := LMc63.out; omega); intro v266 w65 ho hb hg hat; rw [← Ny265.out] at ho; have n0_ := QO (hb); have n1_ := QO (ho); clear HB; clear HO_5; have HB := n0_; have HO267 := n1_; clear n0_ n1_; clear ho hb hg hat))
            go_roundg k2
            case measure => have := HJ2.out; have := HK2.out; omega
            case rel => exact ⟨(y265), (wrap64 (x6_2 + 1)), (by first | rfl | (simp; done) | (simp [*]; done)), H', ⟨by have := HJ2.out; have := HK2.out; omega⟩, ⟨by (with_reducible repeat (first | apply Kd.R_alloc | apply Kd.R_drewN | apply Kd.R_drew)); exact HO267.out⟩, ⟨by repeat (first | (with_reducible first | exact HB.out | apply QF | apply QD | apply QE) | exact HB.out)⟩⟩
           ·rw [if_neg c63] at H
            exact absurd H (by simp)
       ·rw [if_neg c11] at H
        exact absurd H (by simp)
      ·rw [if_neg c10] at H
       have c10b0 : decide (x6_2 < (l0.length : Int)) = false := decide_eq_false c10
       clear c10
       by_cases c66 : 0 < (x5_2.length : Int)
       ·rw [if_pos c66] at H
        have c66b0 : decide (0 < (x5_2.length : Int)) = true := decide_eq_true c66
        have c66b1 : decide (0 < x5_2.length) = true := decide_eq_true (by omega)
        clear c66
        obtain rfl := Option.some.inj H
        obtain ⟨Ao67, co67, eo67⟩ := Kd.R_slice HO_5.out
        subst eo67
        have p231 : 0 ≤ (0 : Int) := (by omega)
        have q231 : 0 < (x5_2.length : Int) := of_decide_eq_true (by first | (with_reducible assumption) | assumption)
        obtain ⟨ad231, e231, hx231_0⟩ := Kd.at_bool (Kd.R_reads' HO_5.out).2.2 0 p231 q231
        cases e231
        have qi231 : (0 < x5_2.length) = True := eq_true (by omega)
        (try rw [show ((0 : Int)).toNat = 0 from rfl] at hx231_0)
        (try rw [Addr.add_zero'] at hx231_0)
        replace p231 := eq_true p231
        replace q231 := eq_true q231
        go_wp2
        go_ret
        exact ⟨by first | rfl | (simp [errW_none, errW_some] <;> rfl) | (simp [*, errW_none, errW_some] <;> rfl), by repeat (first | (with_reducible first | exact HB.out | apply QF | apply QD | apply QE) | exact HB.out)⟩
       ·rw [if_neg c66] at H
        exact absurd H (by simp)

/-! ### spec_FitsOn: function 95 -/
def spec_FitsOn.j0 : Nat → Int → Int → Bool → Int → Int → Bool → Bool → List Int → List Int → Int → Int → Option (Bool)
 | 0, _, _, _, _, _, _, _, _, _, _, _ => none
 | k + 1, x1, x2, x19, x269000, x269001, x269002, x269003, x269004, x269005, x269006, x269007 => if x19 = true then (some false) else (if x269002 = true then ((spec_SuitOf.f x2).bind fun t272 => ((spec_SuitOf.f x1).bind fun t273 => (if t272 = t273 then (some true) else (if x269003 = true then ((spec_RankOf.f x2).bind fun t274 => ((spec_RankOf.f x1).bind fun t275 => (if t274 = t275 then (some true) else ((spec_Matches.f k x269004 x2).bind fun t276 => (some t276))))) else ((spec_Matches.f k x269004 x2).bind fun t277 => (some t277)))))) else (if x269003 = true then ((spec_RankOf.f x2).bind fun t278 => ((spec_RankOf.f x1).bind fun t279 => (if t278 = t279 then (some true) else ((spec_Matches.f k x269004 x2).bind fun t280 => (some t280))))) else ((spec_Matches.f k x269004 x2).bind fun t281 => (some t281))))
def spec_FitsOn.f (k : Nat) (a0_0 : Int) (a0_1 : Int) (a0_2 : Bool) (a0_3 : Bool) (l0_4 : List Int) (l0_5 : List Int) (a0_6 : Int) (a0_7 : Int) (a1 : Int) (a2 : Int) : Option (Bool) := (spec_IsRules.f k a0_0 a0_1 a0_2 a0_3 l0_4 l0_5 a0_6 a0_7).bind fun t269 => (if t269 = true then ((spec_IsCard.f a1).bind fun t270 => (if t270 = true then ((spec_IsCard.f a2).bind fun t271 => (spec_FitsOn.j0 k a1 a2 (!t271) a0_0 a0_1 a0_2 a0_3 l0_4 l0_5 a0_6 a0_7)) else (spec_FitsOn.j0 k a1 a2 true a0_0 a0_1 a0_2 a0_3 l0_4 l0_5 a0_6 a0_7))) else (spec_FitsOn.j0 k a1 a2 true a0_0 a0_1 a0_2 a0_3 l0_4 l0_5 a0_6 a0_7))
theorem spec_FitsOn.mono_l : ∀ k, (∀ y0 y1 y2 y3 y4 y5 y6 y7 y8 y9 y10, LeO (spec_FitsOn.j0 k y0 y1 y2 y3 y4 y5 y6 y7 y8 y9 y10) (spec_FitsOn.j0 (k + 1) y0 y1 y2 y3 y4 y5 y6 y7 y8 y9 y10))
 | 0 => fun _ _ _ _ _ _ _ _ _ _ _ r h => by simp [spec_FitsOn.j0] at h
 | k + 1 => by
  have ih0 := spec_FitsOn.mono_l k
  ·intro y0 y1 y2 y3 y4 y5 y6 y7 y8 y9 y10
   unfold spec_FitsOn.j0
   repeat' first
   | (with_reducible exact ih0 _ _ _ _ _ _ _ _ _ _ _)
   | (with_reducible exact spec_IsRules.mono _ _ _ _ _ _ _ _ _)
   | (with_reducible exact spec_Matches.mono _ _ _)
   | (with_reducible exact LeO.refl _)
   | (with_reducible exact LeO.none _)
   | (with_reducible refine LeO.ite ?_ ?_)
   | (with_reducible refine LeO.bind ?_ (fun _ => ?_))
   | exact ih0 _ _ _ _ _ _ _ _ _ _ _
   | exact spec_IsRules.mono _ _ _ _ _ _ _ _ _
   | exact spec_Matches.mono _ _ _
   | exact LeO.none _
   | refine LeO.ite ?_ ?_
   | refine LeO.bind ?_ (fun _ => ?_)
theorem spec_FitsOn.mono : ∀ a0 a1 a2 a3 a4 a5 a6 a7 a8 a9 k, LeO (spec_FitsOn.f k a0 a1 a2 a3 a4 a5 a6 a7 a8 a9) (spec_FitsOn.f (k + 1) a0 a1 a2 a3 a4 a5 a6 a7 a8 a9) := by
 intro a0 a1 a2 a3 a4 a5 a6 a7 a8 a9 k
 have ih0 := spec_FitsOn.mono_l k
 unfold spec_FitsOn.f
 repeat' first
   | (with_reducible exact ih0 _ _ _ _ _ _ _ _ _ _ _)
   | (with_reducible exact spec_IsRules.mono _ _ _ _ _ _ _ _ _)
   | (with_reducible exact spec_Matches.mono _ _ _)
   | (with_reducible exact LeO.refl _)
   | (with_reducible exact LeO.none _)
   | (with_reducible refine LeO.ite ?_ ?_)
   | (with_reducible refine LeO.bind ?_ (fun _ => ?_))
   | exact ih0 _ _ _ _ _ _ _ _ _ _ _
   | exact spec_IsRules.mono _ _ _ _ _ _ _ _ _
   | exact spec_Matches.mono _ _ _
   | exact LeO.none _
   | refine LeO.ite ?_ ?_
   | refine LeO.bind ?_ (fun _ => ?_)
set_option maxHeartbeats 8000000 in
set_option maxRecDepth 100000 in
theorem spec_FitsOn.calls (k : Nat) (a0_0 : Int) (a0_1 : Int) (a0_2 : Bool) (a0_3 : Bool) (A0_4 : Option Addr) (c0_4 : Nat) (l0_4 : List Int) (A0_5 : Option Addr) (c0_5 : Nat) (l0_5 : List Int) (a0_6 : Int) (a0_7 : Int) (a1 : Int) (a2 : Int) (r : Bool) (w : World) (hr0_4 : Kd.C (Kd.int .i64) w A0_4 l0_4.length l0_4) (hc0_4 : l0_4.length ≤ c0_4) (hr0_5 : Kd.C (Kd.int .i64) w A0_5 l0_5.length l0_5) (hc0_5 : l0_5.length ≤ c0_5) (h : spec_FitsOn.f k a0_0 a0_1 a0_2 a0_3 l0_4 l0_5 a0_6 a0_7 a1 a2 = some r) :
  Calls Try.prog 95 #[.agg #[.int .i64 a0_0, .int .i64 a0_1, .bool a0_2, .bool a0_3, .slice A0_4 l0_4.length c0_4, .slice A0_5 l0_5.length c0_5, .int .i64 a0_6, .int .i64 a0_7], .int .i64 a1, .int .i64 a2] w fun e w' => e = .returned (.bool r) ∧ Below w.heap.size w w' := by
 have hu41 := Try.underlying41
 have HR0_4 := QO hr0_4
 have HC0_4 := QO hc0_4
 clear hr0_4 hc0_4
 have HR0_5 := QO hr0_5
 have HC0_5 := QO hc0_5
 clear hr0_5 hc0_5
 have HB := QO (Below.refl w.heap.size w)
 have H : ((spec_IsRules.f k a0_0 a0_1 a0_2 a0_3 l0_4 l0_5 a0_6 a0_7).bind fun t269 => (if t269 = true then ((spec_IsCard.f a1).bind fun t270 => (if t270 = true then ((spec_IsCard.f a2).bind fun t271 => (spec_FitsOn.j0 k a1 a2 (!t271) a0_0 a0_1 a0_2 a0_3 l0_4 l0_5 a0_6 a0_7)) else (spec_FitsOn.j0 k a1 a2 true a0_0 a0_1 a0_2 a0_3 l0_4 l0_5 a0_6 a0_7))) else (spec_FitsOn.j0 k a1 a2 true a0_0 a0_1 a0_2 a0_3 l0_4 l0_5 a0_6 a0_7))) = some r := h
 clear h
 have HC4 := QO H
 clear H
 go_enter Try.func95, Try.ntmps95
 go_upto_region 1 with (first | ((with_reducible refine gate_dst (N := 3) rfl ?_); refine box_event ?hg (N := 3) ?hd (cs := #[.int .i64 a0_0, .int .i64 a0_1, .bool a0_2, .bool a0_3, .slice A0_4 l0_4.length c0_4, .slice A0_5 l0_5.length c0_5, .int .i64 a0_6, .int .i64 a0_7]) (t := 41) ?hr ?_; (case hd => rfl); (case hg => rfl); (case hr => first | (go_simp; done) | (go_simp; rfl)); intro gb268 hg w5 hbox hb; have n0_ := QO (below_step (by repeat (first | (with_reducible first | exact HB.out | apply QF | apply QD | apply QE) | exact HB.out)) hb); have n1_ := QO (hbox); have n2_ := QO ((by rw [hg]; exact (QK (by repeat (first | (with_reducible first | exact HB.out | apply QF | apply QD | apply QE) | exact HB.out))) : w.heap.size ≤ gb268)); have n3_ := QO ((by rw [hg]; exact (QK (by repeat (first | (with_reducible first | exact HB.out | apply QF | apply QD | apply QE) | exact HB.out))) : w.heap.size ≤ gb268)); clear HB; have HB := n0_; have BK268 := n1_; have GW268 := n2_; have GE268 := n3_; clear n0_ n1_ n2_ n3_; clear hb hbox hg))
 (try simp only [Act.put, QL, QM, QN])
 go_cut [19] (fun v19 wc => ∃ (kq : Nat) (x19_3 : Bool), v19 = .bool x19_3 ∧ Aside0 (spec_FitsOn.j0 kq a1 a2 x19_3 a0_0 a0_1 a0_2 a0_3 l0_4 l0_5 a0_6 a0_7 = some r) ∧ Aside0 (kq ≤ k) ∧ Aside0 (wc.heap[gb268]? = some (.cells #[.int .i64 a0_0, .int .i64 a0_1, .bool a0_2, .bool a0_3, (.slice A0_4 l0_4.length c0_4), (.slice A0_5 l0_5.length c0_5), .int .i64 a0_6, .int .i64 a0_7] 41 (0, 0))) ∧ Aside0 (Below w.heap.size w wc))
 case first =>
  have H := HC4.out
  clear HC4
  replace H := Option.bind_eq_some_iff.mp H
  obtain ⟨t269, A60, H⟩ := H
  have A6 := QO A60
  clear A60
  by_cases c7 : t269 = true
  rotate_left
  replace c7 := Bool.eq_false_iff.mpr c7
  subst c7
  rw [if_neg (show ¬ (false = true) by decide)] at H
  have H' := QO H
  clear H
  rotate_right
  subst c7
  rw [if_pos rfl] at H
  replace H := Option.bind_eq_some_iff.mp H
  obtain ⟨t270, A80, H⟩ := H
  have A8 := QO A80
  clear A80
  by_cases c9 : t270 = true
  rotate_left
  replace c9 := Bool.eq_false_iff.mpr c9
  subst c9
  rw [if_neg (show ¬ (false = true) by decide)] at H
  have H' := QO H
  clear H
  rotate_right
  subst c9
  rw [if_pos rfl] at H
  replace H := Option.bind_eq_some_iff.mp H
  obtain ⟨t271, A100, H⟩ := H
  have A10 := QO A100
  clear A100
  have H' := QO H
  clear H
  all_goals
   have hcz11_0 : w5.cell? ⟨gb268, 0, none⟩ = some (.int .i64 a0_0) := (QC BK268.out 0).trans rfl
   have hcz11_1 : w5.cell? ⟨gb268, 1, none⟩ = some (.int .i64 a0_1) := (QC BK268.out 1).trans rfl
   have hcz11_2 : w5.cell? ⟨gb268, 2, none⟩ = some (.bool a0_2) := (QC BK268.out 2).trans rfl
   have hcz11_3 : w5.cell? ⟨gb268, 3, none⟩ = some (.bool a0_3) := (QC BK268.out 3).trans rfl
   have hcz11_4 : w5.cell? ⟨gb268, 4, none⟩ = some (.slice A0_4 l0_4.length c0_4) := (QC BK268.out 4).trans rfl
   have hcz11_5 : w5.cell? ⟨gb268, 5, none⟩ = some (.slice A0_5 l0_5.length c0_5) := (QC BK268.out 5).trans rfl
   have hcz11_6 : w5.cell? ⟨gb268, 6, none⟩ = some (.int .i64 a0_6) := (QC BK268.out 6).trans rfl
   have hcz11_7 : w5.cell? ⟨gb268, 7, none⟩ = some (.int .i64 a0_7) := (QC BK268.out 7).trans rfl
   have hfz11_0 := QB BK268.out 0
   have hfz11_1 := QB BK268.out 1
   have hfz11_2 := QB BK268.out 2
   have hfz11_3 := QB BK268.out 3
   have hfz11_4 := QB BK268.out 4
   have hfz11_5 := QB BK268.out 5
   have hfz11_6 := QB BK268.out 6
   have hfz11_7 := QB BK268.out 7
   go_wp2_with (first | ((with_reducible refine gate_callee (f := 107) rfl ?_); refine goesL_ (some 8) rfl rfl Try.func107 (by kernel_rfl) rfl #[.agg #[.int .i64 a0_0, .int .i64 a0_1, .bool a0_2, .bool a0_3, .slice A0_4 l0_4.length c0_4, .slice A0_5 l0_5.length c0_5, .int .i64 a0_6, .int .i64 a0_7]] rfl (by (try simp only [List.map_toArray, List.map_cons, List.map_nil]); first | done | rfl | (simp only [List.length_drop, List.length_take]; rfl)) ?_; (with_reducible refine (spec_IsRules.calls k a0_0 a0_1 a0_2 a0_3 _ _ l0_4 _ _ l0_5 a0_6 a0_7 _ _ ?side1 ?side2 ?side3 ?side4 A6.out).mono ?_); (case side1 => repeat (first | exact (Kd.C_below HR0_4.out HB.out) | (with_reducible refine Kd.C_alloc ?_ _) | (with_reducible refine Kd.C_drewN ?_ _) | (with_reducible refine Kd.C_drew ?_))); (case side2 => exact HC0_4.out); (case side3 => repeat (first | exact (Kd.C_below HR0_5.out HB.out) | (with_reducible refine Kd.C_alloc ?_ _) | (with_reducible refine Kd.C_drewN ?_ _) | (with_reducible refine Kd.C_drew ?_))); (case side4 => exact HC0_5.out); rintro e w12 ⟨rfl, hb⟩; refine ⟨_, rfl, ?_⟩; have n0_ := QO (blk_below (g := gb268) (o := .cells #[.int .i64 a0_0, .int .i64 a0_1, .bool a0_2, .bool a0_3, .slice A0_4 l0_4.length c0_4, .slice A0_5 l0_5.length c0_5, .int .i64 a0_6, .int .i64 a0_7] 41 (0, 0)) (by (with_reducible repeat (first | refine blk_drewN ?_ _ | refine blk_drew ?_ | refine blk_alloc ?_ _)); exact BK268.out) hb); have n1_ := QO (below_step (by repeat (first | (with_reducible first | exact HB.out | apply QF | apply QD | apply QE | refine below_set ?_ GE268.out) | exact HB.out)) hb); clear BK268; clear HB; have BK268 := n0_; have HB := n1_; clear n0_ n1_; (try clear hb); (try clear hb2); (try clear hk); (try clear hi)) | (go_at_call 141; (with_reducible refine (spec_IsCard.calls a1 _ _ A8.out).mono ?_); rintro e w' ⟨rfl, ⟨nd, rfl⟩⟩) | (go_at_call 141; (with_reducible refine (spec_IsCard.calls a2 t271 _ A10.out).mono ?_); rintro e w' ⟨rfl, ⟨nd, rfl⟩⟩))
   go_meet
   case rel => exact ⟨_, _, (by first | rfl | (simp; done) | (simp [*]; done)), H', ⟨by first | omega | exact Nat.le_refl _⟩, ⟨by (with_reducible repeat (first | refine blk_drewN ?_ _ | refine blk_drew ?_ | refine blk_alloc ?_ _)); exact BK268.out⟩, ⟨by repeat (first | (with_reducible first | exact HB.out | apply QF | apply QD | apply QE | refine below_set ?_ GE268.out) | exact HB.out)⟩⟩
 case rest =>
  clear HC4
  try clear c1
  try clear p2
  try clear c7
  try clear c9
  try clear c10
  try clear hcz11_0
  try clear hcz11_1
  try clear hcz11_2
  try clear hcz11_3
  try clear hcz11_4
  try clear hcz11_5
  try clear hcz11_6
  try clear hcz11_7
  try clear hcz13_0
  try clear hcz13_1
  try clear hcz13_2
  try clear hcz13_3
  try clear hcz13_4
  try clear hcz13_5
  try clear hcz13_6
  try clear hcz13_7
  try clear hcz15_0
  try clear hcz15_1
  try clear hcz15_2
  try clear hcz15_3
  try clear hcz15_4
  try clear hcz15_5
  try clear hcz15_6
  try clear hcz15_7
  try clear hfz11_0
  try clear hfz11_1
  try clear hfz11_2
  try clear hfz11_3
  try clear hfz11_4
  try clear hfz11_5
  try clear hfz11_6
  try clear hfz11_7
  try clear hfz13_0
  try clear hfz13_1
  try clear hfz13_2
  try clear hfz13_3
  try clear hfz13_4
  try clear hfz13_5
  try clear hfz13_6
  try clear hfz13_7
  try clear hfz15_0
  try clear hfz15_1
  try clear hfz15_2
  try clear hfz15_3
  try clear hfz15_4
  try clear hfz15_5
  try clear hfz15_6
  try clear hfz15_7
  obtain ⟨kq, x19_3, rfl, HA, HJ3, BK268, HB⟩ := hcut
  cases kq with
  | zero => exact absurd HA.out (by simp [spec_FitsOn.j0])
  | succ kj3 =>
   have H := HA.out
   clear HA
   simp only [spec_FitsOn.j0] at H
   by_cases c17 : x19_3 = true
   rotate_left
   replace c17 := Bool.eq_false_iff.mpr c17
   subst c17
   rw [if_neg (show ¬ (false = true) by decide)] at H
   by_cases c18 : a0_2 = true
   rotate_left
   replace c18 := Bool.eq_false_iff.mpr c18
   subst c18
   rw [if_neg (show ¬ (false = true) by decide)] at H
   by_cases c23 : a0_3 = true
   rotate_left
   ·replace c23 := Bool.eq_false_iff.mpr c23
    subst c23
    rw [if_neg (show ¬ (false = true) by decide)] at H
    replace H := Option.bind_eq_some_iff.mp H
    obtain ⟨t276, A280, H⟩ := H
    have A28 := QO A280
    clear A280
    try (obtain rfl := Option.some.inj (A28.out.symm.trans A28.out))
    obtain rfl := Option.some.inj H
    have hcz43_0 : wc.cell? ⟨gb268, 0, none⟩ = some (.int .i64 a0_0) := (QC BK268.out 0).trans rfl
    have hcz43_1 : wc.cell? ⟨gb268, 1, none⟩ = some (.int .i64 a0_1) := (QC BK268.out 1).trans rfl
    have hcz43_2 : wc.cell? ⟨gb268, 2, none⟩ = some (.bool false) := (QC BK268.out 2).trans rfl
    have hcz43_3 : wc.cell? ⟨gb268, 3, none⟩ = some (.bool false) := (QC BK268.out 3).trans rfl
    have hcz43_4 : wc.cell? ⟨gb268, 4, none⟩ = some (.slice A0_4 l0_4.length c0_4) := (QC BK268.out 4).trans rfl
    have hcz43_5 : wc.cell? ⟨gb268, 5, none⟩ = some (.slice A0_5 l0_5.length c0_5) := (QC BK268.out 5).trans rfl
    have hcz43_6 : wc.cell? ⟨gb268, 6, none⟩ = some (.int .i64 a0_6) := (QC BK268.out 6).trans rfl
    have hcz43_7 : wc.cell? ⟨gb268, 7, none⟩ = some (.int .i64 a0_7) := (QC BK268.out 7).trans rfl
    have hfz43_0 := QB BK268.out 0
    have hfz43_1 := QB BK268.out 1
    have hfz43_2 := QB BK268.out 2
    have hfz43_3 := QB BK268.out 3
    have hfz43_4 := QB BK268.out 4
    have hfz43_5 := QB BK268.out 5
    have hfz43_6 := QB BK268.out 6
    have hfz43_7 := QB BK268.out 7
    go_wp2_with (first | (go_at_call 143; (with_reducible refine (spec_Matches.calls kj3 _ _ l0_4 a2 t276 _ ?side1 ?side2 A28.out).mono ?_); (case side1 => repeat (first | exact (Kd.C_below HR0_4.out HB.out) | (with_reducible refine Kd.C_alloc ?_ _) | (with_reducible refine Kd.C_drewN ?_ _) | (with_reducible refine Kd.C_drew ?_))); (case side2 => exact HC0_4.out); rintro e w44 ⟨rfl, hb⟩; have n0_ := QO (blk_below (g := gb268) (o := .cells #[.int .i64 a0_0, .int .i64 a0_1, .bool false, .bool false, .slice A0_4 l0_4.length c0_4, .slice A0_5 l0_5.length c0_5, .int .i64 a0_6, .int .i64 a0_7] 41 (0, 0)) (by (with_reducible repeat (first | refine blk_drewN ?_ _ | refine blk_drew ?_ | refine blk_alloc ?_ _)); exact BK268.out) hb); have n1_ := QO (below_step (by repeat (first | (with_reducible first | exact HB.out | apply QF | apply QD | apply QE | refine below_set ?_ GE268.out) | exact HB.out)) hb); clear BK268; clear HB; have BK268 := n0_; have HB := n1_; clear n0_ n1_; (try clear hb); (try clear hb2); (try clear hk); (try clear hi)))
    go_ret
    exact ⟨by first | rfl | (simp [errW_none, errW_some] <;> rfl) | (simp [*, errW_none, errW_some] <;> rfl), by repeat (first | (with_reducible first | exact HB.out | apply QF | apply QD | apply QE | refine below_set ?_ GE268.out) | exact HB.out)⟩
   rotate_right
   subst c23
   rw [if_pos rfl] at H
   replace H := Option.bind_eq_some_iff.mp H
   obtain ⟨t274, A240, H⟩ := H
   have A24 := QO A240
   clear A240
   try (obtain rfl := Option.some.inj (A24.out.symm.trans A24.out))
   replace H := Option.bind_eq_some_iff.mp H
   obtain ⟨t275, A250, H⟩ := H
   have A25 := QO A250
   clear A250
   try (obtain rfl := Option.some.inj (A25.out.symm.trans A25.out))
   by_cases c26 : t274 = t275
   rotate_left
   rw [if_neg c26] at H
   have c26b0 : (t274 == t275) = false := beq_eq_false_iff_ne.mpr c26
   have c26b1 : (t274 != t275) = true := bne_iff_ne.mpr c26
   replace H := Option.bind_eq_some_iff.mp H
   obtain ⟨t276, A280, H⟩ := H
   have A28 := QO A280
   clear A280
   try (obtain rfl := Option.some.inj (A28.out.symm.trans A31.out))
   obtain rfl := Option.some.inj H
   rotate_right
   rw [if_pos c26] at H
   have c26b0 : (t274 == t275) = true := beq_iff_eq.mpr c26
   have c26b1 : (t274 != t275) = false := bne_eq_false_iff_eq.mpr c26
   clear c26
   obtain rfl := Option.some.inj H
   rotate_right
   subst c18
   rw [if_pos rfl] at H
   replace H := Option.bind_eq_some_iff.mp H
   obtain ⟨t272, A190, H⟩ := H
   have A19 := QO A190
   clear A190
   replace H := Option.bind_eq_some_iff.mp H
   obtain ⟨t273, A200, H⟩ := H
   have A20 := QO A200
   clear A200
   by_cases c21 : t272 = t273
   rotate_left
   rw [if_neg c21] at H
   have c21b0 : (t272 == t273) = false := beq_eq_false_iff_ne.mpr c21
   have c21b1 : (t272 != t273) = true := bne_iff_ne.mpr c21
   by_cases c23 : a0_3 = true
   rotate_left
   replace c23 := Bool.eq_false_iff.mpr c23
   subst c23
   rw [if_neg (show ¬ (false = true) by decide)] at H
   replace H := Option.bind_eq_some_iff.mp H
   obtain ⟨t276, A280, H⟩ := H
   have A28 := QO A280
   clear A280
   try (obtain rfl := Option.some.inj (A28.out.symm.trans A28.out))
   obtain rfl := Option.some.inj H
   rotate_right
   subst c23
   rw [if_pos rfl] at H
   replace H := Option.bind_eq_some_iff.mp H
   obtain ⟨t274, A240, H⟩ := H
   have A24 := QO A240
   clear A240
   replace H := Option.bind_eq_some_iff.mp H
   obtain ⟨t275, A250, H⟩ := H
   have A25 := QO A250
   clear A250
   by_cases c26 : t274 = t275
   rotate_left
   rw [if_neg c26] at H
   have c26b0 : (t274 == t275) = false := beq_eq_false_iff_ne.mpr c26
   have c26b1 : (t274 != t275) = true := bne_iff_ne.mpr c26
   replace H := Option.bind_eq_some_iff.mp H
   obtain ⟨t276, A280, H⟩ := H
   have A28 := QO A280
   clear A280
   obtain rfl := Option.some.inj H
   rotate_right
   rw [if_pos c26] at H
   have c26b0 : (t274 == t275) = true := beq_iff_eq.mpr c26
   have c26b1 : (t274 != t275) = false := bne_eq_false_iff_eq.mpr c26
   clear c26
   obtain rfl := Option.some.inj H
   rotate_right
   rw [if_pos c21] at H
   have c21b0 : (t272 == t273) = true := beq_iff_eq.mpr c21
   have c21b1 : (t272 != t273) = false := bne_eq_false_iff_eq.mpr c21
   clear c21
   obtain rfl := Option.some.inj H
   rotate_right
   ·subst c17
    rw [if_pos rfl] at H
    obtain rfl := Option.some.inj H
    go_wp2
    go_ret
    exact ⟨by first | rfl | (simp [errW_none, errW_some] <;> rfl) | (simp [*, errW_none, errW_some] <;> rfl), by repeat (first | (with_reducible first | exact HB.out | apply QF | apply QD | apply QE | refine below_set ?_ GE268.out) | exact HB.out)⟩
   all_goals
    have hcz29_0 : wc.cell? ⟨gb268, 0, none⟩ = some (.int .i64 a0_0) := (QC BK268.out 0).trans rfl
    have hcz29_1 : wc.cell? ⟨gb268, 1, none⟩ = some (.int .i64 a0_1) := (QC BK268.out 1).trans rfl
    have hcz29_2 : wc.cell? ⟨gb268, 2, none⟩ = some (.bool _) := (QC BK268.out 2).trans rfl
    have hcz29_3 : wc.cell? ⟨gb268, 3, none⟩ = some (.bool _) := (QC BK268.out 3).trans rfl
    have hcz29_4 : wc.cell? ⟨gb268, 4, none⟩ = some (.slice A0_4 l0_4.length c0_4) := (QC BK268.out 4).trans rfl
    have hcz29_5 : wc.cell? ⟨gb268, 5, none⟩ = some (.slice A0_5 l0_5.length c0_5) := (QC BK268.out 5).trans rfl
    have hcz29_6 : wc.cell? ⟨gb268, 6, none⟩ = some (.int .i64 a0_6) := (QC BK268.out 6).trans rfl
    have hcz29_7 : wc.cell? ⟨gb268, 7, none⟩ = some (.int .i64 a0_7) := (QC BK268.out 7).trans rfl
    have hfz29_0 := QB BK268.out 0
    have hfz29_1 := QB BK268.out 1
    have hfz29_2 := QB BK268.out 2
    have hfz29_3 := QB BK268.out 3
    have hfz29_4 := QB BK268.out 4
    have hfz29_5 := QB BK268.out 5
    have hfz29_6 := QB BK268.out 6
    have hfz29_7 := QB BK268.out 7
    go_wp2_with (first | (go_at_call 115; (with_reducible refine (spec_SuitOf.calls a2 t272 _ A19.out).mono ?_); rintro e w' ⟨rfl, ⟨nd, rfl⟩⟩) | (go_at_call 115; (with_reducible refine (spec_SuitOf.calls a1 t273 _ A20.out).mono ?_); rintro e w' ⟨rfl, ⟨nd, rfl⟩⟩) | (go_at_call 142; (with_reducible refine (spec_RankOf.calls a2 t274 _ A24.out).mono ?_); rintro e w' ⟨rfl, ⟨nd, rfl⟩⟩) | (go_at_call 142; (with_reducible refine (spec_RankOf.calls a1 t275 _ A25.out).mono ?_); rintro e w' ⟨rfl, ⟨nd, rfl⟩⟩) | (go_at_call 143; (with_reducible refine (spec_Matches.calls kj3 _ _ l0_4 a2 t276 _ ?side1 ?side2 A28.out).mono ?_); (case side1 => repeat (first | exact (Kd.C_below HR0_4.out (by repeat (first | (with_reducible first | exact HB.out | apply QF | apply QD | apply QE | refine below_set ?_ GE268.out) | exact HB.out))) | (with_reducible refine Kd.C_alloc ?_ _) | (with_reducible refine Kd.C_drewN ?_ _) | (with_reducible refine Kd.C_drew ?_))); (case side2 => exact HC0_4.out); rintro e w30 ⟨rfl, hb⟩; have n0_ := QO (blk_below (g := gb268) (o := .cells #[.int .i64 a0_0, .int .i64 a0_1, .bool _, .bool _, .slice A0_4 l0_4.length c0_4, .slice A0_5 l0_5.length c0_5, .int .i64 a0_6, .int .i64 a0_7] 41 (0, 0)) (by (with_reducible repeat (first | refine blk_drewN ?_ _ | refine blk_drew ?_ | refine blk_alloc ?_ _)); exact BK268.out) hb); have n1_ := QO (below_step (by repeat (first | (with_reducible first | exact HB.out | apply QF | apply QD | apply QE | refine below_set ?_ GE268.out) | exact HB.out)) hb); clear BK268; clear HB; have BK268 := n0_; have HB := n1_; clear n0_ n1_; (try clear hb); (try clear hb2); (try clear hk); (try clear hi)))
    go_ret
    exact ⟨by first | rfl | (simp [errW_none, errW_some] <;> rfl) | (simp [*, errW_none, errW_some] <;> rfl), by repeat (first | (with_reducible first | exact HB.out | apply QF | apply QD | apply QE | refine below_set ?_ GE268.out) | exact HB.out)⟩

/-! ### spec_l24First: function 118 -/
def spec_l24First.l0 : Nat → Int → Int → Int → Bool → Bool → List Int → List Int → Int → Int → List (List Int) → List Int → List Int → Int → Int → Int → Option (Int)
 | 0, _, _, _, _, _, _, _, _, _, _, _, _, _, _, _ => none
 | k + 1, x3, x283000, x283001, x283002, x283003, x283004, x283005, x283006, x283007, x283008, x283009, x283010, x283011, x283012, x283013 => if x3 < (x283008.length : Int) then (if 0 ≤ x3 then (if ((rd_L1 x283008 x3).length : Int) = 0 then (some x3) else (spec_l24First.l0 k (wrap64 (x3 + 1)) x283000 x283001 x283002 x283003 x283004 x283005 x283006 x283007 x283008 x283009 x283010 x283011 x283012 x283013)) else (none)) else (some (-1))
def spec_l24First.f (k : Nat) (a0_0 : Int) (a0_1 : Int) (a0_2 : Bool) (a0_3 : Bool) (l0_4 : List Int) (l0_5 : List Int) (a0_6 : Int) (a0_7 : Int) (l0_8 : List (List Int)) (l0_9 : List Int) (l0_10 : List Int) (a0_11 : Int) (a0_12 : Int) (a0_13 : Int) : Option (Int) := spec_l24First.l0 k 0 a0_0 a0_1 a0_2 a0_3 l0_4 l0_5 a0_6 a0_7 l0_8 l0_9 l0_10 a0_11 a0_12 a0_13
theorem spec_l24First.mono_l : ∀ k, (∀ y0 y1 y2 y3 y4 y5 y6 y7 y8 y9 y10 y11 y12 y13 y14, LeO (spec_l24First.l0 k y0 y1 y2 y3 y4 y5 y6 y7 y8 y9 y10 y11 y12 y13 y14) (spec_l24First.l0 (k + 1) y0 y1 y2 y3 y4 y5 y6 y7 y8 y9 y10 y11 y12 y13 y14))
 | 0 => fun _ _ _ _ _ _ _ _ _ _ _ _ _ _ _ r h => by simp [spec_l24First.l0] at h
 | k + 1 => by
  have ih0 := spec_l24First.mono_l k
  ·intro y0 y1 y2 y3 y4 y5 y6 y7 y8 y9 y10 y11 y12 y13 y14
   unfold spec_l24First.l0
   repeat' first
   | (with_reducible exact ih0 _ _ _ _ _ _ _ _ _ _ _ _ _ _ _)
   | (with_reducible exact LeO.refl _)
   | (with_reducible exact LeO.none _)
   | (with_reducible refine LeO.ite ?_ ?_)
   | (with_reducible refine LeO.bind ?_ (fun _ => ?_))
   | exact ih0 _ _ _ _ _ _ _ _ _ _ _ _ _ _ _
   | exact LeO.none _
   | refine LeO.ite ?_ ?_
   | refine LeO.bind ?_ (fun _ => ?_)
theorem spec_l24First.mono : ∀ a0 a1 a2 a3 a4 a5 a6 a7 a8 a9 a10 a11 a12 a13 k, LeO (spec_l24First.f k a0 a1 a2 a3 a4 a5 a6 a7 a8 a9 a10 a11 a12 a13) (spec_l24First.f (k + 1) a0 a1 a2 a3 a4 a5 a6 a7 a8 a9 a10 a11 a12 a13) := by
 intro a0 a1 a2 a3 a4 a5 a6 a7 a8 a9 a10 a11 a12 a13 k
 have ih0 := spec_l24First.mono_l k
 unfold spec_l24First.f
 repeat' first
   | (with_reducible exact ih0 _ _ _ _ _ _ _ _ _ _ _ _ _ _ _)
   | (with_reducible exact LeO.refl _)
   | (with_reducible exact LeO.none _)
   | (with_reducible refine LeO.ite ?_ ?_)
   | (with_reducible refine LeO.bind ?_ (fun _ => ?_))
   | exact ih0 _ _ _ _ _ _ _ _ _ _ _ _ _ _ _
   | exact LeO.none _
   | refine LeO.ite ?_ ?_
   | refine LeO.bind ?_ (fun _ => ?_)
set_option maxHeartbeats 8000000 in
set_option maxRecDepth 100000 in
theorem spec_l24First.calls (k : Nat) (a0_0 : Int) (a0_1 : Int) (a0_2 : Bool) (a0_3 : Bool) (A0_4 : Option Addr) (c0_4 : Nat) (l0_4 : List Int) (A0_5 : Option Addr) (c0_5 : Nat) (l0_5 : List Int) (a0_6 : Int) (a0_7 : Int) (A0_8 : Option Addr) (c0_8 : Nat) (l0_8 : List (List Int)) (A0_9 : Option Addr) (c0_9 : Nat) (l0_9 : List Int) (A0_10 : Option Addr) (c0_10 : Nat) (l0_10 : List Int) (a0_11 : Int) (a0_12 : Int) (a0_13 : Int) (r : Int) (w : World) (hr0_4 : Kd.C (Kd.int .i64) w A0_4 l0_4.length l0_4) (hc0_4 : l0_4.length ≤ c0_4) (hr0_5 : Kd.C (Kd.int .i64) w A0_5 l0_5.length l0_5) (hc0_5 : l0_5.length ≤ c0_5) (hr0_8 : Kd.C (Kd.slice 3 (Kd.int .i64)) w A0_8 l0_8.length l0_8) (hc0_8 : l0_8.length ≤ c0_8) (hr0_9 : Kd.C (Kd.int .i64) w A0_9 l0_9.length l0_9) (hc0_9 : l0_9.length ≤ c0_9) (hr0_10 : Kd.C (Kd.int .i64) w A0_10 l0_10.length l0_10) (hc0_10 : l0_10.length ≤ c0_10) (h : spec_l24First.f k a0_0 a0_1 a0_2 a0_3 l0_4 l0_5 a0_6 a0_7 l0_8 l0_9 l0_10 a0_11 a0_12 a0_13 = some r) :
  Calls Try.prog 118 #[.agg #[.int .i64 a0_0, .int .i64 a0_1, .bool a0_2, .bool a0_3, .slice A0_4 l0_4.length c0_4, .slice A0_5 l0_5.length c0_5, .int .i64 a0_6, .int .i64 a0_7, .slice A0_8 l0_8.length c0_8, .slice A0_9 l0_9.length c0_9, .slice A0_10 l0_10.length c0_10, .int .i64 a0_11, .int .i64 a0_12, .int .i64 a0_13]] w fun e w' => e = .returned (.int .i64 r) ∧ Below w.heap.size w w' := by
 have hu59 := Try.underlying59
 have HR0_4 := QO hr0_4
 have HC0_4 := QO hc0_4
 clear hr0_4 hc0_4
 have HR0_5 := QO hr0_5
 have HC0_5 := QO hc0_5
 clear hr0_5 hc0_5
 have HR0_8 := QO hr0_8
 have HC0_8 := QO hc0_8
 clear hr0_8 hc0_8
 have HR0_9 := QO hr0_9
 have HC0_9 := QO hc0_9
 clear hr0_9 hc0_9
 have HR0_10 := QO hr0_10
 have HC0_10 := QO hc0_10
 clear hr0_10 hc0_10
 have HB := QO (Below.refl w.heap.size w)
 have H : (spec_l24First.l0 k 0 a0_0 a0_1 a0_2 a0_3 l0_4 l0_5 a0_6 a0_7 l0_8 l0_9 l0_10 a0_11 a0_12 a0_13) = some r := h
 clear h
 have H' := QO H
 clear H
 go_enter Try.func118, Try.ntmps118
 go_wp2_with (first | ((with_reducible refine gate_dst (N := 1) rfl ?_); refine box_event ?hg (N := 1) ?hd (cs := #[.int .i64 a0_0, .int .i64 a0_1, .bool a0_2, .bool a0_3, .slice A0_4 l0_4.length c0_4, .slice A0_5 l0_5.length c0_5, .int .i64 a0_6, .int .i64 a0_7, .slice A0_8 l0_8.length c0_8, .slice A0_9 l0_9.length c0_9, .slice A0_10 l0_10.length c0_10, .int .i64 a0_11, .int .i64 a0_12, .int .i64 a0_13]) (t := 59) ?hr ?_; (case hd => rfl); (case hg => rfl); (case hr => first | (go_simp; done) | (go_simp; rfl)); intro gb282 hg w2 hbox hb; have n0_ := QO (below_step (by repeat (first | (with_reducible first | exact HB.out | apply QF | apply QD | apply QE) | exact HB.out)) hb); have n1_ := QO (hbox); have n2_ := QO ((by rw [hg]; exact (QK (by repeat (first | (with_reducible first | exact HB.out | apply QF | apply QD | apply QE) | exact HB.out))) : w.heap.size ≤ gb282)); have n3_ := QO ((by rw [hg]; exact (QK (by repeat (first | (with_reducible first | exact HB.out | apply QF | apply QD | apply QE) | exact HB.out))) : w.heap.size ≤ gb282)); clear HB; have HB := n0_; have BK282 := n1_; have GW282 := n2_; have GE282 := n3_; clear n0_ n1_ n2_ n3_; clear hb hbox hg))
 go_loopg [3] k (fun kq v3 w' => ∃ (x3_1 : Int), v3 = .int .i64 x3_1 ∧ Aside0 (spec_l24First.l0 kq x3_1 a0_0 a0_1 a0_2 a0_3 l0_4 l0_5 a0_6 a0_7 l0_8 l0_9 l0_10 a0_11 a0_12 a0_13 = some r) ∧ Aside0 (kq ≤ k) ∧ Aside0 (w'.heap[gb282]? = some (.cells #[.int .i64 a0_0, .int .i64 a0_1, .bool a0_2, .bool a0_3, (.slice A0_4 l0_4.length c0_4), (.slice A0_5 l0_5.length c0_5), .int .i64 a0_6, .int .i64 a0_7, (.slice A0_8 l0_8.length c0_8), (.slice A0_9 l0_9.length c0_9), (.slice A0_10 l0_10.length c0_10), .int .i64 a0_11, .int .i64 a0_12, .int .i64 a0_13] 59 (0, 0))) ∧ Aside0 (Below w.heap.size w w'))
 case atStart => exact ⟨(0), (by first | rfl | (simp; done) | (simp [*]; done)), H', ⟨Nat.le_refl _⟩, ⟨by (with_reducible repeat (first | refine blk_drewN ?_ _ | refine blk_drew ?_ | refine blk_alloc ?_ _)); exact BK282.out⟩, ⟨by repeat (first | (with_reducible first | exact HB.out | apply QF | apply QD | apply QE | refine below_set ?_ GE282.out) | exact HB.out)⟩⟩
 case round =>
  clear H'
  try clear c1
  try clear p2
  obtain ⟨x3_1, rfl, HA, HK1, BK282, HB⟩ := hrel
  cases gk with
  | zero => exact absurd HA.out (by simp [spec_l24First.l0])
  | succ k1 =>
   have H := HA.out
   clear HA
   simp only [spec_l24First.l0] at H
   by_cases c3 : x3_1 < (l0_8.length : Int)
   ·rw [if_pos c3] at H
    have c3b0 : decide (x3_1 < (l0_8.length : Int)) = true := decide_eq_true c3
    clear c3
    by_cases c4 : 0 ≤ x3_1
    ·rw [if_pos c4] at H
     have c4b0 : decide (0 ≤ x3_1) = true := decide_eq_true c4
     clear c4
     by_cases c5 : ((rd_L1 l0_8 x3_1).length : Int) = 0
     ·rw [if_pos c5] at H
      have c5b0 : (((rd_L1 l0_8 x3_1).length : Int) == 0) = true := beq_iff_eq.mpr c5
      have c5b1 : (((rd_L1 l0_8 x3_1).length : Int) != 0) = false := bne_eq_false_iff_eq.mpr c5
      clear c5
      obtain rfl := Option.some.inj H
      have hcz6_0 : wr.cell? ⟨gb282, 0, none⟩ = some (.int .i64 a0_0) := (QC BK282.out 0).trans rfl
      have hcz6_1 : wr.cell? ⟨gb282, 1, none⟩ = some (.int .i64 a0_1) := (QC BK282.out 1).trans rfl
      have hcz6_2 : wr.cell? ⟨gb282, 2, none⟩ = some (.bool a0_2) := (QC BK282.out 2).trans rfl
      have hcz6_3 : wr.cell? ⟨gb282, 3, none⟩ = some (.bool a0_3) := (QC BK282.out 3).trans rfl
      have hcz6_4 : wr.cell? ⟨gb282, 4, none⟩ = some (.slice A0_4 l0_4.length c0_4) := (QC BK282.out 4).trans rfl
      have hcz6_5 : wr.cell? ⟨gb282, 5, none⟩ = some (.slice A0_5 l0_5.length c0_5) := (QC BK282.out 5).trans rfl
      have hcz6_6 : wr.cell? ⟨gb282, 6, none⟩ = some (.int .i64 a0_6) := (QC BK282.out 6).trans rfl
      have hcz6_7 : wr.cell? ⟨gb282, 7, none⟩ = some (.int .i64 a0_7) := (QC BK282.out 7).trans rfl
      have hcz6_8 : wr.cell? ⟨gb282, 8, none⟩ = some (.slice A0_8 l0_8.length c0_8) := (QC BK282.out 8).trans rfl
      have hcz6_9 : wr.cell? ⟨gb282, 9, none⟩ = some (.slice A0_9 l0_9.length c0_9) := (QC BK282.out 9).trans rfl
      have hcz6_10 : wr.cell? ⟨gb282, 10, none⟩ = some (.slice A0_10 l0_10.length c0_10) := (QC BK282.out 10).trans rfl
      have hcz6_11 : wr.cell? ⟨gb282, 11, none⟩ = some (.int .i64 a0_11) := (QC BK282.out 11).trans rfl
      have hcz6_12 : wr.cell? ⟨gb282, 12, none⟩ = some (.int .i64 a0_12) := (QC BK282.out 12).trans rfl
      have hcz6_13 : wr.cell? ⟨gb282, 13, none⟩ = some (.int .i64 a0_13) := (QC BK282.out 13).trans rfl
      have hfz6_0 := QB BK282.out 0
      have hfz6_1 := QB BK282.out 1
      have hfz6_2 := QB BK282.out 2
      have hfz6_3 := QB BK282.out 3
      have hfz6_4 := QB BK282.out 4
      have hfz6_5 := QB BK282.out 5
      have hfz6_6 := QB BK282.out 6
      have hfz6_7 := QB BK282.out 7
      have hfz6_8 := QB BK282.out 8
      have hfz6_9 := QB BK282.out 9
      have hfz6_10 := QB BK282.out 10
      have hfz6_11 := QB BK282.out 11
      have hfz6_12 := QB BK282.out 12
      have hfz6_13 := QB BK282.out 13
      have p283 : 0 ≤ (x3_1 : Int) := of_decide_eq_true (by first | (with_reducible assumption) | assumption)
      have q283 : x3_1 < (l0_8.length : Int) := of_decide_eq_true (by first | (with_reducible assumption) | assumption)
      obtain ⟨ad283, A283_0, c283_0, e283, hx283_0, hl283_0, hi283_0⟩ := at_L1 HR0_8.out x3_1 p283 q283
      cases e283
      replace hx283_0 := (HB.out.cell (World.block_lt_of_cell? w _ hx283_0)).trans hx283_0
      have HR283_0 := QO hi283_0
      have HC283_0 := QO hl283_0
      clear hi283_0 hl283_0
      replace p283 := eq_true p283
      replace q283 := eq_true q283
      go_wp2
      go_ret
      exact ⟨by first | rfl | (simp [errW_none, errW_some] <;> rfl) | (simp [*, errW_none, errW_some] <;> rfl), by repeat (first | (with_reducible first | exact HB.out | apply QF | apply QD | apply QE | refine below_set ?_ GE282.out) | exact HB.out)⟩
     ·rw [if_neg c5] at H
      have c5b0 : (((rd_L1 l0_8 x3_1).length : Int) == 0) = false := beq_eq_false_iff_ne.mpr c5
      have c5b1 : (((rd_L1 l0_8 x3_1).length : Int) != 0) = true := bne_iff_ne.mpr c5
      have c5b2 : ¬ ((rd_L1 l0_8 x3_1) = []) := fun h_ => c5 (by rw [h_]; rfl)
      have H' := QO H
      clear H
      have hcz7_0 : wr.cell? ⟨gb282, 0, none⟩ = some (.int .i64 a0_0) := (QC BK282.out 0).trans rfl
      have hcz7_1 : wr.cell? ⟨gb282, 1, none⟩ = some (.int .i64 a0_1) := (QC BK282.out 1).trans rfl
      have hcz7_2 : wr.cell? ⟨gb282, 2, none⟩ = some (.bool a0_2) := (QC BK282.out 2).trans rfl
      have hcz7_3 : wr.cell? ⟨gb282, 3, none⟩ = some (.bool a0_3) := (QC BK282.out 3).trans rfl
      have hcz7_4 : wr.cell? ⟨gb282, 4, none⟩ = some (.slice A0_4 l0_4.length c0_4) := (QC BK282.out 4).trans rfl
      have hcz7_5 : wr.cell? ⟨gb282, 5, none⟩ = some (.slice A0_5 l0_5.length c0_5) := (QC BK282.out 5).trans rfl
      have hcz7_6 : wr.cell? ⟨gb282, 6, none⟩ = some (.int .i64 a0_6) := (QC BK282.out 6).trans rfl
      have hcz7_7 : wr.cell? ⟨gb282, 7, none⟩ = some (.int .i64 a0_7) := (QC BK282.out 7).trans rfl
      have hcz7_8 : wr.cell? ⟨gb282, 8, none⟩ = some (.slice A0_8 l0_8.length c0_8) := (QC BK282.out 8).trans rfl
      have hcz7_9 : wr.cell? ⟨gb282, 9, none⟩ = some (.slice A0_9 l0_9.length c0_9) := (QC BK282.out 9).trans rfl
      have hcz7_10 : wr.cell? ⟨gb282, 10, none⟩ = some (.slice A0_10 l0_10.length c0_10) := (QC BK282.out 10).trans rfl
      have hcz7_11 : wr.cell? ⟨gb282, 11, none⟩ = some (.int .i64 a0_11) := (QC BK282.out 11).trans rfl
      have hcz7_12 : wr.cell? ⟨gb282, 12, none⟩ = some (.int .i64 a0_12) := (QC BK282.out 12).trans rfl
      have hcz7_13 : wr.cell? ⟨gb282, 13, none⟩ = some (.int .i64 a0_13) := (QC BK282.out 13).trans rfl
      have hfz7_0 := QB BK282.out 0
      have hfz7_1 := QB BK282.out 1
      have hfz7_2 := QB BK282.out 2
      have hfz7_3 := QB BK282.out 3
      have hfz7_4 := QB BK282.out 4
      have hfz7_5 := QB BK282.out 5
      have hfz7_6 := QB BK282.out 6
      have hfz7_7 := QB BK282.out 7
      have hfz7_8 := QB BK282.out 8
      have hfz7_9 := QB BK282.out 9
      have hfz7_10 := QB BK282.out 10
      have hfz7_11 := QB BK282.out 11
      have hfz7_12 := QB BK282.out 12
      have hfz7_13 := QB BK282.out 13
      have p283 : 0 ≤ (x3_1 : Int) := of_decide_eq_true (by first | (with_reducible assumption) | assumption)
      have q283 : x3_1 < (l0_8.length : Int) := of_decide_eq_true (by first | (with_reducible assumption) | assumption)
      obtain ⟨ad283, A283_0, c283_0, e283, hx283_0, hl283_0, hi283_0⟩ := at_L1 HR0_8.out x3_1 p283 q283
      cases e283
      replace hx283_0 := (HB.out.cell (World.block_lt_of_cell? w _ hx283_0)).trans hx283_0
      have HR283_0 := QO hi283_0
      have HC283_0 := QO hl283_0
      clear hi283_0 hl283_0
      replace p283 := eq_true p283
      replace q283 := eq_true q283
      go_wp2
      go_roundg k1
      case measure => have := HK1.out; omega
      case rel => exact ⟨(wrap64 (x3_1 + 1)), (by first | rfl | (simp; done) | (simp [*]; done)), H', ⟨by have := HK1.out; omega⟩, ⟨by (with_reducible repeat (first | refine blk_drewN ?_ _ | refine blk_drew ?_ | refine blk_alloc ?_ _)); exact BK282.out⟩, ⟨by repeat (first | (with_reducible first | exact HB.out | apply QF | apply QD | apply QE | refine below_set ?_ GE282.out) | exact HB.out)⟩⟩
    ·rw [if_neg c4] at H
     exact absurd H (by simp)
   ·rw [if_neg c3] at H
    have c3b0 : decide (x3_1 < (l0_8.length : Int)) = false := decide_eq_false c3
    clear c3
    obtain rfl := Option.some.inj H
    have hcz8_0 : wr.cell? ⟨gb282, 0, none⟩ = some (.int .i64 a0_0) := (QC BK282.out 0).trans rfl
    have hcz8_1 : wr.cell? ⟨gb282, 1, none⟩ = some (.int .i64 a0_1) := (QC BK282.out 1).trans rfl
    have hcz8_2 : wr.cell? ⟨gb282, 2, none⟩ = some (.bool a0_2) := (QC BK282.out 2).trans rfl
    have hcz8_3 : wr.cell? ⟨gb282, 3, none⟩ = some (.bool a0_3) := (QC BK282.out 3).trans rfl
    have hcz8_4 : wr.cell? ⟨gb282, 4, none⟩ = some (.slice A0_4 l0_4.length c0_4) := (QC BK282.out 4).trans rfl
    have hcz8_5 : wr.cell? ⟨gb282, 5, none⟩ = some (.slice A0_5 l0_5.length c0_5) := (QC BK282.out 5).trans rfl
    have hcz8_6 : wr.cell? ⟨gb282, 6, none⟩ = some (.int .i64 a0_6) := (QC BK282.out 6).trans rfl
    have hcz8_7 : wr.cell? ⟨gb282, 7, none⟩ = some (.int .i64 a0_7) := (QC BK282.out 7).trans rfl
    have hcz8_8 : wr.cell? ⟨gb282, 8, none⟩ = some (.slice A0_8 l0_8.length c0_8) := (QC BK282.out 8).trans rfl
    have hcz8_9 : wr.cell? ⟨gb282, 9, none⟩ = some (.slice A0_9 l0_9.length c0_9) := (QC BK282.out 9).trans rfl
    have hcz8_10 : wr.cell? ⟨gb282, 10, none⟩ = some (.slice A0_10 l0_10.length c0_10) := (QC BK282.out 10).trans rfl
    have hcz8_11 : wr.cell? ⟨gb282, 11, none⟩ = some (.int .i64 a0_11) := (QC BK282.out 11).trans rfl
    have hcz8_12 : wr.cell? ⟨gb282, 12, none⟩ = some (.int .i64 a0_12) := (QC BK282.out 12).trans rfl
    have hcz8_13 : wr.cell? ⟨gb282, 13, none⟩ = some (.int .i64 a0_13) := (QC BK282.out 13).trans rfl
    have hfz8_0 := QB BK282.out 0
    have hfz8_1 := QB BK282.out 1
    have hfz8_2 := QB BK282.out 2
    have hfz8_3 := QB BK282.out 3
    have hfz8_4 := QB BK282.out 4
    have hfz8_5 := QB BK282.out 5
    have hfz8_6 := QB BK282.out 6
    have hfz8_7 := QB BK282.out 7
    have hfz8_8 := QB BK282.out 8
    have hfz8_9 := QB BK282.out 9
    have hfz8_10 := QB BK282.out 10
    have hfz8_11 := QB BK282.out 11
    have hfz8_12 := QB BK282.out 12
    have hfz8_13 := QB BK282.out 13
    go_wp2
    go_ret
    exact ⟨by first | rfl | (simp [errW_none, errW_some] <;> rfl) | (simp [*, errW_none, errW_some] <;> rfl), by repeat (first | (with_reducible first | exact HB.out | apply QF | apply QD | apply QE | refine below_set ?_ GE282.out) | exact HB.out)⟩

/-! ### spec_l24Over: function 119 -/
def spec_l24Over.f (k : Nat) (a0_0 : Int) (a0_1 : Int) (a0_2 : Bool) (a0_3 : Bool) (l0_4 : List Int) (l0_5 : List Int) (a0_6 : Int) (a0_7 : Int) (l0_8 : List (List Int)) (l0_9 : List Int) (l0_10 : List Int) (a0_11 : Int) (a0_12 : Int) (a0_13 : Int) : Option (Bool) := (spec_l24First.f k a0_0 a0_1 a0_2 a0_3 l0_4 l0_5 a0_6 a0_7 l0_8 l0_9 l0_10 a0_11 a0_12 a0_13).bind fun t285 => (if t285 ≥ 0 then (some true) else (if a0_12 = a0_7 then (some true) else (some (decide (a0_13 ≥ a0_0)))))
theorem spec_l24Over.mono : ∀ a0 a1 a2 a3 a4 a5 a6 a7 a8 a9 a10 a11 a12 a13 k, LeO (spec_l24Over.f k a0 a1 a2 a3 a4 a5 a6 a7 a8 a9 a10 a11 a12 a13) (spec_l24Over.f (k + 1) a0 a1 a2 a3 a4 a5 a6 a7 a8 a9 a10 a11 a12 a13) := by
 intro a0 a1 a2 a3 a4 a5 a6 a7 a8 a9 a10 a11 a12 a13 k
 unfold spec_l24Over.f
 repeat' first
   | (with_reducible exact spec_l24First.mono _ _ _ _ _ _ _ _ _ _ _ _ _ _ _)
   | (with_reducible exact LeO.refl _)
   | (with_reducible exact LeO.none _)
   | (with_reducible refine LeO.ite ?_ ?_)
   | (with_reducible refine LeO.bind ?_ (fun _ => ?_))
   | exact spec_l24First.mono _ _ _ _ _ _ _ _ _ _ _ _ _ _ _
   | exact LeO.none _
   | refine LeO.ite ?_ ?_
   | refine LeO.bind ?_ (fun _ => ?_)
set_option maxHeartbeats 8000000 in
set_option maxRecDepth 100000 in
theorem spec_l24Over.calls (k : Nat) (a0_0 : Int) (a0_1 : Int) (a0_2 : Bool) (a0_3 : Bool) (A0_4 : Option Addr) (c0_4 : Nat) (l0_4 : List Int) (A0_5 : Option Addr) (c0_5 : Nat) (l0_5 : List Int) (a0_6 : Int) (a0_7 : Int) (A0_8 : Option Addr) (c0_8 : Nat) (l0_8 : List (List Int)) (A0_9 : Option Addr) (c0_9 : Nat) (l0_9 : List Int) (A0_10 : Option Addr) (c0_10 : Nat) (l0_10 : List Int) (a0_11 : Int) (a0_12 : Int) (a0_13 : Int) (r : Bool) (w : World) (hr0_4 : Kd.C (Kd.int .i64) w A0_4 l0_4.length l0_4) (hc0_4 : l0_4.length ≤ c0_4) (hr0_5 : Kd.C (Kd.int .i64) w A0_5 l0_5.length l0_5) (hc0_5 : l0_5.length ≤ c0_5) (hr0_8 : Kd.C (Kd.slice 3 (Kd.int .i64)) w A0_8 l0_8.length l0_8) (hc0_8 : l0_8.length ≤ c0_8) (hr0_9 : Kd.C (Kd.int .i64) w A0_9 l0_9.length l0_9) (hc0_9 : l0_9.length ≤ c0_9) (hr0_10 : Kd.C (Kd.int .i64) w A0_10 l0_10.length l0_10) (hc0_10 : l0_10.length ≤ c0_10) (h : spec_l24Over.f k a0_0 a0_1 a0_2 a0_3 l0_4 l0_5 a0_6 a0_7 l0_8 l0_9 l0_10 a0_11 a0_12 a0_13 = some r) :
  Calls Try.prog 119 #[.agg #[.int .i64 a0_0, .int .i64 a0_1, .bool a0_2, .bool a0_3, .slice A0_4 l0_4.length c0_4, .slice A0_5 l0_5.length c0_5, .int .i64 a0_6, .int .i64 a0_7, .slice A0_8 l0_8.length c0_8, .slice A0_9 l0_9.length c0_9, .slice A0_10 l0_10.length c0_10, .int .i64 a0_11, .int .i64 a0_12, .int .i64 a0_13]] w fun e w' => e = .returned (.bool r) ∧ Below w.heap.size w w' := by
 have hu59 := Try.underlying59
 have HR0_4 := QO hr0_4
 have HC0_4 := QO hc0_4
 clear hr0_4 hc0_4
 have HR0_5 := QO hr0_5
 have HC0_5 := QO hc0_5
 clear hr0_5 hc0_5
 have HR0_8 := QO hr0_8
 have HC0_8 := QO hc0_8
 clear hr0_8 hc0_8
 have HR0_9 := QO hr0_9
 have HC0_9 := QO hc0_9
 clear hr0_9 hc0_9
 have HR0_10 := QO hr0_10
 have HC0_10 := QO hc0_10
 clear hr0_10 hc0_10
 have HB := QO (Below.refl w.heap.size w)
 have H : ((spec_l24First.f k a0_0 a0_1 a0_2 a0_3 l0_4 l0_5 a0_6 a0_7 l0_8 l0_9 l0_10 a0_11 a0_12 a0_13).bind fun t285 => (if t285 ≥ 0 then (some true) else (if a0_12 = a0_7 then (some true) else (some (decide (a0_13 ≥ a0_0)))))) = some r := h
 clear h
 replace H := Option.bind_eq_some_iff.mp H
 obtain ⟨t285, A20, H⟩ := H
 have A2 := QO A20
 clear A20
 by_cases c3 : t285 ≥ 0
 rotate_left
 rw [if_neg c3] at H
 have c3b0 : decide (0 ≤ t285) = false := decide_eq_false c3
 clear c3
 by_cases c7 : a0_12 = a0_7
 rotate_left
 rw [if_neg c7] at H
 have c7b0 : (a0_12 == a0_7) = false := beq_eq_false_iff_ne.mpr c7
 have c7b1 : (a0_12 != a0_7) = true := bne_iff_ne.mpr c7
 obtain rfl := Option.some.inj H
 rotate_right
 rw [if_pos c7] at H
 have c7b0 : (a0_12 == a0_7) = true := beq_iff_eq.mpr c7
 have c7b1 : (a0_12 != a0_7) = false := bne_eq_false_iff_eq.mpr c7
 clear c7
 obtain rfl := Option.some.inj H
 rotate_right
 rw [if_pos c3] at H
 have c3b0 : decide (0 ≤ t285) = true := decide_eq_true c3
 clear c3
 obtain rfl := Option.some.inj H
 all_goals
  go_enter Try.func119, Try.ntmps119
  go_wp2_with (first | ((with_reducible refine gate_dst (N := 1) rfl ?_); refine box_event ?hg (N := 1) ?hd (cs := #[.int .i64 a0_0, .int .i64 a0_1, .bool a0_2, .bool a0_3, .slice A0_4 l0_4.length c0_4, .slice A0_5 l0_5.length c0_5, .int .i64 a0_6, .int .i64 a0_7, .slice A0_8 l0_8.length c0_8, .slice A0_9 l0_9.length c0_9, .slice A0_10 l0_10.length c0_10, .int .i64 a0_11, .int .i64 a0_12, .int .i64 a0_13]) (t := 59) ?hr ?_; (case hd => rfl); (case hg => rfl); (case hr => first | (go_simp; done) | (go_simp; rfl)); intro gb284 hg w12 hbox hb; have n0_ := QO (below_step (by repeat (first | (with_reducible first | exact HB.out | apply QF | apply QD | apply QE) | exact HB.out)) hb); have n1_ := QO (hbox); have n2_ := QO ((by rw [hg]; exact (QK (by repeat (first | (with_reducible first | exact HB.out | apply QF | apply QD | apply QE) | exact HB.out))) : w.heap.size ≤ gb284)); have n3_ := QO ((by rw [hg]; exact (QK (by repeat (first | (with_reducible first | exact HB.out | apply QF | apply QD | apply QE) | exact HB.out))) : w.heap.size ≤ gb284)); clear HB; have HB := n0_; have BK284 := n1_; have GW284 := n2_; have GE284 := n3_; clear n0_ n1_ n2_ n3_; clear hb hbox hg; have hcz13_0 : w12.cell? ⟨gb284, 0, none⟩ = some (.int .i64 a0_0) := (QC BK284.out 0).trans rfl; have hcz13_1 : w12.cell? ⟨gb284, 1, none⟩ = some (.int .i64 a0_1) := (QC BK284.out 1).trans rfl; have hcz13_2 : w12.cell? ⟨gb284, 2, none⟩ = some (.bool a0_2) := (QC BK284.out 2).trans rfl; have hcz13_3 : w12.cell? ⟨gb284, 3, none⟩ = some (.bool a0_3) := (QC BK284.out 3).trans rfl; have hcz13_4 : w12.cell? ⟨gb284, 4, none⟩ = some (.slice A0_4 l0_4.length c0_4) := (QC BK284.out 4).trans rfl; have hcz13_5 : w12.cell? ⟨gb284, 5, none⟩ = some (.slice A0_5 l0_5.length c0_5) := (QC BK284.out 5).trans rfl; have hcz13_6 : w12.cell? ⟨gb284, 6, none⟩ = some (.int .i64 a0_6) := (QC BK284.out 6).trans rfl; have hcz13_7 : w12.cell? ⟨gb284, 7, none⟩ = some (.int .i64 a0_7) := (QC BK284.out 7).trans rfl; have hcz13_8 : w12.cell? ⟨gb284, 8, none⟩ = some (.slice A0_8 l0_8.length c0_8) := (QC BK284.out 8).trans rfl; have hcz13_9 : w12.cell? ⟨gb284, 9, none⟩ = some (.slice A0_9 l0_9.length c0_9) := (QC BK284.out 9).trans rfl; have hcz13_10 : w12.cell? ⟨gb284, 10, none⟩ = some (.slice A0_10 l0_10.length c0_10) := (QC BK284.out 10).trans rfl; have hcz13_11 : w12.cell? ⟨gb284, 11, none⟩ = some (.int .i64 a0_11) := (QC BK284.out 11).trans rfl; have hcz13_12 : w12.cell? ⟨gb284, 12, none⟩ = some (.int .i64 a0_12) := (QC BK284.out 12).trans rfl; have hcz13_13 : w12.cell? ⟨gb284, 13, none⟩ = some (.int .i64 a0_13) := (QC BK284.out 13).trans rfl; have hfz13_0 := QB BK284.out 0; have hfz13_1 := QB BK284.out 1; have hfz13_2 := QB BK284.out 2; have hfz13_3 := QB BK284.out 3; have hfz13_4 := QB BK284.out 4; have hfz13_5 := QB BK284.out 5; have hfz13_6 := QB BK284.out 6; have hfz13_7 := QB BK284.out 7; have hfz13_8 := QB BK284.out 8; have hfz13_9 := QB BK284.out 9; have hfz13_10 := QB BK284.out 10; have hfz13_11 := QB BK284.out 11; have hfz13_12 := QB BK284.out 12; have hfz13_13 := QB BK284.out 13) | ((with_reducible refine gate_callee (f := 118) rfl ?_); refine goesL_ (some 4) rfl rfl Try.func118 (by kernel_rfl) rfl #[.agg #[.int .i64 a0_0, .int .i64 a0_1, .bool a0_2, .bool a0_3, .slice A0_4 l0_4.length c0_4, .slice A0_5 l0_5.length c0_5, .int .i64 a0_6, .int .i64 a0_7, .slice A0_8 l0_8.length c0_8, .slice A0_9 l0_9.length c0_9, .slice A0_10 l0_10.length c0_10, .int .i64 a0_11, .int .i64 a0_12, .int .i64 a0_13]] rfl (by (try simp only [List.map_toArray, List.map_cons, List.map_nil]); first | done | rfl | (simp only [List.length_drop, List.length_take]; rfl)) ?_; (with_reducible refine (spec_l24First.calls k a0_0 a0_1 a0_2 a0_3 _ _ l0_4 _ _ l0_5 a0_6 a0_7 _ _ l0_8 _ _ l0_9 _ _ l0_10 a0_11 a0_12 a0_13 t285 _ ?side1 ?side2 ?side3 ?side4 ?side5 ?side6 ?side7 ?side8 ?side9 ?side10 A2.out).mono ?_); (case side1 => repeat (first | exact (Kd.C_below HR0_4.out HB.out) | (with_reducible refine Kd.C_alloc ?_ _) | (with_reducible refine Kd.C_drewN ?_ _) | (with_reducible refine Kd.C_drew ?_))); (case side2 => exact HC0_4.out); (case side3 => repeat (first | exact (Kd.C_below HR0_5.out HB.out) | (with_reducible refine Kd.C_alloc ?_ _) | (with_reducible refine Kd.C_drewN ?_ _) | (with_reducible refine Kd.C_drew ?_))); (case side4 => exact HC0_5.out); (case side5 => repeat (first | exact (Kd.C_below HR0_8.out HB.out) | (with_reducible refine Kd.C_alloc ?_ _) | (with_reducible refine Kd.C_drewN ?_ _) | (with_reducible refine Kd.C_drew ?_))); (case side6 => exact HC0_8.out); (case side7 => repeat (first | exact (Kd.C_below HR0_9.out HB.out) | (with_reducible refine Kd.C_alloc ?_ _) | (with_reducible refine Kd.C_drewN ?_ _) | (with_reducible refine Kd.C_drew ?_))); (case side8 => exact HC0_9.out); (case side9 => repeat (first | exact (Kd.C_below HR0_10.out HB.out) | (with_reducible refine Kd.C_alloc ?_ _) | (with_reducible refine Kd.C_drewN ?_ _) | (with_reducible refine Kd.C_drew ?_))); (case side10 => exact HC0_10.out); rintro e w14 ⟨rfl, hb⟩; refine ⟨_, rfl, ?_⟩; have n0_ := QO (blk_below (g := gb284) (o := .cells #[.int .i64 a0_0, .int .i64 a0_1, .bool a0_2, .bool a0_3, .slice A0_4 l0_4.length c0_4, .slice A0_5 l0_5.length c0_5, .int .i64 a0_6, .int .i64 a0_7, .slice A0_8 l0_8.length c0_8, .slice A0_9 l0_9.length c0_9, .slice A0_10 l0_10.length c0_10, .int .i64 a0_11, .int .i64 a0_12, .int .i64 a0_13] 59 (0, 0)) (by (with_reducible repeat (first | refine blk_drewN ?_ _ | refine blk_drew ?_ | refine blk_alloc ?_ _)); exact BK284.out) hb); have n1_ := QO (below_step (by repeat (first | (with_reducible first | exact HB.out | apply QF | apply QD | apply QE | refine below_set ?_ GE284.out) | exact HB.out)) hb); clear BK284; clear HB; have BK284 := n0_; have HB := n1_; clear n0_ n1_; (try clear hb); (try clear hb2); (try clear hk); (try clear hi); have hcz15_0 : w14.cell? ⟨gb284, 0, none⟩ = some (.int .i64 a0_0) := (QC BK284.out 0).trans rfl; have hcz15_1 : w14.cell? ⟨gb284, 1, none⟩ = some (.int .i64 a0_1) := (QC BK284.out 1).trans rfl; have hcz15_2 : w14.cell? ⟨gb284, 2, none⟩ = some (.bool a0_2) := (QC BK284.out 2).trans rfl; have hcz15_3 : w14.cell? ⟨gb284, 3, none⟩ = some (.bool a0_3) := (QC BK284.out 3).trans rfl; have hcz15_4 : w14.cell? ⟨gb284, 4, none⟩ = some (.slice A0_4 l0_4.length c0_4) := (QC BK284.out 4).trans rfl; have hcz15_5 : w14.cell? ⟨gb284, 5, none⟩ = some (.slice A0_5 l0_5.length c0_5) := (QC BK284.out 5).trans rfl; have hcz15_6 : w14.cell? ⟨gb284, 6, none⟩ = some (.int .i64 a0_6) := (QC BK284.out 6).trans rfl; have hcz15_7 : w14.cell? ⟨gb284, 7, none⟩ = some (.int .i64 a0_7) := (QC BK284.out 7).trans rfl; have hcz15_8 : w14.cell? ⟨gb284, 8, none⟩ = some (.slice A0_8 l0_8.length c0_8) := (QC BK284.out 8).trans rfl; have hcz15_9 : w14.cell? ⟨gb284, 9, none⟩ = some (.slice A0_9 l0_9.length c0_9) := (QC BK284.out 9).trans rfl; have hcz15_10 : w14.cell? ⟨gb284, 10, none⟩ = some (.slice A0_10 l0_10.length c0_10) := (QC BK284.out 10).trans rfl; have hcz15_11 : w14.cell? ⟨gb284, 11, none⟩ = some (.int .i64 a0_11) := (QC BK284.out 11).trans rfl; have hcz15_12 : w14.cell? ⟨gb284, 12, none⟩ = some (.int .i64 a0_12) := (QC BK284.out 12).trans rfl; have hcz15_13 : w14.cell? ⟨gb284, 13, none⟩ = some (.int .i64 a0_13) := (QC BK284.out 13).trans rfl; have hfz15_0 := QB BK284.out 0; have hfz15_1 := QB BK284.out 1; have hfz15_2 := QB BK284.out 2; have hfz15_3 := QB BK284.out 3; have hfz15_4 := QB BK284.out 4; have hfz15_5 := QB BK284.out 5; have hfz15_6 := QB BK284.out 6; have hfz15_7 := QB BK284.out 7; have hfz15_8 := QB BK284.out 8; have hfz15_9 := QB BK284.out 9; have hfz15_10 := QB BK284.out 10; have hfz15_11 := QB BK284.out 11; have hfz15_12 := QB BK284.out 12; have hfz15_13 := QB BK284.out 13))
  go_ret
  exact ⟨by first | rfl | (simp [errW_none, errW_some] <;> rfl) | (simp [*, errW_none, errW_some] <;> rfl), by repeat (first | (with_reducible first | exact HB.out | apply QF | apply QD | apply QE | refine below_set ?_ GE284.out) | exact HB.out)⟩

/-! ### spec_Sorted: function 130 -/
/-- The place behind the last of the first k elements that is not above c. -/
def kAt (out : List Int) (c : Int) : Nat → Nat
 | 0 => 0
 | k + 1 => if out.getD k 0 > c then kAt out c k else k + 1
def insF (out : List Int) (c : Int) : List Int := out.take (kAt out c out.length) ++ c :: out.drop (kAt out c out.length)
def sortF : List Int → List Int → List Int
 | out, [] => out
 | out, c :: r => sortF (insF out c) r
theorem kAt_le (out : List Int) (c : Int) : ∀ k, kAt out c k ≤ k
 | 0 => Nat.le_refl _
 | k + 1 => by
  unfold kAt
  split
  ·exact Nat.le_succ_of_le (kAt_le out c k)
  ·exact Nat.le_refl _
theorem insF_length (out : List Int) (c : Int) : (insF out c).length = out.length + 1 := by
 have := kAt_le out c out.length
 simp [insF]
 omega
theorem cut_from {P : Program} (t e : TypeId) {i : TypeInfo} (ht : P.underlying t = some (.slice e)) (hi : P.info? e = some i) (hsz : i.size = 1) (g n c m : Nat) (hm : m ≤ n) :
  ∃ A' : Option Addr, (∀ W : World, (Instr.slice t (.slice (some ⟨g, 0, none⟩) n c) (some (.int .i64 (m : Int))) none none).run P W = .ok (.slice A' (n - m) (c - m)) W) ∧ (m < c → A' = some ⟨g, m, none⟩) := by
 refine ⟨if c = m then some ⟨g, 0, none⟩ else (some (⟨g, 0, none⟩ : Addr)).map (·.add m), fun W => ?_, fun h => by rw [if_neg (by omega)]; simp [Addr.add, eq_comm]⟩
 have hel : P.elem t = e := by simp [Program.elem, ht]
 have hu : P.underlying t = some (.slice (P.elem t)) := by rw [hel]; exact ht
 rw [run_slice_l W t (some ⟨g, 0, none⟩) n c hu .i64 (m : Int) (Int.natCast_nonneg _) (by omega), hel]
 simp [sizeOf, typeInfo, hi, hsz, sliced, Result.andThen]
theorem ins_cells (cur : List Value) (out : List Int) (c : Int) (K : Nat) (hK : K ≤ out.length) (h : cur.take (out.length + 1) = (out ++ [0]).map (Value.int .i64)) :
  ((splice cur (K + 1) ((out.drop K).map (Value.int .i64))).set K (.int .i64 c)).take (out.length + 1) = (out.take K ++ c :: out.drop K).map (Value.int .i64) := by
 have hl : out.length + 1 ≤ cur.length := by have := congrArg List.length h; simp at this; omega
 have h2 : cur.take K = (out.take K).map (Value.int .i64) := by
  have h3 := congrArg (List.take K) h
  rw [List.take_take, Nat.min_eq_left (by omega), ← List.map_take, List.take_append_of_le_length hK] at h3
  exact h3
 obtain ⟨y, hy⟩ : ∃ y, cur.take (K + 1) = (out.take K).map (Value.int .i64) ++ [y] := ⟨cur[K]'(by omega), by rw [List.take_succ_eq_append_getElem (by omega), h2]⟩
 have l1 : ((out.take K).map (Value.int .i64)).length = K := by simp; omega
 unfold Go.splice
 rw [hy, List.append_assoc, List.set_append_right _ _ (by omega), l1, Nat.sub_self]
 simp only [List.cons_append, List.nil_append, QM, List.map_append, List.map_cons]
 rw [← List.cons_append, ← List.append_assoc, List.take_left' (by simp; omega)]
theorem w64_ (n : Int) (h : -9223372036854775808 ≤ n) (h' : n ≤ 9223372036854775807) : IntKind.i64.wrap n = n := by rw [QG]; unfold wrap64; omega
/-- A row of numbers of the call's own, its block told whole. -/
def OwnI (w : World) (base : Nat) (v : Value) (xs : List Int) : Prop :=
 ∃ g cap cur, v = .slice (some ⟨g, 0, none⟩) xs.length cap ∧ base ≤ g ∧ w.heap[g]? = some (.cells cur 3 (0, 0)) ∧ xs.length ≤ cap ∧ cap ≤ maxLen ∧ cur.size = cap ∧ cur.toList.take xs.length = xs.map (Value.int .i64)
theorem OwnI.own {w : World} {base : Nat} {v : Value} {xs : List Int} (h : OwnI w base v xs) : w.ownsRow base 3 1 v xs.length (xs.map (Value.int .i64)) := by
 obtain ⟨g, cap, cur, h1, h2, h3, h4, h5, h6, h7⟩ := h
 exact ⟨by simp, .inr ⟨g, cap, cur, h1, h2, h3, h4, h5, by omega, by simpa using h7⟩⟩
theorem OwnI.row {w : World} {base : Nat} {v : Value} {xs : List Int} (h : OwnI w base v xs) : Kd.R (Kd.int .i64) 3 w base (fun _ => True) v xs := by
 refine ⟨fun _ _ => trivial, xs.map (Value.int .i64), h.own, by simp [Kd.int, Kd.scalar], fun j p hp => ?_⟩
 show ((xs.map (Value.int .i64)).drop (j * 1)).take 1 = [Value.int .i64 p]
 have hj : j < xs.length := (List.getElem?_eq_some_iff.1 hp).1
 have e := (List.getElem?_eq_some_iff.1 hp).2
 rw [Nat.mul_one, List.drop_eq_getElem_cons (by simpa using hj)]
 simp [e]
theorem OwnI.of_own {w : World} {base : Nat} {v : Value} {xs : List Int} (h : w.ownsRow base 3 1 v xs.length (xs.map (Value.int .i64))) (hp : 0 < xs.length) : OwnI w base v xs := by
 obtain ⟨h1, h2 | ⟨g, cap, cur, h3, h4, h5, h6, h7, h8, h9⟩⟩ := h
 ·omega
 ·exact ⟨g, cap, cur, h3, h4, h5, h6, h7, by omega, by simpa using h9⟩
theorem OwnI.cell {w : World} {base g cap : Nat} {xs : List Int} (h : OwnI w base (.slice (some ⟨g, 0, none⟩) xs.length cap) xs) (j : Nat) (hj : j < xs.length) : w.cell? ⟨g, j, none⟩ = some (.int .i64 (xs.getD j 0)) := by
 obtain ⟨g', cap', cur, h1, _, h3, _, _, _, h7⟩ := h
 injection h1 with e1 _ _
 injection e1 with e1
 injection e1 with e1 _
 subst e1
 rw [cell_of_row w g j cur 3 (0, 0) h3, ← Array.getElem?_toList]
 have := congrArg (fun l => l[j]?) h7
 simpa [List.getElem?_take, hj, List.getD_eq_getElem?_getD] using this
def impl_Sorted.f (l : List Int) : Option (List Int) := if l.length < 17592186044416 then some (sortF [] l) else none
set_option maxHeartbeats 8000000 in
set_option maxRecDepth 100000 in
theorem impl_Sorted.calls (A0 : Option Addr) (c0 : Nat) (l0 : List Int) (r : List Int) (w : World) (hr0 : Kd.C (Kd.int .i64) w A0 l0.length l0) (hc0 : l0.length ≤ c0) (h : impl_Sorted.f l0 = some r) :
  Calls Try.prog 131 #[.slice A0 l0.length c0] w fun e w' => ∃ v0_ : Value, e = .returned (v0_) ∧ Kd.R (Kd.int .i64) 3 w' w.heap.size (fun _ => True) v0_ r ∧ Below w.heap.size w w' := by
 unfold impl_Sorted.f at h
 split at h
 case isFalse => exact absurd h (by simp)
 case isTrue hlen =>
 obtain rfl := Option.some.inj h
 have HR0 := QO hr0
 have HL := QO hlen
 clear hr0 hlen h
 have z0 : Aside0 (OwnI (w.alloc (.cells #[] 3)) w.heap.size (.slice (some ⟨w.heap.size, 0, none⟩) 0 0) []) := ⟨⟨w.heap.size, 0, #[], rfl, Nat.le_refl _, heap_alloc_new _ _, Nat.le_refl _, Nat.zero_le _, rfl, rfl⟩⟩
 go_enter Try.func131, Try.ntmps131
 go_wp2
 go_loopg [3, 10] l0.length (fun g v3 v10 wx => ∃ (i : Nat) (out : List Int), v10 = .int .i64 (i : Int) ∧ Aside0 (i + g = l0.length) ∧ Aside0 (out.length = i) ∧ Aside0 (sortF out (l0.drop i) = sortF [] l0) ∧ Aside0 (OwnI wx w.heap.size v3 out) ∧ Aside0 (Below w.heap.size w wx))
 case atStart => exact ⟨0, [], rfl, ⟨by simp⟩, ⟨rfl⟩, ⟨rfl⟩, z0, ⟨(Below.refl _ _).alloc (Nat.le_refl _) _⟩⟩
 case round =>
  clear z0
  obtain ⟨i, out, rfl, HI, HO, HH, HC, HB⟩ := hrel
  cases gk with
  | zero =>
   have hi : ¬ ((i : Int) < (l0.length : Int)) := by have := HI.out; omega
   have hi' : decide ((i : Int) < (l0.length : Int)) = false := decide_eq_false hi
   have hi'' : decide (i < l0.length) = false := by have := HI.out; simp; omega
   clear hi
   have fin : sortF [] l0 = out := by rw [← HH.out, List.drop_of_length_le (by have := HI.out; omega)]; rfl
   have FIN := QO fin
   clear fin
   go_wp2
   go_ret
   exact ⟨_, rfl, by rw [FIN.out]; exact HC.out.row, HB.out⟩
  | succ g =>
   have hi : (i : Int) < (l0.length : Int) := by have := HI.out; omega
   have h0 : 0 ≤ (i : Int) := by omega
   obtain ⟨ad, e1, hx⟩ := Kd.at_int (Kd.C_below HR0.out HB.out) (i : Int) h0 hi
   cases e1
   simp only [Int.toNat_natCast] at hx
   have hdrop : l0.drop i = rd l0 (i : Int) :: l0.drop (i + 1) := by
    have hn : i < l0.length := by omega
    rw [List.drop_eq_getElem_cons hn]
    unfold rd
    simp [List.getD_eq_getElem?_getD, List.getElem?_eq_getElem hn]
   have HD := QO hdrop
   clear hdrop
   generalize hc : rd l0 (i : Int) = c at *
   clear hc
   have NXT : Aside0 (sortF (insF out c) (l0.drop (i + 1)) = sortF [] l0) := ⟨by rw [← HH.out, HD.out]; rfl⟩
   obtain ⟨bg, cap, cur, rfl, hbg, hcur, hcap1, hcap2, hsz, htk⟩ := HC.out
   have HCUR := QO hcur
   have HBG := QO hbg
   have HCAP := QO hcap1
   have HSZ := QO hsz
   have HTK := QO htk
   clear hbg hcur hcap1 hcap2 hsz htk
   have hib : (i : Int) < 17592186044416 := by have := HL.out; omega
   have hlo : (out.length : Int) < 9223372036854775807 := by have := HO.out; have := HL.out; omega
   go_upto_block 2 with (fail)
   go_cut [6] (fun v6 wc => v6 = .int .i64 ((kAt out c out.length : Nat) : Int) ∧ wc = wr)
   case first =>
    go_wp2
    go_loop [6] (fun v6 => ∃ k : Nat, v6 = .int .i64 (k : Int) ∧ Aside0 (k ≤ out.length) ∧ Aside0 (kAt out c k = kAt out c out.length)) (fun v6 => (intOf v6).toNat)
    case atStart => exact ⟨out.length, rfl, ⟨Nat.le_refl _⟩, ⟨rfl⟩⟩
    case round =>
     obtain ⟨k, rfl, HK, HKA⟩ := hrel
     cases k with
     | zero =>
      have hz : kAt out c out.length = 0 := HKA.out.symm
      have HZ := QO hz
      clear hz
      go_wp2
      go_meet
      case rel => exact ⟨by rw [HZ.out]; rfl, rfl⟩
     | succ k =>
      have hk : k < out.length := HK.out
      have hcell := HC.out.cell k hk
      have e1 : (((k + 1 : Nat) : Int) - 1) = (k : Int) := by omega
      by_cases hgt : out.getD k 0 > c
      ·have hg1 : decide (c < out.getD k 0) = true := decide_eq_true hgt
       have HKB : Aside0 (kAt out c k = kAt out c out.length) := ⟨by rw [← HKA.out, kAt, if_pos hgt]⟩
       clear hgt
       generalize out.getD k 0 = y at *
       go_wp2
       go_round
       case rel => exact ⟨k, rfl, ⟨by omega⟩, HKB⟩
       case measure => simp [intOf]
      ·have hg1 : decide (c < out.getD k 0) = false := decide_eq_false hgt
       have HZ : Aside0 (kAt out c out.length = k + 1) := ⟨by rw [← HKA.out, kAt, if_neg hgt]⟩
       clear hgt
       generalize out.getD k 0 = y at *
       go_wp2
       go_meet
       case rel => exact ⟨by rw [HZ.out]; rfl, rfl⟩
   case rest =>
    obtain ⟨rfl, rfl⟩ := hcut
    have hK := kAt_le out c out.length
    have IN : Aside0 (insF out c = out.take (kAt out c out.length) ++ c :: out.drop (kAt out c out.length)) := ⟨rfl⟩
    generalize kAt out c out.length = K at *
    go_wp2_with (((with_reducible refine gate_builtin (b := .append) (xs := #[.tmp 29, .tmp 30]) rfl ?_); at_builtin; refine print_append_cells (w0 := w) w.heap.size rfl (.tmp 29) (.tmp 30) 24 3 (.int .i64 0) 1 8 rfl Try.underlying24 info3 rfl (by decide) (by decide) (.slice (some ⟨bg, 0, none⟩) out.length cap) out.length (out.map (Value.int .i64)) [.int .i64 0] rfl rfl rfl (by intro u hu; rw [List.mem_singleton.1 hu]; rfl) HC.out.own HB.out (QK HB.out) (by have := HO.out; have := HL.out; omega) ?_; intro v1 w1 hown hb1 _ _; clear HC HB HCUR HBG HCAP HSZ HTK))
    have C1 : OwnI w1 w.heap.size v1 (out ++ [0]) := OwnI.of_own (by simpa using hown) (by simp)
    have HC1 := QO C1
    obtain ⟨g1, cap1, cur1, rfl, hg1, hcur1, hc1a, hc1b, hsz1, htk1⟩ := C1
    have HB1 := QO hb1
    have HG1 := QO hg1
    have HCU := QO hcur1
    have HSZ1 := QO hsz1
    have HCA := QO (show out.length + 1 ≤ cap1 by simpa using hc1a)
    have HMX := QO hc1b
    have HTK1 := QO (show cur1.toList.take (out.length + 1) = (out ++ [0]).map (Value.int .i64) by simpa using htk1)
    obtain ⟨i0, hi0, hsz0⟩ : ∃ i0, Try.prog.info? 3 = some i0 ∧ i0.size = 1 := by
     obtain ⟨i0, hi0, hz⟩ := Option.map_eq_some_iff.1 info3
     exact ⟨i0, hi0, congrArg (fun p => p.2.1) hz⟩
    have hs1 : (Try.prog.info? 3).map (·.size) = some 1 := by rw [hi0]; simp [hsz0]
    obtain ⟨A1, hA1, hA1'⟩ := cut_from (P := Try.prog) 24 3 Try.underlying24 hi0 hsz0 g1 (out.length + 1) cap1 (K + 1) (by omega)
    obtain ⟨A2, hA2, hA2'⟩ := cut_from (P := Try.prog) 24 3 Try.underlying24 hi0 hsz0 g1 (out.length + 1) cap1 K (by omega)
    obtain rfl := hA2' (by have := HCA.out; omega)
    have HA1 := QO hA1'
    have HS1 := QO hs1
    clear hown hb1 hg1 hcur1 hsz1 hc1a hc1b htk1 hA1' hA2' hi0 hsz0 hs1
    have eL : (out ++ [0]).length = out.length + 1 := by simp
    have eK : ((K + 1 : Nat) : Int) = (K : Int) + 1 := by omega
    rw [eK] at hA1
    rw [eL]
    have hwr : IntKind.i64.wrap ((K : Int) + 1) = (K : Int) + 1 := w64_ ((K : Int) + 1) (by omega) (by omega)
    refine start_ (n := 8) (S := fun _ => True) (ds := [7]) #[Y0,Y0,Y0,Y0,Y0,Y0,Y0,Y0] (by kernel_rfl) rfl rfl trivial (fun hHeld => ?_)
    refine QJ (i := 0) (N := some 32) (v := ?_) (a' := ?_) #[Y1,Y0,Y0,Y0,Y0,Y0,Y0,Y0] rfl rfl (by kernel_rfl) (fun _ _ _ h => h) (Or.inl ⟨by rfl, ?_⟩) ?_ ?_
    rotate_left
    ·intro w'
     go_simp
     with_reducible rfl
    rotate_left
    ·simp only [Act.put, QL, QM, QN, QG, QH]
     rfl
    refine QJ (i := 1) (N := some 33) (v := ?_) (a' := ?_) #[Y1,Y1,Y0,Y0,Y0,Y0,Y0,Y0] rfl rfl (by kernel_rfl) (fun _ _ _ h => h) (Or.inl ⟨by rfl, ?_⟩) ?_ ?_
    rotate_left
    ·intro w'
     go_simp
     with_reducible rfl
    rotate_left
    ·simp only [Act.put, QL, QM, QN, QG, QH]
     rfl
    refine QJ (i := 2) (N := some 34) (v := ?_) (a' := ?_) #[Y1,Y1,Y1,Y0,Y0,Y0,Y0,Y0] rfl rfl (by kernel_rfl) (fun _ _ _ h => h) (Or.inl ⟨by rfl, ?_⟩) ?_ ?_
    rotate_left
    ·intro w'
     go_simp
     with_reducible rfl
    rotate_left
    ·simp only [Act.put, QL, QM, QN, QG, QH]
     rfl
    refine QJ (i := 3) (N := some 35) (v := ?_) (a' := ?_) #[Y1,Y1,Y1,Y1,Y0,Y0,Y0,Y0] rfl rfl (by kernel_rfl) (fun _ _ _ h => h) (Or.inl ⟨by rfl, ?_⟩) ?_ ?_
    rotate_left
    ·intro w'
     go_simp
     with_reducible rfl
    rotate_left
    ·simp only [Act.put, QL, QM, QN, QG, QH]
     rfl
    refine QJ (i := 4) (N := some 36) (v := ?_) (a' := ?_) #[Y1,Y1,Y1,Y1,Y1,Y0,Y0,Y0] rfl rfl (by kernel_rfl) (fun _ _ _ h => h) (Or.inl ⟨by rfl, ?_⟩) ?_ ?_
    rotate_left
    ·intro w'
     go_simp
     with_reducible rfl
    rotate_left
    ·simp only [Act.put, QL, QM, QN, QG, QH]
     rfl
    refine QJ (i := 5) (N := some 37) (v := ?_) (a' := ?_) #[Y1,Y1,Y1,Y1,Y1,Y1,Y0,Y0] rfl rfl (by kernel_rfl) (fun _ _ _ h => h) (Or.inl ⟨by rfl, ?_⟩) ?_ ?_
    rotate_left
    ·intro w'
     go_simp
     with_reducible rfl
    rotate_left
    ·simp only [Act.put, QL, QM, QN, QG, QH]
     rfl
    refine QJ (i := 6) (N := some 38) (v := ?_) (a' := ?_) #[Y1,Y1,Y1,Y1,Y1,Y1,Y1,Y0] rfl rfl (by kernel_rfl) (fun _ _ _ h => h) (Or.inl ⟨by rfl, ?_⟩) ?_ ?_
    rotate_left
    ·intro w'
     go_simp
     with_reducible rfl
    rotate_left
    ·simp only [Act.put, QL, QM, QN, QG, QH]
     rfl
    refine last_ (i := 7) (N := some 39) #[Y1,Y1,Y1,Y1,Y1,Y1,Y1,Y1] rfl rfl (by kernel_rfl) (by decide) (fun K_ hK_ => ?_)
    have hc0' : ∀ j u, ((out.drop K).map (Value.int .i64))[j]? = some u → w1.drew.cell? ((⟨g1, K, none⟩ : Addr).add j) = some u := by
     intro j u hu
     rw [List.getElem?_map, List.getElem?_drop] at hu
     obtain ⟨y, hy, rfl⟩ := Option.map_eq_some_iff.1 hu
     have hlt := (List.getElem?_eq_some_iff.1 hy).1
     have := HC1.out.cell (K + j) (by rw [eL]; omega)
     have e2 : (out ++ [0]).getD (K + j) 0 = y := by simp [List.getD_eq_getElem?_getD, List.getElem?_append_left hlt, hy]
     rw [e2] at this
     have e3 : (⟨g1, K, none⟩ : Addr).add j = ⟨g1, K + j, none⟩ := by by_cases hj : j = 0 <;> simp [Addr.add, hj]
     rw [e3]
     exact this
    refine step_copy_splice rfl (.tmp 35) (.tmp 38) 24 24 rfl 3 Try.underlying24 HS1.out A1 (some ⟨g1, K, none⟩) (out.length - K) (cap1 - (K + 1)) (out.length + 1 - K) (cap1 - K) rfl rfl g1 (K + 1) cur1.toList 3 (show w1.drew.heap[g1]? = _ from HCU.out) ((out.drop K).map (Value.int .i64)) (by simp [Nat.min_def]; omega) (fun hp => ⟨HA1.out (by have := HCA.out; simp at hp; omega), _, rfl, hc0'⟩) (by have := HCA.out; have := HSZ1.out; simp; omega) (by intro u hu; obtain ⟨y, _, rfl⟩ := List.mem_map.1 hu; rfl) w.heap.size w (below_drew HB1.out) HG1.out ?_
    intro w2 hg2 hb2
    refine hK_.out _ _ ?_
    clear hK_ K_ hHeld hA1 hA2
    refine done_ (by kernel_rfl) ?_
    have hls : (Go.splice cur1.toList (K + 1) ((out.drop K).map (Value.int .i64))).length = cap1 := by rw [length_splice _ _ _ (by have := HCA.out; have := HSZ1.out; simp; omega)]; simpa using HSZ1.out
    have hb := hg2.out
    obtain ⟨y, hy⟩ : ∃ y, w2.cell? ⟨g1, K, none⟩ = some y := ⟨_, (QC hb K).trans (Array.getElem?_eq_getElem (by rw [List.size_toArray, hls]; have := HCA.out; omega))⟩
    have hf2 := QB hb K
    have HN : Aside0 (OwnI (w2.setCell ⟨g1, K, none⟩ (.int .i64 c)) w.heap.size (.slice (some ⟨g1, 0, none⟩) (out.length + 1) cap1) (insF out c)) := ⟨⟨g1, cap1, _, by rw [insF_length], HG1.out, blk_set hb K (.int .i64 c), by rw [insF_length]; exact HCA.out, HMX.out, by simpa using hls, by
     rw [insF_length, IN.out, ← ins_cells cur1.toList out c K hK HTK1.out]
     simp⟩⟩
    have HB2 := QO hb2
    clear hb hg2 hb2 hls hc0' eL eK
    go_wp2
    go_roundg g
    case measure => omega
    case rel => exact ⟨i + 1, insF out c, by go_num, ⟨by have := HI.out; omega⟩, ⟨by rw [insF_length, HO.out]⟩, NXT, HN, ⟨below_set HB2.out HG1.out⟩⟩

theorem own_grown {X Y : World} {base : Nat} {ok : Nat → Prop} {v : Value} {xs : List Int} {row : Option Nat} (h : (Kd.int .i64).R 3 X base ok v xs) (hg : X.grownBy Y row) (hne : row = none ∨ v.ownBlock ≠ row) : (Kd.int .i64).R 3 Y base ok v xs :=
 Kd.R_mono (Kd.R_step (Kd.R_tight rfl h) (fun k hk hlt => hg.block k hlt (by rcases hne with e | e <;> first | (rw [e]; simp; done) | (rw [hk]; exact e)))) (fun k hk => h.1 k hk.symm)
theorem C_of_cells {w : World} {A : Option Addr} {xs : List Int} (hm : xs.length ≤ 9223372036854775807) (h : 0 < xs.length → ∃ g o, A = some ⟨g, o, none⟩ ∧ ∀ j, j < xs.length → w.cell? ⟨g, o + j, none⟩ = some (.int .i64 (xs.getD j 0))) : Kd.C (Kd.int .i64) w A xs.length xs := by
 refine ⟨rfl, hm, fun hp => ?_⟩
 obtain ⟨g, o, rfl, hc⟩ := h hp
 refine ⟨_, rfl, fun j p hj => ⟨[.int .i64 p], rfl, rfl, fun i u hi => ?_⟩⟩
 have hjl := (List.getElem?_eq_some_iff.1 hj).1
 obtain ⟨rfl, rfl⟩ : i = 0 ∧ u = .int .i64 p := by
  cases i with
  | zero => exact ⟨rfl, by simpa using hi.symm⟩
  | succ i => simp at hi
 have e : (⟨g, o, none⟩ : Addr).add (j * (Kd.int .i64).sz + 0) = ⟨g, o + j, none⟩ := by
  show (⟨g, o, none⟩ : Addr).add (j * 1 + 0) = _
  by_cases h0 : j = 0 <;> simp [Addr.add, h0]
 rw [e, hc j hjl]
 simp [List.getD_eq_getElem?_getD, hj]
def spec_Sorted.f (l : List Int) : Option (List Int) := if l.length < 17592186044416 then some (sortF [] l) else none
set_option maxHeartbeats 8000000 in
set_option maxRecDepth 100000 in
theorem spec_Sorted.calls (A0 : Option Addr) (c0 : Nat) (l0 : List Int) (r : List Int) (w : World) (hr0 : Kd.C (Kd.int .i64) w A0 l0.length l0) (hc0 : l0.length ≤ c0) (h : spec_Sorted.f l0 = some r) :
  Calls Try.prog 130 #[.slice A0 l0.length c0] w fun e w' => ∃ v0_ : Value, e = .returned (v0_) ∧ Kd.R (Kd.int .i64) 3 w' w.heap.size (fun _ => True) v0_ r ∧ Below w.heap.size w w' := by
 unfold spec_Sorted.f at h
 split at h
 case isFalse => exact absurd h (by simp)
 case isTrue hlen =>
 obtain rfl := Option.some.inj h
 have HR0 := QO hr0
 have HL := QO hlen
 clear hr0 hlen h
 have z0 : Aside0 (OwnI (w.alloc (.cells #[] 3)) w.heap.size (.slice (some ⟨w.heap.size, 0, none⟩) 0 0) []) := ⟨⟨w.heap.size, 0, #[], rfl, Nat.le_refl _, heap_alloc_new _ _, Nat.le_refl _, Nat.zero_le _, rfl, rfl⟩⟩
 go_enter Try.func130, Try.ntmps130
 go_wp2
 go_loopg [3, 4] l0.length (fun g v3 v4 wx => ∃ (i : Nat) (out : List Int), v4 = .int .i64 (i : Int) ∧ Aside0 (i + g = l0.length) ∧ Aside0 (out.length = i) ∧ Aside0 (sortF out (l0.drop i) = sortF [] l0) ∧ Aside0 (OwnI wx w.heap.size v3 out) ∧ Aside0 (Below w.heap.size w wx))
 case atStart => exact ⟨0, [], rfl, ⟨by simp⟩, ⟨rfl⟩, ⟨rfl⟩, z0, ⟨(Below.refl _ _).alloc (Nat.le_refl _) _⟩⟩
 case round =>
  clear z0
  obtain ⟨wo, rfl⟩ : ∃ wo : World, wo = wr := ⟨_, rfl⟩
  obtain ⟨i, out, rfl, HI, HO, HH, HC, HB⟩ := hrel
  cases gk with
  | zero =>
   have hi : ¬ ((i : Int) < (l0.length : Int)) := by have := HI.out; omega
   have hi' : decide ((i : Int) < (l0.length : Int)) = false := decide_eq_false hi
   have hi'' : decide (i < l0.length) = false := by have := HI.out; simp; omega
   clear hi
   have fin : sortF [] l0 = out := by rw [← HH.out, List.drop_of_length_le (by have := HI.out; omega)]; rfl
   have FIN := QO fin
   clear fin
   go_wp2
   go_ret
   exact ⟨_, rfl, by rw [FIN.out]; exact HC.out.row, HB.out⟩
  | succ g =>
   have hi : (i : Int) < (l0.length : Int) := by have := HI.out; omega
   have h0 : 0 ≤ (i : Int) := by omega
   obtain ⟨ad, e1, hx⟩ := Kd.at_int (Kd.C_below HR0.out HB.out) (i : Int) h0 hi
   cases e1
   simp only [Int.toNat_natCast] at hx
   have hadl : ad.block < w.heap.size := by
    obtain ⟨ad2, e2, hx2⟩ := Kd.at_int HR0.out (i : Int) h0 hi
    cases e2
    have := World.block_lt_of_cell? w _ hx2
    by_cases hj : i = 0 <;> simpa [Addr.add, hj] using this
   have HAD := QO hadl
   clear hadl
   have hdrop : l0.drop i = rd l0 (i : Int) :: l0.drop (i + 1) := by
    have hn : i < l0.length := by omega
    rw [List.drop_eq_getElem_cons hn]
    unfold rd
    simp [List.getD_eq_getElem?_getD, List.getElem?_eq_getElem hn]
   have HD := QO hdrop
   clear hdrop
   generalize hc : rd l0 (i : Int) = c at *
   clear hc
   have NXT : Aside0 (sortF (insF out c) (l0.drop (i + 1)) = sortF [] l0) := ⟨by rw [← HH.out, HD.out]; rfl⟩
   obtain ⟨bg, cap, cur, rfl, hbg, hcur, hcap1, hcap2, hsz, htk⟩ := HC.out
   clear hbg hcur hcap2 hsz htk
   have HCAP := QO hcap1
   clear hcap1
   have hib : (i : Int) < 17592186044416 := by have := HL.out; omega
   have hlo : (out.length : Int) < 9223372036854775807 := by have := HO.out; have := HL.out; omega
   go_upto_block 2 with (fail)
   go_cut [5] (fun v5 wc => v5 = .int .i64 ((kAt out c out.length : Nat) : Int) ∧ Drawn0 wo wc)
   case first =>
    go_wp2
    go_loopw [5] (fun v5 wv => ∃ k : Nat, v5 = .int .i64 (k : Int) ∧ Aside0 (k ≤ out.length) ∧ Aside0 (kAt out c k = kAt out c out.length) ∧ Drawn0 wo wv) (fun v5 _ => (intOf v5).toNat)
    case atStart => exact ⟨out.length, rfl, ⟨Nat.le_refl _⟩, ⟨rfl⟩, Drawn0.refl _⟩
    case round =>
     obtain ⟨k, rfl, HK, HKA, ⟨n, rfl⟩⟩ := hrel
     cases k with
     | zero =>
      have hz : kAt out c out.length = 0 := HKA.out.symm
      have HZ := QO hz
      clear hz
      go_wp2
      repeat (go_quiet (fail); try go_wp2)
      go_meet
      case rel => exact ⟨by rw [HZ.out] <;> rfl, by repeat (first | exact Drawn0.refl _ | apply Drawn0.step)⟩
     | succ k =>
      have hk : k < out.length := HK.out
      have hcell := HC.out.cell k hk
      have e1 : (((k + 1 : Nat) : Int) - 1) = (k : Int) := by omega
      by_cases hgt : out.getD k 0 > c
      ·have hg1 : decide (c < out.getD k 0) = true := decide_eq_true hgt
       have HKB : Aside0 (kAt out c k = kAt out c out.length) := ⟨by rw [← HKA.out, kAt, if_pos hgt]⟩
       clear hgt
       generalize out.getD k 0 = y at *
       go_wp2
       repeat (go_quiet (fail); try go_wp2)
       go_roundw
       case rel => exact ⟨k, rfl, ⟨by omega⟩, HKB, by repeat (first | exact Drawn0.refl _ | apply Drawn0.step)⟩
       case measure => simp [intOf]
      ·have hg1 : decide (c < out.getD k 0) = false := decide_eq_false hgt
       have HZ : Aside0 (kAt out c out.length = k + 1) := ⟨by rw [← HKA.out, kAt, if_neg hgt]⟩
       clear hgt
       generalize out.getD k 0 = y at *
       go_wp2
       repeat (go_quiet (fail); try go_wp2)
       go_meet
       case rel => exact ⟨by rw [HZ.out] <;> rfl, by repeat (first | exact Drawn0.refl _ | apply Drawn0.step)⟩
   case rest =>
    obtain ⟨rfl, ⟨n, rfl⟩⟩ := hcut
    have hK := kAt_le out c out.length
    have IN : Aside0 (insF out c = out.take (kAt out c out.length) ++ c :: out.drop (kAt out c out.length)) := ⟨rfl⟩
    generalize kAt out c out.length = K at *
    have hk0 : (0 : Int) ≤ (K : Int) := by omega
    have hk1 : (K : Int) ≤ (cap : Int) := by have := HCAP.out; omega
    have hk2 : (K : Int) ≤ (out.length : Int) := by omega
    obtain ⟨i0, hi0, hsz0⟩ : ∃ i0, Try.prog.info? 3 = some i0 ∧ i0.size = 1 := by
     obtain ⟨i0, hi0, hz⟩ := Option.map_eq_some_iff.1 info3
     exact ⟨i0, hi0, congrArg (fun p => p.2.1) hz⟩
    obtain ⟨A2, hA2, hA2'⟩ := cut_from (P := Try.prog) 24 3 Try.underlying24 hi0 hsz0 bg out.length cap K hK
    have HA2 := QO hA2'
    have hA3 : ∀ W : World, (Instr.slice 24 (.slice (some ⟨bg, 0, none⟩) out.length cap) none (some (.int .i64 (K : Int))) none).run Try.prog W = .ok (.slice (some ⟨bg, 0, none⟩) K cap) W := by
     intro W
     have hel : Try.prog.elem 24 = 3 := by simp [Program.elem, Try.underlying24]
     have hu : Try.prog.underlying 24 = some (.slice (Try.prog.elem 24)) := by rw [hel]; exact Try.underlying24
     rw [run_slice_h W 24 (some ⟨bg, 0, none⟩) out.length cap hu .i64 (K : Int) hk0 hk1, hel]
     simp [sizeOf, typeInfo, hi0, hsz0, sliced, Result.andThen, Addr.add]
    clear hA2' hi0 hsz0
    go_wp2
    refine start_ (n := 16) (S := fun w' => w'.cell? (ad.add i) = some (.int .i64 c)) (ds := []) #[Y0,Y0,Y0,Y0,Y0,Y0,Y0,Y0,Y0,Y0,Y0,Y0,Y0,Y0,Y0,Y0] (by kernel_rfl) rfl rfl hx (fun hHeld => ?_)
    refine QJ (i := 1) (N := some 32) (v := ?_) (a' := ?_) #[Y0,Y1,Y0,Y0,Y0,Y0,Y0,Y0,Y0,Y0,Y0,Y0,Y0,Y0,Y0,Y0] rfl rfl (by kernel_rfl) (fun _ _ _ h => h) (Or.inl ⟨by rfl, ?_⟩) ?_ ?_
    rotate_left
    ·intro w'
     go_simp
     with_reducible rfl
    rotate_left
    ·simp only [Act.put, QL, QM, QN, QG, QH]
     rfl
    refine QJ (i := 2) (N := some 33) (v := ?_) (a' := ?_) #[Y0,Y1,Y1,Y0,Y0,Y0,Y0,Y0,Y0,Y0,Y0,Y0,Y0,Y0,Y0,Y0] rfl rfl (by kernel_rfl) (fun _ _ _ h => h) (Or.inl ⟨by rfl, ?_⟩) ?_ ?_
    rotate_left
    ·intro w'
     go_simp
     with_reducible rfl
    rotate_left
    ·simp only [Act.put, QL, QM, QN, QG, QH]
     rfl
    refine QJ (i := 3) (N := some 34) (v := ?_) (a' := ?_) #[Y0,Y1,Y1,Y1,Y0,Y0,Y0,Y0,Y0,Y0,Y0,Y0,Y0,Y0,Y0,Y0] rfl rfl (by kernel_rfl) (fun _ _ _ h => h) (Or.inl ⟨by rfl, ?_⟩) ?_ ?_
    rotate_left
    ·intro w'
     go_simp
     with_reducible rfl
    rotate_left
    ·simp only [Act.put, QL, QM, QN, QG, QH]
     rfl
    refine QJ (i := 5) (N := some 36) (v := ?_) (a' := ?_) #[Y0,Y1,Y1,Y1,Y0,Y1,Y0,Y0,Y0,Y0,Y0,Y0,Y0,Y0,Y0,Y0] rfl rfl (by kernel_rfl) (fun _ _ _ h => h) (Or.inl ⟨by rfl, ?_⟩) ?_ ?_
    rotate_left
    ·intro w'
     go_simp
     with_reducible rfl
    rotate_left
    ·simp only [Act.put, QL, QM, QN, QG, QH]
     rfl
    refine QJ (i := 6) (N := some 37) (v := ?_) (a' := ?_) #[Y0,Y1,Y1,Y1,Y0,Y1,Y1,Y0,Y0,Y0,Y0,Y0,Y0,Y0,Y0,Y0] rfl rfl (by kernel_rfl) (fun _ _ _ h => h) (Or.inl ⟨by rfl, ?_⟩) ?_ ?_
    rotate_left
    ·intro w'
     go_simp
     with_reducible rfl
    rotate_left
    ·simp only [Act.put, QL, QM, QN, QG, QH]
     rfl
    refine QJ (i := 7) (N := some 38) (v := ?_) (a' := ?_) #[Y0,Y1,Y1,Y1,Y0,Y1,Y1,Y1,Y0,Y0,Y0,Y0,Y0,Y0,Y0,Y0] rfl rfl (by kernel_rfl) (fun _ _ _ h => h) (Or.inl ⟨by rfl, ?_⟩) ?_ ?_
    rotate_left
    ·intro w'
     go_simp
     with_reducible rfl
    rotate_left
    ·simp only [Act.put, QL, QM, QN, QG, QH]
     rfl
    refine take_ (i := 8) (N := some 39) (v := ?_) (a' := ?_) #[Y0,Y1,Y1,Y1,Y0,Y1,Y1,Y1,Y1,Y0,Y0,Y0,Y0,Y0,Y0,Y0] rfl rfl (by kernel_rfl) (fun _ _ _ h => h) (Or.inl ⟨by rfl, ?_⟩) hHeld ?_ ?_
    rotate_left
    ·rintro w' s0
     go_simp
     with_reducible rfl
    rotate_left
    ·simp only [Act.put, QL, QM, QN, QG, QH]
     rfl
    refine QJ (i := 11) (N := some 42) (v := ?_) (a' := ?_) #[Y0,Y1,Y1,Y1,Y0,Y1,Y1,Y1,Y1,Y0,Y0,Y1,Y0,Y0,Y0,Y0] rfl rfl (by kernel_rfl) (fun _ _ _ h => h) (Or.inl ⟨by rfl, ?_⟩) ?_ ?_
    rotate_left
    ·intro w'
     go_simp
     with_reducible rfl
    rotate_left
    ·simp only [Act.put, QL, QM, QN, QG, QH]
     rfl
    refine QJ (i := 12) (N := some 43) (v := ?_) (a' := ?_) #[Y0,Y1,Y1,Y1,Y0,Y1,Y1,Y1,Y1,Y0,Y0,Y1,Y1,Y0,Y0,Y0] rfl rfl (by kernel_rfl) (fun _ _ _ h => h) (Or.inl ⟨by rfl, ?_⟩) ?_ ?_
    rotate_left
    ·intro w'
     go_simp
     with_reducible rfl
    rotate_left
    ·simp only [Act.put, QL, QM, QN, QG, QH]
     rfl
    refine QJ (i := 13) (N := some 44) (v := ?_) (a' := ?_) #[Y0,Y1,Y1,Y1,Y0,Y1,Y1,Y1,Y1,Y0,Y0,Y1,Y1,Y1,Y0,Y0] rfl rfl (by kernel_rfl) (fun _ _ _ h => h) (Or.inl ⟨by rfl, ?_⟩) ?_ ?_
    rotate_left
    ·intro w'
     go_simp
     with_reducible rfl
    rotate_left
    ·simp only [Act.put, QL, QM, QN, QG, QH]
     rfl
    have HW : Aside0 (OwnI (wo.drewN n).drew w.heap.size (.slice (some ⟨bg, 0, none⟩) out.length cap) out) := ⟨HC.out⟩
    have HBW := QO (below_drew (QD HB.out n))
    have HX := QO hHeld
    clear HC HB hx hA2 hA3 hHeld
    generalize (wo.drewN n).drew = W at *
    have HADW : Aside0 ((ad.add i).block < W.heap.size) := ⟨World.block_lt_of_cell? W _ HX.out⟩
    have CT : Aside0 (Kd.C (Kd.int .i64) W (some ⟨bg, 0, none⟩) K (out.take K)) := ⟨by
     have h := Kd.R_reads' (Kd.R_take (m := K) HW.out.row hK)
     have h2 := h.2.2
     rwa [← h.1] at h2⟩
    have CD : Aside0 (Kd.C (Kd.int .i64) W A2 (out.length - K) (out.drop K)) := ⟨by
     have h := C_of_cells (w := W) (A := A2) (xs := out.drop K) (by simp; omega) (fun hp => ⟨bg, K, HA2.out (by have := HCAP.out; simp at hp; omega), fun j hj => by
      have := HW.out.cell (K + j) (by simp at hj; omega)
      rw [this]
      simp [List.getD_eq_getElem?_getD]⟩)
     rwa [List.length_drop] at h⟩
    have HB0 : Aside0 (Below W.heap.size W W) := ⟨Below.refl _ _⟩
    refine join_ (σ := Value × Value × Value × Value) 2 #[Y1,Y1,Y1,Y1,Y1,Y1,Y1,Y1,Y1,Y1,Y1,Y1,Y1,Y1,Y0,Y0] (fun s => [(31, s.1), (35, s.2.1), (40, s.2.2.1), (41, s.2.2.2)]) (fun s w' => w'.cell? (ad.add i) = some (.int .i64 c) ∧ (Kd.int .i64).R 3 w' W.heap.size (fun _ => True) s.2.2.2 (out.take K ++ [c]) ∧ Below W.heap.size W w') ?_ ?_
    rotate_left
    ·intro hJ
     refine two_ (i := 0) (j := 9) (Ni := some 31) (Nj := some 40) #[Y1,Y1,Y1,Y1,Y0,Y1,Y1,Y1,Y1,Y0,Y0,Y1,Y1,Y1,Y0,Y0] #[Y0,Y1,Y1,Y1,Y0,Y1,Y1,Y1,Y1,Y1,Y0,Y1,Y1,Y1,Y0,Y0] rfl rfl rfl rfl (by kernel_rfl) (by decide) (by decide) (fun Kc hKc => ?_) (fun Kc hKc => ?_)
     ·skip
      refine Kd.R_lit_step (Kd.int .i64) (w0 := W) W.heap.size 3 (by rfl) rfl (xs := ([] : List Int)) (inner := []) (ok := fun _ => True) (okp := fun _ => True) (by first | (go_simp; done) | (go_simp; rfl)) (Reps.none _ _) (fun _ h => h) trivial HB0.out (QK HB0.out) (by simp) ?_
      intro v31 W1 h31 hb hg hn
      have Z31 := QO (Kd.R_lt h31)
      have N31 := QO hn
      have HB1 := QO hb
      have H31 := QO h31
      clear h31
      refine hKc.out _ _ ((HB1.out.cell (p := ad.add i) HADW.out).trans HX.out) (fun hHeld => ?_)
      clear hKc Kc hHeld hb hg hn
      refine norm_ (a' := ?_) ?_ ?_
      rotate_left
      ·show Act.put _ (some 31) _ = _
       simp only [Act.put, QL, QM, QN, QG, QH]
       rfl
      refine two_ (i := 4) (j := 9) (Ni := some 35) (Nj := some 40) #[Y1,Y1,Y1,Y1,Y1,Y1,Y1,Y1,Y1,Y0,Y0,Y1,Y1,Y1,Y0,Y0] #[Y1,Y1,Y1,Y1,Y0,Y1,Y1,Y1,Y1,Y1,Y0,Y1,Y1,Y1,Y0,Y0] rfl rfl rfl rfl (by kernel_rfl) (by decide) (by decide) (fun Kc hKc => ?_) (fun Kc hKc => ?_)
      ·skip
       refine Kd.R_append_rows_step (Kd.int .i64) (w0 := W) W.heap.size (by rfl) (.tmp 31) (.tmp 34) 24 3 (.int .i64 0) 8 rfl Try.underlying24 info3 rfl (by decide) (by decide) v31 [] (out.take K) (some ⟨bg, 0, none⟩) K cap (fun _ => True) (fun _ => False) rfl rfl H31.out (Kd.C_below CT.out HB1.out) (fun _ _ h => h) (fun _ h => h.elim) (fun _ _ => trivial) HB1.out (QK HB1.out) (by have := HO.out; have := HL.out; simp only [List.length_nil]; omega) ?_
       intro v35 W2 h35 hb hg hn
       have HB2 := QO hb
       have H35 := QO h35
       clear h35
       refine hKc.out _ _ ((HB2.out.cell (p := ad.add i) HADW.out).trans HX.out) (fun hHeld => ?_)
       clear hKc Kc hHeld hb hg hn
       refine norm_ (a' := ?_) ?_ ?_
       rotate_left
       ·show Act.put _ (some 35) _ = _
        simp only [Act.put, QL, QM, QN, QG, QH]
        rfl
       refine one_ (i := 9) (N := some 40) #[Y1,Y1,Y1,Y1,Y1,Y1,Y1,Y1,Y1,Y1,Y0,Y1,Y1,Y1,Y0,Y0] rfl rfl (by kernel_rfl) (by decide) (fun Kc hKc => ?_)
       refine Kd.R_lit_step (Kd.int .i64) (w0 := W) W.heap.size 3 (by rfl) rfl (xs := [c]) (inner := [.int .i64 c]) (ok := fun _ => True) (okp := fun _ => True) (by first | (go_simp; done) | (go_simp; rfl)) (Reps.snoc (Reps.none _ _) rfl rfl) (fun _ h => h) trivial HB2.out (QK HB2.out) (by simp) ?_
       intro v40 W3 h40 hb hg hn
       obtain ⟨A40, c40, rfl⟩ := Kd.R_slice h40
       have Z40 := QO (Kd.R_lt h40)
       have N40 := QO hn
       have HB3 := QO hb
       have nH35 := QO (own_grown H35.out hg (by simp))
       clear H35
       have H35 := nH35
       clear nH35
       have H40 := QO h40
       clear h40
       refine hKc.out _ _ ((HB3.out.cell (p := ad.add i) HADW.out).trans HX.out) (fun hHeld => ?_)
       clear hKc Kc hHeld hb hg hn
       refine norm_ (a' := ?_) ?_ ?_
       rotate_left
       ·show Act.put _ (some 40) _ = _
        simp only [Act.put, QL, QM, QN, QG, QH]
        rfl
       refine one_ (i := 10) (N := some 41) #[Y1,Y1,Y1,Y1,Y1,Y1,Y1,Y1,Y1,Y1,Y1,Y1,Y1,Y1,Y0,Y0] rfl rfl (by kernel_rfl) (by decide) (fun Kc hKc => ?_)
       refine Kd.R_append_rows_step (Kd.int .i64) (w0 := W) W.heap.size (by rfl) (.tmp 35) (.tmp 40) 24 3 (.int .i64 0) 8 rfl Try.underlying24 info3 rfl (by decide) (by decide) v35 (out.take K) [c] A40 [c].length c40 (fun _ => True) (fun _ => False) rfl rfl H35.out (Kd.R_reads' H40.out).2.2 (fun _ _ h => h) (fun _ h => h.elim) (fun _ _ => trivial) HB3.out (QK HB3.out) (by have := HO.out; have := HL.out; simp only [List.length_take, List.length_cons, List.length_nil]; omega) ?_
       intro v41 W4 h41 hb hg hn
       have HB4 := QO hb
       refine hKc.out _ _ ((HB4.out.cell (p := ad.add i) HADW.out).trans HX.out) (fun hHeld => ?_)
       clear hKc Kc hHeld hb hg hn
       refine norm_ (a' := ?_) ?_ ?_
       rotate_left
       ·show Act.put _ (some 41) _ = _
        simp only [Act.put, QL, QM, QN, QG, QH]
        rfl
       exact norm_ (by simp only [putAll, Act.put, QL, QM, QN]) (hJ (v31, v35, .slice A40 [c].length c40, v41) _ ⟨((HB4.out.cell (p := ad.add i) HADW.out).trans HX.out), h41, HB4.out⟩)
      ·skip
       refine Kd.R_lit_step (Kd.int .i64) (w0 := W) W.heap.size 3 (by rfl) rfl (xs := [c]) (inner := [.int .i64 c]) (ok := fun _ => True) (okp := fun _ => True) (by first | (go_simp; done) | (go_simp; rfl)) (Reps.snoc (Reps.none _ _) rfl rfl) (fun _ h => h) trivial HB1.out (QK HB1.out) (by simp) ?_
       intro v40 W2 h40 hb hg hn
       obtain ⟨A40, c40, rfl⟩ := Kd.R_slice h40
       have Z40 := QO (Kd.R_lt h40)
       have N40 := QO hn
       have HB2 := QO hb
       have nH31 := QO (own_grown H31.out hg (by simp))
       clear H31
       have H31 := nH31
       clear nH31
       have H40 := QO h40
       clear h40
       refine hKc.out _ _ ((HB2.out.cell (p := ad.add i) HADW.out).trans HX.out) (fun hHeld => ?_)
       clear hKc Kc hHeld hb hg hn
       refine norm_ (a' := ?_) ?_ ?_
       rotate_left
       ·show Act.put _ (some 40) _ = _
        simp only [Act.put, QL, QM, QN, QG, QH]
        rfl
       refine one_ (i := 4) (N := some 35) #[Y1,Y1,Y1,Y1,Y1,Y1,Y1,Y1,Y1,Y1,Y0,Y1,Y1,Y1,Y0,Y0] rfl rfl (by kernel_rfl) (by decide) (fun Kc hKc => ?_)
       refine Kd.R_append_rows_step (Kd.int .i64) (w0 := W) W.heap.size (by rfl) (.tmp 31) (.tmp 34) 24 3 (.int .i64 0) 8 rfl Try.underlying24 info3 rfl (by decide) (by decide) v31 [] (out.take K) (some ⟨bg, 0, none⟩) K cap (fun _ => True) (fun _ => False) rfl rfl H31.out (Kd.C_below CT.out HB2.out) (fun _ _ h => h) (fun _ h => h.elim) (fun _ _ => trivial) HB2.out (QK HB2.out) (by have := HO.out; have := HL.out; simp only [List.length_nil]; omega) ?_
       intro v35 W3 h35 hb hg hn
       have HB3 := QO hb
       have nH40 := QO (own_grown H40.out hg (.inr (by obtain ⟨b, e1, e2⟩ := N40.out; intro e; rw [e1] at e; have := Z31.out b e.symm; omega)))
       clear H40
       have H40 := nH40
       clear nH40
       have H35 := QO h35
       clear h35
       refine hKc.out _ _ ((HB3.out.cell (p := ad.add i) HADW.out).trans HX.out) (fun hHeld => ?_)
       clear hKc Kc hHeld hb hg hn
       refine norm_ (a' := ?_) ?_ ?_
       rotate_left
       ·show Act.put _ (some 35) _ = _
        simp only [Act.put, QL, QM, QN, QG, QH]
        rfl
       refine one_ (i := 10) (N := some 41) #[Y1,Y1,Y1,Y1,Y1,Y1,Y1,Y1,Y1,Y1,Y1,Y1,Y1,Y1,Y0,Y0] rfl rfl (by kernel_rfl) (by decide) (fun Kc hKc => ?_)
       refine Kd.R_append_rows_step (Kd.int .i64) (w0 := W) W.heap.size (by rfl) (.tmp 35) (.tmp 40) 24 3 (.int .i64 0) 8 rfl Try.underlying24 info3 rfl (by decide) (by decide) v35 (out.take K) [c] A40 [c].length c40 (fun _ => True) (fun _ => False) rfl rfl H35.out (Kd.R_reads' H40.out).2.2 (fun _ _ h => h) (fun _ h => h.elim) (fun _ _ => trivial) HB3.out (QK HB3.out) (by have := HO.out; have := HL.out; simp only [List.length_take, List.length_cons, List.length_nil]; omega) ?_
       intro v41 W4 h41 hb hg hn
       have HB4 := QO hb
       refine hKc.out _ _ ((HB4.out.cell (p := ad.add i) HADW.out).trans HX.out) (fun hHeld => ?_)
       clear hKc Kc hHeld hb hg hn
       refine norm_ (a' := ?_) ?_ ?_
       rotate_left
       ·show Act.put _ (some 41) _ = _
        simp only [Act.put, QL, QM, QN, QG, QH]
        rfl
       exact norm_ (by simp only [putAll, Act.put, QL, QM, QN]) (hJ (v31, v35, .slice A40 [c].length c40, v41) _ ⟨((HB4.out.cell (p := ad.add i) HADW.out).trans HX.out), h41, HB4.out⟩)
     ·skip
      refine Kd.R_lit_step (Kd.int .i64) (w0 := W) W.heap.size 3 (by rfl) rfl (xs := [c]) (inner := [.int .i64 c]) (ok := fun _ => True) (okp := fun _ => True) (by first | (go_simp; done) | (go_simp; rfl)) (Reps.snoc (Reps.none _ _) rfl rfl) (fun _ h => h) trivial HB0.out (QK HB0.out) (by simp) ?_
      intro v40 W1 h40 hb hg hn
      obtain ⟨A40, c40, rfl⟩ := Kd.R_slice h40
      have Z40 := QO (Kd.R_lt h40)
      have N40 := QO hn
      have HB1 := QO hb
      have H40 := QO h40
      clear h40
      refine hKc.out _ _ ((HB1.out.cell (p := ad.add i) HADW.out).trans HX.out) (fun hHeld => ?_)
      clear hKc Kc hHeld hb hg hn
      refine norm_ (a' := ?_) ?_ ?_
      rotate_left
      ·show Act.put _ (some 40) _ = _
       simp only [Act.put, QL, QM, QN, QG, QH]
       rfl
      refine one_ (i := 0) (N := some 31) #[Y1,Y1,Y1,Y1,Y0,Y1,Y1,Y1,Y1,Y1,Y0,Y1,Y1,Y1,Y0,Y0] rfl rfl (by kernel_rfl) (by decide) (fun Kc hKc => ?_)
      refine Kd.R_lit_step (Kd.int .i64) (w0 := W) W.heap.size 3 (by rfl) rfl (xs := ([] : List Int)) (inner := []) (ok := fun _ => True) (okp := fun _ => True) (by first | (go_simp; done) | (go_simp; rfl)) (Reps.none _ _) (fun _ h => h) trivial HB1.out (QK HB1.out) (by simp) ?_
      intro v31 W2 h31 hb hg hn
      have Z31 := QO (Kd.R_lt h31)
      have N31 := QO hn
      have HB2 := QO hb
      have nH40 := QO (own_grown H40.out hg (by simp))
      clear H40
      have H40 := nH40
      clear nH40
      have H31 := QO h31
      clear h31
      refine hKc.out _ _ ((HB2.out.cell (p := ad.add i) HADW.out).trans HX.out) (fun hHeld => ?_)
      clear hKc Kc hHeld hb hg hn
      refine norm_ (a' := ?_) ?_ ?_
      rotate_left
      ·show Act.put _ (some 31) _ = _
       simp only [Act.put, QL, QM, QN, QG, QH]
       rfl
      refine one_ (i := 4) (N := some 35) #[Y1,Y1,Y1,Y1,Y1,Y1,Y1,Y1,Y1,Y1,Y0,Y1,Y1,Y1,Y0,Y0] rfl rfl (by kernel_rfl) (by decide) (fun Kc hKc => ?_)
      refine Kd.R_append_rows_step (Kd.int .i64) (w0 := W) W.heap.size (by rfl) (.tmp 31) (.tmp 34) 24 3 (.int .i64 0) 8 rfl Try.underlying24 info3 rfl (by decide) (by decide) v31 [] (out.take K) (some ⟨bg, 0, none⟩) K cap (fun _ => True) (fun _ => False) rfl rfl H31.out (Kd.C_below CT.out HB2.out) (fun _ _ h => h) (fun _ h => h.elim) (fun _ _ => trivial) HB2.out (QK HB2.out) (by have := HO.out; have := HL.out; simp only [List.length_nil]; omega) ?_
      intro v35 W3 h35 hb hg hn
      have HB3 := QO hb
      have nH40 := QO (own_grown H40.out hg (.inr (by obtain ⟨b, e1, e2⟩ := N31.out; intro e; rw [e1] at e; have := Z40.out b e; omega)))
      clear H40
      have H40 := nH40
      clear nH40
      have H35 := QO h35
      clear h35
      refine hKc.out _ _ ((HB3.out.cell (p := ad.add i) HADW.out).trans HX.out) (fun hHeld => ?_)
      clear hKc Kc hHeld hb hg hn
      refine norm_ (a' := ?_) ?_ ?_
      rotate_left
      ·show Act.put _ (some 35) _ = _
       simp only [Act.put, QL, QM, QN, QG, QH]
       rfl
      refine one_ (i := 10) (N := some 41) #[Y1,Y1,Y1,Y1,Y1,Y1,Y1,Y1,Y1,Y1,Y1,Y1,Y1,Y1,Y0,Y0] rfl rfl (by kernel_rfl) (by decide) (fun Kc hKc => ?_)
      refine Kd.R_append_rows_step (Kd.int .i64) (w0 := W) W.heap.size (by rfl) (.tmp 35) (.tmp 40) 24 3 (.int .i64 0) 8 rfl Try.underlying24 info3 rfl (by decide) (by decide) v35 (out.take K) [c] A40 [c].length c40 (fun _ => True) (fun _ => False) rfl rfl H35.out (Kd.R_reads' H40.out).2.2 (fun _ _ h => h) (fun _ h => h.elim) (fun _ _ => trivial) HB3.out (QK HB3.out) (by have := HO.out; have := HL.out; simp only [List.length_take, List.length_cons, List.length_nil]; omega) ?_
      intro v41 W4 h41 hb hg hn
      have HB4 := QO hb
      refine hKc.out _ _ ((HB4.out.cell (p := ad.add i) HADW.out).trans HX.out) (fun hHeld => ?_)
      clear hKc Kc hHeld hb hg hn
      refine norm_ (a' := ?_) ?_ ?_
      rotate_left
      ·show Act.put _ (some 41) _ = _
       simp only [Act.put, QL, QM, QN, QG, QH]
       rfl
      exact norm_ (by simp only [putAll, Act.put, QL, QM, QN]) (hJ (v31, v35, .slice A40 [c].length c40, v41) _ ⟨((HB4.out.cell (p := ad.add i) HADW.out).trans HX.out), h41, HB4.out⟩)
    rintro ⟨v31, v35, v40, v41⟩ W4 ⟨hX4, h41, hb4⟩
    have H41 := QO h41
    have HB4 := QO hb4
    clear h41 hb4
    refine norm_ (a' := ?_) ?_ ?_
    rotate_left
    ·simp only [putAll, Act.put, QL, QM, QN]
     rfl
    refine one_ (i := 14) (N := some 45) #[Y1,Y1,Y1,Y1,Y1,Y1,Y1,Y1,Y1,Y1,Y1,Y1,Y1,Y1,Y1,Y0] rfl rfl (by kernel_rfl) (by decide) (fun Kc hKc => ?_)
    refine Kd.R_append_rows_step (Kd.int .i64) (w0 := W) W.heap.size (by rfl) (.tmp 41) (.tmp 44) 24 3 (.int .i64 0) 8 rfl Try.underlying24 info3 rfl (by decide) (by decide) v41 (out.take K ++ [c]) (out.drop K) A2 (out.length - K) (cap - K) (fun _ => True) (fun _ => False) rfl rfl H41.out (Kd.C_below CD.out HB4.out) (fun _ _ h => h) (fun _ h => h.elim) (fun _ _ => trivial) HB4.out (QK HB4.out) (by have := HO.out; have := HL.out; simp only [List.length_append, List.length_take, List.length_cons, List.length_nil]; omega) ?_
    intro v45 W5 h45 hb5 hg hn
    have e45 : out.take K ++ [c] ++ out.drop K = insF out c := by rw [IN.out]; simp
    rw [e45] at h45
    have h46 := Kd.R_lower h45 (QK HBW.out)
    have o45 : OwnI W5 w.heap.size v45 (insF out c) := OwnI.of_own (by have := Kd.own_of_R (enc := Value.int .i64) (h1 := fun _ => rfl) h46; simpa [encs] using this) (by rw [insF_length]; omega)
    have HN := QO o45
    have HB5 := QO hb5
    obtain ⟨g5, cap5, cur5, rfl, _, _, _, _, _, _⟩ := o45
    refine hKc.out _ _ ((hb5.cell (p := ad.add i) HADW.out).trans HX.out) (fun hHeld => ?_)
    clear hKc Kc hHeld hb5 hg hn h45 h46 e45
    refine norm_ (a' := ?_) ?_ ?_
    rotate_left
    ·show Act.put _ (some 45) _ = _
     simp only [Act.put, QL, QM, QN, QG, QH]
     rfl
    refine QJ (i := 15) (N := some 3) (v := ?_) (a' := ?_) #[Y1,Y1,Y1,Y1,Y1,Y1,Y1,Y1,Y1,Y1,Y1,Y1,Y1,Y1,Y1,Y1] rfl rfl (by kernel_rfl) (fun _ _ _ h => h) (Or.inl ⟨by rfl, ?_⟩) ?_ ?_
    rotate_left
    ·intro w'
     go_simp
     with_reducible rfl
    rotate_left
    ·simp only [Act.put, QL, QM, QN, QG, QH]
     rfl
    refine done_ (by kernel_rfl) ?_
    go_wp2
    go_roundg g
    case measure => omega
    case rel => exact ⟨i + 1, insF out c, by go_num, ⟨by have := HI.out; omega⟩, ⟨by rw [insF_length, HO.out]⟩, NXT, HN, ⟨below_then HBW.out (QK HBW.out) HB5.out⟩⟩

end Go.Proofs.Ytkhgeockdjjhmaa.QFnExactPlayable
