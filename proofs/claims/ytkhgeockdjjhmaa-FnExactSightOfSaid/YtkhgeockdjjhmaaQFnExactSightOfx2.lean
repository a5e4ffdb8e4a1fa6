/- What a call of each Go function that FnExactSightOf reaches comes to, as a Lean function: texts of the kit's print, turned by wip/remake.py. No condition beyond what each names. -/
import Derived.Test.YtkhgeockdjjhmaaQFnExactSightOfx1
namespace Go.Proofs.Ytkhgeockdjjhmaa.QFnExactSightOf
open Go.RowKit Go.Proofs.YtkhgeockdjjhmaaW.PrintWords Go.Proofs.YtkhgeockdjjhmaaW.PrintLast Go.Proofs.YtkhgeockdjjhmaaW.PrintMore
open Go.Proofs.YtkhgeockdjjhmaaW.PrintWords renaming blk_cell → QB, pw_below_drewN → QC, below_drew1 → QD, below_alloc → QE, blk_frozen → QF, below_set → QJ, below_size → QK, blk_drewN → QL, blk_alloc → QM, blk_drew → QN
open Go.Proofs.YtkhgeockdjjhmaaW.PrintWords.Kd renaming V_alloc → QG, V_drewN → QH, V_drew → QI, N_alloc → QR, N_drewN → QS, V_mono → QT, N_drew → QU
open Go.Proofs.YtkhgeockdjjhmaaW.PrintLast renaming i64_w → QO, i32_w → QP
open List renaming setIfInBounds_toArray → QV, set_cons_zero → QW, set_cons_succ → QX
open Go.Proofs.YtkhgeockdjjhmaaW.PrintWords.Aside0 renaming mk → QY
open Bool renaming true → Y1, false → Y0
attribute [local go_sem] max2_int min2_int max_two min_two max_three min_three max_four min_four   -- for this text's walks alone
set_option linter.unusedVariables false
set_option linter.unusedSimpArgs false

/-! ### spec_IsDeal: function 114 -/
mutual
def spec_IsDeal.j0 : Nat → Int → Bool → List (List Int) → Int → Int → List Int → List Int → List Int → Int → Option (Bool)
 | 0, _, _, _, _, _, _, _, _, _ => none
 | k + 1, x3, x52, x166000, x166001, x166002, x166003, x166004, x166005, x166006 => if x52 = true then (some false) else ((some (([] : List (List Int)) : List (List Int))).bind fun y170 => (if y170.length + x166000.length < 5864062014805 then ((some (y170 ++ x166000 : List (List Int))).bind fun y173 => ((some (([x166003] : List (List Int)) : List (List Int))).bind fun y176 => (if y173.length + y176.length < 5864062014805 then ((spec_AllApart.f k (y173 ++ y176)).bind fun t182 => (if t182 = true then (spec_IsDeal.l0 k x3 0 x166000 x166001 x166002 x166003 x166004 x166005 x166006) else (some false))) else (none)))) else (none)))
def spec_IsDeal.l0 : Nat → Int → Int → List (List Int) → Int → Int → List Int → List Int → List Int → Int → Option (Bool)
 | 0, _, _, _, _, _, _, _, _, _ => none
 | k + 1, x3, x4, x166000, x166001, x166002, x166003, x166004, x166005, x166006 => if x4 < x3 then (if 0 ≤ x4 then (if x4 < (x166004.length : Int) then (if (rd x166004 x4) < 0 then (spec_IsDeal.j2 k x3 x4 true x166000 x166001 x166002 x166003 x166004 x166005 x166006) else (if x4 < (x166005.length : Int) then (spec_IsDeal.j2 k x3 x4 (decide ((rd x166005 x4) < 0)) x166000 x166001 x166002 x166003 x166004 x166005 x166006) else (none))) else (none)) else (none)) else (some true)
def spec_IsDeal.j2 : Nat → Int → Int → Bool → List (List Int) → Int → Int → List Int → List Int → List Int → Int → Option (Bool)
 | 0, _, _, _, _, _, _, _, _, _, _ => none
 | k + 1, x3, x4, x81, x166000, x166001, x166002, x166003, x166004, x166005, x166006 => if x81 = true then (some false) else ((spec_l12Sum.f k x166004).bind fun t185 => (if x3 = 0 then (none) else (if (Int.tmod (wrap64 ((wrap64 (x4 - x166001)) + x3)) x3) < (x166003.length : Int) then (if 0 ≤ x4 then (if x4 < (x166000.length : Int) then (if ((rd_L1 x166000 x4).length : Int) = (wrap64 ((wrap64 (x166006 - t185)) - 1)) then (spec_IsDeal.l0 k x3 (wrap64 (x4 + 1)) x166000 x166001 x166002 x166003 x166004 x166005 x166006) else (some false)) else (none)) else (none)) else (if 0 ≤ x4 then (if x4 < (x166000.length : Int) then (if ((rd_L1 x166000 x4).length : Int) = (wrap64 (x166006 - t185)) then (spec_IsDeal.l0 k x3 (wrap64 (x4 + 1)) x166000 x166001 x166002 x166003 x166004 x166005 x166006) else (some false)) else (none)) else (none)))))
end
def spec_IsDeal.f (k : Nat) (l0_0 : List (List Int)) (a0_1 : Int) (a0_2 : Int) (l0_3 : List Int) (l0_4 : List Int) (l0_5 : List Int) (a0_6 : Int) : Option (Bool) := (spec_l1In.f (l0_0.length : Int) 2 4).bind fun t166 => (if t166 = true then (if (l0_4.length : Int) = (l0_0.length : Int) then (if (l0_5.length : Int) = (l0_0.length : Int) then ((spec_l1In.f a0_1 0 (wrap64 ((l0_0.length : Int) - 1))).bind fun t167 => (if t167 = true then ((spec_l1In.f a0_2 (-1) 3).bind fun t168 => (if t168 = true then ((spec_l1In.f a0_6 0 26).bind fun t169 => (if t169 = true then (spec_IsDeal.j0 k (l0_0.length : Int) (decide ((l0_3.length : Int) ≥ (l0_0.length : Int))) l0_0 a0_1 a0_2 l0_3 l0_4 l0_5 a0_6) else (spec_IsDeal.j0 k (l0_0.length : Int) true l0_0 a0_1 a0_2 l0_3 l0_4 l0_5 a0_6))) else (spec_IsDeal.j0 k (l0_0.length : Int) true l0_0 a0_1 a0_2 l0_3 l0_4 l0_5 a0_6))) else (spec_IsDeal.j0 k (l0_0.length : Int) true l0_0 a0_1 a0_2 l0_3 l0_4 l0_5 a0_6))) else (spec_IsDeal.j0 k (l0_0.length : Int) true l0_0 a0_1 a0_2 l0_3 l0_4 l0_5 a0_6)) else (spec_IsDeal.j0 k (l0_0.length : Int) true l0_0 a0_1 a0_2 l0_3 l0_4 l0_5 a0_6)) else (spec_IsDeal.j0 k (l0_0.length : Int) true l0_0 a0_1 a0_2 l0_3 l0_4 l0_5 a0_6))
theorem spec_IsDeal.mono_l : ∀ k, (∀ y0 y1 y2 y3 y4 y5 y6 y7 y8, LeO (spec_IsDeal.j0 k y0 y1 y2 y3 y4 y5 y6 y7 y8) (spec_IsDeal.j0 (k + 1) y0 y1 y2 y3 y4 y5 y6 y7 y8)) ∧ (∀ y0 y1 y2 y3 y4 y5 y6 y7 y8, LeO (spec_IsDeal.l0 k y0 y1 y2 y3 y4 y5 y6 y7 y8) (spec_IsDeal.l0 (k + 1) y0 y1 y2 y3 y4 y5 y6 y7 y8)) ∧ (∀ y0 y1 y2 y3 y4 y5 y6 y7 y8 y9, LeO (spec_IsDeal.j2 k y0 y1 y2 y3 y4 y5 y6 y7 y8 y9) (spec_IsDeal.j2 (k + 1) y0 y1 y2 y3 y4 y5 y6 y7 y8 y9))
 | 0 => ⟨fun _ _ _ _ _ _ _ _ _ r h => by simp [spec_IsDeal.j0] at h, fun _ _ _ _ _ _ _ _ _ r h => by simp [spec_IsDeal.l0] at h, fun _ _ _ _ _ _ _ _ _ _ r h => by simp [spec_IsDeal.j2] at h⟩
 | k + 1 => by
  obtain ⟨ih0, ih1, ih2⟩ := spec_IsDeal.mono_l k
  refine ⟨?_, ?_, ?_⟩
  ·intro y0 y1 y2 y3 y4 y5 y6 y7 y8
   unfold spec_IsDeal.j0
   repeat' first
   | (with_reducible exact ih0 _ _ _ _ _ _ _ _ _)
   | (with_reducible exact ih1 _ _ _ _ _ _ _ _ _)
   | (with_reducible exact ih2 _ _ _ _ _ _ _ _ _ _)
   | (with_reducible exact spec_AllApart.mono _ _)
   | (with_reducible exact spec_l12Sum.mono _ _)
   | (with_reducible exact LeO.refl _)
   | (with_reducible exact LeO.none _)
   | (with_reducible refine LeO.ite ?_ ?_)
   | (with_reducible refine LeO.bind ?_ (fun _ => ?_))
   | exact ih0 _ _ _ _ _ _ _ _ _
   | exact ih1 _ _ _ _ _ _ _ _ _
   | exact ih2 _ _ _ _ _ _ _ _ _ _
   | exact spec_AllApart.mono _ _
   | exact spec_l12Sum.mono _ _
   | exact LeO.none _
   | refine LeO.ite ?_ ?_
   | refine LeO.bind ?_ (fun _ => ?_)
  ·intro y0 y1 y2 y3 y4 y5 y6 y7 y8
   unfold spec_IsDeal.l0
   repeat' first
   | (with_reducible exact ih0 _ _ _ _ _ _ _ _ _)
   | (with_reducible exact ih1 _ _ _ _ _ _ _ _ _)
   | (with_reducible exact ih2 _ _ _ _ _ _ _ _ _ _)
   | (with_reducible exact spec_AllApart.mono _ _)
   | (with_reducible exact spec_l12Sum.mono _ _)
   | (with_reducible exact LeO.refl _)
   | (with_reducible exact LeO.none _)
   | (with_reducible refine LeO.ite ?_ ?_)
   | (with_reducible refine LeO.bind ?_ (fun _ => ?_))
   | exact ih0 _ _ _ _ _ _ _ _ _
   | exact ih1 _ _ _ _ _ _ _ _ _
   | exact ih2 _ _ _ _ _ _ _ _ _ _
   | exact spec_AllApart.mono _ _
   | exact spec_l12Sum.mono _ _
   | exact LeO.none _
   | refine LeO.ite ?_ ?_
   | refine LeO.bind ?_ (fun _ => ?_)
  ·intro y0 y1 y2 y3 y4 y5 y6 y7 y8 y9
   unfold spec_IsDeal.j2
   repeat' first
   | (with_reducible exact ih0 _ _ _ _ _ _ _ _ _)
   | (with_reducible exact ih1 _ _ _ _ _ _ _ _ _)
   | (with_reducible exact ih2 _ _ _ _ _ _ _ _ _ _)
   | (with_reducible exact spec_AllApart.mono _ _)
   | (with_reducible exact spec_l12Sum.mono _ _)
   | (with_reducible exact LeO.refl _)
   | (with_reducible exact LeO.none _)
   | (with_reducible refine LeO.ite ?_ ?_)
   | (with_reducible refine LeO.bind ?_ (fun _ => ?_))
   | exact ih0 _ _ _ _ _ _ _ _ _
   | exact ih1 _ _ _ _ _ _ _ _ _
   | exact ih2 _ _ _ _ _ _ _ _ _ _
   | exact spec_AllApart.mono _ _
   | exact spec_l12Sum.mono _ _
   | exact LeO.none _
   | refine LeO.ite ?_ ?_
   | refine LeO.bind ?_ (fun _ => ?_)
theorem spec_IsDeal.mono : ∀ a0 a1 a2 a3 a4 a5 a6 k, LeO (spec_IsDeal.f k a0 a1 a2 a3 a4 a5 a6) (spec_IsDeal.f (k + 1) a0 a1 a2 a3 a4 a5 a6) := by
 intro a0 a1 a2 a3 a4 a5 a6 k
 obtain ⟨ih0, ih1, ih2⟩ := spec_IsDeal.mono_l k
 unfold spec_IsDeal.f
 repeat' first
   | (with_reducible exact ih0 _ _ _ _ _ _ _ _ _)
   | (with_reducible exact ih1 _ _ _ _ _ _ _ _ _)
   | (with_reducible exact ih2 _ _ _ _ _ _ _ _ _ _)
   | (with_reducible exact spec_AllApart.mono _ _)
   | (with_reducible exact spec_l12Sum.mono _ _)
   | (with_reducible exact LeO.refl _)
   | (with_reducible exact LeO.none _)
   | (with_reducible refine LeO.ite ?_ ?_)
   | (with_reducible refine LeO.bind ?_ (fun _ => ?_))
   | exact ih0 _ _ _ _ _ _ _ _ _
   | exact ih1 _ _ _ _ _ _ _ _ _
   | exact ih2 _ _ _ _ _ _ _ _ _ _
   | exact spec_AllApart.mono _ _
   | exact spec_l12Sum.mono _ _
   | exact LeO.none _
   | refine LeO.ite ?_ ?_
   | refine LeO.bind ?_ (fun _ => ?_)
def spec_IsDeal.T4 : Bool × List (List Nat × List Nat) := (true, [([], []), ([], []), ([1], [1]), ([0, 2], [0, 2]), ([], []), ([4], [4]), ([5], [5]), ([3, 6, 3], [3, 6]), ([7, 7], [7]), ([8], [8])])
def spec_IsDeal.B4 : List Nat := [0, 0, 2, 7, 0, 16, 48, 127, 255, 511]
theorem spec_IsDeal.tab4 : rtab .any (opsOf Try.f114 4) = spec_IsDeal.T4 := by kernel_rfl
theorem spec_IsDeal.bits4 : waitsOk spec_IsDeal.T4.2 spec_IsDeal.B4 = true := by kernel_rfl
def spec_IsDeal.T12 : Bool × List (List Nat × List Nat) := (true, [([], []), ([], []), ([1], [1]), ([0, 2], [0, 2]), ([], []), ([3, 4], [3, 4]), ([], []), ([5, 6], [5, 6]), ([], []), ([8], [8]), ([9], [9]), ([7, 10], [7, 10])])
def spec_IsDeal.B12 : List Nat := [0, 0, 2, 7, 0, 31, 0, 127, 0, 256, 768, 2047]
theorem spec_IsDeal.tab12 : rtab .any (opsOf Try.f114 12) = spec_IsDeal.T12 := by kernel_rfl
theorem spec_IsDeal.bits12 : waitsOk spec_IsDeal.T12.2 spec_IsDeal.B12 = true := by kernel_rfl
set_option maxHeartbeats 8000000 in
set_option maxRecDepth 100000 in
theorem spec_IsDeal.calls (k : Nat) (P0_0_ : Nat → Prop) (A0_0 : Option Addr) (c0_0 : Nat) (l0_0 : List (List Int)) (a0_1 : Int) (a0_2 : Int) (P0_3_ : Nat → Prop) (A0_3 : Option Addr) (c0_3 : Nat) (l0_3 : List Int) (A0_4 : Option Addr) (c0_4 : Nat) (l0_4 : List Int) (A0_5 : Option Addr) (c0_5 : Nat) (l0_5 : List Int) (a0_6 : Int) (r : Bool) (w : World) (hs0_0 : Kd.V (Kd.slice 3 (Kd.int .i64)) 24 w w.heap.size (fun k_ => P0_0_ k_) (.slice A0_0 l0_0.length c0_0) l0_0) (hs0_3 : Kd.V (Kd.int .i64) 3 w w.heap.size (fun k_ => P0_3_ k_) (.slice A0_3 l0_3.length c0_3) l0_3) (hr0_4 : Kd.C (Kd.int .i64) w A0_4 l0_4.length l0_4) (hc0_4 : l0_4.length ≤ c0_4) (hr0_5 : Kd.C (Kd.int .i64) w A0_5 l0_5.length l0_5) (hc0_5 : l0_5.length ≤ c0_5) (h : spec_IsDeal.f k l0_0 a0_1 a0_2 l0_3 l0_4 l0_5 a0_6 = some r) :
  Calls Try.prog 114 #[.agg #[.slice A0_0 l0_0.length c0_0, .int .i64 a0_1, .int .i64 a0_2, .slice A0_3 l0_3.length c0_3, .slice A0_4 l0_4.length c0_4, .slice A0_5 l0_5.length c0_5, .int .i64 a0_6]] w fun e w' => e = .returned (.bool r) ∧ Below w.heap.size w w' := by
 have hu67 := Try.underlying67
 have HO0_0 := QY (show Kd.V (Kd.slice 3 (Kd.int .i64)) 24 w w.heap.size (fun k_ => ((P0_0_ k_ ∨ P0_3_ k_) ∨ w.heap.size ≤ k_)) (.slice A0_0 l0_0.length c0_0) l0_0 from QT hs0_0 (fun k_ hk => .inl (.inl hk)))
 have HO0_3 := QY (show Kd.V (Kd.int .i64) 3 w w.heap.size (fun k_ => ((P0_0_ k_ ∨ P0_3_ k_) ∨ w.heap.size ≤ k_)) (.slice A0_3 l0_3.length c0_3) l0_3 from QT hs0_3 (fun k_ hk => .inl (.inr hk)))
 have HR0_4 := QY hr0_4
 have HC0_4 := QY hc0_4
 clear hr0_4 hc0_4
 have HR0_5 := QY hr0_5
 have HC0_5 := QY hc0_5
 clear hr0_5 hc0_5
 have HB := QY (Below.refl w.heap.size w)
 have H : ((spec_l1In.f (l0_0.length : Int) 2 4).bind fun t166 => (if t166 = true then (if (l0_4.length : Int) = (l0_0.length : Int) then (if (l0_5.length : Int) = (l0_0.length : Int) then ((spec_l1In.f a0_1 0 (wrap64 ((l0_0.length : Int) - 1))).bind fun t167 => (if t167 = true then ((spec_l1In.f a0_2 (-1) 3).bind fun t168 => (if t168 = true then ((spec_l1In.f a0_6 0 26).bind fun t169 => (if t169 = true then (spec_IsDeal.j0 k (l0_0.length : Int) (decide ((l0_3.length : Int) ≥ (l0_0.length : Int))) l0_0 a0_1 a0_2 l0_3 l0_4 l0_5 a0_6) else (spec_IsDeal.j0 k (l0_0.length : Int) true l0_0 a0_1 a0_2 l0_3 l0_4 l0_5 a0_6))) else (spec_IsDeal.j0 k (l0_0.length : Int) true l0_0 a0_1 a0_2 l0_3 l0_4 l0_5 a0_6))) else (spec_IsDeal.j0 k (l0_0.length : Int) true l0_0 a0_1 a0_2 l0_3 l0_4 l0_5 a0_6))) else (spec_IsDeal.j0 k (l0_0.length : Int) true l0_0 a0_1 a0_2 l0_3 l0_4 l0_5 a0_6)) else (spec_IsDeal.j0 k (l0_0.length : Int) true l0_0 a0_1 a0_2 l0_3 l0_4 l0_5 a0_6)) else (spec_IsDeal.j0 k (l0_0.length : Int) true l0_0 a0_1 a0_2 l0_3 l0_4 l0_5 a0_6))) = some r := h
 clear h
 have HC2 := QY H
 clear H
 go_enter Try.func114, Try.ntmps114
 go_upto_region 2 with (first | ((with_reducible refine gate_dst (N := 1) rfl ?_); (try (refine gate_guard (by rfl) ?_; dsimp only)); refine box_event ?hg (N := 1) ?hd (cs := #[.slice A0_0 l0_0.length c0_0, .int .i64 a0_1, .int .i64 a0_2, .slice A0_3 l0_3.length c0_3, .slice A0_4 l0_4.length c0_4, .slice A0_5 l0_5.length c0_5, .int .i64 a0_6]) (t := 67) ?hr ?_; (case hd => rfl); (case hg => rfl); (case hr => first | (go_simp; done) | (go_simp; rfl)); intro gb165 hg w3 hbox hb; have n0_ := QY (Kd.V_below (Kd.V_elderB (by (with_reducible repeat (first | apply QG | apply QH | apply QI)); exact HO0_0.out) gb165 (Nat.le_of_eq hg.symm)) hb); have n1_ := QY (Kd.V_below (Kd.V_elderB (by (with_reducible repeat (first | apply QG | apply QH | apply QI)); exact HO0_3.out) gb165 (Nat.le_of_eq hg.symm)) hb); have n2_ := QY (below_step (by repeat (first | (with_reducible first | exact HB.out | apply QE | apply QC | apply QD) | exact HB.out)) hb); have n3_ := QY (hbox); have n4_ := QY ((by rw [hg]; exact (QK (by repeat (first | (with_reducible first | exact HB.out | apply QE | apply QC | apply QD) | exact HB.out))) : w.heap.size ≤ gb165)); have n5_ := QY ((by rw [hg]; exact (QK (by repeat (first | (with_reducible first | exact HB.out | apply QE | apply QC | apply QD) | exact HB.out))) : w.heap.size ≤ gb165)); clear HO0_0; clear HO0_3; clear HB; have HO0_0 := n0_; have HO0_3 := n1_; have HB := n2_; have BK165 := n3_; have GW165 := n4_; have GE165 := n5_; clear n0_ n1_ n2_ n3_ n4_ n5_; clear hb hbox hg; have hcz4_0 : w3.cell? ⟨gb165, 0, none⟩ = some (.slice A0_0 l0_0.length c0_0) := (QB BK165.out 0).trans rfl; have hcz4_1 : w3.cell? ⟨gb165, 1, none⟩ = some (.int .i64 a0_1) := (QB BK165.out 1).trans rfl; have hcz4_2 : w3.cell? ⟨gb165, 2, none⟩ = some (.int .i64 a0_2) := (QB BK165.out 2).trans rfl; have hcz4_3 : w3.cell? ⟨gb165, 3, none⟩ = some (.slice A0_3 l0_3.length c0_3) := (QB BK165.out 3).trans rfl; have hcz4_4 : w3.cell? ⟨gb165, 4, none⟩ = some (.slice A0_4 l0_4.length c0_4) := (QB BK165.out 4).trans rfl; have hcz4_5 : w3.cell? ⟨gb165, 5, none⟩ = some (.slice A0_5 l0_5.length c0_5) := (QB BK165.out 5).trans rfl; have hcz4_6 : w3.cell? ⟨gb165, 6, none⟩ = some (.int .i64 a0_6) := (QB BK165.out 6).trans rfl; have hfz4_0 := QF BK165.out 0; have hfz4_1 := QF BK165.out 1; have hfz4_2 := QF BK165.out 2; have hfz4_3 := QF BK165.out 3; have hfz4_4 := QF BK165.out 4; have hfz4_5 := QF BK165.out 5; have hfz4_6 := QF BK165.out 6))
 (try simp only [Act.put, QV, QW, QX])
 go_cut [52] (fun v52 wc => ∃ (kq : Nat) (x52_1 : Bool), v52 = .bool x52_1 ∧ Aside0 (spec_IsDeal.j0 kq (l0_0.length : Int) x52_1 l0_0 a0_1 a0_2 l0_3 l0_4 l0_5 a0_6 = some r) ∧ Aside0 (kq ≤ k) ∧ Aside0 (Kd.V (Kd.slice 3 (Kd.int .i64)) 24 wc w.heap.size (fun k_ => ((P0_0_ k_ ∨ P0_3_ k_) ∨ w.heap.size ≤ k_) ∧ k_ ≠ gb165) (.slice A0_0 l0_0.length c0_0) l0_0) ∧ Aside0 (Kd.V (Kd.int .i64) 3 wc w.heap.size (fun k_ => ((P0_0_ k_ ∨ P0_3_ k_) ∨ w.heap.size ≤ k_) ∧ k_ ≠ gb165) (.slice A0_3 l0_3.length c0_3) l0_3) ∧ Aside0 (wc.heap[gb165]? = some (.cells #[(.slice A0_0 l0_0.length c0_0), .int .i64 a0_1, .int .i64 a0_2, (.slice A0_3 l0_3.length c0_3), (.slice A0_4 l0_4.length c0_4), (.slice A0_5 l0_5.length c0_5), .int .i64 a0_6] 67 (0, 0))) ∧ Aside0 (Below w.heap.size w wc))
 case first =>
  have H := HC2.out
  clear HC2
  replace H := Option.bind_eq_some_iff.mp H
  obtain ⟨t166, A50, H⟩ := H
  have A5 := QY A50
  clear A50
  by_cases c6 : t166 = true
  ·subst c6
   rw [if_pos rfl] at H
   by_cases c7 : (l0_4.length : Int) = (l0_0.length : Int)
   ·rw [if_pos c7] at H
    have c7b0 : ((l0_4.length : Int) == (l0_0.length : Int)) = true := beq_iff_eq.mpr c7
    have c7b1 : ((l0_4.length : Int) != (l0_0.length : Int)) = false := bne_eq_false_iff_eq.mpr c7
    have c7b2 : (l0_4.length == l0_0.length) = true := by first | simpa using c7 | (simp at c7 ⊢; omega)
    clear c7
    (first | rw [c7b0] | (simp only [QO, QP]; rw [c7b0]) | skip)
    by_cases c8 : (l0_5.length : Int) = (l0_0.length : Int)
    rotate_left
    rw [if_neg c8] at H
    have c8b0 : ((l0_5.length : Int) == (l0_0.length : Int)) = false := beq_eq_false_iff_ne.mpr c8
    have c8b1 : ((l0_5.length : Int) != (l0_0.length : Int)) = true := bne_iff_ne.mpr c8
    have c8b2 : (l0_5.length == l0_0.length) = false := by first | simpa using c8 | (simp at c8 ⊢; omega)
    have H' := QY H
    clear H
    rotate_right
    rw [if_pos c8] at H
    have c8b0 : ((l0_5.length : Int) == (l0_0.length : Int)) = true := beq_iff_eq.mpr c8
    have c8b1 : ((l0_5.length : Int) != (l0_0.length : Int)) = false := bne_eq_false_iff_eq.mpr c8
    have c8b2 : (l0_5.length == l0_0.length) = true := by first | simpa using c8 | (simp at c8 ⊢; omega)
    clear c8
    replace H := Option.bind_eq_some_iff.mp H
    obtain ⟨t167, A90, H⟩ := H
    have A9 := QY A90
    clear A90
    by_cases c10 : t167 = true
    rotate_left
    replace c10 := Bool.eq_false_iff.mpr c10
    subst c10
    rw [if_neg (show ¬ (false = true) by decide)] at H
    have H' := QY H
    clear H
    rotate_right
    subst c10
    rw [if_pos rfl] at H
    replace H := Option.bind_eq_some_iff.mp H
    obtain ⟨t168, A110, H⟩ := H
    have A11 := QY A110
    clear A110
    by_cases c12 : t168 = true
    rotate_left
    replace c12 := Bool.eq_false_iff.mpr c12
    subst c12
    rw [if_neg (show ¬ (false = true) by decide)] at H
    have H' := QY H
    clear H
    rotate_right
    subst c12
    rw [if_pos rfl] at H
    replace H := Option.bind_eq_some_iff.mp H
    obtain ⟨t169, A130, H⟩ := H
    have A13 := QY A130
    clear A130
    by_cases c14 : t169 = true
    rotate_left
    replace c14 := Bool.eq_false_iff.mpr c14
    subst c14
    rw [if_neg (show ¬ (false = true) by decide)] at H
    have H' := QY H
    clear H
    rotate_right
    ·subst c14
     rw [if_pos rfl] at H
     have H' := QY H
     clear H
     go_wp2_with (first | ((with_reducible refine gate_callee (f := 99) rfl ?_); refine goesL_ (some 10) rfl rfl Try.func99 (by kernel_rfl) rfl #[.int .i64 (l0_0.length : Int), .int .i64 2, .int .i64 4] rfl (by (try simp only [List.map_toArray, List.map_cons, List.map_nil]); first | done | rfl | (simp only [List.length_drop, List.length_take]; rfl)) ?_; (with_reducible refine (spec_l1In.calls (l0_0.length : Int) 2 4 true _ A5.out).mono ?_); rintro e w' ⟨rfl, ⟨nd, rfl⟩⟩; refine ⟨_, rfl, ?_⟩; have hcz15_0 : w3.cell? ⟨gb165, 0, none⟩ = some (.slice A0_0 l0_0.length c0_0) := (QB BK165.out 0).trans rfl; have hcz15_1 : w3.cell? ⟨gb165, 1, none⟩ = some (.int .i64 a0_1) := (QB BK165.out 1).trans rfl; have hcz15_2 : w3.cell? ⟨gb165, 2, none⟩ = some (.int .i64 a0_2) := (QB BK165.out 2).trans rfl; have hcz15_3 : w3.cell? ⟨gb165, 3, none⟩ = some (.slice A0_3 l0_3.length c0_3) := (QB BK165.out 3).trans rfl; have hcz15_4 : w3.cell? ⟨gb165, 4, none⟩ = some (.slice A0_4 l0_4.length c0_4) := (QB BK165.out 4).trans rfl; have hcz15_5 : w3.cell? ⟨gb165, 5, none⟩ = some (.slice A0_5 l0_5.length c0_5) := (QB BK165.out 5).trans rfl; have hcz15_6 : w3.cell? ⟨gb165, 6, none⟩ = some (.int .i64 a0_6) := (QB BK165.out 6).trans rfl; have hfz15_0 := QF BK165.out 0; have hfz15_1 := QF BK165.out 1; have hfz15_2 := QF BK165.out 2; have hfz15_3 := QF BK165.out 3; have hfz15_4 := QF BK165.out 4; have hfz15_5 := QF BK165.out 5; have hfz15_6 := QF BK165.out 6) | (go_at_call 99; (with_reducible refine (spec_l1In.calls a0_1 0 (wrap64 ((l0_0.length : Int) - 1)) true _ A9.out).mono ?_); rintro e w' ⟨rfl, ⟨nd, rfl⟩⟩) | (go_at_call 99; (with_reducible refine (spec_l1In.calls a0_2 (-1) 3 true _ A11.out).mono ?_); rintro e w' ⟨rfl, ⟨nd, rfl⟩⟩) | (go_at_call 99; (with_reducible refine (spec_l1In.calls a0_6 0 26 true _ A13.out).mono ?_); rintro e w' ⟨rfl, ⟨nd, rfl⟩⟩))
     go_meet
     case rel => exact ⟨_, (decide ((l0_3.length : Int) ≥ (l0_0.length : Int))), (by first | rfl | (simp; done) | (simp [*]; done)), H', ⟨by first | omega | exact Nat.le_refl _⟩, ⟨by (with_reducible repeat (first | apply QG | apply QH | apply QI)); exact HO0_0.out⟩, ⟨by (with_reducible repeat (first | apply QG | apply QH | apply QI)); exact HO0_3.out⟩, ⟨by (with_reducible repeat (first | refine QL ?_ _ | refine QN ?_ | refine QM ?_ _)); exact BK165.out⟩, ⟨by repeat (first | (with_reducible first | exact HB.out | apply QE | apply QC | apply QD | refine QJ ?_ GE165.out) | exact HB.out)⟩⟩
    all_goals
     go_wp2_with (first | ((with_reducible refine gate_callee (f := 99) rfl ?_); refine goesL_ (some 10) rfl rfl Try.func99 (by kernel_rfl) rfl #[.int .i64 (l0_0.length : Int), .int .i64 2, .int .i64 4] rfl (by (try simp only [List.map_toArray, List.map_cons, List.map_nil]); first | done | rfl | (simp only [List.length_drop, List.length_take]; rfl)) ?_; (with_reducible refine (spec_l1In.calls (l0_0.length : Int) 2 4 true _ A5.out).mono ?_); rintro e w' ⟨rfl, ⟨nd, rfl⟩⟩; refine ⟨_, rfl, ?_⟩; have hcz16_0 : w3.cell? ⟨gb165, 0, none⟩ = some (.slice A0_0 l0_0.length c0_0) := (QB BK165.out 0).trans rfl; have hcz16_1 : w3.cell? ⟨gb165, 1, none⟩ = some (.int .i64 a0_1) := (QB BK165.out 1).trans rfl; have hcz16_2 : w3.cell? ⟨gb165, 2, none⟩ = some (.int .i64 a0_2) := (QB BK165.out 2).trans rfl; have hcz16_3 : w3.cell? ⟨gb165, 3, none⟩ = some (.slice A0_3 l0_3.length c0_3) := (QB BK165.out 3).trans rfl; have hcz16_4 : w3.cell? ⟨gb165, 4, none⟩ = some (.slice A0_4 l0_4.length c0_4) := (QB BK165.out 4).trans rfl; have hcz16_5 : w3.cell? ⟨gb165, 5, none⟩ = some (.slice A0_5 l0_5.length c0_5) := (QB BK165.out 5).trans rfl; have hcz16_6 : w3.cell? ⟨gb165, 6, none⟩ = some (.int .i64 a0_6) := (QB BK165.out 6).trans rfl; have hfz16_0 := QF BK165.out 0; have hfz16_1 := QF BK165.out 1; have hfz16_2 := QF BK165.out 2; have hfz16_3 := QF BK165.out 3; have hfz16_4 := QF BK165.out 4; have hfz16_5 := QF BK165.out 5; have hfz16_6 := QF BK165.out 6) | (go_at_call 99; (with_reducible refine (spec_l1In.calls a0_1 0 (wrap64 ((l0_0.length : Int) - 1)) _ _ A9.out).mono ?_); rintro e w' ⟨rfl, ⟨nd, rfl⟩⟩) | (go_at_call 99; (with_reducible refine (spec_l1In.calls a0_2 (-1) 3 _ _ A11.out).mono ?_); rintro e w' ⟨rfl, ⟨nd, rfl⟩⟩) | (go_at_call 99; (with_reducible refine (spec_l1In.calls a0_6 0 26 false _ A13.out).mono ?_); rintro e w' ⟨rfl, ⟨nd, rfl⟩⟩))
     go_meet
     case rel => exact ⟨_, (true), (by first | rfl | (simp; done) | (simp [*]; done)), H', ⟨by first | omega | exact Nat.le_refl _⟩, ⟨by (with_reducible repeat (first | apply QG | apply QH | apply QI)); exact HO0_0.out⟩, ⟨by (with_reducible repeat (first | apply QG | apply QH | apply QI)); exact HO0_3.out⟩, ⟨by (with_reducible repeat (first | refine QL ?_ _ | refine QN ?_ | refine QM ?_ _)); exact BK165.out⟩, ⟨by repeat (first | (with_reducible first | exact HB.out | apply QE | apply QC | apply QD | refine QJ ?_ GE165.out) | exact HB.out)⟩⟩
   ·rw [if_neg c7] at H
    have c7b0 : ((l0_4.length : Int) == (l0_0.length : Int)) = false := beq_eq_false_iff_ne.mpr c7
    have c7b1 : ((l0_4.length : Int) != (l0_0.length : Int)) = true := bne_iff_ne.mpr c7
    have c7b2 : (l0_4.length == l0_0.length) = false := by first | simpa using c7 | (simp at c7 ⊢; omega)
    (first | rw [c7b0] | (simp only [QO, QP]; rw [c7b0]) | skip)
    have H' := QY H
    clear H
    go_wp2_with (first | ((with_reducible refine gate_callee (f := 99) rfl ?_); refine goesL_ (some 10) rfl rfl Try.func99 (by kernel_rfl) rfl #[.int .i64 (l0_0.length : Int), .int .i64 2, .int .i64 4] rfl (by (try simp only [List.map_toArray, List.map_cons, List.map_nil]); first | done | rfl | (simp only [List.length_drop, List.length_take]; rfl)) ?_; (with_reducible refine (spec_l1In.calls (l0_0.length : Int) 2 4 true _ A5.out).mono ?_); rintro e w' ⟨rfl, ⟨nd, rfl⟩⟩; refine ⟨_, rfl, ?_⟩; have hcz20_0 : w3.cell? ⟨gb165, 0, none⟩ = some (.slice A0_0 l0_0.length c0_0) := (QB BK165.out 0).trans rfl; have hcz20_1 : w3.cell? ⟨gb165, 1, none⟩ = some (.int .i64 a0_1) := (QB BK165.out 1).trans rfl; have hcz20_2 : w3.cell? ⟨gb165, 2, none⟩ = some (.int .i64 a0_2) := (QB BK165.out 2).trans rfl; have hcz20_3 : w3.cell? ⟨gb165, 3, none⟩ = some (.slice A0_3 l0_3.length c0_3) := (QB BK165.out 3).trans rfl; have hcz20_4 : w3.cell? ⟨gb165, 4, none⟩ = some (.slice A0_4 l0_4.length c0_4) := (QB BK165.out 4).trans rfl; have hcz20_5 : w3.cell? ⟨gb165, 5, none⟩ = some (.slice A0_5 l0_5.length c0_5) := (QB BK165.out 5).trans rfl; have hcz20_6 : w3.cell? ⟨gb165, 6, none⟩ = some (.int .i64 a0_6) := (QB BK165.out 6).trans rfl; have hfz20_0 := QF BK165.out 0; have hfz20_1 := QF BK165.out 1; have hfz20_2 := QF BK165.out 2; have hfz20_3 := QF BK165.out 3; have hfz20_4 := QF BK165.out 4; have hfz20_5 := QF BK165.out 5; have hfz20_6 := QF BK165.out 6))
    go_meet
    case rel => exact ⟨_, (true), (by first | rfl | (simp; done) | (simp [*]; done)), H', ⟨by first | omega | exact Nat.le_refl _⟩, ⟨by (with_reducible repeat (first | apply QG | apply QH | apply QI)); exact HO0_0.out⟩, ⟨by (with_reducible repeat (first | apply QG | apply QH | apply QI)); exact HO0_3.out⟩, ⟨by (with_reducible repeat (first | refine QL ?_ _ | refine QN ?_ | refine QM ?_ _)); exact BK165.out⟩, ⟨by repeat (first | (with_reducible first | exact HB.out | apply QE | apply QC | apply QD | refine QJ ?_ GE165.out) | exact HB.out)⟩⟩
  ·replace c6 := Bool.eq_false_iff.mpr c6
   subst c6
   rw [if_neg (show ¬ (false = true) by decide)] at H
   have H' := QY H
   clear H
   go_wp2_with (first | ((with_reducible refine gate_callee (f := 99) rfl ?_); refine goesL_ (some 10) rfl rfl Try.func99 (by kernel_rfl) rfl #[.int .i64 (l0_0.length : Int), .int .i64 2, .int .i64 4] rfl (by (try simp only [List.map_toArray, List.map_cons, List.map_nil]); first | done | rfl | (simp only [List.length_drop, List.length_take]; rfl)) ?_; (with_reducible refine (spec_l1In.calls (l0_0.length : Int) 2 4 false _ A5.out).mono ?_); rintro e w' ⟨rfl, ⟨nd, rfl⟩⟩; refine ⟨_, rfl, ?_⟩))
   go_meet
   case rel => exact ⟨_, (true), (by first | rfl | (simp; done) | (simp [*]; done)), H', ⟨by first | omega | exact Nat.le_refl _⟩, ⟨by (with_reducible repeat (first | apply QG | apply QH | apply QI)); exact HO0_0.out⟩, ⟨by (with_reducible repeat (first | apply QG | apply QH | apply QI)); exact HO0_3.out⟩, ⟨by (with_reducible repeat (first | refine QL ?_ _ | refine QN ?_ | refine QM ?_ _)); exact BK165.out⟩, ⟨by repeat (first | (with_reducible first | exact HB.out | apply QE | apply QC | apply QD | refine QJ ?_ GE165.out) | exact HB.out)⟩⟩
 case rest =>
  clear HC2
  try clear c1
  try clear p2
  try clear c6
  try clear p6
  try clear c7
  try clear c7b0
  try clear c7b1
  try clear c7b2
  try clear c8
  try clear c8b0
  try clear c8b1
  try clear c8b2
  try clear c9
  try clear c10
  try clear c11
  try clear c12
  try clear c14
  try clear hcz15_0
  try clear hcz15_1
  try clear hcz15_2
  try clear hcz15_3
  try clear hcz15_4
  try clear hcz15_5
  try clear hcz15_6
  try clear hcz16_0
  try clear hcz16_1
  try clear hcz16_2
  try clear hcz16_3
  try clear hcz16_4
  try clear hcz16_5
  try clear hcz16_6
  try clear hcz17_0
  try clear hcz17_1
  try clear hcz17_2
  try clear hcz17_3
  try clear hcz17_4
  try clear hcz17_5
  try clear hcz17_6
  try clear hcz18_0
  try clear hcz18_1
  try clear hcz18_2
  try clear hcz18_3
  try clear hcz18_4
  try clear hcz18_5
  try clear hcz18_6
  try clear hcz19_0
  try clear hcz19_1
  try clear hcz19_2
  try clear hcz19_3
  try clear hcz19_4
  try clear hcz19_5
  try clear hcz19_6
  try clear hcz20_0
  try clear hcz20_1
  try clear hcz20_2
  try clear hcz20_3
  try clear hcz20_4
  try clear hcz20_5
  try clear hcz20_6
  try clear hcz4_0
  try clear hcz4_1
  try clear hcz4_2
  try clear hcz4_3
  try clear hcz4_4
  try clear hcz4_5
  try clear hcz4_6
  try clear hfz15_0
  try clear hfz15_1
  try clear hfz15_2
  try clear hfz15_3
  try clear hfz15_4
  try clear hfz15_5
  try clear hfz15_6
  try clear hfz16_0
  try clear hfz16_1
  try clear hfz16_2
  try clear hfz16_3
  try clear hfz16_4
  try clear hfz16_5
  try clear hfz16_6
  try clear hfz17_0
  try clear hfz17_1
  try clear hfz17_2
  try clear hfz17_3
  try clear hfz17_4
  try clear hfz17_5
  try clear hfz17_6
  try clear hfz18_0
  try clear hfz18_1
  try clear hfz18_2
  try clear hfz18_3
  try clear hfz18_4
  try clear hfz18_5
  try clear hfz18_6
  try clear hfz19_0
  try clear hfz19_1
  try clear hfz19_2
  try clear hfz19_3
  try clear hfz19_4
  try clear hfz19_5
  try clear hfz19_6
  try clear hfz20_0
  try clear hfz20_1
  try clear hfz20_2
  try clear hfz20_3
  try clear hfz20_4
  try clear hfz20_5
  try clear hfz20_6
  try clear hfz4_0
  try clear hfz4_1
  try clear hfz4_2
  try clear hfz4_3
  try clear hfz4_4
  try clear hfz4_5
  try clear hfz4_6
  obtain ⟨kq, x52_1, rfl, HA, HJ1, HO_166000, HO_166003, BK165, HB⟩ := hcut
  cases kq with
  | zero => exact absurd HA.out (by simp [spec_IsDeal.j0])
  | succ kj1 =>
   have H := HA.out
   clear HA
   simp only [spec_IsDeal.j0] at H
   by_cases c21 : x52_1 = true
   ·subst c21
    rw [if_pos rfl] at H
    obtain rfl := Option.some.inj H
    go_wp2
    go_ret
    exact ⟨by first | rfl | (simp [errW_none, errW_some] <;> rfl) | (simp [*, errW_none, errW_some] <;> rfl), by repeat (first | (with_reducible first | exact HB.out | apply QE | apply QC | apply QD | refine QJ ?_ GE165.out) | exact HB.out)⟩
   ·replace c21 := Bool.eq_false_iff.mpr c21
    subst c21
    rw [if_neg (show ¬ (false = true) by decide)] at H
    obtain ⟨y170, hy170⟩ : ∃ y_ : List (List Int), y_ = (([] : List (List Int))) := ⟨_, rfl⟩
    replace H : (if y170.length + l0_0.length < 5864062014805 then ((some (y170 ++ l0_0 : List (List Int))).bind fun y173 => ((some (([l0_3] : List (List Int)) : List (List Int))).bind fun y176 => (if y173.length + y176.length < 5864062014805 then ((spec_AllApart.f kj1 (y173 ++ y176)).bind fun t182 => (if t182 = true then (spec_IsDeal.l0 kj1 (l0_0.length : Int) 0 l0_0 a0_1 a0_2 l0_3 l0_4 l0_5 a0_6) else (some false))) else (none)))) else (none)) = some r := by first | (rw [hy170]; with_reducible exact H) | (have H2_ := (Option.bind_some _ _).symm.trans H; rw [hy170]; with_reducible exact H2_) | (have H2_ := (Option.bind_some _ _).symm.trans H; with_reducible exact H2_) | with_reducible exact H | (rw [hy170]; exact H) | exact H
    have Ny170 := QY hy170
    clear hy170
    by_cases c22 : y170.length + l0_0.length < 5864062014805
    ·rw [if_pos c22] at H
     have LMc22 := QY c22
     clear c22
     obtain ⟨y173, hy173⟩ : ∃ y_ : List (List Int), y_ = (y170 ++ l0_0) := ⟨_, rfl⟩
     replace H : ((some (([l0_3] : List (List Int)) : List (List Int))).bind fun y176 => (if y173.length + y176.length < 5864062014805 then ((spec_AllApart.f kj1 (y173 ++ y176)).bind fun t182 => (if t182 = true then (spec_IsDeal.l0 kj1 (l0_0.length : Int) 0 l0_0 a0_1 a0_2 l0_3 l0_4 l0_5 a0_6) else (some false))) else (none))) = some r := by first | (rw [hy173]; with_reducible exact H) | (have H2_ := (Option.bind_some _ _).symm.trans H; rw [hy173]; with_reducible exact H2_) | (have H2_ := (Option.bind_some _ _).symm.trans H; with_reducible exact H2_) | with_reducible exact H | (rw [hy173]; exact H) | exact H
     have Ny173 := QY hy173
     clear hy173
     obtain ⟨y176, hy176⟩ : ∃ y_ : List (List Int), y_ = (([l0_3] : List (List Int))) := ⟨_, rfl⟩
     replace H : (if y173.length + y176.length < 5864062014805 then ((spec_AllApart.f kj1 (y173 ++ y176)).bind fun t182 => (if t182 = true then (spec_IsDeal.l0 kj1 (l0_0.length : Int) 0 l0_0 a0_1 a0_2 l0_3 l0_4 l0_5 a0_6) else (some false))) else (none)) = some r := by first | (rw [hy176]; with_reducible exact H) | (have H2_ := (Option.bind_some _ _).symm.trans H; rw [hy176]; with_reducible exact H2_) | (have H2_ := (Option.bind_some _ _).symm.trans H; with_reducible exact H2_) | with_reducible exact H | (rw [hy176]; exact H) | exact H
     have Ny176 := QY hy176
     clear hy176
     by_cases c23 : y173.length + y176.length < 5864062014805
     ·rw [if_pos c23] at H
      have LMc23 := QY c23
      clear c23
      obtain ⟨y179, hy179⟩ : ∃ y_ : List (List Int), y_ = (y173 ++ y176) := ⟨_, rfl⟩
      replace H : ((spec_AllApart.f kj1 y179).bind fun t182 => (if t182 = true then (spec_IsDeal.l0 kj1 (l0_0.length : Int) 0 l0_0 a0_1 a0_2 l0_3 l0_4 l0_5 a0_6) else (some false))) = some r := by first | (rw [hy179]; with_reducible exact H) | (have H2_ := (Option.bind_some _ _).symm.trans H; rw [hy179]; with_reducible exact H2_) | (have H2_ := (Option.bind_some _ _).symm.trans H; with_reducible exact H2_) | with_reducible exact H | (rw [hy179]; exact H) | exact H
      have Ny179 := QY hy179
      clear hy179
      replace H := Option.bind_eq_some_iff.mp H
      obtain ⟨t182, A240, H⟩ := H
      have A24 := QY A240
      clear A240
      try go_wp2
      have n0_ := QY (QI HO_166000.out)
      have n1_ := QY (QI HO_166003.out)
      have n2_ := QY (QN BK165.out)
      have n3_ := QY (QD HB.out)
      clear HO_166000
      clear HO_166003
      clear BK165
      clear HB
      have HO_166000 := n0_
      have HO_166003 := n1_
      have BK165 := n2_
      have HB := n3_
      clear n0_ n1_ n2_ n3_
      refine start_ (n := 10) (S := fun w' => w'.cell? ⟨gb165, 0, none⟩ = some (.slice A0_0 l0_0.length c0_0) ∧ w'.cell? ⟨gb165, 1, none⟩ = some (.int .i64 a0_1) ∧ w'.cell? ⟨gb165, 2, none⟩ = some (.int .i64 a0_2) ∧ w'.cell? ⟨gb165, 3, none⟩ = some (.slice A0_3 l0_3.length c0_3) ∧ w'.cell? ⟨gb165, 4, none⟩ = some (.slice A0_4 l0_4.length c0_4) ∧ w'.cell? ⟨gb165, 5, none⟩ = some (.slice A0_5 l0_5.length c0_5) ∧ w'.cell? ⟨gb165, 6, none⟩ = some (.int .i64 a0_6)) (ds := []) #[Y0,Y0,Y0,Y0,Y0,Y0,Y0,Y0,Y0,Y0] (by kernel_rfl) rfl rfl ⟨(QB BK165.out 0).trans rfl, (QB BK165.out 1).trans rfl, (QB BK165.out 2).trans rfl, (QB BK165.out 3).trans rfl, (QB BK165.out 4).trans rfl, (QB BK165.out 5).trans rfl, (QB BK165.out 6).trans rfl⟩ (fun hHeld => ?_); refine with_tabW spec_IsDeal.tab4 spec_IsDeal.bits4 (fun HT_ HW_ => ?_)
      generalize wc.drew = w26 at HO_166000 HO_166003 BK165 HB hHeld ⊢
      refine pure_ (i := 1) (N := some 54) (v := ?_) (a' := ?_) #[Y0,Y1,Y0,Y0,Y0,Y0,Y0,Y0,Y0,Y0] rfl rfl (any_of HT_.out (by kernel_rfl)) (fun _ _ _ h => h) (Or.inl ⟨by rfl, ?_⟩) ?_ ?_
      rotate_left
      ·intro w'
       go_simp
       with_reducible rfl
      rotate_left
      ·simp only [Act.put, QV, QW, QX, QO, QP]
       rfl
      refine pure_ (i := 4) (N := some 57) (v := ?_) (a' := ?_) #[Y0,Y1,Y0,Y0,Y1,Y0,Y0,Y0,Y0,Y0] rfl rfl (any_of HT_.out (by kernel_rfl)) (fun _ _ _ h => h) (Or.inl ⟨by rfl, ?_⟩) ?_ ?_
      rotate_left
      ·intro w'
       go_simp
       with_reducible rfl
      rotate_left
      ·simp only [Act.put, QV, QW, QX, QO, QP]
       rfl
      refine take_ (i := 2) (N := some 55) (v := ?_) (a' := ?_) #[Y0,Y1,Y1,Y0,Y1,Y0,Y0,Y0,Y0,Y0] rfl rfl (take_ofW HT_.out HW_.out (by kernel_rfl)) (fun _ _ _ h => h) (Or.inl ⟨by rfl, ?_⟩) hHeld ?_ ?_
      rotate_left
      ·rintro w' ⟨s0, s1, s2, s3, s4, s5, s6⟩
       go_simp
       with_reducible rfl
      rotate_left
      ·simp only [Act.put, QV, QW, QX, QO, QP]
       rfl
      refine take_ (i := 5) (N := some 58) (v := ?_) (a' := ?_) #[Y0,Y1,Y1,Y0,Y1,Y1,Y0,Y0,Y0,Y0] rfl rfl (take_ofW HT_.out HW_.out (by kernel_rfl)) (fun _ _ _ h => h) (Or.inl ⟨by rfl, ?_⟩) hHeld ?_ ?_
      rotate_left
      ·rintro w' ⟨s0, s1, s2, s3, s4, s5, s6⟩
       go_simp
       with_reducible rfl
      rotate_left
      ·simp only [Act.put, QV, QW, QX, QO, QP]
       rfl
      refine join_ (σ := Value × Value × Value) 3 #[Y1,Y1,Y1,Y1,Y1,Y1,Y1,Y0,Y0,Y0] (fun s_ => [(53, s_.1), (56, s_.2.1), (59, s_.2.2)]) (fun s_ w' => (w'.cell? ⟨gb165, 0, none⟩ = some (.slice A0_0 l0_0.length c0_0) ∧ w'.cell? ⟨gb165, 1, none⟩ = some (.int .i64 a0_1) ∧ w'.cell? ⟨gb165, 2, none⟩ = some (.int .i64 a0_2) ∧ w'.cell? ⟨gb165, 3, none⟩ = some (.slice A0_3 l0_3.length c0_3) ∧ w'.cell? ⟨gb165, 4, none⟩ = some (.slice A0_4 l0_4.length c0_4) ∧ w'.cell? ⟨gb165, 5, none⟩ = some (.slice A0_5 l0_5.length c0_5) ∧ w'.cell? ⟨gb165, 6, none⟩ = some (.int .i64 a0_6)) ∧ (Kd.N (Kd.slice 3 (Kd.int .i64)) 24 w' w.heap.size (fun k_ => ((P0_0_ k_ ∨ P0_3_ k_) ∨ w.heap.size ≤ k_) ∧ some k_ ≠ (s_.2.2 : Value).ownBlock ∧ k_ ≠ gb165) s_.2.1 y173) ∧ (Kd.N (Kd.slice 3 (Kd.int .i64)) 24 w' w.heap.size (fun k_ => ((P0_0_ k_ ∨ P0_3_ k_) ∨ w.heap.size ≤ k_) ∧ some k_ ≠ (s_.2.1 : Value).ownBlock ∧ k_ ≠ gb165) s_.2.2 y176) ∧ (Kd.V (Kd.slice 3 (Kd.int .i64)) 24 w' w.heap.size (fun k_ => ((P0_0_ k_ ∨ P0_3_ k_) ∨ w.heap.size ≤ k_) ∧ some k_ ≠ (s_.2.1 : Value).ownBlock ∧ some k_ ≠ (s_.2.2 : Value).ownBlock ∧ k_ ≠ gb165) (.slice A0_0 l0_0.length c0_0) l0_0) ∧ (Kd.V (Kd.int .i64) 3 w' w.heap.size (fun k_ => ((P0_0_ k_ ∨ P0_3_ k_) ∨ w.heap.size ≤ k_) ∧ some k_ ≠ (s_.2.1 : Value).ownBlock ∧ some k_ ≠ (s_.2.2 : Value).ownBlock ∧ k_ ≠ gb165) (.slice A0_3 l0_3.length c0_3) l0_3) ∧ (w'.heap[gb165]? = some (.cells #[.slice A0_0 l0_0.length c0_0, .int .i64 a0_1, .int .i64 a0_2, .slice A0_3 l0_3.length c0_3, .slice A0_4 l0_4.length c0_4, .slice A0_5 l0_5.length c0_5, .int .i64 a0_6] 67 (0, 0))) ∧ (Below w.heap.size w w')) ?_ ?_
      rotate_left
      ·intro hCont
       refine two_ (i := 0) (j := 6) (Ni := some 53) (Nj := some 59) #[Y1,Y1,Y1,Y0,Y1,Y1,Y0,Y0,Y0,Y0] #[Y0,Y1,Y1,Y0,Y1,Y1,Y1,Y0,Y0,Y0] rfl rfl rfl rfl (two_of HT_.out (by kernel_rfl)) (by decide) (by decide) (fun K hK => ?_) (fun K hK => ?_)
       ·skip
        refine Kd.N_lit_step (Kd.slice 3 (Kd.int .i64)) _ 24 ?hg (N' := 53) ?hd (xs := ([] : List (List Int))) (inner := []) (ok := (fun k_ => ((P0_0_ k_ ∨ P0_3_ k_) ∨ w.heap.size ≤ k_) ∧ k_ ≠ gb165)) (okp := (fun k_ => ((P0_0_ k_ ∨ P0_3_ k_) ∨ w.heap.size ≤ k_) ∧ k_ ≠ gb165)) ?hr ?hp (fun _ hk => hk) ((show ∀ k_, w26.heap.size ≤ k_ → (fun k_ => ((P0_0_ k_ ∨ P0_3_ k_) ∨ w.heap.size ≤ k_) ∧ k_ ≠ gb165) k_ from fun k_ hk => ⟨(.inr (Nat.le_trans (QK (by repeat (first | (with_reducible first | exact HB.out | apply QE | apply QC | apply QD | refine QJ ?_ GE165.out) | exact HB.out))) hk)), Kd.freshB (g := gb165) (o := _) (by (with_reducible repeat (first | refine QL ?_ _ | refine QN ?_ | refine QM ?_ _)); exact BK165.out) k_ hk⟩) _ (Nat.le_refl _)) (Below.refl _ _) (Nat.le_refl _) (by simp) ?_; (case hd => rfl); (case hg => rfl); (case hr => first | (go_simp; done) | (go_simp; rfl)); (case hp => exact (Reps.none _ _))
        intro v171 w27 ho28 hb hg_ hnew_
        clear hg_ hnew_
        (first | rw [← Ny170.out] at ho28 | (simp only [Int.reduceToNat] at ho28; rw [← Ny170.out] at ho28))
        have n0_ := QY (Kd.V_elder' (by (with_reducible repeat (first | apply QG | apply QH | apply QI)); exact HO_166000.out) (Kd.N_base ho28) hb)
        have n1_ := QY (Kd.V_elder' (by (with_reducible repeat (first | apply QG | apply QH | apply QI)); exact HO_166003.out) (Kd.N_base ho28) hb)
        have n2_ := QY (Kd.N_lower ho28 (QK (by repeat (first | (with_reducible first | exact HB.out | apply QE | apply QC | apply QD | refine QJ ?_ GE165.out) | exact HB.out))))
        have n3_ := QY (blk_below (g := gb165) (o := _) (by (with_reducible repeat (first | refine QL ?_ _ | refine QN ?_ | refine QM ?_ _)); exact BK165.out) hb)
        have n4_ := QY (below_step (by repeat (first | (with_reducible first | exact HB.out | apply QE | apply QC | apply QD | refine QJ ?_ GE165.out) | exact HB.out)) hb)
        clear HO_166000
        clear HO_166003
        clear BK165
        clear HB
        have HO_166000 := n0_
        have HO_166003 := n1_
        have HO172 := n2_
        have BK165 := n3_
        have HB := n4_
        clear n0_ n1_ n2_ n3_ n4_
        clear hb ho28
        refine hK.out _ _ ⟨(QB BK165.out 0).trans rfl, (QB BK165.out 1).trans rfl, (QB BK165.out 2).trans rfl, (QB BK165.out 3).trans rfl, (QB BK165.out 4).trans rfl, (QB BK165.out 5).trans rfl, (QB BK165.out 6).trans rfl⟩ (fun hHeld => ?_)
        clear hK K
        refine norm_ (a' := ?_) ?_ ?_
        rotate_left
        ·show Act.put _ (some 53) _ = _
         simp only [Act.put, QV, QW, QX, QO, QP]
         rfl
        refine two_ (i := 3) (j := 6) (Ni := some 56) (Nj := some 59) #[Y1,Y1,Y1,Y1,Y1,Y1,Y0,Y0,Y0,Y0] #[Y1,Y1,Y1,Y0,Y1,Y1,Y1,Y0,Y0,Y0] rfl rfl rfl rfl (two_of HT_.out (by kernel_rfl)) (by decide) (by decide) (fun K hK => ?_) (fun K hK => ?_)
        ·skip
         refine Kd.N_append_rows_step (Kd.slice 3 (Kd.int .i64)) (w0 := w) w.heap.size (by rfl) (.tmp 53) (.tmp 55) 53 24 (.slice none 0 0) 24 rfl Try.underlying53 info24 rfl (by decide) (by omega) v171 y170 l0_0 _ _ _ (fun k_ => ((P0_0_ k_ ∨ P0_3_ k_) ∨ w.heap.size ≤ k_) ∧ k_ ≠ gb165) (fun k_ => ((fun k_ => ((P0_0_ k_ ∨ P0_3_ k_) ∨ w.heap.size ≤ k_) ∧ k_ ≠ gb165)) k_ ∧ some k_ ≠ (v171 : Value).ownBlock) rfl rfl ?aO ?aR (fun _ hk => hk) ?aF ?aB ?aS ?aL ?_
         (case aR => exact (by skip; exact Kd.V_F (QT (ok' := (fun k_ => ((fun k_ => ((P0_0_ k_ ∨ P0_3_ k_) ∨ w.heap.size ≤ k_) ∧ k_ ≠ gb165)) k_ ∧ some k_ ≠ (v171 : Value).ownBlock)) (HO_166000.out) (fun k_ hk => ⟨⟨hk.1.1, hk.1.2⟩, hk.2⟩))))
         (case aB => exact (by repeat (first | (with_reducible first | exact HB.out | apply QE | apply QC | apply QD | refine QJ ?_ GE165.out) | exact HB.out)))
         (case aF => exact (fun k_ hk => ⟨(.inr (Nat.le_trans (QK (by repeat (first | (with_reducible first | exact HB.out | apply QE | apply QC | apply QD | refine QJ ?_ GE165.out) | exact HB.out))) hk)), Kd.freshB (g := gb165) (o := _) (by (with_reducible repeat (first | refine QL ?_ _ | refine QN ?_ | refine QM ?_ _)); exact BK165.out) k_ hk⟩))
         (case aO => exact (by (with_reducible repeat (first | apply QR | apply QS | apply QU)); exact HO172.out))
         (case aS => exact (QK (by repeat (first | (with_reducible first | exact HB.out | apply QE | apply QC | apply QD | refine QJ ?_ GE165.out) | exact HB.out))))
         (case aL => have := LMc22.out; omega)
         intro v174 w29 ho hb hg hat
         rw [← Ny173.out] at ho
         have n0_ := QY (Kd.V_afterv (ok := (fun k_ => ((P0_0_ k_ ∨ P0_3_ k_) ∨ w.heap.size ≤ k_) ∧ k_ ≠ gb165)) (by (with_reducible repeat (first | apply QG | apply QH | apply QI)); exact HO_166000.out) hg hat)
         have n1_ := QY (Kd.V_afterv (ok := (fun k_ => ((P0_0_ k_ ∨ P0_3_ k_) ∨ w.heap.size ≤ k_) ∧ k_ ≠ gb165)) (by (with_reducible repeat (first | apply QG | apply QH | apply QI)); exact HO_166003.out) hg hat)
         have n2_ := QY (blk_grown (g := gb165) (o := _) (by (with_reducible repeat (first | refine QL ?_ _ | refine QN ?_ | refine QM ?_ _)); exact BK165.out) hg (Kd.N_ne HO172.out BK165.out (by decide)))
         have n3_ := QY (hb)
         have n4_ := QY (ho)
         clear HO_166000
         clear HO_166003
         clear BK165
         clear HB
         clear HO172
         have HO_166000 := n0_
         have HO_166003 := n1_
         have BK165 := n2_
         have HB := n3_
         have HO175 := n4_
         clear n0_ n1_ n2_ n3_ n4_
         clear ho hb hg hat
         refine hK.out _ _ ⟨(QB BK165.out 0).trans rfl, (QB BK165.out 1).trans rfl, (QB BK165.out 2).trans rfl, (QB BK165.out 3).trans rfl, (QB BK165.out 4).trans rfl, (QB BK165.out 5).trans rfl, (QB BK165.out 6).trans rfl⟩ (fun hHeld => ?_)
         clear hK K
         refine norm_ (a' := ?_) ?_ ?_
         rotate_left
         ·show Act.put _ (some 56) _ = _
          simp only [Act.put, QV, QW, QX, QO, QP]
          rfl
         refine one_ (i := 6) (N := some 59) #[Y1,Y1,Y1,Y1,Y1,Y1,Y1,Y0,Y0,Y0] rfl rfl (one_of HT_.out (by kernel_rfl)) (by decide) (fun K hK => ?_)
         refine Kd.N_lit_step (Kd.slice 3 (Kd.int .i64)) _ 24 ?hg (N' := 59) ?hd (xs := ([l0_3] : List (List Int))) (inner := [.slice A0_3 l0_3.length c0_3]) (ok := (fun k_ => ((P0_0_ k_ ∨ P0_3_ k_) ∨ w.heap.size ≤ k_) ∧ some k_ ≠ (v174 : Value).ownBlock ∧ k_ ≠ gb165)) (okp := (fun k_ => ((P0_0_ k_ ∨ P0_3_ k_) ∨ w.heap.size ≤ k_) ∧ some k_ ≠ (v174 : Value).ownBlock ∧ k_ ≠ gb165)) ?hr ?hp (fun _ hk => hk) ((show ∀ k_, w29.heap.size ≤ k_ → (fun k_ => ((P0_0_ k_ ∨ P0_3_ k_) ∨ w.heap.size ≤ k_) ∧ some k_ ≠ (v174 : Value).ownBlock ∧ k_ ≠ gb165) k_ from fun k_ hk => ⟨(.inr (Nat.le_trans (QK (by repeat (first | (with_reducible first | exact HB.out | apply QE | apply QC | apply QD | refine QJ ?_ GE165.out) | exact HB.out))) hk)), Kd.fresh' (Kd.N_lt (by (with_reducible repeat (first | apply QR | apply QS | apply QU)); exact HO175.out)) k_ hk, Kd.freshB (g := gb165) (o := _) (by (with_reducible repeat (first | refine QL ?_ _ | refine QN ?_ | refine QM ?_ _)); exact BK165.out) k_ hk⟩) _ (Nat.le_refl _)) (Below.refl _ _) (Nat.le_refl _) (by simp) ?_; (case hd => rfl); (case hg => rfl); (case hr => first | (go_simp; done) | (go_simp; rfl)); (case hp => exact (Reps.one (show Kd.FK (Kd.slice 3 (Kd.int .i64)) _ _ l0_3 [.slice A0_3 l0_3.length c0_3] from (Kd.FK_slice_mk (Kd.V_reads' (QT (ok' := (fun k_ => ((P0_0_ k_ ∨ P0_3_ k_) ∨ w.heap.size ≤ k_) ∧ some k_ ≠ (v174 : Value).ownBlock ∧ k_ ≠ gb165)) (HO_166003.out) (fun k_ hk => ⟨hk.1.1, ⟨hk.2, hk.1.2⟩⟩))).2.1 (Kd.V_F (QT (ok' := (fun k_ => ((P0_0_ k_ ∨ P0_3_ k_) ∨ w.heap.size ≤ k_) ∧ some k_ ≠ (v174 : Value).ownBlock ∧ k_ ≠ gb165)) (HO_166003.out) (fun k_ hk => ⟨hk.1.1, ⟨hk.2, hk.1.2⟩⟩))))) (Reps.none _ _)))
         intro v177 w30 ho31 hb hg_ hnew_
         clear hg_ hnew_
         (first | rw [← Ny176.out] at ho31 | (simp only [Int.reduceToNat] at ho31; rw [← Ny176.out] at ho31))
         have n0_ := QY (Kd.V_elder' (by (with_reducible repeat (first | apply QG | apply QH | apply QI)); exact HO_166000.out) (Kd.N_base ho31) hb)
         have n1_ := QY (Kd.V_elder' (by (with_reducible repeat (first | apply QG | apply QH | apply QI)); exact HO_166003.out) (Kd.N_base ho31) hb)
         have n2_ := QY (Kd.N_elder' (by (with_reducible repeat (first | apply QR | apply QS | apply QU)); exact HO175.out) (Kd.N_base ho31) hb)
         have n3_ := QY (Kd.N_lower ho31 (QK (by repeat (first | (with_reducible first | exact HB.out | apply QE | apply QC | apply QD | refine QJ ?_ GE165.out) | exact HB.out))))
         have n4_ := QY (blk_below (g := gb165) (o := _) (by (with_reducible repeat (first | refine QL ?_ _ | refine QN ?_ | refine QM ?_ _)); exact BK165.out) hb)
         have n5_ := QY (below_step (by repeat (first | (with_reducible first | exact HB.out | apply QE | apply QC | apply QD | refine QJ ?_ GE165.out) | exact HB.out)) hb)
         clear HO_166000
         clear HO_166003
         clear HO175
         clear BK165
         clear HB
         have HO_166000 := n0_
         have HO_166003 := n1_
         have HO175 := n2_
         have HO178 := n3_
         have BK165 := n4_
         have HB := n5_
         clear n0_ n1_ n2_ n3_ n4_ n5_
         clear hb ho31
         refine hK.out _ _ ⟨(QB BK165.out 0).trans rfl, (QB BK165.out 1).trans rfl, (QB BK165.out 2).trans rfl, (QB BK165.out 3).trans rfl, (QB BK165.out 4).trans rfl, (QB BK165.out 5).trans rfl, (QB BK165.out 6).trans rfl⟩ (fun hHeld => ?_)
         clear hK K
         refine norm_ (a' := ?_) ?_ ?_
         rotate_left
         ·show Act.put _ (some 59) _ = _
          simp only [Act.put, QV, QW, QX, QO, QP]
          rfl
         exact norm_ (by simp only [putAll, Act.put, QV, QW, QX]) (hCont (v171, v174, v177) _ ⟨hHeld, (by (with_reducible repeat (first | apply QR | apply QS | apply QU)); exact Kd.N_mono HO175.out (fun _ hk => ⟨hk.1.1, ⟨hk.2, hk.1.2⟩⟩)), (by (with_reducible repeat (first | apply QR | apply QS | apply QU)); exact HO178.out), (by (with_reducible repeat (first | apply QG | apply QH | apply QI)); exact QT HO_166000.out (fun _ hk => ⟨hk.1.1.1, ⟨hk.1.2, ⟨hk.2, hk.1.1.2⟩⟩⟩)), (by (with_reducible repeat (first | apply QG | apply QH | apply QI)); exact QT HO_166003.out (fun _ hk => ⟨hk.1.1.1, ⟨hk.1.2, ⟨hk.2, hk.1.1.2⟩⟩⟩)), (by (with_reducible repeat (first | refine QL ?_ _ | refine QN ?_ | refine QM ?_ _)); exact BK165.out), (by repeat (first | (with_reducible first | exact HB.out | apply QE | apply QC | apply QD | refine QJ ?_ GE165.out) | exact HB.out))⟩)
        ·skip
         refine Kd.N_lit_step (Kd.slice 3 (Kd.int .i64)) _ 24 ?hg (N' := 59) ?hd (xs := ([l0_3] : List (List Int))) (inner := [.slice A0_3 l0_3.length c0_3]) (ok := (fun k_ => ((P0_0_ k_ ∨ P0_3_ k_) ∨ w.heap.size ≤ k_) ∧ some k_ ≠ (v171 : Value).ownBlock ∧ k_ ≠ gb165)) (okp := (fun k_ => ((P0_0_ k_ ∨ P0_3_ k_) ∨ w.heap.size ≤ k_) ∧ some k_ ≠ (v171 : Value).ownBlock ∧ k_ ≠ gb165)) ?hr ?hp (fun _ hk => hk) ((show ∀ k_, w27.heap.size ≤ k_ → (fun k_ => ((P0_0_ k_ ∨ P0_3_ k_) ∨ w.heap.size ≤ k_) ∧ some k_ ≠ (v171 : Value).ownBlock ∧ k_ ≠ gb165) k_ from fun k_ hk => ⟨(.inr (Nat.le_trans (QK (by repeat (first | (with_reducible first | exact HB.out | apply QE | apply QC | apply QD | refine QJ ?_ GE165.out) | exact HB.out))) hk)), Kd.fresh' (Kd.N_lt (by (with_reducible repeat (first | apply QR | apply QS | apply QU)); exact HO172.out)) k_ hk, Kd.freshB (g := gb165) (o := _) (by (with_reducible repeat (first | refine QL ?_ _ | refine QN ?_ | refine QM ?_ _)); exact BK165.out) k_ hk⟩) _ (Nat.le_refl _)) (Below.refl _ _) (Nat.le_refl _) (by simp) ?_; (case hd => rfl); (case hg => rfl); (case hr => first | (go_simp; done) | (go_simp; rfl)); (case hp => exact (Reps.one (show Kd.FK (Kd.slice 3 (Kd.int .i64)) _ _ l0_3 [.slice A0_3 l0_3.length c0_3] from (Kd.FK_slice_mk (Kd.V_reads' (QT (ok' := (fun k_ => ((P0_0_ k_ ∨ P0_3_ k_) ∨ w.heap.size ≤ k_) ∧ some k_ ≠ (v171 : Value).ownBlock ∧ k_ ≠ gb165)) (HO_166003.out) (fun k_ hk => ⟨hk.1.1, ⟨hk.2, hk.1.2⟩⟩))).2.1 (Kd.V_F (QT (ok' := (fun k_ => ((P0_0_ k_ ∨ P0_3_ k_) ∨ w.heap.size ≤ k_) ∧ some k_ ≠ (v171 : Value).ownBlock ∧ k_ ≠ gb165)) (HO_166003.out) (fun k_ hk => ⟨hk.1.1, ⟨hk.2, hk.1.2⟩⟩))))) (Reps.none _ _)))
         intro v177 w29 ho30 hb hg_ hnew_
         clear hg_ hnew_
         (first | rw [← Ny176.out] at ho30 | (simp only [Int.reduceToNat] at ho30; rw [← Ny176.out] at ho30))
         have n0_ := QY (Kd.V_elder' (by (with_reducible repeat (first | apply QG | apply QH | apply QI)); exact HO_166000.out) (Kd.N_base ho30) hb)
         have n1_ := QY (Kd.V_elder' (by (with_reducible repeat (first | apply QG | apply QH | apply QI)); exact HO_166003.out) (Kd.N_base ho30) hb)
         have n2_ := QY (Kd.N_elder' (by (with_reducible repeat (first | apply QR | apply QS | apply QU)); exact HO172.out) (Kd.N_base ho30) hb)
         have n3_ := QY (Kd.N_lower ho30 (QK (by repeat (first | (with_reducible first | exact HB.out | apply QE | apply QC | apply QD | refine QJ ?_ GE165.out) | exact HB.out))))
         have n4_ := QY (blk_below (g := gb165) (o := _) (by (with_reducible repeat (first | refine QL ?_ _ | refine QN ?_ | refine QM ?_ _)); exact BK165.out) hb)
         have n5_ := QY (below_step (by repeat (first | (with_reducible first | exact HB.out | apply QE | apply QC | apply QD | refine QJ ?_ GE165.out) | exact HB.out)) hb)
         clear HO_166000
         clear HO_166003
         clear HO172
         clear BK165
         clear HB
         have HO_166000 := n0_
         have HO_166003 := n1_
         have HO172 := n2_
         have HO178 := n3_
         have BK165 := n4_
         have HB := n5_
         clear n0_ n1_ n2_ n3_ n4_ n5_
         clear hb ho30
         refine hK.out _ _ ⟨(QB BK165.out 0).trans rfl, (QB BK165.out 1).trans rfl, (QB BK165.out 2).trans rfl, (QB BK165.out 3).trans rfl, (QB BK165.out 4).trans rfl, (QB BK165.out 5).trans rfl, (QB BK165.out 6).trans rfl⟩ (fun hHeld => ?_)
         clear hK K
         refine norm_ (a' := ?_) ?_ ?_
         rotate_left
         ·show Act.put _ (some 59) _ = _
          simp only [Act.put, QV, QW, QX, QO, QP]
          rfl
         refine one_ (i := 3) (N := some 56) #[Y1,Y1,Y1,Y1,Y1,Y1,Y1,Y0,Y0,Y0] rfl rfl (one_of HT_.out (by kernel_rfl)) (by decide) (fun K hK => ?_)
         refine Kd.N_append_rows_step (Kd.slice 3 (Kd.int .i64)) (w0 := w) w.heap.size (by rfl) (.tmp 53) (.tmp 55) 53 24 (.slice none 0 0) 24 rfl Try.underlying53 info24 rfl (by decide) (by omega) v171 y170 l0_0 _ _ _ (fun k_ => ((P0_0_ k_ ∨ P0_3_ k_) ∨ w.heap.size ≤ k_) ∧ some k_ ≠ (v177 : Value).ownBlock ∧ k_ ≠ gb165) (fun k_ => ((fun k_ => ((P0_0_ k_ ∨ P0_3_ k_) ∨ w.heap.size ≤ k_) ∧ some k_ ≠ (v177 : Value).ownBlock ∧ k_ ≠ gb165)) k_ ∧ some k_ ≠ (v171 : Value).ownBlock) rfl rfl ?aO ?aR (fun _ hk => hk) ?aF ?aB ?aS ?aL ?_
         (case aR => exact (by skip; exact Kd.V_F (QT (ok' := (fun k_ => ((fun k_ => ((P0_0_ k_ ∨ P0_3_ k_) ∨ w.heap.size ≤ k_) ∧ some k_ ≠ (v177 : Value).ownBlock ∧ k_ ≠ gb165)) k_ ∧ some k_ ≠ (v171 : Value).ownBlock)) (HO_166000.out) (fun k_ hk => ⟨⟨hk.1.1.1, ⟨hk.2, hk.1.1.2⟩⟩, hk.1.2⟩))))
         (case aB => exact (by repeat (first | (with_reducible first | exact HB.out | apply QE | apply QC | apply QD | refine QJ ?_ GE165.out) | exact HB.out)))
         (case aF => exact (fun k_ hk => ⟨(.inr (Nat.le_trans (QK (by repeat (first | (with_reducible first | exact HB.out | apply QE | apply QC | apply QD | refine QJ ?_ GE165.out) | exact HB.out))) hk)), Kd.fresh' (Kd.N_lt (by (with_reducible repeat (first | apply QR | apply QS | apply QU)); exact HO178.out)) k_ hk, Kd.freshB (g := gb165) (o := _) (by (with_reducible repeat (first | refine QL ?_ _ | refine QN ?_ | refine QM ?_ _)); exact BK165.out) k_ hk⟩))
         (case aO => exact (by (with_reducible repeat (first | apply QR | apply QS | apply QU)); exact Kd.N_mono HO172.out (fun _ hk => ⟨hk.1.1, ⟨hk.2, hk.1.2⟩⟩)))
         (case aS => exact (QK (by repeat (first | (with_reducible first | exact HB.out | apply QE | apply QC | apply QD | refine QJ ?_ GE165.out) | exact HB.out))))
         (case aL => have := LMc22.out; omega)
         intro v174 w31 ho hb hg hat
         rw [← Ny173.out] at ho
         have n0_ := QY (Kd.V_afterv (ok := (fun k_ => ((P0_0_ k_ ∨ P0_3_ k_) ∨ w.heap.size ≤ k_) ∧ some k_ ≠ (v177 : Value).ownBlock ∧ k_ ≠ gb165)) (by (with_reducible repeat (first | apply QG | apply QH | apply QI)); exact QT HO_166000.out (fun _ hk => ⟨⟨hk.1.1.1, ⟨hk.2, hk.1.1.2⟩⟩, hk.1.2⟩)) hg hat)
         have n1_ := QY (Kd.V_afterv (ok := (fun k_ => ((P0_0_ k_ ∨ P0_3_ k_) ∨ w.heap.size ≤ k_) ∧ some k_ ≠ (v177 : Value).ownBlock ∧ k_ ≠ gb165)) (by (with_reducible repeat (first | apply QG | apply QH | apply QI)); exact QT HO_166003.out (fun _ hk => ⟨⟨hk.1.1.1, ⟨hk.2, hk.1.1.2⟩⟩, hk.1.2⟩)) hg hat)
         have n2_ := QY (blk_grown (g := gb165) (o := _) (by (with_reducible repeat (first | refine QL ?_ _ | refine QN ?_ | refine QM ?_ _)); exact BK165.out) hg (Kd.N_ne HO172.out BK165.out (by decide)))
         have n3_ := QY (Kd.N_afterv (ok := (fun k_ => ((P0_0_ k_ ∨ P0_3_ k_) ∨ w.heap.size ≤ k_) ∧ k_ ≠ gb165)) (by (with_reducible repeat (first | apply QR | apply QS | apply QU)); exact Kd.N_mono HO178.out (fun _ hk => ⟨⟨hk.1, hk.2.2⟩, hk.2.1⟩)) hg hat)
         have n4_ := QY (hb)
         have n5_ := QY (ho)
         clear HO_166000
         clear HO_166003
         clear BK165
         clear HO178
         clear HB
         clear HO172
         have HO_166000 := n0_
         have HO_166003 := n1_
         have BK165 := n2_
         have HO178 := n3_
         have HB := n4_
         have HO175 := n5_
         clear n0_ n1_ n2_ n3_ n4_ n5_
         clear ho hb hg hat
         refine hK.out _ _ ⟨(QB BK165.out 0).trans rfl, (QB BK165.out 1).trans rfl, (QB BK165.out 2).trans rfl, (QB BK165.out 3).trans rfl, (QB BK165.out 4).trans rfl, (QB BK165.out 5).trans rfl, (QB BK165.out 6).trans rfl⟩ (fun hHeld => ?_)
         clear hK K
         refine norm_ (a' := ?_) ?_ ?_
         rotate_left
         ·show Act.put _ (some 56) _ = _
          simp only [Act.put, QV, QW, QX, QO, QP]
          rfl
         exact norm_ (by simp only [putAll, Act.put, QV, QW, QX]) (hCont (v171, v174, v177) _ ⟨hHeld, (by (with_reducible repeat (first | apply QR | apply QS | apply QU)); exact HO175.out), (by (with_reducible repeat (first | apply QR | apply QS | apply QU)); exact Kd.N_mono HO178.out (fun _ hk => ⟨hk.1.1, ⟨hk.2, hk.1.2⟩⟩)), (by (with_reducible repeat (first | apply QG | apply QH | apply QI)); exact QT HO_166000.out (fun _ hk => ⟨hk.1.1, ⟨hk.2, ⟨hk.1.2.1, hk.1.2.2⟩⟩⟩)), (by (with_reducible repeat (first | apply QG | apply QH | apply QI)); exact QT HO_166003.out (fun _ hk => ⟨hk.1.1, ⟨hk.2, ⟨hk.1.2.1, hk.1.2.2⟩⟩⟩)), (by (with_reducible repeat (first | refine QL ?_ _ | refine QN ?_ | refine QM ?_ _)); exact BK165.out), (by repeat (first | (with_reducible first | exact HB.out | apply QE | apply QC | apply QD | refine QJ ?_ GE165.out) | exact HB.out))⟩)
       ·skip
        refine Kd.N_lit_step (Kd.slice 3 (Kd.int .i64)) _ 24 ?hg (N' := 59) ?hd (xs := ([l0_3] : List (List Int))) (inner := [.slice A0_3 l0_3.length c0_3]) (ok := (fun k_ => ((P0_0_ k_ ∨ P0_3_ k_) ∨ w.heap.size ≤ k_) ∧ k_ ≠ gb165)) (okp := (fun k_ => ((P0_0_ k_ ∨ P0_3_ k_) ∨ w.heap.size ≤ k_) ∧ k_ ≠ gb165)) ?hr ?hp (fun _ hk => hk) ((show ∀ k_, w26.heap.size ≤ k_ → (fun k_ => ((P0_0_ k_ ∨ P0_3_ k_) ∨ w.heap.size ≤ k_) ∧ k_ ≠ gb165) k_ from fun k_ hk => ⟨(.inr (Nat.le_trans (QK (by repeat (first | (with_reducible first | exact HB.out | apply QE | apply QC | apply QD | refine QJ ?_ GE165.out) | exact HB.out))) hk)), Kd.freshB (g := gb165) (o := _) (by (with_reducible repeat (first | refine QL ?_ _ | refine QN ?_ | refine QM ?_ _)); exact BK165.out) k_ hk⟩) _ (Nat.le_refl _)) (Below.refl _ _) (Nat.le_refl _) (by simp) ?_; (case hd => rfl); (case hg => rfl); (case hr => first | (go_simp; done) | (go_simp; rfl)); (case hp => exact (Reps.one (show Kd.FK (Kd.slice 3 (Kd.int .i64)) _ _ l0_3 [.slice A0_3 l0_3.length c0_3] from (Kd.FK_slice_mk (Kd.V_reads' (QT (ok' := (fun k_ => ((P0_0_ k_ ∨ P0_3_ k_) ∨ w.heap.size ≤ k_) ∧ k_ ≠ gb165)) (HO_166003.out) (fun k_ hk => ⟨hk.1, hk.2⟩))).2.1 (Kd.V_F (QT (ok' := (fun k_ => ((P0_0_ k_ ∨ P0_3_ k_) ∨ w.heap.size ≤ k_) ∧ k_ ≠ gb165)) (HO_166003.out) (fun k_ hk => ⟨hk.1, hk.2⟩))))) (Reps.none _ _)))
        intro v177 w27 ho28 hb hg_ hnew_
        clear hg_ hnew_
        (first | rw [← Ny176.out] at ho28 | (simp only [Int.reduceToNat] at ho28; rw [← Ny176.out] at ho28))
        have n0_ := QY (Kd.V_elder' (by (with_reducible repeat (first | apply QG | apply QH | apply QI)); exact HO_166000.out) (Kd.N_base ho28) hb)
        have n1_ := QY (Kd.V_elder' (by (with_reducible repeat (first | apply QG | apply QH | apply QI)); exact HO_166003.out) (Kd.N_base ho28) hb)
        have n2_ := QY (Kd.N_lower ho28 (QK (by repeat (first | (with_reducible first | exact HB.out | apply QE | apply QC | apply QD | refine QJ ?_ GE165.out) | exact HB.out))))
        have n3_ := QY (blk_below (g := gb165) (o := _) (by (with_reducible repeat (first | refine QL ?_ _ | refine QN ?_ | refine QM ?_ _)); exact BK165.out) hb)
        have n4_ := QY (below_step (by repeat (first | (with_reducible first | exact HB.out | apply QE | apply QC | apply QD | refine QJ ?_ GE165.out) | exact HB.out)) hb)
        clear HO_166000
        clear HO_166003
        clear BK165
        clear HB
        have HO_166000 := n0_
        have HO_166003 := n1_
        have HO178 := n2_
        have BK165 := n3_
        have HB := n4_
        clear n0_ n1_ n2_ n3_ n4_
        clear hb ho28
        refine hK.out _ _ ⟨(QB BK165.out 0).trans rfl, (QB BK165.out 1).trans rfl, (QB BK165.out 2).trans rfl, (QB BK165.out 3).trans rfl, (QB BK165.out 4).trans rfl, (QB BK165.out 5).trans rfl, (QB BK165.out 6).trans rfl⟩ (fun hHeld => ?_)
        clear hK K
        refine norm_ (a' := ?_) ?_ ?_
        rotate_left
        ·show Act.put _ (some 59) _ = _
         simp only [Act.put, QV, QW, QX, QO, QP]
         rfl
        refine one_ (i := 0) (N := some 53) #[Y1,Y1,Y1,Y0,Y1,Y1,Y1,Y0,Y0,Y0] rfl rfl (one_of HT_.out (by kernel_rfl)) (by decide) (fun K hK => ?_)
        refine Kd.N_lit_step (Kd.slice 3 (Kd.int .i64)) _ 24 ?hg (N' := 53) ?hd (xs := ([] : List (List Int))) (inner := []) (ok := (fun k_ => ((P0_0_ k_ ∨ P0_3_ k_) ∨ w.heap.size ≤ k_) ∧ some k_ ≠ (v177 : Value).ownBlock ∧ k_ ≠ gb165)) (okp := (fun k_ => ((P0_0_ k_ ∨ P0_3_ k_) ∨ w.heap.size ≤ k_) ∧ some k_ ≠ (v177 : Value).ownBlock ∧ k_ ≠ gb165)) ?hr ?hp (fun _ hk => hk) ((show ∀ k_, w27.heap.size ≤ k_ → (fun k_ => ((P0_0_ k_ ∨ P0_3_ k_) ∨ w.heap.size ≤ k_) ∧ some k_ ≠ (v177 : Value).ownBlock ∧ k_ ≠ gb165) k_ from fun k_ hk => ⟨(.inr (Nat.le_trans (QK (by repeat (first | (with_reducible first | exact HB.out | apply QE | apply QC | apply QD | refine QJ ?_ GE165.out) | exact HB.out))) hk)), Kd.fresh' (Kd.N_lt (by (with_reducible repeat (first | apply QR | apply QS | apply QU)); exact HO178.out)) k_ hk, Kd.freshB (g := gb165) (o := _) (by (with_reducible repeat (first | refine QL ?_ _ | refine QN ?_ | refine QM ?_ _)); exact BK165.out) k_ hk⟩) _ (Nat.le_refl _)) (Below.refl _ _) (Nat.le_refl _) (by simp) ?_; (case hd => rfl); (case hg => rfl); (case hr => first | (go_simp; done) | (go_simp; rfl)); (case hp => exact (Reps.none _ _))
        intro v171 w29 ho30 hb hg_ hnew_
        clear hg_ hnew_
        (first | rw [← Ny170.out] at ho30 | (simp only [Int.reduceToNat] at ho30; rw [← Ny170.out] at ho30))
        have n0_ := QY (Kd.V_elder' (by (with_reducible repeat (first | apply QG | apply QH | apply QI)); exact HO_166000.out) (Kd.N_base ho30) hb)
        have n1_ := QY (Kd.V_elder' (by (with_reducible repeat (first | apply QG | apply QH | apply QI)); exact HO_166003.out) (Kd.N_base ho30) hb)
        have n2_ := QY (Kd.N_elder' (by (with_reducible repeat (first | apply QR | apply QS | apply QU)); exact HO178.out) (Kd.N_base ho30) hb)
        have n3_ := QY (Kd.N_lower ho30 (QK (by repeat (first | (with_reducible first | exact HB.out | apply QE | apply QC | apply QD | refine QJ ?_ GE165.out) | exact HB.out))))
        have n4_ := QY (blk_below (g := gb165) (o := _) (by (with_reducible repeat (first | refine QL ?_ _ | refine QN ?_ | refine QM ?_ _)); exact BK165.out) hb)
        have n5_ := QY (below_step (by repeat (first | (with_reducible first | exact HB.out | apply QE | apply QC | apply QD | refine QJ ?_ GE165.out) | exact HB.out)) hb)
        clear HO_166000
        clear HO_166003
        clear HO178
        clear BK165
        clear HB
        have HO_166000 := n0_
        have HO_166003 := n1_
        have HO178 := n2_
        have HO172 := n3_
        have BK165 := n4_
        have HB := n5_
        clear n0_ n1_ n2_ n3_ n4_ n5_
        clear hb ho30
        refine hK.out _ _ ⟨(QB BK165.out 0).trans rfl, (QB BK165.out 1).trans rfl, (QB BK165.out 2).trans rfl, (QB BK165.out 3).trans rfl, (QB BK165.out 4).trans rfl, (QB BK165.out 5).trans rfl, (QB BK165.out 6).trans rfl⟩ (fun hHeld => ?_)
        clear hK K
        refine norm_ (a' := ?_) ?_ ?_
        rotate_left
        ·show Act.put _ (some 53) _ = _
         simp only [Act.put, QV, QW, QX, QO, QP]
         rfl
        refine one_ (i := 3) (N := some 56) #[Y1,Y1,Y1,Y1,Y1,Y1,Y1,Y0,Y0,Y0] rfl rfl (one_of HT_.out (by kernel_rfl)) (by decide) (fun K hK => ?_)
        refine Kd.N_append_rows_step (Kd.slice 3 (Kd.int .i64)) (w0 := w) w.heap.size (by rfl) (.tmp 53) (.tmp 55) 53 24 (.slice none 0 0) 24 rfl Try.underlying53 info24 rfl (by decide) (by omega) v171 y170 l0_0 _ _ _ (fun k_ => ((P0_0_ k_ ∨ P0_3_ k_) ∨ w.heap.size ≤ k_) ∧ some k_ ≠ (v177 : Value).ownBlock ∧ k_ ≠ gb165) (fun k_ => ((fun k_ => ((P0_0_ k_ ∨ P0_3_ k_) ∨ w.heap.size ≤ k_) ∧ some k_ ≠ (v177 : Value).ownBlock ∧ k_ ≠ gb165)) k_ ∧ some k_ ≠ (v171 : Value).ownBlock) rfl rfl ?aO ?aR (fun _ hk => hk) ?aF ?aB ?aS ?aL ?_
        (case aR => exact (by skip; exact Kd.V_F (QT (ok' := (fun k_ => ((fun k_ => ((P0_0_ k_ ∨ P0_3_ k_) ∨ w.heap.size ≤ k_) ∧ some k_ ≠ (v177 : Value).ownBlock ∧ k_ ≠ gb165)) k_ ∧ some k_ ≠ (v171 : Value).ownBlock)) (HO_166000.out) (fun k_ hk => ⟨⟨hk.1.1.1, ⟨hk.1.2, hk.1.1.2⟩⟩, hk.2⟩))))
        (case aB => exact (by repeat (first | (with_reducible first | exact HB.out | apply QE | apply QC | apply QD | refine QJ ?_ GE165.out) | exact HB.out)))
        (case aF => exact (fun k_ hk => ⟨(.inr (Nat.le_trans (QK (by repeat (first | (with_reducible first | exact HB.out | apply QE | apply QC | apply QD | refine QJ ?_ GE165.out) | exact HB.out))) hk)), Kd.fresh' (Kd.N_lt (by (with_reducible repeat (first | apply QR | apply QS | apply QU)); exact HO178.out)) k_ hk, Kd.freshB (g := gb165) (o := _) (by (with_reducible repeat (first | refine QL ?_ _ | refine QN ?_ | refine QM ?_ _)); exact BK165.out) k_ hk⟩))
        (case aO => exact (by (with_reducible repeat (first | apply QR | apply QS | apply QU)); exact HO172.out))
        (case aS => exact (QK (by repeat (first | (with_reducible first | exact HB.out | apply QE | apply QC | apply QD | refine QJ ?_ GE165.out) | exact HB.out))))
        (case aL => have := LMc22.out; omega)
        intro v174 w31 ho hb hg hat
        rw [← Ny173.out] at ho
        have n0_ := QY (Kd.V_afterv (ok := (fun k_ => ((P0_0_ k_ ∨ P0_3_ k_) ∨ w.heap.size ≤ k_) ∧ some k_ ≠ (v177 : Value).ownBlock ∧ k_ ≠ gb165)) (by (with_reducible repeat (first | apply QG | apply QH | apply QI)); exact QT HO_166000.out (fun _ hk => ⟨⟨hk.1.1.1, ⟨hk.1.2, hk.1.1.2⟩⟩, hk.2⟩)) hg hat)
        have n1_ := QY (Kd.V_afterv (ok := (fun k_ => ((P0_0_ k_ ∨ P0_3_ k_) ∨ w.heap.size ≤ k_) ∧ some k_ ≠ (v177 : Value).ownBlock ∧ k_ ≠ gb165)) (by (with_reducible repeat (first | apply QG | apply QH | apply QI)); exact QT HO_166003.out (fun _ hk => ⟨⟨hk.1.1.1, ⟨hk.1.2, hk.1.1.2⟩⟩, hk.2⟩)) hg hat)
        have n2_ := QY (blk_grown (g := gb165) (o := _) (by (with_reducible repeat (first | refine QL ?_ _ | refine QN ?_ | refine QM ?_ _)); exact BK165.out) hg (Kd.N_ne HO172.out BK165.out (by decide)))
        have n3_ := QY (Kd.N_afterv (ok := (fun k_ => ((P0_0_ k_ ∨ P0_3_ k_) ∨ w.heap.size ≤ k_) ∧ k_ ≠ gb165)) (by (with_reducible repeat (first | apply QR | apply QS | apply QU)); exact HO178.out) hg hat)
        have n4_ := QY (hb)
        have n5_ := QY (ho)
        clear HO_166000
        clear HO_166003
        clear BK165
        clear HO178
        clear HB
        clear HO172
        have HO_166000 := n0_
        have HO_166003 := n1_
        have BK165 := n2_
        have HO178 := n3_
        have HB := n4_
        have HO175 := n5_
        clear n0_ n1_ n2_ n3_ n4_ n5_
        clear ho hb hg hat
        refine hK.out _ _ ⟨(QB BK165.out 0).trans rfl, (QB BK165.out 1).trans rfl, (QB BK165.out 2).trans rfl, (QB BK165.out 3).trans rfl, (QB BK165.out 4).trans rfl, (QB BK165.out 5).trans rfl, (QB BK165.out 6).trans rfl⟩ (fun hHeld => ?_)
        clear hK K
        refine norm_ (a' := ?_) ?_ ?_
        rotate_left
        ·show Act.put _ (some 56) _ = _
         simp only [Act.put, QV, QW, QX, QO, QP]
         rfl
        exact norm_ (by simp only [putAll, Act.put, QV, QW, QX]) (hCont (v171, v174, v177) _ ⟨hHeld, (by (with_reducible repeat (first | apply QR | apply QS | apply QU)); exact HO175.out), (by (with_reducible repeat (first | apply QR | apply QS | apply QU)); exact Kd.N_mono HO178.out (fun _ hk => ⟨hk.1.1, ⟨hk.2, hk.1.2⟩⟩)), (by (with_reducible repeat (first | apply QG | apply QH | apply QI)); exact QT HO_166000.out (fun _ hk => ⟨hk.1.1, ⟨hk.2, ⟨hk.1.2.1, hk.1.2.2⟩⟩⟩)), (by (with_reducible repeat (first | apply QG | apply QH | apply QI)); exact QT HO_166003.out (fun _ hk => ⟨hk.1.1, ⟨hk.2, ⟨hk.1.2.1, hk.1.2.2⟩⟩⟩)), (by (with_reducible repeat (first | refine QL ?_ _ | refine QN ?_ | refine QM ?_ _)); exact BK165.out), (by repeat (first | (with_reducible first | exact HB.out | apply QE | apply QC | apply QD | refine QJ ?_ GE165.out) | exact HB.out))⟩)
      rintro ⟨v171, v174, v177⟩ w32 ⟨hS_, h0_, h1_, h2_, h3_, h4_, h5_⟩
      have n0_ : Aside0 (Kd.N (Kd.slice 3 (Kd.int .i64)) 24 w32 w.heap.size (fun k_ => ((P0_0_ k_ ∨ P0_3_ k_) ∨ w.heap.size ≤ k_) ∧ some k_ ≠ (v177 : Value).ownBlock ∧ k_ ≠ gb165) v174 y173) := ⟨h0_⟩
      have n1_ : Aside0 (Kd.N (Kd.slice 3 (Kd.int .i64)) 24 w32 w.heap.size (fun k_ => ((P0_0_ k_ ∨ P0_3_ k_) ∨ w.heap.size ≤ k_) ∧ some k_ ≠ (v174 : Value).ownBlock ∧ k_ ≠ gb165) v177 y176) := ⟨h1_⟩
      have n2_ : Aside0 (Kd.V (Kd.slice 3 (Kd.int .i64)) 24 w32 w.heap.size (fun k_ => ((P0_0_ k_ ∨ P0_3_ k_) ∨ w.heap.size ≤ k_) ∧ some k_ ≠ (v174 : Value).ownBlock ∧ some k_ ≠ (v177 : Value).ownBlock ∧ k_ ≠ gb165) (.slice A0_0 l0_0.length c0_0) l0_0) := ⟨h2_⟩
      have n3_ : Aside0 (Kd.V (Kd.int .i64) 3 w32 w.heap.size (fun k_ => ((P0_0_ k_ ∨ P0_3_ k_) ∨ w.heap.size ≤ k_) ∧ some k_ ≠ (v174 : Value).ownBlock ∧ some k_ ≠ (v177 : Value).ownBlock ∧ k_ ≠ gb165) (.slice A0_3 l0_3.length c0_3) l0_3) := ⟨h3_⟩
      have n4_ : Aside0 (w32.heap[gb165]? = some (.cells #[.slice A0_0 l0_0.length c0_0, .int .i64 a0_1, .int .i64 a0_2, .slice A0_3 l0_3.length c0_3, .slice A0_4 l0_4.length c0_4, .slice A0_5 l0_5.length c0_5, .int .i64 a0_6] 67 (0, 0))) := ⟨h4_⟩
      have n5_ : Aside0 (Below w.heap.size w w32) := ⟨h5_⟩
      clear HO_166000
      clear HO_166003
      clear BK165
      clear HB
      clear h0_ h1_ h2_ h3_ h4_ h5_
      have HO175 := n0_
      have HO178 := n1_
      have HO_166000 := n2_
      have HO_166003 := n3_
      have BK165 := n4_
      have HB := n5_
      clear n0_ n1_ n2_ n3_ n4_ n5_
      have hHeld : w32.cell? ⟨gb165, 0, none⟩ = some (.slice A0_0 l0_0.length c0_0) ∧ w32.cell? ⟨gb165, 1, none⟩ = some (.int .i64 a0_1) ∧ w32.cell? ⟨gb165, 2, none⟩ = some (.int .i64 a0_2) ∧ w32.cell? ⟨gb165, 3, none⟩ = some (.slice A0_3 l0_3.length c0_3) ∧ w32.cell? ⟨gb165, 4, none⟩ = some (.slice A0_4 l0_4.length c0_4) ∧ w32.cell? ⟨gb165, 5, none⟩ = some (.slice A0_5 l0_5.length c0_5) ∧ w32.cell? ⟨gb165, 6, none⟩ = some (.int .i64 a0_6) := hS_
      obtain ⟨Ao34, co34, eo34⟩ := Kd.N_slice HO178.out
      (first | subst eo34 | (injection eo34 with f1_ f2_ f3_; have f4_ := f1_.symm; have f5_ := f3_.symm; clear f1_ f2_ f3_; subst f4_; subst f5_))
      refine norm_ (a' := ?_) ?_ ?_
      rotate_left
      ·simp only [putAll, Act.put, QV, QW, QX]
       rfl
      refine one_ (i := 7) (N := some 60) #[Y1,Y1,Y1,Y1,Y1,Y1,Y1,Y1,Y0,Y0] rfl rfl (one_of HT_.out (by kernel_rfl)) (by decide) (fun K hK => ?_)
      refine Kd.N_append_rows_step (Kd.slice 3 (Kd.int .i64)) (w0 := w) w.heap.size (by rfl) (.tmp 56) (.tmp 59) 53 24 (.slice none 0 0) 24 rfl Try.underlying53 info24 rfl (by decide) (by omega) v174 y173 y176 _ _ _ (fun k_ => ((P0_0_ k_ ∨ P0_3_ k_) ∨ w.heap.size ≤ k_) ∧ k_ ≠ gb165) (fun k_ => ((fun k_ => ((P0_0_ k_ ∨ P0_3_ k_) ∨ w.heap.size ≤ k_) ∧ k_ ≠ gb165)) k_ ∧ some k_ ≠ (v174 : Value).ownBlock) rfl rfl ?aO ?aR (fun _ hk => hk) ?aF ?aB ?aS ?aL ?_
      (case aR => exact (by skip; exact Kd.N_F (Kd.N_mono (ok' := (fun k_ => ((fun k_ => ((P0_0_ k_ ∨ P0_3_ k_) ∨ w.heap.size ≤ k_) ∧ k_ ≠ gb165)) k_ ∧ some k_ ≠ (v174 : Value).ownBlock)) (HO178.out) (fun k_ hk => ⟨⟨hk.1, hk.2.2⟩, hk.2.1⟩))))
      (case aB => exact (by repeat (first | (with_reducible first | exact HB.out | apply QE | apply QC | apply QD | refine QJ ?_ GE165.out) | exact HB.out)))
      (case aF => exact (fun k_ hk => ⟨(.inr (Nat.le_trans (QK (by repeat (first | (with_reducible first | exact HB.out | apply QE | apply QC | apply QD | refine QJ ?_ GE165.out) | exact HB.out))) hk)), Kd.freshB (g := gb165) (o := _) (by (with_reducible repeat (first | refine QL ?_ _ | refine QN ?_ | refine QM ?_ _)); exact BK165.out) k_ hk⟩))
      (case aO => exact (by (with_reducible repeat (first | apply QR | apply QS | apply QU)); exact Kd.N_mono HO175.out (fun _ hk => ⟨hk.1, hk.2.2⟩)))
      (case aS => exact (QK (by repeat (first | (with_reducible first | exact HB.out | apply QE | apply QC | apply QD | refine QJ ?_ GE165.out) | exact HB.out))))
      (case aL => have := LMc23.out; omega)
      intro v180 w33 ho hb hg hat
      rw [← Ny179.out] at ho
      have n0_ := QY (Kd.V_afterv (ok := (fun k_ => ((P0_0_ k_ ∨ P0_3_ k_) ∨ w.heap.size ≤ k_) ∧ some k_ ≠ (.slice Ao34 y176.length co34 : Value).ownBlock ∧ k_ ≠ gb165)) (by (with_reducible repeat (first | apply QG | apply QH | apply QI)); exact QT HO_166000.out (fun _ hk => ⟨⟨hk.1, ⟨hk.2.2.1, hk.2.2.2⟩⟩, hk.2.1⟩)) hg hat)
      have n1_ := QY (Kd.V_afterv (ok := (fun k_ => ((P0_0_ k_ ∨ P0_3_ k_) ∨ w.heap.size ≤ k_) ∧ some k_ ≠ (.slice Ao34 y176.length co34 : Value).ownBlock ∧ k_ ≠ gb165)) (by (with_reducible repeat (first | apply QG | apply QH | apply QI)); exact QT HO_166003.out (fun _ hk => ⟨⟨hk.1, ⟨hk.2.2.1, hk.2.2.2⟩⟩, hk.2.1⟩)) hg hat)
      have n2_ := QY (blk_grown (g := gb165) (o := _) (by (with_reducible repeat (first | refine QL ?_ _ | refine QN ?_ | refine QM ?_ _)); exact BK165.out) hg (Kd.N_ne HO175.out BK165.out (by decide)))
      have n3_ := QY (Kd.N_afterv (ok := (fun k_ => ((P0_0_ k_ ∨ P0_3_ k_) ∨ w.heap.size ≤ k_) ∧ k_ ≠ gb165)) (by (with_reducible repeat (first | apply QR | apply QS | apply QU)); exact Kd.N_mono HO178.out (fun _ hk => ⟨⟨hk.1, hk.2.2⟩, hk.2.1⟩)) hg hat)
      have n4_ := QY (hb)
      have n5_ := QY (ho)
      clear HO_166000
      clear HO_166003
      clear BK165
      clear HO178
      clear HB
      clear HO175
      have HO_166000 := n0_
      have HO_166003 := n1_
      have BK165 := n2_
      have HO178 := n3_
      have HB := n4_
      have HO181 := n5_
      clear n0_ n1_ n2_ n3_ n4_ n5_
      clear ho hb hg hat
      obtain ⟨Ao35, co35, eo35⟩ := Kd.N_slice HO181.out
      (first | subst eo35 | (injection eo35 with f1_ f2_ f3_; have f4_ := f1_.symm; have f5_ := f3_.symm; clear f1_ f2_ f3_; subst f4_; subst f5_))
      refine hK.out _ _ ⟨(QB BK165.out 0).trans rfl, (QB BK165.out 1).trans rfl, (QB BK165.out 2).trans rfl, (QB BK165.out 3).trans rfl, (QB BK165.out 4).trans rfl, (QB BK165.out 5).trans rfl, (QB BK165.out 6).trans rfl⟩ (fun hHeld => ?_)
      clear hK K
      refine norm_ (a' := ?_) ?_ ?_
      rotate_left
      ·show Act.put _ (some 60) _ = _
       simp only [Act.put, QV, QW, QX, QO, QP]
       rfl
      refine one_ (i := 8) (N := some 61) #[Y1,Y1,Y1,Y1,Y1,Y1,Y1,Y1,Y1,Y0] rfl rfl (one_of HT_.out (by kernel_rfl)) (by decide) (fun K hK => ?_)
      refine goes_ Try.func155 (by kernel_rfl) rfl #[.slice Ao35 y179.length co35] (by rfl) rfl rfl (by (try simp only [List.map_toArray, List.map_cons, List.map_nil]); first | done | rfl | (simp only [List.length_drop, List.length_take]; rfl)) ?_
      with_reducible refine (spec_AllApart.calls kj1 _ _ y179 t182 _ ?side1 ?side2 A24.out).mono ?_
      (case side1 => repeat (first | exact (Kd.N_reads' HO181.out).2.2 | (with_reducible refine Kd.C_alloc ?_ _) | (with_reducible refine Kd.C_drewN ?_ _) | (with_reducible refine Kd.C_drew ?_)))
      (case side2 => exact (Kd.N_reads' HO181.out).2.1)
      rintro e w36 ⟨rfl, hb⟩
      refine ⟨_, rfl, ?_⟩
      have n0_ := QY (Kd.V_below (by (with_reducible repeat (first | apply QG | apply QH | apply QI)); exact HO_166000.out) hb)
      have n1_ := QY (Kd.V_below (by (with_reducible repeat (first | apply QG | apply QH | apply QI)); exact HO_166003.out) hb)
      have n2_ := QY (Kd.N_below (by (with_reducible repeat (first | apply QR | apply QS | apply QU)); exact HO178.out) hb)
      have n3_ := QY (Kd.N_below (by (with_reducible repeat (first | apply QR | apply QS | apply QU)); exact HO181.out) hb)
      have n4_ := QY (blk_below (g := gb165) (o := _) (by (with_reducible repeat (first | refine QL ?_ _ | refine QN ?_ | refine QM ?_ _)); exact BK165.out) hb)
      have n5_ := QY (below_step (by repeat (first | (with_reducible first | exact HB.out | apply QE | apply QC | apply QD | refine QJ ?_ GE165.out) | exact HB.out)) hb)
      clear HO_166000
      clear HO_166003
      clear HO178
      clear HO181
      clear BK165
      clear HB
      have HO_166000 := n0_
      have HO_166003 := n1_
      have HO178 := n2_
      have HO181 := n3_
      have BK165 := n4_
      have HB := n5_
      clear n0_ n1_ n2_ n3_ n4_ n5_
      (try clear hb)
      (try clear hb2)
      (try clear hk)
      (try clear hi)
      refine hK.out _ _ ⟨(QB BK165.out 0).trans rfl, (QB BK165.out 1).trans rfl, (QB BK165.out 2).trans rfl, (QB BK165.out 3).trans rfl, (QB BK165.out 4).trans rfl, (QB BK165.out 5).trans rfl, (QB BK165.out 6).trans rfl⟩ (fun hHeld => ?_)
      clear hK K
      refine norm_ (a' := ?_) ?_ ?_
      rotate_left
      ·show Act.put _ (some 61) _ = _
       simp only [Act.put, QV, QW, QX, QO, QP]
       rfl
      refine pure_ (i := 9) (N := some 62) (v := ?_) (a' := ?_) #[Y1,Y1,Y1,Y1,Y1,Y1,Y1,Y1,Y1,Y1] rfl rfl (any_of HT_.out (by kernel_rfl)) (fun _ _ _ h => h) (Or.inl ⟨by rfl, ?_⟩) ?_ ?_
      rotate_left
      ·intro w'
       go_simp
       with_reducible rfl
      rotate_left
      ·simp only [Act.put, QV, QW, QX, QO, QP]
       rfl
      refine done_ (done_of HT_.out (by kernel_rfl)) ?_
      by_cases c25 : t182 = true
      ·subst c25
       rw [if_pos rfl] at H
       have H' := QY H
       clear H
       try go_wp2
       go_loopg [4] kj1 (fun kq v4 w' => ∃ (x4_2 : Int), v4 = .int .i64 x4_2 ∧ Aside0 (spec_IsDeal.l0 kq (l0_0.length : Int) x4_2 l0_0 a0_1 a0_2 l0_3 l0_4 l0_5 a0_6 = some r) ∧ Aside0 (kq ≤ kj1) ∧ Aside0 (Kd.V (Kd.slice 3 (Kd.int .i64)) 24 w' w.heap.size (fun k_ => ((P0_0_ k_ ∨ P0_3_ k_) ∨ w.heap.size ≤ k_) ∧ k_ ≠ gb165) (.slice A0_0 l0_0.length c0_0) l0_0) ∧ Aside0 (Kd.V (Kd.int .i64) 3 w' w.heap.size (fun k_ => ((P0_0_ k_ ∨ P0_3_ k_) ∨ w.heap.size ≤ k_) ∧ k_ ≠ gb165) (.slice A0_3 l0_3.length c0_3) l0_3) ∧ Aside0 (w'.heap[gb165]? = some (.cells #[(.slice A0_0 l0_0.length c0_0), .int .i64 a0_1, .int .i64 a0_2, (.slice A0_3 l0_3.length c0_3), (.slice A0_4 l0_4.length c0_4), (.slice A0_5 l0_5.length c0_5), .int .i64 a0_6] 67 (0, 0))) ∧ Aside0 (Below w.heap.size w w'))
       case atStart => exact ⟨(0), (by first | rfl | (simp; done) | (simp [*]; done)), H', ⟨Nat.le_refl _⟩, ⟨by (with_reducible repeat (first | apply QG | apply QH | apply QI)); exact QT HO_166000.out (fun _ hk => ⟨hk.1.1, hk.1.2.2⟩)⟩, ⟨by (with_reducible repeat (first | apply QG | apply QH | apply QI)); exact QT HO_166003.out (fun _ hk => ⟨hk.1.1, hk.1.2.2⟩)⟩, ⟨by (with_reducible repeat (first | refine QL ?_ _ | refine QN ?_ | refine QM ?_ _)); exact BK165.out⟩, ⟨by repeat (first | (with_reducible first | exact HB.out | apply QE | apply QC | apply QD | refine QJ ?_ GE165.out) | exact HB.out)⟩⟩
       case round =>
        clear H'
        try clear c1
        try clear c2
        try clear p2
        try clear c7
        try clear c7b0
        try clear c7b1
        try clear c7b2
        try clear c8
        try clear c8b0
        try clear c8b1
        try clear c8b2
        try clear c9
        try clear c10
        try clear c11
        try clear c12
        try clear c14
        try clear c15
        try clear c21
        try clear c22
        try clear c23
        try clear c25
        try clear hcz15_0
        try clear hcz15_1
        try clear hcz15_2
        try clear hcz15_3
        try clear hcz15_4
        try clear hcz15_5
        try clear hcz15_6
        try clear hcz16_0
        try clear hcz16_1
        try clear hcz16_2
        try clear hcz16_3
        try clear hcz16_4
        try clear hcz16_5
        try clear hcz16_6
        try clear hcz17_0
        try clear hcz17_1
        try clear hcz17_2
        try clear hcz17_3
        try clear hcz17_4
        try clear hcz17_5
        try clear hcz17_6
        try clear hcz18_0
        try clear hcz18_1
        try clear hcz18_2
        try clear hcz18_3
        try clear hcz18_4
        try clear hcz18_5
        try clear hcz18_6
        try clear hcz19_0
        try clear hcz19_1
        try clear hcz19_2
        try clear hcz19_3
        try clear hcz19_4
        try clear hcz19_5
        try clear hcz19_6
        try clear hcz20_0
        try clear hcz20_1
        try clear hcz20_2
        try clear hcz20_3
        try clear hcz20_4
        try clear hcz20_5
        try clear hcz20_6
        try clear hcz4_0
        try clear hcz4_1
        try clear hcz4_2
        try clear hcz4_3
        try clear hcz4_4
        try clear hcz4_5
        try clear hcz4_6
        try clear hfz15_0
        try clear hfz15_1
        try clear hfz15_2
        try clear hfz15_3
        try clear hfz15_4
        try clear hfz15_5
        try clear hfz15_6
        try clear hfz16_0
        try clear hfz16_1
        try clear hfz16_2
        try clear hfz16_3
        try clear hfz16_4
        try clear hfz16_5
        try clear hfz16_6
        try clear hfz17_0
        try clear hfz17_1
        try clear hfz17_2
        try clear hfz17_3
        try clear hfz17_4
        try clear hfz17_5
        try clear hfz17_6
        try clear hfz18_0
        try clear hfz18_1
        try clear hfz18_2
        try clear hfz18_3
        try clear hfz18_4
        try clear hfz18_5
        try clear hfz18_6
        try clear hfz19_0
        try clear hfz19_1
        try clear hfz19_2
        try clear hfz19_3
        try clear hfz19_4
        try clear hfz19_5
        try clear hfz19_6
        try clear hfz20_0
        try clear hfz20_1
        try clear hfz20_2
        try clear hfz20_3
        try clear hfz20_4
        try clear hfz20_5
        try clear hfz20_6
        try clear hfz4_0
        try clear hfz4_1
        try clear hfz4_2
        try clear hfz4_3
        try clear hfz4_4
        try clear hfz4_5
        try clear hfz4_6
        obtain ⟨x4_2, rfl, HA, HK2, HO_166000, HO_166003, BK165, HB⟩ := hrel
        cases gk with
        | zero => exact absurd HA.out (by simp [spec_IsDeal.l0])
        | succ k2 =>
         have H := HA.out
         clear HA
         simp only [spec_IsDeal.l0] at H
         by_cases c37 : x4_2 < (l0_0.length : Int)
         ·rw [if_pos c37] at H
          have c37b0 : decide (x4_2 < (l0_0.length : Int)) = true := decide_eq_true c37
          clear c37
          have HC38 := QY H
          clear H
          go_upto_region 9 with (fail)
          go_cut [81] (fun v81 wc => ∃ (kq : Nat) (x81_37 : Bool), v81 = .bool x81_37 ∧ Aside0 (spec_IsDeal.j2 kq (l0_0.length : Int) x4_2 x81_37 l0_0 a0_1 a0_2 l0_3 l0_4 l0_5 a0_6 = some r) ∧ Aside0 (kq ≤ k2) ∧ Aside0 (Kd.V (Kd.slice 3 (Kd.int .i64)) 24 wc w.heap.size (fun k_ => ((P0_0_ k_ ∨ P0_3_ k_) ∨ w.heap.size ≤ k_) ∧ k_ ≠ gb165) (.slice A0_0 l0_0.length c0_0) l0_0) ∧ Aside0 (Kd.V (Kd.int .i64) 3 wc w.heap.size (fun k_ => ((P0_0_ k_ ∨ P0_3_ k_) ∨ w.heap.size ≤ k_) ∧ k_ ≠ gb165) (.slice A0_3 l0_3.length c0_3) l0_3) ∧ Aside0 (wc.heap[gb165]? = some (.cells #[(.slice A0_0 l0_0.length c0_0), .int .i64 a0_1, .int .i64 a0_2, (.slice A0_3 l0_3.length c0_3), (.slice A0_4 l0_4.length c0_4), (.slice A0_5 l0_5.length c0_5), .int .i64 a0_6] 67 (0, 0))) ∧ Aside0 (Below w.heap.size w wc))
          case first =>
           have H := HC38.out
           clear HC38
           by_cases c39 : 0 ≤ x4_2
           ·rw [if_pos c39] at H
            have c39b0 : decide (0 ≤ x4_2) = true := decide_eq_true c39
            clear c39
            (first | rw [c39b0] | (simp only [QO, QP]; rw [c39b0]) | skip)
            by_cases c40 : x4_2 < (l0_4.length : Int)
            ·rw [if_pos c40] at H
             have c40b0 : decide (x4_2 < (l0_4.length : Int)) = true := decide_eq_true c40
             clear c40
             have hcz42_0 : wr.cell? ⟨gb165, 0, none⟩ = some (.slice A0_0 l0_0.length c0_0) := (QB BK165.out 0).trans rfl
             have hcz42_1 : wr.cell? ⟨gb165, 1, none⟩ = some (.int .i64 a0_1) := (QB BK165.out 1).trans rfl
             have hcz42_2 : wr.cell? ⟨gb165, 2, none⟩ = some (.int .i64 a0_2) := (QB BK165.out 2).trans rfl
             have hcz42_3 : wr.cell? ⟨gb165, 3, none⟩ = some (.slice A0_3 l0_3.length c0_3) := (QB BK165.out 3).trans rfl
             have hcz42_4 : wr.cell? ⟨gb165, 4, none⟩ = some (.slice A0_4 l0_4.length c0_4) := (QB BK165.out 4).trans rfl
             have hcz42_5 : wr.cell? ⟨gb165, 5, none⟩ = some (.slice A0_5 l0_5.length c0_5) := (QB BK165.out 5).trans rfl
             have hcz42_6 : wr.cell? ⟨gb165, 6, none⟩ = some (.int .i64 a0_6) := (QB BK165.out 6).trans rfl
             have hfz42_0 := QF BK165.out 0
             have hfz42_1 := QF BK165.out 1
             have hfz42_2 := QF BK165.out 2
             have hfz42_3 := QF BK165.out 3
             have hfz42_4 := QF BK165.out 4
             have hfz42_5 := QF BK165.out 5
             have hfz42_6 := QF BK165.out 6
             have p183 : 0 ≤ (x4_2 : Int) := of_decide_eq_true (by first | (with_reducible assumption) | assumption)
             have q183 : x4_2 < (l0_4.length : Int) := of_decide_eq_true (by first | (with_reducible assumption) | assumption)
             obtain ⟨ad183, e183, hx183_0⟩ := Kd.at_int HR0_4.out x4_2 p183 q183
             cases e183
             replace hx183_0 := (HB.out.cell (World.block_lt_of_cell? w _ hx183_0)).trans hx183_0
             replace p183 := eq_true p183
             replace q183 := eq_true q183
             by_cases c41 : (rd l0_4 x4_2) < 0
             ·rw [if_pos c41] at H
              have c41b0 : decide ((rd l0_4 x4_2) < 0) = true := decide_eq_true c41
              clear c41
              have H' := QY H
              clear H
              (try simp only [c41b0])
              go_wp2
              go_meet
              case rel => exact ⟨_, (true), (by first | rfl | (simp; done) | (simp [*]; done)), H', ⟨by have := HJ1.out; have := HK2.out; first | omega | exact Nat.le_refl _⟩, ⟨by (with_reducible repeat (first | apply QG | apply QH | apply QI)); exact HO_166000.out⟩, ⟨by (with_reducible repeat (first | apply QG | apply QH | apply QI)); exact HO_166003.out⟩, ⟨by (with_reducible repeat (first | refine QL ?_ _ | refine QN ?_ | refine QM ?_ _)); exact BK165.out⟩, ⟨by repeat (first | (with_reducible first | exact HB.out | apply QE | apply QC | apply QD | refine QJ ?_ GE165.out) | exact HB.out)⟩⟩
             ·rw [if_neg c41] at H
              have c41b0 : decide ((rd l0_4 x4_2) < 0) = false := decide_eq_false c41
              clear c41
              (try simp only [c41b0])
              by_cases c43 : x4_2 < (l0_5.length : Int)
              ·rw [if_pos c43] at H
               have c43b0 : decide (x4_2 < (l0_5.length : Int)) = true := decide_eq_true c43
               clear c43
               have H' := QY H
               clear H
               have p184 : 0 ≤ (x4_2 : Int) := of_decide_eq_true (by first | (with_reducible assumption) | assumption)
               have q184 : x4_2 < (l0_5.length : Int) := of_decide_eq_true (by first | (with_reducible assumption) | assumption)
               obtain ⟨ad184, e184, hx184_0⟩ := Kd.at_int HR0_5.out x4_2 p184 q184
               cases e184
               replace hx184_0 := (HB.out.cell (World.block_lt_of_cell? w _ hx184_0)).trans hx184_0
               replace p184 := eq_true p184
               replace q184 := eq_true q184
               go_wp2
               go_meet
               case rel => exact ⟨_, (decide ((rd l0_5 x4_2) < 0)), (by first | rfl | (simp; done) | (simp [*]; done)), H', ⟨by have := HJ1.out; have := HK2.out; first | omega | exact Nat.le_refl _⟩, ⟨by (with_reducible repeat (first | apply QG | apply QH | apply QI)); exact HO_166000.out⟩, ⟨by (with_reducible repeat (first | apply QG | apply QH | apply QI)); exact HO_166003.out⟩, ⟨by (with_reducible repeat (first | refine QL ?_ _ | refine QN ?_ | refine QM ?_ _)); exact BK165.out⟩, ⟨by repeat (first | (with_reducible first | exact HB.out | apply QE | apply QC | apply QD | refine QJ ?_ GE165.out) | exact HB.out)⟩⟩
              ·rw [if_neg c43] at H
               exact absurd H (by simp)
            ·rw [if_neg c40] at H
             exact absurd H (by simp)
           ·rw [if_neg c39] at H
            exact absurd H (by simp)
          case rest =>
           clear HC38
           try clear c1
           try clear p1
           try clear q1
           try clear hx1
           try clear c2
           try clear p2
           try clear c3
           try clear c4
           try clear c7
           try clear c7b0
           try clear c7b1
           try clear c7b2
           try clear c8
           try clear c8b0
           try clear c8b1
           try clear c8b2
           try clear c9
           try clear c10
           try clear c11
           try clear c12
           try clear c14
           try clear c15
           try clear p18
           try clear q18
           try clear hx18
           try clear c21
           try clear c22
           try clear c23
           try clear c25
           try clear c37
           try clear c37b0
           try clear c39
           try clear c39b0
           try clear c40
           try clear c40b0
           try clear c41
           try clear c41b0
           try clear c43
           try clear c43b0
           try clear hcz15_0
           try clear hcz15_1
           try clear hcz15_2
           try clear hcz15_3
           try clear hcz15_4
           try clear hcz15_5
           try clear hcz15_6
           try clear hcz16_0
           try clear hcz16_1
           try clear hcz16_2
           try clear hcz16_3
           try clear hcz16_4
           try clear hcz16_5
           try clear hcz16_6
           try clear hcz17_0
           try clear hcz17_1
           try clear hcz17_2
           try clear hcz17_3
           try clear hcz17_4
           try clear hcz17_5
           try clear hcz17_6
           try clear hcz18_0
           try clear hcz18_1
           try clear hcz18_2
           try clear hcz18_3
           try clear hcz18_4
           try clear hcz18_5
           try clear hcz18_6
           try clear hcz19_0
           try clear hcz19_1
           try clear hcz19_2
           try clear hcz19_3
           try clear hcz19_4
           try clear hcz19_5
           try clear hcz19_6
           try clear hcz20_0
           try clear hcz20_1
           try clear hcz20_2
           try clear hcz20_3
           try clear hcz20_4
           try clear hcz20_5
           try clear hcz20_6
           try clear hcz42_0
           try clear hcz42_1
           try clear hcz42_2
           try clear hcz42_3
           try clear hcz42_4
           try clear hcz42_5
           try clear hcz42_6
           try clear hcz44_0
           try clear hcz44_1
           try clear hcz44_2
           try clear hcz44_3
           try clear hcz44_4
           try clear hcz44_5
           try clear hcz44_6
           try clear hcz4_0
           try clear hcz4_1
           try clear hcz4_2
           try clear hcz4_3
           try clear hcz4_4
           try clear hcz4_5
           try clear hcz4_6
           try clear hfz15_0
           try clear hfz15_1
           try clear hfz15_2
           try clear hfz15_3
           try clear hfz15_4
           try clear hfz15_5
           try clear hfz15_6
           try clear hfz16_0
           try clear hfz16_1
           try clear hfz16_2
           try clear hfz16_3
           try clear hfz16_4
           try clear hfz16_5
           try clear hfz16_6
           try clear hfz17_0
           try clear hfz17_1
           try clear hfz17_2
           try clear hfz17_3
           try clear hfz17_4
           try clear hfz17_5
           try clear hfz17_6
           try clear hfz18_0
           try clear hfz18_1
           try clear hfz18_2
           try clear hfz18_3
           try clear hfz18_4
           try clear hfz18_5
           try clear hfz18_6
           try clear hfz19_0
           try clear hfz19_1
           try clear hfz19_2
           try clear hfz19_3
           try clear hfz19_4
           try clear hfz19_5
           try clear hfz19_6
           try clear hfz20_0
           try clear hfz20_1
           try clear hfz20_2
           try clear hfz20_3
           try clear hfz20_4
           try clear hfz20_5
           try clear hfz20_6
           try clear hfz42_0
           try clear hfz42_1
           try clear hfz42_2
           try clear hfz42_3
           try clear hfz42_4
           try clear hfz42_5
           try clear hfz42_6
           try clear hfz44_0
           try clear hfz44_1
           try clear hfz44_2
           try clear hfz44_3
           try clear hfz44_4
           try clear hfz44_5
           try clear hfz44_6
           try clear hfz4_0
           try clear hfz4_1
           try clear hfz4_2
           try clear hfz4_3
           try clear hfz4_4
           try clear hfz4_5
           try clear hfz4_6
           try clear hx183_0
           try clear hx184_0
           try clear p183
           try clear p184
           try clear p2
           try clear q183
           try clear q184
           obtain ⟨kq, x81_37, rfl, HA, HJ37, HO_166000, HO_166003, BK165, HB⟩ := hcut
           cases kq with
           | zero => exact absurd HA.out (by simp [spec_IsDeal.j2])
           | succ kj37 =>
            have H := HA.out
            clear HA
            simp only [spec_IsDeal.j2] at H
            by_cases c45 : x81_37 = true
            ·subst c45
             rw [if_pos rfl] at H
             obtain rfl := Option.some.inj H
             go_wp2
             go_ret
             exact ⟨by first | rfl | (simp [errW_none, errW_some] <;> rfl) | (simp [*, errW_none, errW_some] <;> rfl), by repeat (first | (with_reducible first | exact HB.out | apply QE | apply QC | apply QD | refine QJ ?_ GE165.out) | exact HB.out)⟩
            ·replace c45 := Bool.eq_false_iff.mpr c45
             subst c45
             rw [if_neg (show ¬ (false = true) by decide)] at H
             replace H := Option.bind_eq_some_iff.mp H
             obtain ⟨t185, A460, H⟩ := H
             have A46 := QY A460
             clear A460
             by_cases c47 : (l0_0.length : Int) = 0
             ·rw [if_pos c47] at H
              exact absurd H (by simp)
             ·rw [if_neg c47] at H
              have c47b0 : ((l0_0.length : Int) == 0) = false := beq_eq_false_iff_ne.mpr c47
              have c47b1 : ((l0_0.length : Int) != 0) = true := bne_iff_ne.mpr c47
              have c47b2 : ¬ (l0_0 = []) := fun h_ => c47 (by rw [h_]; rfl)
              try go_wp2
              have n0_ := QY (QI HO_166000.out)
              have n1_ := QY (QI HO_166003.out)
              have n2_ := QY (QN BK165.out)
              have n3_ := QY (QD HB.out)
              clear HO_166000
              clear HO_166003
              clear BK165
              clear HB
              have HO_166000 := n0_
              have HO_166003 := n1_
              have BK165 := n2_
              have HB := n3_
              clear n0_ n1_ n2_ n3_
              refine start_ (n := 7) (S := fun w' => w'.cell? ⟨gb165, 0, none⟩ = some (.slice A0_0 l0_0.length c0_0) ∧ w'.cell? ⟨gb165, 1, none⟩ = some (.int .i64 a0_1) ∧ w'.cell? ⟨gb165, 2, none⟩ = some (.int .i64 a0_2) ∧ w'.cell? ⟨gb165, 3, none⟩ = some (.slice A0_3 l0_3.length c0_3) ∧ w'.cell? ⟨gb165, 4, none⟩ = some (.slice A0_4 l0_4.length c0_4) ∧ w'.cell? ⟨gb165, 5, none⟩ = some (.slice A0_5 l0_5.length c0_5) ∧ w'.cell? ⟨gb165, 6, none⟩ = some (.int .i64 a0_6)) (ds := []) #[Y0,Y0,Y0,Y0,Y0,Y0,Y0] (by kernel_rfl) rfl rfl ⟨(QB BK165.out 0).trans rfl, (QB BK165.out 1).trans rfl, (QB BK165.out 2).trans rfl, (QB BK165.out 3).trans rfl, (QB BK165.out 4).trans rfl, (QB BK165.out 5).trans rfl, (QB BK165.out 6).trans rfl⟩ (fun hHeld => ?_)
              generalize wc.drew = w52 at HO_166000 HO_166003 BK165 HB hHeld ⊢
              refine pure_ (i := 0) (N := some 82) (v := ?_) (a' := ?_) #[Y1,Y0,Y0,Y0,Y0,Y0,Y0] rfl rfl (by kernel_rfl) (fun _ _ _ h => h) (Or.inl ⟨by rfl, ?_⟩) ?_ ?_
              rotate_left
              ·intro w'
               go_simp
               with_reducible rfl
              rotate_left
              ·simp only [Act.put, QV, QW, QX, QO, QP]
               rfl
              refine pure_ (i := 2) (N := some 84) (v := ?_) (a' := ?_) #[Y1,Y0,Y1,Y0,Y0,Y0,Y0] rfl rfl (by kernel_rfl) (fun _ _ _ h => h) (Or.inl ⟨by rfl, ?_⟩) ?_ ?_
              rotate_left
              ·intro w'
               go_simp
               with_reducible rfl
              rotate_left
              ·simp only [Act.put, QV, QW, QX, QO, QP]
               rfl
              refine take_ (i := 1) (N := some 83) (v := ?_) (a' := ?_) #[Y1,Y1,Y1,Y0,Y0,Y0,Y0] rfl rfl (by kernel_rfl) (fun _ _ _ h => h) (Or.inl ⟨by rfl, ?_⟩) hHeld ?_ ?_
              rotate_left
              ·rintro w' ⟨s0, s1, s2, s3, s4, s5, s6⟩
               go_simp
               with_reducible rfl
              rotate_left
              ·simp only [Act.put, QV, QW, QX, QO, QP]
               rfl
              refine take_ (i := 3) (N := some 85) (v := ?_) (a' := ?_) #[Y1,Y1,Y1,Y1,Y0,Y0,Y0] rfl rfl (by kernel_rfl) (fun _ _ _ h => h) (Or.inl ⟨by rfl, ?_⟩) hHeld ?_ ?_
              rotate_left
              ·rintro w' ⟨s0, s1, s2, s3, s4, s5, s6⟩
               go_simp
               with_reducible rfl
              rotate_left
              ·simp only [Act.put, QV, QW, QX, QO, QP]
               rfl
              refine one_ (i := 4) (N := some 86) #[Y1,Y1,Y1,Y1,Y1,Y0,Y0] rfl rfl (by kernel_rfl) (by decide) (fun K hK => ?_)
              refine goes_ Try.func156 (by kernel_rfl) rfl #[.slice A0_4 l0_4.length c0_4] (by rfl) rfl rfl (by (try simp only [List.map_toArray, List.map_cons, List.map_nil]); first | done | rfl | (simp only [List.length_drop, List.length_take]; rfl)) ?_
              with_reducible refine (spec_l12Sum.calls kj37 _ _ l0_4 t185 _ ?side1 ?side2 A46.out).mono ?_
              (case side1 => repeat (first | exact (Kd.C_below HR0_4.out HB.out) | (with_reducible refine Kd.C_alloc ?_ _) | (with_reducible refine Kd.C_drewN ?_ _) | (with_reducible refine Kd.C_drew ?_)))
              (case side2 => exact HC0_4.out)
              rintro e w' ⟨rfl, ⟨nd, rfl⟩⟩
              refine ⟨_, rfl, ?_⟩
              refine hK.out _ _ ⟨(QB BK165.out 0).trans rfl, (QB BK165.out 1).trans rfl, (QB BK165.out 2).trans rfl, (QB BK165.out 3).trans rfl, (QB BK165.out 4).trans rfl, (QB BK165.out 5).trans rfl, (QB BK165.out 6).trans rfl⟩ (fun hHeld => ?_)
              clear hK K
              refine norm_ (a' := ?_) ?_ ?_
              rotate_left
              ·show Act.put _ (some 86) _ = _
               simp only [Act.put, QV, QW, QX, QO, QP]
               rfl
              refine pure_ (i := 5) (N := some 87) (v := ?_) (a' := ?_) #[Y1,Y1,Y1,Y1,Y1,Y1,Y0] rfl rfl (by kernel_rfl) (fun _ _ _ h => h) (Or.inl ⟨by rfl, ?_⟩) ?_ ?_
              rotate_left
              ·intro w'
               go_simp
               with_reducible rfl
              rotate_left
              ·simp only [Act.put, QV, QW, QX, QO, QP]
               rfl
              refine pure_ (i := 6) (N := some 5) (v := ?_) (a' := ?_) #[Y1,Y1,Y1,Y1,Y1,Y1,Y1] rfl rfl (by kernel_rfl) (fun _ _ _ h => h) (Or.inl ⟨by rfl, ?_⟩) ?_ ?_
              rotate_left
              ·intro w'
               go_simp
               with_reducible rfl
              rotate_left
              ·simp only [Act.put, QV, QW, QX, QO, QP]
               rfl
              refine done_ (by kernel_rfl) ?_
              try go_wp2
              (try (rw [drewN_self w52]; generalize hq_ : World.drewN w52 _ = w52; have n0_ : Aside0 (Kd.V (Kd.slice 3 (Kd.int .i64)) 24 w52 w.heap.size (fun k_ => ((P0_0_ k_ ∨ P0_3_ k_) ∨ w.heap.size ≤ k_) ∧ k_ ≠ gb165) (.slice A0_0 l0_0.length c0_0) l0_0) := ⟨by rw [← hq_]; exact (by (with_reducible repeat (first | apply QG | apply QH | apply QI)); exact HO_166000.out)⟩; have n1_ : Aside0 (Kd.V (Kd.int .i64) 3 w52 w.heap.size (fun k_ => ((P0_0_ k_ ∨ P0_3_ k_) ∨ w.heap.size ≤ k_) ∧ k_ ≠ gb165) (.slice A0_3 l0_3.length c0_3) l0_3) := ⟨by rw [← hq_]; exact (by (with_reducible repeat (first | apply QG | apply QH | apply QI)); exact HO_166003.out)⟩; have n2_ : Aside0 (w52.heap[gb165]? = some (.cells #[.slice A0_0 l0_0.length c0_0, .int .i64 a0_1, .int .i64 a0_2, .slice A0_3 l0_3.length c0_3, .slice A0_4 l0_4.length c0_4, .slice A0_5 l0_5.length c0_5, .int .i64 a0_6] 67 (0, 0))) := ⟨by rw [← hq_]; exact (by (with_reducible repeat (first | refine QL ?_ _ | refine QN ?_ | refine QM ?_ _)); exact BK165.out)⟩; have n3_ : Aside0 (Below w.heap.size w w52) := ⟨by rw [← hq_]; exact (by repeat (first | (with_reducible first | exact HB.out | apply QE | apply QC | apply QD | refine QJ ?_ GE165.out) | exact HB.out))⟩; clear HO_166000 HO_166003 BK165 HB hq_; have HO_166000 := n0_; have HO_166003 := n1_; have BK165 := n2_; have HB := n3_; clear n0_ n1_ n2_ n3_))
              have n0_ := QY (QI HO_166000.out)
              have n1_ := QY (QI HO_166003.out)
              have n2_ := QY (QN BK165.out)
              have n3_ := QY (QD HB.out)
              clear HO_166000
              clear HO_166003
              clear BK165
              clear HB
              have HO_166000 := n0_
              have HO_166003 := n1_
              have BK165 := n2_
              have HB := n3_
              clear n0_ n1_ n2_ n3_
              refine start_ (n := 12) (S := fun w' => w'.cell? ⟨gb165, 0, none⟩ = some (.slice A0_0 l0_0.length c0_0) ∧ w'.cell? ⟨gb165, 1, none⟩ = some (.int .i64 a0_1) ∧ w'.cell? ⟨gb165, 2, none⟩ = some (.int .i64 a0_2) ∧ w'.cell? ⟨gb165, 3, none⟩ = some (.slice A0_3 l0_3.length c0_3) ∧ w'.cell? ⟨gb165, 4, none⟩ = some (.slice A0_4 l0_4.length c0_4) ∧ w'.cell? ⟨gb165, 5, none⟩ = some (.slice A0_5 l0_5.length c0_5) ∧ w'.cell? ⟨gb165, 6, none⟩ = some (.int .i64 a0_6)) (ds := []) #[Y0,Y0,Y0,Y0,Y0,Y0,Y0,Y0,Y0,Y0,Y0,Y0] (by kernel_rfl) rfl rfl ⟨(QB BK165.out 0).trans rfl, (QB BK165.out 1).trans rfl, (QB BK165.out 2).trans rfl, (QB BK165.out 3).trans rfl, (QB BK165.out 4).trans rfl, (QB BK165.out 5).trans rfl, (QB BK165.out 6).trans rfl⟩ (fun hHeld => ?_); refine with_tabW spec_IsDeal.tab12 spec_IsDeal.bits12 (fun HT_ HW_ => ?_)
              generalize w52.drew = w53 at HO_166000 HO_166003 BK165 HB hHeld ⊢
              refine pure_ (i := 0) (N := some 88) (v := ?_) (a' := ?_) #[Y1,Y0,Y0,Y0,Y0,Y0,Y0,Y0,Y0,Y0,Y0,Y0] rfl rfl (any_of HT_.out (by kernel_rfl)) (fun _ _ _ h => h) (Or.inl ⟨by rfl, ?_⟩) ?_ ?_
              rotate_left
              ·intro w'
               go_simp
               with_reducible rfl
              rotate_left
              ·simp only [Act.put, QV, QW, QX, QO, QP]
               rfl
              refine pure_ (i := 1) (N := some 89) (v := ?_) (a' := ?_) #[Y1,Y1,Y0,Y0,Y0,Y0,Y0,Y0,Y0,Y0,Y0,Y0] rfl rfl (any_of HT_.out (by kernel_rfl)) (fun _ _ _ h => h) (Or.inl ⟨by rfl, ?_⟩) ?_ ?_
              rotate_left
              ·intro w'
               go_simp
               with_reducible rfl
              rotate_left
              ·simp only [Act.put, QV, QW, QX, QO, QP]
               rfl
              refine pure_ (i := 4) (N := some 92) (v := ?_) (a' := ?_) #[Y1,Y1,Y0,Y0,Y1,Y0,Y0,Y0,Y0,Y0,Y0,Y0] rfl rfl (any_of HT_.out (by kernel_rfl)) (fun _ _ _ h => h) (Or.inl ⟨by rfl, ?_⟩) ?_ ?_
              rotate_left
              ·intro w'
               go_simp
               with_reducible rfl
              rotate_left
              ·simp only [Act.put, QV, QW, QX, QO, QP]
               rfl
              refine pure_ (i := 6) (N := some 94) (v := ?_) (a' := ?_) #[Y1,Y1,Y0,Y0,Y1,Y0,Y1,Y0,Y0,Y0,Y0,Y0] rfl rfl (any_of HT_.out (by kernel_rfl)) (fun _ _ _ h => h) (Or.inl ⟨by rfl, ?_⟩) ?_ ?_
              rotate_left
              ·intro w'
               go_simp
               with_reducible rfl
              rotate_left
              ·simp only [Act.put, QV, QW, QX, QO, QP]
               rfl
              refine pure_ (i := 8) (N := some 96) (v := ?_) (a' := ?_) #[Y1,Y1,Y0,Y0,Y1,Y0,Y1,Y0,Y1,Y0,Y0,Y0] rfl rfl (any_of HT_.out (by kernel_rfl)) (fun _ _ _ h => h) (Or.inl ⟨by rfl, ?_⟩) ?_ ?_
              rotate_left
              ·intro w'
               go_simp
               with_reducible rfl
              rotate_left
              ·simp only [Act.put, QV, QW, QX, QO, QP]
               rfl
              refine take_ (i := 2) (N := some 90) (v := ?_) (a' := ?_) #[Y1,Y1,Y1,Y0,Y1,Y0,Y1,Y0,Y1,Y0,Y0,Y0] rfl rfl (take_ofW HT_.out HW_.out (by kernel_rfl)) (fun _ _ _ h => h) (Or.inl ⟨by rfl, ?_⟩) hHeld ?_ ?_
              rotate_left
              ·rintro w' ⟨s0, s1, s2, s3, s4, s5, s6⟩
               go_simp
               with_reducible rfl
              rotate_left
              ·simp only [Act.put, QV, QW, QX, QO, QP]
               rfl
              refine pure_ (i := 3) (N := some 91) (v := ?_) (a' := ?_) #[Y1,Y1,Y1,Y1,Y1,Y0,Y1,Y0,Y1,Y0,Y0,Y0] rfl rfl (any_of HT_.out (by kernel_rfl)) (fun _ _ _ h => h) (Or.inl ⟨by rfl, ?_⟩) ?_ ?_
              rotate_left
              ·intro w'
               go_simp
               with_reducible rfl
              rotate_left
              ·simp only [Act.put, QV, QW, QX, QO, QP]
               rfl
              refine pure_ (i := 5) (N := some 93) (v := ?_) (a' := ?_) #[Y1,Y1,Y1,Y1,Y1,Y1,Y1,Y0,Y1,Y0,Y0,Y0] rfl rfl (any_of HT_.out (by kernel_rfl)) (fun _ _ _ h => h) (Or.inl ⟨by rfl, ?_⟩) ?_ ?_
              rotate_left
              ·intro w'
               go_simp
               with_reducible rfl
              rotate_left
              ·simp only [Act.put, QV, QW, QX, QO, QP]
               rfl
              refine pure_ (i := 7) (N := some 95) (v := ?_) (a' := ?_) #[Y1,Y1,Y1,Y1,Y1,Y1,Y1,Y1,Y1,Y0,Y0,Y0] rfl rfl (any_of HT_.out (by kernel_rfl)) (fun _ _ _ h => h) (Or.inl ⟨by rfl, ?_⟩) ?_ ?_
              rotate_left
              ·intro w'
               go_simp
               with_reducible rfl
              rotate_left
              ·simp only [Act.put, QV, QW, QX, QO, QP]
               rfl
              refine take_ (i := 9) (N := some 97) (v := ?_) (a' := ?_) #[Y1,Y1,Y1,Y1,Y1,Y1,Y1,Y1,Y1,Y1,Y0,Y0] rfl rfl (take_ofW HT_.out HW_.out (by kernel_rfl)) (fun _ _ _ h => h) (Or.inl ⟨by rfl, ?_⟩) hHeld ?_ ?_
              rotate_left
              ·rintro w' ⟨s0, s1, s2, s3, s4, s5, s6⟩
               go_simp
               with_reducible rfl
              rotate_left
              ·simp only [Act.put, QV, QW, QX, QO, QP]
               rfl
              refine pure_ (i := 10) (N := some 98) (v := ?_) (a' := ?_) #[Y1,Y1,Y1,Y1,Y1,Y1,Y1,Y1,Y1,Y1,Y1,Y0] rfl rfl (any_of HT_.out (by kernel_rfl)) (fun _ _ _ h => h) (Or.inl ⟨by rfl, ?_⟩) ?_ ?_
              rotate_left
              ·intro w'
               go_simp
               with_reducible rfl
              rotate_left
              ·simp only [Act.put, QV, QW, QX, QO, QP]
               rfl
              by_cases c48 : (Int.tmod (wrap64 ((wrap64 (x4_2 - a0_1)) + (l0_0.length : Int))) (l0_0.length : Int)) < (l0_3.length : Int)
              ·rw [if_pos c48] at H
               have c48b0 : decide ((Int.tmod (wrap64 ((wrap64 (x4_2 - a0_1)) + (l0_0.length : Int))) (l0_0.length : Int)) < (l0_3.length : Int)) = true := decide_eq_true c48
               clear c48
               (try simp only [c48b0])
               by_cases c49 : 0 ≤ x4_2
               ·rw [if_pos c49] at H
                have c49b0 : decide (0 ≤ x4_2) = true := decide_eq_true c49
                clear c49
                by_cases c50 : x4_2 < (l0_0.length : Int)
                ·rw [if_pos c50] at H
                 have c50b0 : decide (x4_2 < (l0_0.length : Int)) = true := decide_eq_true c50
                 clear c50
                 refine pure_ (i := 11) (N := some 99) (v := ?_) (a' := ?_) #[Y1,Y1,Y1,Y1,Y1,Y1,Y1,Y1,Y1,Y1,Y1,Y1] rfl rfl (any_of HT_.out (by kernel_rfl)) (fun _ _ _ h => h) (Or.inl ⟨by rfl, ?_⟩) ?_ ?_
                 rotate_left
                 ·intro w'
                  go_simp
                  with_reducible rfl
                 rotate_left
                 ·simp only [Act.put, QV, QW, QX, QO, QP]
                  rfl
                 refine done_ (done_of HT_.out (by kernel_rfl)) ?_
                 have hcz54_0 : w53.cell? ⟨gb165, 0, none⟩ = some (.slice A0_0 l0_0.length c0_0) := (QB BK165.out 0).trans rfl
                 have hcz54_1 : w53.cell? ⟨gb165, 1, none⟩ = some (.int .i64 a0_1) := (QB BK165.out 1).trans rfl
                 have hcz54_2 : w53.cell? ⟨gb165, 2, none⟩ = some (.int .i64 a0_2) := (QB BK165.out 2).trans rfl
                 have hcz54_3 : w53.cell? ⟨gb165, 3, none⟩ = some (.slice A0_3 l0_3.length c0_3) := (QB BK165.out 3).trans rfl
                 have hcz54_4 : w53.cell? ⟨gb165, 4, none⟩ = some (.slice A0_4 l0_4.length c0_4) := (QB BK165.out 4).trans rfl
                 have hcz54_5 : w53.cell? ⟨gb165, 5, none⟩ = some (.slice A0_5 l0_5.length c0_5) := (QB BK165.out 5).trans rfl
                 have hcz54_6 : w53.cell? ⟨gb165, 6, none⟩ = some (.int .i64 a0_6) := (QB BK165.out 6).trans rfl
                 have hfz54_0 := QF BK165.out 0
                 have hfz54_1 := QF BK165.out 1
                 have hfz54_2 := QF BK165.out 2
                 have hfz54_3 := QF BK165.out 3
                 have hfz54_4 := QF BK165.out 4
                 have hfz54_5 := QF BK165.out 5
                 have hfz54_6 := QF BK165.out 6
                 have p186 : 0 ≤ (x4_2 : Int) := of_decide_eq_true (by first | (with_reducible assumption) | assumption)
                 have q186 : x4_2 < (l0_0.length : Int) := of_decide_eq_true (by first | (with_reducible assumption) | assumption)
                 obtain ⟨ad186, A186_0, c186_0, e186, hx186_0, hl186_0, hi186_0⟩ := at_L1 (Kd.V_reads' HO_166000.out).2.2 x4_2 p186 q186
                 cases e186
                 obtain ⟨ce186, hce186, hMe186, hcc186⟩ := Kd.V_get HO_166000.out [] x4_2 p186 (by first | exact q186 | exact of_decide_eq_true (by first | (with_reducible assumption) | assumption) | (have e_ := (Kd.V_reads' HO_166000.out).1; omega))
                 obtain ⟨ua186_0, uc186_0, rfl, ul186_0, ge186_0⟩ := Kd.FK_slice_open hMe186
                 have hv186_0 := hcc186 0 _ rfl
                 rw [Nat.add_zero, show ((Kd.slice 3 (Kd.int .i64))).sz = 1 from rfl, Nat.mul_one] at hv186_0
                 replace hv186_0 := Option.some.inj (hv186_0.symm.trans hx186_0)
                 injection hv186_0 with hva_ hvn_ hvc_
                 rw [hva_] at ge186_0
                 rw [hvc_] at ul186_0
                 have HL186_0 := QY (show Kd.V (Kd.int .i64) 3 _ w.heap.size _ _ (rd_L1 l0_0 x4_2) from Kd.V_mk ul186_0 ge186_0)
                 clear hva_ hvn_ hvc_ ge186_0 ul186_0
                 clear hcc186 hce186
                 have HR186_0 := QY hi186_0
                 have HC186_0 := QY hl186_0
                 clear hi186_0 hl186_0
                 replace p186 := eq_true p186
                 replace q186 := eq_true q186
                 by_cases c51 : ((rd_L1 l0_0 x4_2).length : Int) = (wrap64 ((wrap64 (a0_6 - t185)) - 1))
                 ·rw [if_pos c51] at H
                  have c51b0 : (((rd_L1 l0_0 x4_2).length : Int) == (wrap64 ((wrap64 (a0_6 - t185)) - 1))) = true := beq_iff_eq.mpr c51
                  have c51b1 : (((rd_L1 l0_0 x4_2).length : Int) != (wrap64 ((wrap64 (a0_6 - t185)) - 1))) = false := bne_eq_false_iff_eq.mpr c51
                  clear c51
                  have H' := QY H
                  clear H
                  (try simp only [c51b0, c51b1])
                  try go_wp2
                  go_roundg kj37
                  case measure => have := HJ1.out; have := HK2.out; have := HJ37.out; omega
                  case rel => exact ⟨(wrap64 (x4_2 + 1)), (by first | rfl | (simp; done) | (simp [*]; done)), H', ⟨by have := HJ1.out; have := HK2.out; have := HJ37.out; omega⟩, ⟨by (with_reducible repeat (first | apply QG | apply QH | apply QI)); exact HO_166000.out⟩, ⟨by (with_reducible repeat (first | apply QG | apply QH | apply QI)); exact HO_166003.out⟩, ⟨by (with_reducible repeat (first | refine QL ?_ _ | refine QN ?_ | refine QM ?_ _)); exact BK165.out⟩, ⟨by repeat (first | (with_reducible first | exact HB.out | apply QE | apply QC | apply QD | refine QJ ?_ GE165.out) | exact HB.out)⟩⟩
                 ·rw [if_neg c51] at H
                  have c51b0 : (((rd_L1 l0_0 x4_2).length : Int) == (wrap64 ((wrap64 (a0_6 - t185)) - 1))) = false := beq_eq_false_iff_ne.mpr c51
                  have c51b1 : (((rd_L1 l0_0 x4_2).length : Int) != (wrap64 ((wrap64 (a0_6 - t185)) - 1))) = true := bne_iff_ne.mpr c51
                  obtain rfl := Option.some.inj H
                  (try simp only [c51b0, c51b1])
                  try go_wp2
                  go_ret
                  exact ⟨by first | rfl | (simp [errW_none, errW_some] <;> rfl) | (simp [*, errW_none, errW_some] <;> rfl), by repeat (first | (with_reducible first | exact HB.out | apply QE | apply QC | apply QD | refine QJ ?_ GE165.out) | exact HB.out)⟩
                ·rw [if_neg c50] at H
                 exact absurd H (by simp)
               ·rw [if_neg c49] at H
                exact absurd H (by simp)
              ·rw [if_neg c48] at H
               have c48b0 : decide ((Int.tmod (wrap64 ((wrap64 (x4_2 - a0_1)) + (l0_0.length : Int))) (l0_0.length : Int)) < (l0_3.length : Int)) = false := decide_eq_false c48
               clear c48
               (try simp only [c48b0])
               by_cases c49 : 0 ≤ x4_2
               ·rw [if_pos c49] at H
                have c49b0 : decide (0 ≤ x4_2) = true := decide_eq_true c49
                clear c49
                by_cases c50 : x4_2 < (l0_0.length : Int)
                ·rw [if_pos c50] at H
                 have c50b0 : decide (x4_2 < (l0_0.length : Int)) = true := decide_eq_true c50
                 clear c50
                 refine pure_ (i := 11) (N := some 99) (v := ?_) (a' := ?_) #[Y1,Y1,Y1,Y1,Y1,Y1,Y1,Y1,Y1,Y1,Y1,Y1] rfl rfl (any_of HT_.out (by kernel_rfl)) (fun _ _ _ h => h) (Or.inl ⟨by rfl, ?_⟩) ?_ ?_
                 rotate_left
                 ·intro w'
                  go_simp
                  with_reducible rfl
                 rotate_left
                 ·simp only [Act.put, QV, QW, QX, QO, QP]
                  rfl
                 refine done_ (done_of HT_.out (by kernel_rfl)) ?_
                 have hcz63_0 : w53.cell? ⟨gb165, 0, none⟩ = some (.slice A0_0 l0_0.length c0_0) := (QB BK165.out 0).trans rfl
                 have hcz63_1 : w53.cell? ⟨gb165, 1, none⟩ = some (.int .i64 a0_1) := (QB BK165.out 1).trans rfl
                 have hcz63_2 : w53.cell? ⟨gb165, 2, none⟩ = some (.int .i64 a0_2) := (QB BK165.out 2).trans rfl
                 have hcz63_3 : w53.cell? ⟨gb165, 3, none⟩ = some (.slice A0_3 l0_3.length c0_3) := (QB BK165.out 3).trans rfl
                 have hcz63_4 : w53.cell? ⟨gb165, 4, none⟩ = some (.slice A0_4 l0_4.length c0_4) := (QB BK165.out 4).trans rfl
                 have hcz63_5 : w53.cell? ⟨gb165, 5, none⟩ = some (.slice A0_5 l0_5.length c0_5) := (QB BK165.out 5).trans rfl
                 have hcz63_6 : w53.cell? ⟨gb165, 6, none⟩ = some (.int .i64 a0_6) := (QB BK165.out 6).trans rfl
                 have hfz63_0 := QF BK165.out 0
                 have hfz63_1 := QF BK165.out 1
                 have hfz63_2 := QF BK165.out 2
                 have hfz63_3 := QF BK165.out 3
                 have hfz63_4 := QF BK165.out 4
                 have hfz63_5 := QF BK165.out 5
                 have hfz63_6 := QF BK165.out 6
                 have p187 : 0 ≤ (x4_2 : Int) := of_decide_eq_true (by first | (with_reducible assumption) | assumption)
                 have q187 : x4_2 < (l0_0.length : Int) := of_decide_eq_true (by first | (with_reducible assumption) | assumption)
                 obtain ⟨ad187, A187_0, c187_0, e187, hx187_0, hl187_0, hi187_0⟩ := at_L1 (Kd.V_reads' HO_166000.out).2.2 x4_2 p187 q187
                 cases e187
                 obtain ⟨ce187, hce187, hMe187, hcc187⟩ := Kd.V_get HO_166000.out [] x4_2 p187 (by first | exact q187 | exact of_decide_eq_true (by first | (with_reducible assumption) | assumption) | (have e_ := (Kd.V_reads' HO_166000.out).1; omega))
                 obtain ⟨ua187_0, uc187_0, rfl, ul187_0, ge187_0⟩ := Kd.FK_slice_open hMe187
                 have hv187_0 := hcc187 0 _ rfl
                 rw [Nat.add_zero, show ((Kd.slice 3 (Kd.int .i64))).sz = 1 from rfl, Nat.mul_one] at hv187_0
                 replace hv187_0 := Option.some.inj (hv187_0.symm.trans hx187_0)
                 injection hv187_0 with hva_ hvn_ hvc_
                 rw [hva_] at ge187_0
                 rw [hvc_] at ul187_0
                 have HL187_0 := QY (show Kd.V (Kd.int .i64) 3 _ w.heap.size _ _ (rd_L1 l0_0 x4_2) from Kd.V_mk ul187_0 ge187_0)
                 clear hva_ hvn_ hvc_ ge187_0 ul187_0
                 clear hcc187 hce187
                 have HR187_0 := QY hi187_0
                 have HC187_0 := QY hl187_0
                 clear hi187_0 hl187_0
                 replace p187 := eq_true p187
                 replace q187 := eq_true q187
                 by_cases c60 : ((rd_L1 l0_0 x4_2).length : Int) = (wrap64 (a0_6 - t185))
                 ·rw [if_pos c60] at H
                  have c60b0 : (((rd_L1 l0_0 x4_2).length : Int) == (wrap64 (a0_6 - t185))) = true := beq_iff_eq.mpr c60
                  have c60b1 : (((rd_L1 l0_0 x4_2).length : Int) != (wrap64 (a0_6 - t185))) = false := bne_eq_false_iff_eq.mpr c60
                  clear c60
                  have H' := QY H
                  clear H
                  (try simp only [c60b0, c60b1])
                  try go_wp2
                  go_roundg kj37
                  case measure => have := HJ1.out; have := HK2.out; have := HJ37.out; omega
                  case rel => exact ⟨(wrap64 (x4_2 + 1)), (by first | rfl | (simp; done) | (simp [*]; done)), H', ⟨by have := HJ1.out; have := HK2.out; have := HJ37.out; omega⟩, ⟨by (with_reducible repeat (first | apply QG | apply QH | apply QI)); exact HO_166000.out⟩, ⟨by (with_reducible repeat (first | apply QG | apply QH | apply QI)); exact HO_166003.out⟩, ⟨by (with_reducible repeat (first | refine QL ?_ _ | refine QN ?_ | refine QM ?_ _)); exact BK165.out⟩, ⟨by repeat (first | (with_reducible first | exact HB.out | apply QE | apply QC | apply QD | refine QJ ?_ GE165.out) | exact HB.out)⟩⟩
                 ·rw [if_neg c60] at H
                  have c60b0 : (((rd_L1 l0_0 x4_2).length : Int) == (wrap64 (a0_6 - t185))) = false := beq_eq_false_iff_ne.mpr c60
                  have c60b1 : (((rd_L1 l0_0 x4_2).length : Int) != (wrap64 (a0_6 - t185))) = true := bne_iff_ne.mpr c60
                  obtain rfl := Option.some.inj H
                  (try simp only [c60b0, c60b1])
                  try go_wp2
                  go_ret
                  exact ⟨by first | rfl | (simp [errW_none, errW_some] <;> rfl) | (simp [*, errW_none, errW_some] <;> rfl), by repeat (first | (with_reducible first | exact HB.out | apply QE | apply QC | apply QD | refine QJ ?_ GE165.out) | exact HB.out)⟩
                ·rw [if_neg c50] at H
                 exact absurd H (by simp)
               ·rw [if_neg c49] at H
                exact absurd H (by simp)
         ·rw [if_neg c37] at H
          have c37b0 : decide (x4_2 < (l0_0.length : Int)) = false := decide_eq_false c37
          clear c37
          obtain rfl := Option.some.inj H
          go_wp2
          go_ret
          exact ⟨by first | rfl | (simp [errW_none, errW_some] <;> rfl) | (simp [*, errW_none, errW_some] <;> rfl), by repeat (first | (with_reducible first | exact HB.out | apply QE | apply QC | apply QD | refine QJ ?_ GE165.out) | exact HB.out)⟩
      ·replace c25 := Bool.eq_false_iff.mpr c25
       subst c25
       rw [if_neg (show ¬ (false = true) by decide)] at H
       obtain rfl := Option.some.inj H
       try go_wp2
       go_ret
       exact ⟨by first | rfl | (simp [errW_none, errW_some] <;> rfl) | (simp [*, errW_none, errW_some] <;> rfl), by repeat (first | (with_reducible first | exact HB.out | apply QE | apply QC | apply QD | refine QJ ?_ GE165.out) | exact HB.out)⟩
     ·rw [if_neg c23] at H
      exact absurd H (by simp)
    ·rw [if_neg c22] at H
     exact absurd H (by simp)

/-! ### spec_Sorted: function 130 -/
/-- The place behind the last of the first k elements that is not above c. -/
def kAt (out : List Int) (c : Int) : Nat → Nat
 | 0 => 0
 | k + 1 => if out.getD k 0 > c then kAt out c k else k + 1
def insF (out : List Int) (c : Int) : List Int := out.take (kAt out c out.length) ++ c :: out.drop (kAt out c out.length)
def sortF : List Int → List Int → List Int
 | out, [] => out
 | out, c :: r => sortF (insF out c) r
theorem kAt_le (out : List Int) (c : Int) : ∀ k, kAt out c k ≤ k
 | 0 => Nat.le_refl _
 | k + 1 => by
  unfold kAt
  split
  ·exact Nat.le_succ_of_le (kAt_le out c k)
  ·exact Nat.le_refl _
theorem insF_length (out : List Int) (c : Int) : (insF out c).length = out.length + 1 := by
 have := kAt_le out c out.length
 simp [insF]
 omega
theorem cut_from {P : Program} (t e : TypeId) {i : TypeInfo} (ht : P.underlying t = some (.slice e)) (hi : P.info? e = some i) (hsz : i.size = 1) (g n c m : Nat) (hm : m ≤ n) :
  ∃ A' : Option Addr, (∀ W : World, (Instr.slice t (.slice (some ⟨g, 0, none⟩) n c) (some (.int .i64 (m : Int))) none none).run P W = .ok (.slice A' (n - m) (c - m)) W) ∧ (m < c → A' = some ⟨g, m, none⟩) := by
 refine ⟨if c = m then some ⟨g, 0, none⟩ else (some (⟨g, 0, none⟩ : Addr)).map (·.add m), fun W => ?_, fun h => by rw [if_neg (by omega)]; simp [Addr.add, eq_comm]⟩
 have hel : P.elem t = e := by simp [Program.elem, ht]
 have hu : P.underlying t = some (.slice (P.elem t)) := by rw [hel]; exact ht
 rw [run_slice_l W t (some ⟨g, 0, none⟩) n c hu .i64 (m : Int) (Int.natCast_nonneg _) (by omega), hel]
 simp [sizeOf, typeInfo, hi, hsz, sliced, Result.andThen]
theorem ins_cells (cur : List Value) (out : List Int) (c : Int) (K : Nat) (hK : K ≤ out.length) (h : cur.take (out.length + 1) = (out ++ [0]).map (Value.int .i64)) :
  ((splice cur (K + 1) ((out.drop K).map (Value.int .i64))).set K (.int .i64 c)).take (out.length + 1) = (out.take K ++ c :: out.drop K).map (Value.int .i64) := by
 have hl : out.length + 1 ≤ cur.length := by have := congrArg List.length h; simp at this; omega
 have h2 : cur.take K = (out.take K).map (Value.int .i64) := by
  have h3 := congrArg (List.take K) h
  rw [List.take_take, Nat.min_eq_left (by omega), ← List.map_take, List.take_append_of_le_length hK] at h3
  exact h3
 obtain ⟨y, hy⟩ : ∃ y, cur.take (K + 1) = (out.take K).map (Value.int .i64) ++ [y] := ⟨cur[K]'(by omega), by rw [List.take_succ_eq_append_getElem (by omega), h2]⟩
 have l1 : ((out.take K).map (Value.int .i64)).length = K := by simp; omega
 unfold Go.splice
 rw [hy, List.append_assoc, List.set_append_right _ _ (by omega), l1, Nat.sub_self]
 simp only [List.cons_append, List.nil_append, QW, List.map_append, List.map_cons]
 rw [← List.cons_append, ← List.append_assoc, List.take_left' (by simp; omega)]
theorem w64_ (n : Int) (h : -9223372036854775808 ≤ n) (h' : n ≤ 9223372036854775807) : IntKind.i64.wrap n = n := by rw [QO]; unfold wrap64; omega
/-- A row of numbers of the call's own, its block told whole. -/
def OwnI (w : World) (base : Nat) (v : Value) (xs : List Int) : Prop :=
 ∃ g cap cur, v = .slice (some ⟨g, 0, none⟩) xs.length cap ∧ base ≤ g ∧ w.heap[g]? = some (.cells cur 3 (0, 0)) ∧ xs.length ≤ cap ∧ cap ≤ maxLen ∧ cur.size = cap ∧ cur.toList.take xs.length = xs.map (Value.int .i64)
theorem OwnI.own {w : World} {base : Nat} {v : Value} {xs : List Int} (h : OwnI w base v xs) : w.ownsRow base 3 1 v xs.length (xs.map (Value.int .i64)) := by
 obtain ⟨g, cap, cur, h1, h2, h3, h4, h5, h6, h7⟩ := h
 exact ⟨by simp, .inr ⟨g, cap, cur, h1, h2, h3, h4, h5, by omega, by simpa using h7⟩⟩
theorem OwnI.row {w : World} {base : Nat} {v : Value} {xs : List Int} (h : OwnI w base v xs) : Kd.R (Kd.int .i64) 3 w base (fun _ => True) v xs := by
 refine ⟨fun _ _ => trivial, xs.map (Value.int .i64), h.own, by simp [Kd.int, Kd.scalar], fun j p hp => ?_⟩
 show ((xs.map (Value.int .i64)).drop (j * 1)).take 1 = [Value.int .i64 p]
 have hj : j < xs.length := (List.getElem?_eq_some_iff.1 hp).1
 have e := (List.getElem?_eq_some_iff.1 hp).2
 rw [Nat.mul_one, List.drop_eq_getElem_cons (by simpa using hj)]
 simp [e]
theorem OwnI.of_own {w : World} {base : Nat} {v : Value} {xs : List Int} (h : w.ownsRow base 3 1 v xs.length (xs.map (Value.int .i64))) (hp : 0 < xs.length) : OwnI w base v xs := by
 obtain ⟨h1, h2 | ⟨g, cap, cur, h3, h4, h5, h6, h7, h8, h9⟩⟩ := h
 ·omega
 ·exact ⟨g, cap, cur, h3, h4, h5, h6, h7, by omega, by simpa using h9⟩
theorem OwnI.cell {w : World} {base g cap : Nat} {xs : List Int} (h : OwnI w base (.slice (some ⟨g, 0, none⟩) xs.length cap) xs) (j : Nat) (hj : j < xs.length) : w.cell? ⟨g, j, none⟩ = some (.int .i64 (xs.getD j 0)) := by
 obtain ⟨g', cap', cur, h1, _, h3, _, _, _, h7⟩ := h
 injection h1 with e1 _ _
 injection e1 with e1
 injection e1 with e1 _
 subst e1
 rw [cell_of_row w g j cur 3 (0, 0) h3, ← Array.getElem?_toList]
 have := congrArg (fun l => l[j]?) h7
 simpa [List.getElem?_take, hj, List.getD_eq_getElem?_getD] using this
def impl_Sorted.f (l : List Int) : Option (List Int) := if l.length < 17592186044416 then some (sortF [] l) else none
set_option maxHeartbeats 8000000 in
set_option maxRecDepth 100000 in
theorem impl_Sorted.calls (A0 : Option Addr) (c0 : Nat) (l0 : List Int) (r : List Int) (w : World) (hr0 : Kd.C (Kd.int .i64) w A0 l0.length l0) (hc0 : l0.length ≤ c0) (h : impl_Sorted.f l0 = some r) :
  Calls Try.prog 131 #[.slice A0 l0.length c0] w fun e w' => ∃ v0_ : Value, e = .returned (v0_) ∧ Kd.R (Kd.int .i64) 3 w' w.heap.size (fun _ => True) v0_ r ∧ Below w.heap.size w w' := by
 unfold impl_Sorted.f at h
 split at h
 case isFalse => exact absurd h (by simp)
 case isTrue hlen =>
 obtain rfl := Option.some.inj h
 have HR0 := QY hr0
 have HL := QY hlen
 clear hr0 hlen h
 have z0 : Aside0 (OwnI (w.alloc (.cells #[] 3)) w.heap.size (.slice (some ⟨w.heap.size, 0, none⟩) 0 0) []) := ⟨⟨w.heap.size, 0, #[], rfl, Nat.le_refl _, heap_alloc_new _ _, Nat.le_refl _, Nat.zero_le _, rfl, rfl⟩⟩
 go_enter Try.func131, Try.ntmps131
 go_wp2
 go_loopg [3, 10] l0.length (fun g v3 v10 wx => ∃ (i : Nat) (out : List Int), v10 = .int .i64 (i : Int) ∧ Aside0 (i + g = l0.length) ∧ Aside0 (out.length = i) ∧ Aside0 (sortF out (l0.drop i) = sortF [] l0) ∧ Aside0 (OwnI wx w.heap.size v3 out) ∧ Aside0 (Below w.heap.size w wx))
 case atStart => exact ⟨0, [], rfl, ⟨by simp⟩, ⟨rfl⟩, ⟨rfl⟩, z0, ⟨(Below.refl _ _).alloc (Nat.le_refl _) _⟩⟩
 case round =>
  clear z0
  obtain ⟨i, out, rfl, HI, HO, HH, HC, HB⟩ := hrel
  cases gk with
  | zero =>
   have hi : ¬ ((i : Int) < (l0.length : Int)) := by have := HI.out; omega
   have hi' : decide ((i : Int) < (l0.length : Int)) = false := decide_eq_false hi
   have hi'' : decide (i < l0.length) = false := by have := HI.out; simp; omega
   clear hi
   have fin : sortF [] l0 = out := by rw [← HH.out, List.drop_of_length_le (by have := HI.out; omega)]; rfl
   have FIN := QY fin
   clear fin
   go_wp2
   go_ret
   exact ⟨_, rfl, by rw [FIN.out]; exact HC.out.row, HB.out⟩
  | succ g =>
   have hi : (i : Int) < (l0.length : Int) := by have := HI.out; omega
   have h0 : 0 ≤ (i : Int) := by omega
   obtain ⟨ad, e1, hx⟩ := Kd.at_int (Kd.C_below HR0.out HB.out) (i : Int) h0 hi
   cases e1
   simp only [Int.toNat_natCast] at hx
   have hdrop : l0.drop i = rd l0 (i : Int) :: l0.drop (i + 1) := by
    have hn : i < l0.length := by omega
    rw [List.drop_eq_getElem_cons hn]
    unfold rd
    simp [List.getD_eq_getElem?_getD, List.getElem?_eq_getElem hn]
   have HD := QY hdrop
   clear hdrop
   generalize hc : rd l0 (i : Int) = c at *
   clear hc
   have NXT : Aside0 (sortF (insF out c) (l0.drop (i + 1)) = sortF [] l0) := ⟨by rw [← HH.out, HD.out]; rfl⟩
   obtain ⟨bg, cap, cur, rfl, hbg, hcur, hcap1, hcap2, hsz, htk⟩ := HC.out
   have HCUR := QY hcur
   have HBG := QY hbg
   have HCAP := QY hcap1
   have HSZ := QY hsz
   have HTK := QY htk
   clear hbg hcur hcap1 hcap2 hsz htk
   have hib : (i : Int) < 17592186044416 := by have := HL.out; omega
   have hlo : (out.length : Int) < 9223372036854775807 := by have := HO.out; have := HL.out; omega
   go_upto_block 2 with (fail)
   go_cut [6] (fun v6 wc => v6 = .int .i64 ((kAt out c out.length : Nat) : Int) ∧ wc = wr)
   case first =>
    go_wp2
    go_loop [6] (fun v6 => ∃ k : Nat, v6 = .int .i64 (k : Int) ∧ Aside0 (k ≤ out.length) ∧ Aside0 (kAt out c k = kAt out c out.length)) (fun v6 => (intOf v6).toNat)
    case atStart => exact ⟨out.length, rfl, ⟨Nat.le_refl _⟩, ⟨rfl⟩⟩
    case round =>
     obtain ⟨k, rfl, HK, HKA⟩ := hrel
     cases k with
     | zero =>
      have hz : kAt out c out.length = 0 := HKA.out.symm
      have HZ := QY hz
      clear hz
      go_wp2
      go_meet
      case rel => exact ⟨by rw [HZ.out]; rfl, rfl⟩
     | succ k =>
      have hk : k < out.length := HK.out
      have hcell := HC.out.cell k hk
      have e1 : (((k + 1 : Nat) : Int) - 1) = (k : Int) := by omega
      by_cases hgt : out.getD k 0 > c
      ·have hg1 : decide (c < out.getD k 0) = true := decide_eq_true hgt
       have HKB : Aside0 (kAt out c k = kAt out c out.length) := ⟨by rw [← HKA.out, kAt, if_pos hgt]⟩
       clear hgt
       generalize out.getD k 0 = y at *
       go_wp2
       go_round
       case rel => exact ⟨k, rfl, ⟨by omega⟩, HKB⟩
       case measure => simp [intOf]
      ·have hg1 : decide (c < out.getD k 0) = false := decide_eq_false hgt
       have HZ : Aside0 (kAt out c out.length = k + 1) := ⟨by rw [← HKA.out, kAt, if_neg hgt]⟩
       clear hgt
       generalize out.getD k 0 = y at *
       go_wp2
       go_meet
       case rel => exact ⟨by rw [HZ.out]; rfl, rfl⟩
   case rest =>
    obtain ⟨rfl, rfl⟩ := hcut
    have hK := kAt_le out c out.length
    have IN : Aside0 (insF out c = out.take (kAt out c out.length) ++ c :: out.drop (kAt out c out.length)) := ⟨rfl⟩
    generalize kAt out c out.length = K at *
    go_wp2_with (((with_reducible refine gate_builtin (b := .append) (xs := #[.tmp 29, .tmp 30]) rfl ?_); at_builtin; refine print_append_cells (w0 := w) w.heap.size rfl (.tmp 29) (.tmp 30) 24 3 (.int .i64 0) 1 8 rfl Try.underlying24 info3 rfl (by decide) (by decide) (.slice (some ⟨bg, 0, none⟩) out.length cap) out.length (out.map (Value.int .i64)) [.int .i64 0] rfl rfl rfl (by intro u hu; rw [List.mem_singleton.1 hu]; rfl) HC.out.own HB.out (QK HB.out) (by have := HO.out; have := HL.out; omega) ?_; intro v1 w1 hown hb1 _ _; clear HC HB HCUR HBG HCAP HSZ HTK))
    have C1 : OwnI w1 w.heap.size v1 (out ++ [0]) := OwnI.of_own (by simpa using hown) (by simp)
    have HC1 := QY C1
    obtain ⟨g1, cap1, cur1, rfl, hg1, hcur1, hc1a, hc1b, hsz1, htk1⟩ := C1
    have HB1 := QY hb1
    have HG1 := QY hg1
    have HCU := QY hcur1
    have HSZ1 := QY hsz1
    have HCA := QY (show out.length + 1 ≤ cap1 by simpa using hc1a)
    have HMX := QY hc1b
    have HTK1 := QY (show cur1.toList.take (out.length + 1) = (out ++ [0]).map (Value.int .i64) by simpa using htk1)
    obtain ⟨i0, hi0, hsz0⟩ : ∃ i0, Try.prog.info? 3 = some i0 ∧ i0.size = 1 := by
     obtain ⟨i0, hi0, hz⟩ := Option.map_eq_some_iff.1 info3
     exact ⟨i0, hi0, congrArg (fun p => p.2.1) hz⟩
    have hs1 : (Try.prog.info? 3).map (·.size) = some 1 := by rw [hi0]; simp [hsz0]
    obtain ⟨A1, hA1, hA1'⟩ := cut_from (P := Try.prog) 24 3 Try.underlying24 hi0 hsz0 g1 (out.length + 1) cap1 (K + 1) (by omega)
    obtain ⟨A2, hA2, hA2'⟩ := cut_from (P := Try.prog) 24 3 Try.underlying24 hi0 hsz0 g1 (out.length + 1) cap1 K (by omega)
    obtain rfl := hA2' (by have := HCA.out; omega)
    have HA1 := QY hA1'
    have HS1 := QY hs1
    clear hown hb1 hg1 hcur1 hsz1 hc1a hc1b htk1 hA1' hA2' hi0 hsz0 hs1
    have eL : (out ++ [0]).length = out.length + 1 := by simp
    have eK : ((K + 1 : Nat) : Int) = (K : Int) + 1 := by omega
    rw [eK] at hA1
    rw [eL]
    have hwr : IntKind.i64.wrap ((K : Int) + 1) = (K : Int) + 1 := w64_ ((K : Int) + 1) (by omega) (by omega)
    refine start_ (n := 8) (S := fun _ => True) (ds := [7]) #[Y0,Y0,Y0,Y0,Y0,Y0,Y0,Y0] (by kernel_rfl) rfl rfl trivial (fun hHeld => ?_)
    refine pure_ (i := 0) (N := some 32) (v := ?_) (a' := ?_) #[Y1,Y0,Y0,Y0,Y0,Y0,Y0,Y0] rfl rfl (by kernel_rfl) (fun _ _ _ h => h) (Or.inl ⟨by rfl, ?_⟩) ?_ ?_
    rotate_left
    ·intro w'
     go_simp
     with_reducible rfl
    rotate_left
    ·simp only [Act.put, QV, QW, QX, QO, QP]
     rfl
    refine pure_ (i := 1) (N := some 33) (v := ?_) (a' := ?_) #[Y1,Y1,Y0,Y0,Y0,Y0,Y0,Y0] rfl rfl (by kernel_rfl) (fun _ _ _ h => h) (Or.inl ⟨by rfl, ?_⟩) ?_ ?_
    rotate_left
    ·intro w'
     go_simp
     with_reducible rfl
    rotate_left
    ·simp only [Act.put, QV, QW, QX, QO, QP]
     rfl
    refine pure_ (i := 2) (N := some 34) (v := ?_) (a' := ?_) #[Y1,Y1,Y1,Y0,Y0,Y0,Y0,Y0] rfl rfl (by kernel_rfl) (fun _ _ _ h => h) (Or.inl ⟨by rfl, ?_⟩) ?_ ?_
    rotate_left
    ·intro w'
     go_simp
     with_reducible rfl
    rotate_left
    ·simp only [Act.put, QV, QW, QX, QO, QP]
     rfl
    refine pure_ (i := 3) (N := some 35) (v := ?_) (a' := ?_) #[Y1,Y1,Y1,Y1,Y0,Y0,Y0,Y0] rfl rfl (by kernel_rfl) (fun _ _ _ h => h) (Or.inl ⟨by rfl, ?_⟩) ?_ ?_
    rotate_left
    ·intro w'
     go_simp
     with_reducible rfl
    rotate_left
    ·simp only [Act.put, QV, QW, QX, QO, QP]
     rfl
    refine pure_ (i := 4) (N := some 36) (v := ?_) (a' := ?_) #[Y1,Y1,Y1,Y1,Y1,Y0,Y0,Y0] rfl rfl (by kernel_rfl) (fun _ _ _ h => h) (Or.inl ⟨by rfl, ?_⟩) ?_ ?_
    rotate_left
    ·intro w'
     go_simp
     with_reducible rfl
    rotate_left
    ·simp only [Act.put, QV, QW, QX, QO, QP]
     rfl
    refine pure_ (i := 5) (N := some 37) (v := ?_) (a' := ?_) #[Y1,Y1,Y1,Y1,Y1,Y1,Y0,Y0] rfl rfl (by kernel_rfl) (fun _ _ _ h => h) (Or.inl ⟨by rfl, ?_⟩) ?_ ?_
    rotate_left
    ·intro w'
     go_simp
     with_reducible rfl
    rotate_left
    ·simp only [Act.put, QV, QW, QX, QO, QP]
     rfl
    refine pure_ (i := 6) (N := some 38) (v := ?_) (a' := ?_) #[Y1,Y1,Y1,Y1,Y1,Y1,Y1,Y0] rfl rfl (by kernel_rfl) (fun _ _ _ h => h) (Or.inl ⟨by rfl, ?_⟩) ?_ ?_
    rotate_left
    ·intro w'
     go_simp
     with_reducible rfl
    rotate_left
    ·simp only [Act.put, QV, QW, QX, QO, QP]
     rfl
    refine last_ (i := 7) (N := some 39) #[Y1,Y1,Y1,Y1,Y1,Y1,Y1,Y1] rfl rfl (by kernel_rfl) (by decide) (fun K_ hK_ => ?_)
    have hc0' : ∀ j u, ((out.drop K).map (Value.int .i64))[j]? = some u → w1.drew.cell? ((⟨g1, K, none⟩ : Addr).add j) = some u := by
     intro j u hu
     rw [List.getElem?_map, List.getElem?_drop] at hu
     obtain ⟨y, hy, rfl⟩ := Option.map_eq_some_iff.1 hu
     have hlt := (List.getElem?_eq_some_iff.1 hy).1
     have := HC1.out.cell (K + j) (by rw [eL]; omega)
     have e2 : (out ++ [0]).getD (K + j) 0 = y := by simp [List.getD_eq_getElem?_getD, List.getElem?_append_left hlt, hy]
     rw [e2] at this
     have e3 : (⟨g1, K, none⟩ : Addr).add j = ⟨g1, K + j, none⟩ := by by_cases hj : j = 0 <;> simp [Addr.add, hj]
     rw [e3]
     exact this
    refine step_copy_splice rfl (.tmp 35) (.tmp 38) 24 24 rfl 3 Try.underlying24 HS1.out A1 (some ⟨g1, K, none⟩) (out.length - K) (cap1 - (K + 1)) (out.length + 1 - K) (cap1 - K) rfl rfl g1 (K + 1) cur1.toList 3 (show w1.drew.heap[g1]? = _ from HCU.out) ((out.drop K).map (Value.int .i64)) (by simp [Nat.min_def]; omega) (fun hp => ⟨HA1.out (by have := HCA.out; simp at hp; omega), _, rfl, hc0'⟩) (by have := HCA.out; have := HSZ1.out; simp; omega) (by intro u hu; obtain ⟨y, _, rfl⟩ := List.mem_map.1 hu; rfl) w.heap.size w (below_drew HB1.out) HG1.out ?_
    intro w2 hg2 hb2
    refine hK_.out _ _ ?_
    clear hK_ K_ hHeld hA1 hA2
    refine done_ (by kernel_rfl) ?_
    have hls : (Go.splice cur1.toList (K + 1) ((out.drop K).map (Value.int .i64))).length = cap1 := by rw [length_splice _ _ _ (by have := HCA.out; have := HSZ1.out; simp; omega)]; simpa using HSZ1.out
    have hb := hg2.out
    obtain ⟨y, hy⟩ : ∃ y, w2.cell? ⟨g1, K, none⟩ = some y := ⟨_, (QB hb K).trans (Array.getElem?_eq_getElem (by rw [List.size_toArray, hls]; have := HCA.out; omega))⟩
    have hf2 := QF hb K
    have HN : Aside0 (OwnI (w2.setCell ⟨g1, K, none⟩ (.int .i64 c)) w.heap.size (.slice (some ⟨g1, 0, none⟩) (out.length + 1) cap1) (insF out c)) := ⟨⟨g1, cap1, _, by rw [insF_length], HG1.out, blk_set hb K (.int .i64 c), by rw [insF_length]; exact HCA.out, HMX.out, by simpa using hls, by
     rw [insF_length, IN.out, ← ins_cells cur1.toList out c K hK HTK1.out]
     simp⟩⟩
    have HB2 := QY hb2
    clear hb hg2 hb2 hls hc0' eL eK
    go_wp2
    go_roundg g
    case measure => omega
    case rel => exact ⟨i + 1, insF out c, by go_num, ⟨by have := HI.out; omega⟩, ⟨by rw [insF_length, HO.out]⟩, NXT, HN, ⟨QJ HB2.out HG1.out⟩⟩

theorem own_grown {X Y : World} {base : Nat} {ok : Nat → Prop} {v : Value} {xs : List Int} {row : Option Nat} (h : (Kd.int .i64).R 3 X base ok v xs) (hg : X.grownBy Y row) (hne : row = none ∨ v.ownBlock ≠ row) : (Kd.int .i64).R 3 Y base ok v xs :=
 Kd.R_mono (Kd.R_step (Kd.R_tight rfl h) (fun k hk hlt => hg.block k hlt (by rcases hne with e | e <;> first | (rw [e]; simp; done) | (rw [hk]; exact e)))) (fun k hk => h.1 k hk.symm)
theorem C_of_cells {w : World} {A : Option Addr} {xs : List Int} (hm : xs.length ≤ 9223372036854775807) (h : 0 < xs.length → ∃ g o, A = some ⟨g, o, none⟩ ∧ ∀ j, j < xs.length → w.cell? ⟨g, o + j, none⟩ = some (.int .i64 (xs.getD j 0))) : Kd.C (Kd.int .i64) w A xs.length xs := by
 refine ⟨rfl, hm, fun hp => ?_⟩
 obtain ⟨g, o, rfl, hc⟩ := h hp
 refine ⟨_, rfl, fun j p hj => ⟨[.int .i64 p], rfl, rfl, fun i u hi => ?_⟩⟩
 have hjl := (List.getElem?_eq_some_iff.1 hj).1
 obtain ⟨rfl, rfl⟩ : i = 0 ∧ u = .int .i64 p := by
  cases i with
  | zero => exact ⟨rfl, by simpa using hi.symm⟩
  | succ i => simp at hi
 have e : (⟨g, o, none⟩ : Addr).add (j * (Kd.int .i64).sz + 0) = ⟨g, o + j, none⟩ := by
  show (⟨g, o, none⟩ : Addr).add (j * 1 + 0) = _
  by_cases h0 : j = 0 <;> simp [Addr.add, h0]
 rw [e, hc j hjl]
 simp [List.getD_eq_getElem?_getD, hj]
def spec_Sorted.f (l : List Int) : Option (List Int) := if l.length < 17592186044416 then some (sortF [] l) else none
set_option maxHeartbeats 8000000 in
set_option maxRecDepth 100000 in
theorem spec_Sorted.calls (A0 : Option Addr) (c0 : Nat) (l0 : List Int) (r : List Int) (w : World) (hr0 : Kd.C (Kd.int .i64) w A0 l0.length l0) (hc0 : l0.length ≤ c0) (h : spec_Sorted.f l0 = some r) :
  Calls Try.prog 130 #[.slice A0 l0.length c0] w fun e w' => ∃ v0_ : Value, e = .returned (v0_) ∧ Kd.R (Kd.int .i64) 3 w' w.heap.size (fun _ => True) v0_ r ∧ Below w.heap.size w w' := by
 unfold spec_Sorted.f at h
 split at h
 case isFalse => exact absurd h (by simp)
 case isTrue hlen =>
 obtain rfl := Option.some.inj h
 have HR0 := QY hr0
 have HL := QY hlen
 clear hr0 hlen h
 have z0 : Aside0 (OwnI (w.alloc (.cells #[] 3)) w.heap.size (.slice (some ⟨w.heap.size, 0, none⟩) 0 0) []) := ⟨⟨w.heap.size, 0, #[], rfl, Nat.le_refl _, heap_alloc_new _ _, Nat.le_refl _, Nat.zero_le _, rfl, rfl⟩⟩
 go_enter Try.func130, Try.ntmps130
 go_wp2
 go_loopg [3, 4] l0.length (fun g v3 v4 wx => ∃ (i : Nat) (out : List Int), v4 = .int .i64 (i : Int) ∧ Aside0 (i + g = l0.length) ∧ Aside0 (out.length = i) ∧ Aside0 (sortF out (l0.drop i) = sortF [] l0) ∧ Aside0 (OwnI wx w.heap.size v3 out) ∧ Aside0 (Below w.heap.size w wx))
 case atStart => exact ⟨0, [], rfl, ⟨by simp⟩, ⟨rfl⟩, ⟨rfl⟩, z0, ⟨(Below.refl _ _).alloc (Nat.le_refl _) _⟩⟩
 case round =>
  clear z0
  obtain ⟨wo, rfl⟩ : ∃ wo : World, wo = wr := ⟨_, rfl⟩
  obtain ⟨i, out, rfl, HI, HO, HH, HC, HB⟩ := hrel
  cases gk with
  | zero =>
   have hi : ¬ ((i : Int) < (l0.length : Int)) := by have := HI.out; omega
   have hi' : decide ((i : Int) < (l0.length : Int)) = false := decide_eq_false hi
   have hi'' : decide (i < l0.length) = false := by have := HI.out; simp; omega
   clear hi
   have fin : sortF [] l0 = out := by rw [← HH.out, List.drop_of_length_le (by have := HI.out; omega)]; rfl
   have FIN := QY fin
   clear fin
   go_wp2
   go_ret
   exact ⟨_, rfl, by rw [FIN.out]; exact HC.out.row, HB.out⟩
  | succ g =>
   have hi : (i : Int) < (l0.length : Int) := by have := HI.out; omega
   have h0 : 0 ≤ (i : Int) := by omega
   obtain ⟨ad, e1, hx⟩ := Kd.at_int (Kd.C_below HR0.out HB.out) (i : Int) h0 hi
   cases e1
   simp only [Int.toNat_natCast] at hx
   have hadl : ad.block < w.heap.size := by
    obtain ⟨ad2, e2, hx2⟩ := Kd.at_int HR0.out (i : Int) h0 hi
    cases e2
    have := World.block_lt_of_cell? w _ hx2
    by_cases hj : i = 0 <;> simpa [Addr.add, hj] using this
   have HAD := QY hadl
   clear hadl
   have hdrop : l0.drop i = rd l0 (i : Int) :: l0.drop (i + 1) := by
    have hn : i < l0.length := by omega
    rw [List.drop_eq_getElem_cons hn]
    unfold rd
    simp [List.getD_eq_getElem?_getD, List.getElem?_eq_getElem hn]
   have HD := QY hdrop
   clear hdrop
   generalize hc : rd l0 (i : Int) = c at *
   clear hc
   have NXT : Aside0 (sortF (insF out c) (l0.drop (i + 1)) = sortF [] l0) := ⟨by rw [← HH.out, HD.out]; rfl⟩
   obtain ⟨bg, cap, cur, rfl, hbg, hcur, hcap1, hcap2, hsz, htk⟩ := HC.out
   clear hbg hcur hcap2 hsz htk
   have HCAP := QY hcap1
   clear hcap1
   have hib : (i : Int) < 17592186044416 := by have := HL.out; omega
   have hlo : (out.length : Int) < 9223372036854775807 := by have := HO.out; have := HL.out; omega
   go_upto_block 2 with (fail)
   go_cut [5] (fun v5 wc => v5 = .int .i64 ((kAt out c out.length : Nat) : Int) ∧ Drawn0 wo wc)
   case first =>
    go_wp2
    go_loopw [5] (fun v5 wv => ∃ k : Nat, v5 = .int .i64 (k : Int) ∧ Aside0 (k ≤ out.length) ∧ Aside0 (kAt out c k = kAt out c out.length) ∧ Drawn0 wo wv) (fun v5 _ => (intOf v5).toNat)
    case atStart => exact ⟨out.length, rfl, ⟨Nat.le_refl _⟩, ⟨rfl⟩, Drawn0.refl _⟩
    case round =>
     obtain ⟨k, rfl, HK, HKA, ⟨n, rfl⟩⟩ := hrel
     cases k with
     | zero =>
      have hz : kAt out c out.length = 0 := HKA.out.symm
      have HZ := QY hz
      clear hz
      go_wp2
      repeat (go_quiet (fail); try go_wp2)
      go_meet
      case rel => exact ⟨by rw [HZ.out] <;> rfl, by repeat (first | exact Drawn0.refl _ | apply Drawn0.step)⟩
     | succ k =>
      have hk : k < out.length := HK.out
      have hcell := HC.out.cell k hk
      have e1 : (((k + 1 : Nat) : Int) - 1) = (k : Int) := by omega
      by_cases hgt : out.getD k 0 > c
      ·have hg1 : decide (c < out.getD k 0) = true := decide_eq_true hgt
       have HKB : Aside0 (kAt out c k = kAt out c out.length) := ⟨by rw [← HKA.out, kAt, if_pos hgt]⟩
       clear hgt
       generalize out.getD k 0 = y at *
       go_wp2
       repeat (go_quiet (fail); try go_wp2)
       go_roundw
       case rel => exact ⟨k, rfl, ⟨by omega⟩, HKB, by repeat (first | exact Drawn0.refl _ | apply Drawn0.step)⟩
       case measure => simp [intOf]
      ·have hg1 : decide (c < out.getD k 0) = false := decide_eq_false hgt
       have HZ : Aside0 (kAt out c out.length = k + 1) := ⟨by rw [← HKA.out, kAt, if_neg hgt]⟩
       clear hgt
       generalize out.getD k 0 = y at *
       go_wp2
       repeat (go_quiet (fail); try go_wp2)
       go_meet
       case rel => exact ⟨by rw [HZ.out] <;> rfl, by repeat (first | exact Drawn0.refl _ | apply Drawn0.step)⟩
   case rest =>
    obtain ⟨rfl, ⟨n, rfl⟩⟩ := hcut
    have hK := kAt_le out c out.length
    have IN : Aside0 (insF out c = out.take (kAt out c out.length) ++ c :: out.drop (kAt out c out.length)) := ⟨rfl⟩
    generalize kAt out c out.length = K at *
    have hk0 : (0 : Int) ≤ (K : Int) := by omega
    have hk1 : (K : Int) ≤ (cap : Int) := by have := HCAP.out; omega
    have hk2 : (K : Int) ≤ (out.length : Int) := by omega
    obtain ⟨i0, hi0, hsz0⟩ : ∃ i0, Try.prog.info? 3 = some i0 ∧ i0.size = 1 := by
     obtain ⟨i0, hi0, hz⟩ := Option.map_eq_some_iff.1 info3
     exact ⟨i0, hi0, congrArg (fun p => p.2.1) hz⟩
    obtain ⟨A2, hA2, hA2'⟩ := cut_from (P := Try.prog) 24 3 Try.underlying24 hi0 hsz0 bg out.length cap K hK
    have HA2 := QY hA2'
    have hA3 : ∀ W : World, (Instr.slice 24 (.slice (some ⟨bg, 0, none⟩) out.length cap) none (some (.int .i64 (K : Int))) none).run Try.prog W = .ok (.slice (some ⟨bg, 0, none⟩) K cap) W := by
     intro W
     have hel : Try.prog.elem 24 = 3 := by simp [Program.elem, Try.underlying24]
     have hu : Try.prog.underlying 24 = some (.slice (Try.prog.elem 24)) := by rw [hel]; exact Try.underlying24
     rw [run_slice_h W 24 (some ⟨bg, 0, none⟩) out.length cap hu .i64 (K : Int) hk0 hk1, hel]
     simp [sizeOf, typeInfo, hi0, hsz0, sliced, Result.andThen, Addr.add]
    clear hA2' hi0 hsz0
    go_wp2
    refine start_ (n := 16) (S := fun w' => w'.cell? (ad.add i) = some (.int .i64 c)) (ds := []) #[Y0,Y0,Y0,Y0,Y0,Y0,Y0,Y0,Y0,Y0,Y0,Y0,Y0,Y0,Y0,Y0] (by kernel_rfl) rfl rfl hx (fun hHeld => ?_)
    refine pure_ (i := 1) (N := some 32) (v := ?_) (a' := ?_) #[Y0,Y1,Y0,Y0,Y0,Y0,Y0,Y0,Y0,Y0,Y0,Y0,Y0,Y0,Y0,Y0] rfl rfl (by kernel_rfl) (fun _ _ _ h => h) (Or.inl ⟨by rfl, ?_⟩) ?_ ?_
    rotate_left
    ·intro w'
     go_simp
     with_reducible rfl
    rotate_left
    ·simp only [Act.put, QV, QW, QX, QO, QP]
     rfl
    refine pure_ (i := 2) (N := some 33) (v := ?_) (a' := ?_) #[Y0,Y1,Y1,Y0,Y0,Y0,Y0,Y0,Y0,Y0,Y0,Y0,Y0,Y0,Y0,Y0] rfl rfl (by kernel_rfl) (fun _ _ _ h => h) (Or.inl ⟨by rfl, ?_⟩) ?_ ?_
    rotate_left
    ·intro w'
     go_simp
     with_reducible rfl
    rotate_left
    ·simp only [Act.put, QV, QW, QX, QO, QP]
     rfl
    refine pure_ (i := 3) (N := some 34) (v := ?_) (a' := ?_) #[Y0,Y1,Y1,Y1,Y0,Y0,Y0,Y0,Y0,Y0,Y0,Y0,Y0,Y0,Y0,Y0] rfl rfl (by kernel_rfl) (fun _ _ _ h => h) (Or.inl ⟨by rfl, ?_⟩) ?_ ?_
    rotate_left
    ·intro w'
     go_simp
     with_reducible rfl
    rotate_left
    ·simp only [Act.put, QV, QW, QX, QO, QP]
     rfl
    refine pure_ (i := 5) (N := some 36) (v := ?_) (a' := ?_) #[Y0,Y1,Y1,Y1,Y0,Y1,Y0,Y0,Y0,Y0,Y0,Y0,Y0,Y0,Y0,Y0] rfl rfl (by kernel_rfl) (fun _ _ _ h => h) (Or.inl ⟨by rfl, ?_⟩) ?_ ?_
    rotate_left
    ·intro w'
     go_simp
     with_reducible rfl
    rotate_left
    ·simp only [Act.put, QV, QW, QX, QO, QP]
     rfl
    refine pure_ (i := 6) (N := some 37) (v := ?_) (a' := ?_) #[Y0,Y1,Y1,Y1,Y0,Y1,Y1,Y0,Y0,Y0,Y0,Y0,Y0,Y0,Y0,Y0] rfl rfl (by kernel_rfl) (fun _ _ _ h => h) (Or.inl ⟨by rfl, ?_⟩) ?_ ?_
    rotate_left
    ·intro w'
     go_simp
     with_reducible rfl
    rotate_left
    ·simp only [Act.put, QV, QW, QX, QO, QP]
     rfl
    refine pure_ (i := 7) (N := some 38) (v := ?_) (a' := ?_) #[Y0,Y1,Y1,Y1,Y0,Y1,Y1,Y1,Y0,Y0,Y0,Y0,Y0,Y0,Y0,Y0] rfl rfl (by kernel_rfl) (fun _ _ _ h => h) (Or.inl ⟨by rfl, ?_⟩) ?_ ?_
    rotate_left
    ·intro w'
     go_simp
     with_reducible rfl
    rotate_left
    ·simp only [Act.put, QV, QW, QX, QO, QP]
     rfl
    refine take_ (i := 8) (N := some 39) (v := ?_) (a' := ?_) #[Y0,Y1,Y1,Y1,Y0,Y1,Y1,Y1,Y1,Y0,Y0,Y0,Y0,Y0,Y0,Y0] rfl rfl (by kernel_rfl) (fun _ _ _ h => h) (Or.inl ⟨by rfl, ?_⟩) hHeld ?_ ?_
    rotate_left
    ·rintro w' s0
     go_simp
     with_reducible rfl
    rotate_left
    ·simp only [Act.put, QV, QW, QX, QO, QP]
     rfl
    refine pure_ (i := 11) (N := some 42) (v := ?_) (a' := ?_) #[Y0,Y1,Y1,Y1,Y0,Y1,Y1,Y1,Y1,Y0,Y0,Y1,Y0,Y0,Y0,Y0] rfl rfl (by kernel_rfl) (fun _ _ _ h => h) (Or.inl ⟨by rfl, ?_⟩) ?_ ?_
    rotate_left
    ·intro w'
     go_simp
     with_reducible rfl
    rotate_left
    ·simp only [Act.put, QV, QW, QX, QO, QP]
     rfl
    refine pure_ (i := 12) (N := some 43) (v := ?_) (a' := ?_) #[Y0,Y1,Y1,Y1,Y0,Y1,Y1,Y1,Y1,Y0,Y0,Y1,Y1,Y0,Y0,Y0] rfl rfl (by kernel_rfl) (fun _ _ _ h => h) (Or.inl ⟨by rfl, ?_⟩) ?_ ?_
    rotate_left
    ·intro w'
     go_simp
     with_reducible rfl
    rotate_left
    ·simp only [Act.put, QV, QW, QX, QO, QP]
     rfl
    refine pure_ (i := 13) (N := some 44) (v := ?_) (a' := ?_) #[Y0,Y1,Y1,Y1,Y0,Y1,Y1,Y1,Y1,Y0,Y0,Y1,Y1,Y1,Y0,Y0] rfl rfl (by kernel_rfl) (fun _ _ _ h => h) (Or.inl ⟨by rfl, ?_⟩) ?_ ?_
    rotate_left
    ·intro w'
     go_simp
     with_reducible rfl
    rotate_left
    ·simp only [Act.put, QV, QW, QX, QO, QP]
     rfl
    have HW : Aside0 (OwnI (wo.drewN n).drew w.heap.size (.slice (some ⟨bg, 0, none⟩) out.length cap) out) := ⟨HC.out⟩
    have HBW := QY (below_drew (QC HB.out n))
    have HX := QY hHeld
    clear HC HB hx hA2 hA3 hHeld
    generalize (wo.drewN n).drew = W at *
    have HADW : Aside0 ((ad.add i).block < W.heap.size) := ⟨World.block_lt_of_cell? W _ HX.out⟩
    have CT : Aside0 (Kd.C (Kd.int .i64) W (some ⟨bg, 0, none⟩) K (out.take K)) := ⟨by
     have h := Kd.R_reads' (Kd.R_take (m := K) HW.out.row hK)
     have h2 := h.2.2
     rwa [← h.1] at h2⟩
    have CD : Aside0 (Kd.C (Kd.int .i64) W A2 (out.length - K) (out.drop K)) := ⟨by
     have h := C_of_cells (w := W) (A := A2) (xs := out.drop K) (by simp; omega) (fun hp => ⟨bg, K, HA2.out (by have := HCAP.out; simp at hp; omega), fun j hj => by
      have := HW.out.cell (K + j) (by simp at hj; omega)
      rw [this]
      simp [List.getD_eq_getElem?_getD]⟩)
     rwa [List.length_drop] at h⟩
    have HB0 : Aside0 (Below W.heap.size W W) := ⟨Below.refl _ _⟩
    refine join_ (σ := Value × Value × Value × Value) 2 #[Y1,Y1,Y1,Y1,Y1,Y1,Y1,Y1,Y1,Y1,Y1,Y1,Y1,Y1,Y0,Y0] (fun s => [(31, s.1), (35, s.2.1), (40, s.2.2.1), (41, s.2.2.2)]) (fun s w' => w'.cell? (ad.add i) = some (.int .i64 c) ∧ (Kd.int .i64).R 3 w' W.heap.size (fun _ => True) s.2.2.2 (out.take K ++ [c]) ∧ Below W.heap.size W w') ?_ ?_
    rotate_left
    ·intro hJ
     refine two_ (i := 0) (j := 9) (Ni := some 31) (Nj := some 40) #[Y1,Y1,Y1,Y1,Y0,Y1,Y1,Y1,Y1,Y0,Y0,Y1,Y1,Y1,Y0,Y0] #[Y0,Y1,Y1,Y1,Y0,Y1,Y1,Y1,Y1,Y1,Y0,Y1,Y1,Y1,Y0,Y0] rfl rfl rfl rfl (by kernel_rfl) (by decide) (by decide) (fun Kc hKc => ?_) (fun Kc hKc => ?_)
     ·skip
      refine Kd.R_lit_step (Kd.int .i64) (w0 := W) W.heap.size 3 (by rfl) rfl (xs := ([] : List Int)) (inner := []) (ok := fun _ => True) (okp := fun _ => True) (by first | (go_simp; done) | (go_simp; rfl)) (Reps.none _ _) (fun _ h => h) trivial HB0.out (QK HB0.out) (by simp) ?_
      intro v31 W1 h31 hb hg hn
      have Z31 := QY (Kd.R_lt h31)
      have N31 := QY hn
      have HB1 := QY hb
      have H31 := QY h31
      clear h31
      refine hKc.out _ _ ((HB1.out.cell (p := ad.add i) HADW.out).trans HX.out) (fun hHeld => ?_)
      clear hKc Kc hHeld hb hg hn
      refine norm_ (a' := ?_) ?_ ?_
      rotate_left
      ·show Act.put _ (some 31) _ = _
       simp only [Act.put, QV, QW, QX, QO, QP]
       rfl
      refine two_ (i := 4) (j := 9) (Ni := some 35) (Nj := some 40) #[Y1,Y1,Y1,Y1,Y1,Y1,Y1,Y1,Y1,Y0,Y0,Y1,Y1,Y1,Y0,Y0] #[Y1,Y1,Y1,Y1,Y0,Y1,Y1,Y1,Y1,Y1,Y0,Y1,Y1,Y1,Y0,Y0] rfl rfl rfl rfl (by kernel_rfl) (by decide) (by decide) (fun Kc hKc => ?_) (fun Kc hKc => ?_)
      ·skip
       refine Kd.R_append_rows_step (Kd.int .i64) (w0 := W) W.heap.size (by rfl) (.tmp 31) (.tmp 34) 24 3 (.int .i64 0) 8 rfl Try.underlying24 info3 rfl (by decide) (by decide) v31 [] (out.take K) (some ⟨bg, 0, none⟩) K cap (fun _ => True) (fun _ => False) rfl rfl H31.out (Kd.C_below CT.out HB1.out) (fun _ _ h => h) (fun _ h => h.elim) (fun _ _ => trivial) HB1.out (QK HB1.out) (by have := HO.out; have := HL.out; simp only [List.length_nil]; omega) ?_
       intro v35 W2 h35 hb hg hn
       have HB2 := QY hb
       have H35 := QY h35
       clear h35
       refine hKc.out _ _ ((HB2.out.cell (p := ad.add i) HADW.out).trans HX.out) (fun hHeld => ?_)
       clear hKc Kc hHeld hb hg hn
       refine norm_ (a' := ?_) ?_ ?_
       rotate_left
       ·show Act.put _ (some 35) _ = _
        simp only [Act.put, QV, QW, QX, QO, QP]
        rfl
       refine one_ (i := 9) (N := some 40) #[Y1,Y1,Y1,Y1,Y1,Y1,Y1,Y1,Y1,Y1,Y0,Y1,Y1,Y1,Y0,Y0] rfl rfl (by kernel_rfl) (by decide) (fun Kc hKc => ?_)
       refine Kd.R_lit_step (Kd.int .i64) (w0 := W) W.heap.size 3 (by rfl) rfl (xs := [c]) (inner := [.int .i64 c]) (ok := fun _ => True) (okp := fun _ => True) (by first | (go_simp; done) | (go_simp; rfl)) (Reps.snoc (Reps.none _ _) rfl rfl) (fun _ h => h) trivial HB2.out (QK HB2.out) (by simp) ?_
       intro v40 W3 h40 hb hg hn
       obtain ⟨A40, c40, rfl⟩ := Kd.R_slice h40
       have Z40 := QY (Kd.R_lt h40)
       have N40 := QY hn
       have HB3 := QY hb
       have nH35 := QY (own_grown H35.out hg (by simp))
       clear H35
       have H35 := nH35
       clear nH35
       have H40 := QY h40
       clear h40
       refine hKc.out _ _ ((HB3.out.cell (p := ad.add i) HADW.out).trans HX.out) (fun hHeld => ?_)
       clear hKc Kc hHeld hb hg hn
       refine norm_ (a' := ?_) ?_ ?_
       rotate_left
       ·show Act.put _ (some 40) _ = _
        simp only [Act.put, QV, QW, QX, QO, QP]
        rfl
       refine one_ (i := 10) (N := some 41) #[Y1,Y1,Y1,Y1,Y1,Y1,Y1,Y1,Y1,Y1,Y1,Y1,Y1,Y1,Y0,Y0] rfl rfl (by kernel_rfl) (by decide) (fun Kc hKc => ?_)
       refine Kd.R_append_rows_step (Kd.int .i64) (w0 := W) W.heap.size (by rfl) (.tmp 35) (.tmp 40) 24 3 (.int .i64 0) 8 rfl Try.underlying24 info3 rfl (by decide) (by decide) v35 (out.take K) [c] A40 [c].length c40 (fun _ => True) (fun _ => False) rfl rfl H35.out (Kd.R_reads' H40.out).2.2 (fun _ _ h => h) (fun _ h => h.elim) (fun _ _ => trivial) HB3.out (QK HB3.out) (by have := HO.out; have := HL.out; simp only [List.length_take, List.length_cons, List.length_nil]; omega) ?_
       intro v41 W4 h41 hb hg hn
       have HB4 := QY hb
       refine hKc.out _ _ ((HB4.out.cell (p := ad.add i) HADW.out).trans HX.out) (fun hHeld => ?_)
       clear hKc Kc hHeld hb hg hn
       refine norm_ (a' := ?_) ?_ ?_
       rotate_left
       ·show Act.put _ (some 41) _ = _
        simp only [Act.put, QV, QW, QX, QO, QP]
        rfl
       exact norm_ (by simp only [putAll, Act.put, QV, QW, QX]) (hJ (v31, v35, .slice A40 [c].length c40, v41) _ ⟨((HB4.out.cell (p := ad.add i) HADW.out).trans HX.out), h41, HB4.out⟩)
      ·skip
       refine Kd.R_lit_step (Kd.int .i64) (w0 := W) W.heap.size 3 (by rfl) rfl (xs := [c]) (inner := [.int .i64 c]) (ok := fun _ => True) (okp := fun _ => True) (by first | (go_simp; done) | (go_simp; rfl)) (Reps.snoc (Reps.none _ _) rfl rfl) (fun _ h => h) trivial HB1.out (QK HB1.out) (by simp) ?_
       intro v40 W2 h40 hb hg hn
       obtain ⟨A40, c40, rfl⟩ := Kd.R_slice h40
       have Z40 := QY (Kd.R_lt h40)
       have N40 := QY hn
       have HB2 := QY hb
       have nH31 := QY (own_grown H31.out hg (by simp))
       clear H31
       have H31 := nH31
       clear nH31
       have H40 := QY h40
       clear h40
       refine hKc.out _ _ ((HB2.out.cell (p := ad.add i) HADW.out).trans HX.out) (fun hHeld => ?_)
       clear hKc Kc hHeld hb hg hn
       refine norm_ (a' := ?_) ?_ ?_
       rotate_left
       ·show Act.put _ (some 40) _ = _
        simp only [Act.put, QV, QW, QX, QO, QP]
        rfl
       refine one_ (i := 4) (N := some 35) #[Y1,Y1,Y1,Y1,Y1,Y1,Y1,Y1,Y1,Y1,Y0,Y1,Y1,Y1,Y0,Y0] rfl rfl (by kernel_rfl) (by decide) (fun Kc hKc => ?_)
       refine Kd.R_append_rows_step (Kd.int .i64) (w0 := W) W.heap.size (by rfl) (.tmp 31) (.tmp 34) 24 3 (.int .i64 0) 8 rfl Try.underlying24 info3 rfl (by decide) (by decide) v31 [] (out.take K) (some ⟨bg, 0, none⟩) K cap (fun _ => True) (fun _ => False) rfl rfl H31.out (Kd.C_below CT.out HB2.out) (fun _ _ h => h) (fun _ h => h.elim) (fun _ _ => trivial) HB2.out (QK HB2.out) (by have := HO.out; have := HL.out; simp only [List.length_nil]; omega) ?_
       intro v35 W3 h35 hb hg hn
       have HB3 := QY hb
       have nH40 := QY (own_grown H40.out hg (.inr (by obtain ⟨b, e1, e2⟩ := N40.out; intro e; rw [e1] at e; have := Z31.out b e.symm; omega)))
       clear H40
       have H40 := nH40
       clear nH40
       have H35 := QY h35
       clear h35
       refine hKc.out _ _ ((HB3.out.cell (p := ad.add i) HADW.out).trans HX.out) (fun hHeld => ?_)
       clear hKc Kc hHeld hb hg hn
       refine norm_ (a' := ?_) ?_ ?_
       rotate_left
       ·show Act.put _ (some 35) _ = _
        simp only [Act.put, QV, QW, QX, QO, QP]
        rfl
       refine one_ (i := 10) (N := some 41) #[Y1,Y1,Y1,Y1,Y1,Y1,Y1,Y1,Y1,Y1,Y1,Y1,Y1,Y1,Y0,Y0] rfl rfl (by kernel_rfl) (by decide) (fun Kc hKc => ?_)
       refine Kd.R_append_rows_step (Kd.int .i64) (w0 := W) W.heap.size (by rfl) (.tmp 35) (.tmp 40) 24 3 (.int .i64 0) 8 rfl Try.underlying24 info3 rfl (by decide) (by decide) v35 (out.take K) [c] A40 [c].length c40 (fun _ => True) (fun _ => False) rfl rfl H35.out (Kd.R_reads' H40.out).2.2 (fun _ _ h => h) (fun _ h => h.elim) (fun _ _ => trivial) HB3.out (QK HB3.out) (by have := HO.out; have := HL.out; simp only [List.length_take, List.length_cons, List.length_nil]; omega) ?_
       intro v41 W4 h41 hb hg hn
       have HB4 := QY hb
       refine hKc.out _ _ ((HB4.out.cell (p := ad.add i) HADW.out).trans HX.out) (fun hHeld => ?_)
       clear hKc Kc hHeld hb hg hn
       refine norm_ (a' := ?_) ?_ ?_
       rotate_left
       ·show Act.put _ (some 41) _ = _
        simp only [Act.put, QV, QW, QX, QO, QP]
        rfl
       exact norm_ (by simp only [putAll, Act.put, QV, QW, QX]) (hJ (v31, v35, .slice A40 [c].length c40, v41) _ ⟨((HB4.out.cell (p := ad.add i) HADW.out).trans HX.out), h41, HB4.out⟩)
     ·skip
      refine Kd.R_lit_step (Kd.int .i64) (w0 := W) W.heap.size 3 (by rfl) rfl (xs := [c]) (inner := [.int .i64 c]) (ok := fun _ => True) (okp := fun _ => True) (by first | (go_simp; done) | (go_simp; rfl)) (Reps.snoc (Reps.none _ _) rfl rfl) (fun _ h => h) trivial HB0.out (QK HB0.out) (by simp) ?_
      intro v40 W1 h40 hb hg hn
      obtain ⟨A40, c40, rfl⟩ := Kd.R_slice h40
      have Z40 := QY (Kd.R_lt h40)
      have N40 := QY hn
      have HB1 := QY hb
      have H40 := QY h40
      clear h40
      refine hKc.out _ _ ((HB1.out.cell (p := ad.add i) HADW.out).trans HX.out) (fun hHeld => ?_)
      clear hKc Kc hHeld hb hg hn
      refine norm_ (a' := ?_) ?_ ?_
      rotate_left
      ·show Act.put _ (some 40) _ = _
       simp only [Act.put, QV, QW, QX, QO, QP]
       rfl
      refine one_ (i := 0) (N := some 31) #[Y1,Y1,Y1,Y1,Y0,Y1,Y1,Y1,Y1,Y1,Y0,Y1,Y1,Y1,Y0,Y0] rfl rfl (by kernel_rfl) (by decide) (fun Kc hKc => ?_)
      refine Kd.R_lit_step (Kd.int .i64) (w0 := W) W.heap.size 3 (by rfl) rfl (xs := ([] : List Int)) (inner := []) (ok := fun _ => True) (okp := fun _ => True) (by first | (go_simp; done) | (go_simp; rfl)) (Reps.none _ _) (fun _ h => h) trivial HB1.out (QK HB1.out) (by simp) ?_
      intro v31 W2 h31 hb hg hn
      have Z31 := QY (Kd.R_lt h31)
      have N31 := QY hn
      have HB2 := QY hb
      have nH40 := QY (own_grown H40.out hg (by simp))
      clear H40
      have H40 := nH40
      clear nH40
      have H31 := QY h31
      clear h31
      refine hKc.out _ _ ((HB2.out.cell (p := ad.add i) HADW.out).trans HX.out) (fun hHeld => ?_)
      clear hKc Kc hHeld hb hg hn
      refine norm_ (a' := ?_) ?_ ?_
      rotate_left
      ·show Act.put _ (some 31) _ = _
       simp only [Act.put, QV, QW, QX, QO, QP]
       rfl
      refine one_ (i := 4) (N := some 35) #[Y1,Y1,Y1,Y1,Y1,Y1,Y1,Y1,Y1,Y1,Y0,Y1,Y1,Y1,Y0,Y0] rfl rfl (by kernel_rfl) (by decide) (fun Kc hKc => ?_)
      refine Kd.R_append_rows_step (Kd.int .i64) (w0 := W) W.heap.size (by rfl) (.tmp 31) (.tmp 34) 24 3 (.int .i64 0) 8 rfl Try.underlying24 info3 rfl (by decide) (by decide) v31 [] (out.take K) (some ⟨bg, 0, none⟩) K cap (fun _ => True) (fun _ => False) rfl rfl H31.out (Kd.C_below CT.out HB2.out) (fun _ _ h => h) (fun _ h => h.elim) (fun _ _ => trivial) HB2.out (QK HB2.out) (by have := HO.out; have := HL.out; simp only [List.length_nil]; omega) ?_
      intro v35 W3 h35 hb hg hn
      have HB3 := QY hb
      have nH40 := QY (own_grown H40.out hg (.inr (by obtain ⟨b, e1, e2⟩ := N31.out; intro e; rw [e1] at e; have := Z40.out b e; omega)))
      clear H40
      have H40 := nH40
      clear nH40
      have H35 := QY h35
      clear h35
      refine hKc.out _ _ ((HB3.out.cell (p := ad.add i) HADW.out).trans HX.out) (fun hHeld => ?_)
      clear hKc Kc hHeld hb hg hn
      refine norm_ (a' := ?_) ?_ ?_
      rotate_left
      ·show Act.put _ (some 35) _ = _
       simp only [Act.put, QV, QW, QX, QO, QP]
       rfl
      refine one_ (i := 10) (N := some 41) #[Y1,Y1,Y1,Y1,Y1,Y1,Y1,Y1,Y1,Y1,Y1,Y1,Y1,Y1,Y0,Y0] rfl rfl (by kernel_rfl) (by decide) (fun Kc hKc => ?_)
      refine Kd.R_append_rows_step (Kd.int .i64) (w0 := W) W.heap.size (by rfl) (.tmp 35) (.tmp 40) 24 3 (.int .i64 0) 8 rfl Try.underlying24 info3 rfl (by decide) (by decide) v35 (out.take K) [c] A40 [c].length c40 (fun _ => True) (fun _ => False) rfl rfl H35.out (Kd.R_reads' H40.out).2.2 (fun _ _ h => h) (fun _ h => h.elim) (fun _ _ => trivial) HB3.out (QK HB3.out) (by have := HO.out; have := HL.out; simp only [List.length_take, List.length_cons, List.length_nil]; omega) ?_
      intro v41 W4 h41 hb hg hn
      have HB4 := QY hb
      refine hKc.out _ _ ((HB4.out.cell (p := ad.add i) HADW.out).trans HX.out) (fun hHeld => ?_)
      clear hKc Kc hHeld hb hg hn
      refine norm_ (a' := ?_) ?_ ?_
      rotate_left
      ·show Act.put _ (some 41) _ = _
       simp only [Act.put, QV, QW, QX, QO, QP]
       rfl
      exact norm_ (by simp only [putAll, Act.put, QV, QW, QX]) (hJ (v31, v35, .slice A40 [c].length c40, v41) _ ⟨((HB4.out.cell (p := ad.add i) HADW.out).trans HX.out), h41, HB4.out⟩)
    rintro ⟨v31, v35, v40, v41⟩ W4 ⟨hX4, h41, hb4⟩
    have H41 := QY h41
    have HB4 := QY hb4
    clear h41 hb4
    refine norm_ (a' := ?_) ?_ ?_
    rotate_left
    ·simp only [putAll, Act.put, QV, QW, QX]
     rfl
    refine one_ (i := 14) (N := some 45) #[Y1,Y1,Y1,Y1,Y1,Y1,Y1,Y1,Y1,Y1,Y1,Y1,Y1,Y1,Y1,Y0] rfl rfl (by kernel_rfl) (by decide) (fun Kc hKc => ?_)
    refine Kd.R_append_rows_step (Kd.int .i64) (w0 := W) W.heap.size (by rfl) (.tmp 41) (.tmp 44) 24 3 (.int .i64 0) 8 rfl Try.underlying24 info3 rfl (by decide) (by decide) v41 (out.take K ++ [c]) (out.drop K) A2 (out.length - K) (cap - K) (fun _ => True) (fun _ => False) rfl rfl H41.out (Kd.C_below CD.out HB4.out) (fun _ _ h => h) (fun _ h => h.elim) (fun _ _ => trivial) HB4.out (QK HB4.out) (by have := HO.out; have := HL.out; simp only [List.length_append, List.length_take, List.length_cons, List.length_nil]; omega) ?_
    intro v45 W5 h45 hb5 hg hn
    have e45 : out.take K ++ [c] ++ out.drop K = insF out c := by rw [IN.out]; simp
    rw [e45] at h45
    have h46 := Kd.R_lower h45 (QK HBW.out)
    have o45 : OwnI W5 w.heap.size v45 (insF out c) := OwnI.of_own (by have := Kd.own_of_R (enc := Value.int .i64) (h1 := fun _ => rfl) h46; simpa [encs] using this) (by rw [insF_length]; omega)
    have HN := QY o45
    have HB5 := QY hb5
    obtain ⟨g5, cap5, cur5, rfl, _, _, _, _, _, _⟩ := o45
    refine hKc.out _ _ ((hb5.cell (p := ad.add i) HADW.out).trans HX.out) (fun hHeld => ?_)
    clear hKc Kc hHeld hb5 hg hn h45 h46 e45
    refine norm_ (a' := ?_) ?_ ?_
    rotate_left
    ·show Act.put _ (some 45) _ = _
     simp only [Act.put, QV, QW, QX, QO, QP]
     rfl
    refine pure_ (i := 15) (N := some 3) (v := ?_) (a' := ?_) #[Y1,Y1,Y1,Y1,Y1,Y1,Y1,Y1,Y1,Y1,Y1,Y1,Y1,Y1,Y1,Y1] rfl rfl (by kernel_rfl) (fun _ _ _ h => h) (Or.inl ⟨by rfl, ?_⟩) ?_ ?_
    rotate_left
    ·intro w'
     go_simp
     with_reducible rfl
    rotate_left
    ·simp only [Act.put, QV, QW, QX, QO, QP]
     rfl
    refine done_ (by kernel_rfl) ?_
    go_wp2
    go_roundg g
    case measure => omega
    case rel => exact ⟨i + 1, insF out c, by go_num, ⟨by have := HI.out; omega⟩, ⟨by rw [insF_length, HO.out]⟩, NXT, HN, ⟨below_then HBW.out (QK HBW.out) HB5.out⟩⟩

end Go.Proofs.Ytkhgeockdjjhmaa.QFnExactSightOf
