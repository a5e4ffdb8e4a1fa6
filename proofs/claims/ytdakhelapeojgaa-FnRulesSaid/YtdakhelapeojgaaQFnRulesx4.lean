/- What a call of each Go function that FnRules reaches comes to, as a Lean function: texts of the kit's print, turned by wip/remake.py. No condition beyond what each names. -/
import Derived.Test.YtdakhelapeojgaaQFnRulesx3
namespace Go.Proofs.Ytdakhelapeojgaa.QFnRules
open Go.RowKit Go.Proofs.YtdakhelapeojgaaW.PrintWords Go.Proofs.YtdakhelapeojgaaW.PrintLast Go.Proofs.YtdakhelapeojgaaW.PrintMore
open Go.Proofs.YtdakhelapeojgaaW.PrintWords renaming blk_frozen → QB, blk_cell → QC, pw_below_drewN → QD, below_drew1 → QE, below_alloc → QF, blk_drewN → QG, blk_alloc → QH, below_set → QI, blk_drew → QJ, cell_far → QK
open Go.Proofs.YtdakhelapeojgaaW.PrintWords.Aside0 renaming mk → QL
attribute [local go_sem] max2_int min2_int max_two min_two max_three min_three max_four min_four   -- for this text's walks alone
set_option linter.unusedVariables false
set_option linter.unusedSimpArgs false

/-! ### impl_FitsOn: function 63 -/
def impl_FitsOn.j0 : Nat → Int → Int → Bool → Int → Int → Bool → Bool → List Int → List Int → Int → Int → Option (Bool)
  | 0, _, _, _, _, _, _, _, _, _, _, _ => none
  | k + 1, x1, x2, x19, x390000, x390001, x390002, x390003, x390004, x390005, x390006, x390007 => if x19 = true then (some false) else (if x390002 = true then ((impl_SuitOf.f x2).bind fun t393 => ((impl_SuitOf.f x1).bind fun t394 => (if t393 = t394 then (some true) else (if x390003 = true then ((impl_RankOf.f x2).bind fun t395 => ((impl_RankOf.f x1).bind fun t396 => (if t395 = t396 then (some true) else ((impl_Matches.f k x390004 x2).bind fun t397 => (some t397))))) else ((impl_Matches.f k x390004 x2).bind fun t398 => (some t398)))))) else (if x390003 = true then ((impl_RankOf.f x2).bind fun t399 => ((impl_RankOf.f x1).bind fun t400 => (if t399 = t400 then (some true) else ((impl_Matches.f k x390004 x2).bind fun t401 => (some t401))))) else ((impl_Matches.f k x390004 x2).bind fun t402 => (some t402))))
def impl_FitsOn.f (k : Nat) (a0_0 : Int) (a0_1 : Int) (a0_2 : Bool) (a0_3 : Bool) (l0_4 : List Int) (l0_5 : List Int) (a0_6 : Int) (a0_7 : Int) (a1 : Int) (a2 : Int) : Option (Bool) := (impl_IsRules.f k a0_0 a0_1 a0_2 a0_3 l0_4 l0_5 a0_6 a0_7).bind fun t390 => (if t390 = true then ((impl_IsCard.f a1).bind fun t391 => (if t391 = true then ((impl_IsCard.f a2).bind fun t392 => (impl_FitsOn.j0 k a1 a2 (!t392) a0_0 a0_1 a0_2 a0_3 l0_4 l0_5 a0_6 a0_7)) else (impl_FitsOn.j0 k a1 a2 true a0_0 a0_1 a0_2 a0_3 l0_4 l0_5 a0_6 a0_7))) else (impl_FitsOn.j0 k a1 a2 true a0_0 a0_1 a0_2 a0_3 l0_4 l0_5 a0_6 a0_7))
theorem impl_FitsOn.mono_l : ∀ k, (∀ y0 y1 y2 y3 y4 y5 y6 y7 y8 y9 y10, LeO (impl_FitsOn.j0 k y0 y1 y2 y3 y4 y5 y6 y7 y8 y9 y10) (impl_FitsOn.j0 (k + 1) y0 y1 y2 y3 y4 y5 y6 y7 y8 y9 y10))
  | 0 => fun _ _ _ _ _ _ _ _ _ _ _ r h => by simp [impl_FitsOn.j0] at h
  | k + 1 => by
    have ih0 := impl_FitsOn.mono_l k
    · intro y0 y1 y2 y3 y4 y5 y6 y7 y8 y9 y10
      unfold impl_FitsOn.j0
      repeat' first
      | (with_reducible exact ih0 _ _ _ _ _ _ _ _ _ _ _)
      | (with_reducible exact impl_IsRules.mono _ _ _ _ _ _ _ _ _)
      | (with_reducible exact impl_Matches.mono _ _ _)
      | (with_reducible exact LeO.refl _)
      | (with_reducible exact LeO.none _)
      | (with_reducible refine LeO.ite ?_ ?_)
      | (with_reducible refine LeO.bind ?_ (fun _ => ?_))
      | exact ih0 _ _ _ _ _ _ _ _ _ _ _
      | exact impl_IsRules.mono _ _ _ _ _ _ _ _ _
      | exact impl_Matches.mono _ _ _
      | exact LeO.none _
      | refine LeO.ite ?_ ?_
      | refine LeO.bind ?_ (fun _ => ?_)
theorem impl_FitsOn.mono : ∀ a0 a1 a2 a3 a4 a5 a6 a7 a8 a9 k, LeO (impl_FitsOn.f k a0 a1 a2 a3 a4 a5 a6 a7 a8 a9) (impl_FitsOn.f (k + 1) a0 a1 a2 a3 a4 a5 a6 a7 a8 a9) := by
  intro a0 a1 a2 a3 a4 a5 a6 a7 a8 a9 k
  have ih0 := impl_FitsOn.mono_l k
  unfold impl_FitsOn.f
  repeat' first
      | (with_reducible exact ih0 _ _ _ _ _ _ _ _ _ _ _)
      | (with_reducible exact impl_IsRules.mono _ _ _ _ _ _ _ _ _)
      | (with_reducible exact impl_Matches.mono _ _ _)
      | (with_reducible exact LeO.refl _)
      | (with_reducible exact LeO.none _)
      | (with_reducible refine LeO.ite ?_ ?_)
      | (with_reducible refine LeO.bind ?_ (fun _ => ?_))
      | exact ih0 _ _ _ _ _ _ _ _ _ _ _
      | exact impl_IsRules.mono _ _ _ _ _ _ _ _ _
      | exact impl_Matches.mono _ _ _
      | exact LeO.none _
      | refine LeO.ite ?_ ?_
      | refine LeO.bind ?_ (fun _ => ?_)
set_option maxHeartbeats 8000000 in
set_option maxRecDepth 100000 in
theorem impl_FitsOn.calls (k : Nat) (a0_0 : Int) (a0_1 : Int) (a0_2 : Bool) (a0_3 : Bool) (A0_4 : Option Addr) (c0_4 : Nat) (l0_4 : List Int) (A0_5 : Option Addr) (c0_5 : Nat) (l0_5 : List Int) (a0_6 : Int) (a0_7 : Int) (a1 : Int) (a2 : Int) (r : Bool) (w : World) (hr0_4 : Kd.C (Kd.int .i64) w A0_4 l0_4.length l0_4) (hc0_4 : l0_4.length ≤ c0_4) (hr0_5 : Kd.C (Kd.int .i64) w A0_5 l0_5.length l0_5) (hc0_5 : l0_5.length ≤ c0_5) (h : impl_FitsOn.f k a0_0 a0_1 a0_2 a0_3 l0_4 l0_5 a0_6 a0_7 a1 a2 = some r) :
    Calls Try.prog 63 #[.agg #[.int .i64 a0_0, .int .i64 a0_1, .bool a0_2, .bool a0_3, .slice A0_4 l0_4.length c0_4, .slice A0_5 l0_5.length c0_5, .int .i64 a0_6, .int .i64 a0_7], .int .i64 a1, .int .i64 a2] w fun e w' => e = .returned (.bool r) ∧ Below w.heap.size w w' := by
  have hu74 := Try.underlying74
  have HR0_4 := QL hr0_4
  have HC0_4 := QL hc0_4
  clear hr0_4 hc0_4
  have HR0_5 := QL hr0_5
  have HC0_5 := QL hc0_5
  clear hr0_5 hc0_5
  have HB := QL (Below.refl w.heap.size w)
  have H : ((impl_IsRules.f k a0_0 a0_1 a0_2 a0_3 l0_4 l0_5 a0_6 a0_7).bind fun t390 => (if t390 = true then ((impl_IsCard.f a1).bind fun t391 => (if t391 = true then ((impl_IsCard.f a2).bind fun t392 => (impl_FitsOn.j0 k a1 a2 (!t392) a0_0 a0_1 a0_2 a0_3 l0_4 l0_5 a0_6 a0_7)) else (impl_FitsOn.j0 k a1 a2 true a0_0 a0_1 a0_2 a0_3 l0_4 l0_5 a0_6 a0_7))) else (impl_FitsOn.j0 k a1 a2 true a0_0 a0_1 a0_2 a0_3 l0_4 l0_5 a0_6 a0_7))) = some r := h
  clear h
  have HC4 := QL H
  clear H
  go_enter Try.func63, Try.ntmps63
  go_upto_region 1 with (first | ((with_reducible refine gate_dst (N := 3) rfl ?_); refine box_event ?hg (N := 3) ?hd (cs := #[.int .i64 a0_0, .int .i64 a0_1, .bool a0_2, .bool a0_3, .slice A0_4 l0_4.length c0_4, .slice A0_5 l0_5.length c0_5, .int .i64 a0_6, .int .i64 a0_7]) (t := 74) ?hr ?_; (case hd => rfl); (case hg => rfl); (case hr => first | (go_simp; done) | (go_simp; rfl)); intro gb389 hg w5 hbox hb; have n0_ := QL (below_step (by repeat (first | (with_reducible first | exact HB.out | apply QF | apply QD | apply QE) | exact HB.out)) hb); have n1_ := QL (hbox); have n2_ := QL ((by rw [hg]; exact (below_size (by repeat (first | (with_reducible first | exact HB.out | apply QF | apply QD | apply QE) | exact HB.out))) : w.heap.size ≤ gb389)); have n3_ := QL ((by rw [hg]; exact (below_size (by repeat (first | (with_reducible first | exact HB.out | apply QF | apply QD | apply QE) | exact HB.out))) : w.heap.size ≤ gb389)); clear HB; have HB := n0_; have BK389 := n1_; have GW389 := n2_; have GE389 := n3_; clear n0_ n1_ n2_ n3_; clear hb hbox hg))
  (try simp only [Act.put, List.setIfInBounds_toArray, List.set_cons_zero, List.set_cons_succ])
  go_cut [19] (fun v19 wc => ∃ (kq : Nat) (x19_3 : Bool), v19 = .bool x19_3 ∧ Aside0 (impl_FitsOn.j0 kq a1 a2 x19_3 a0_0 a0_1 a0_2 a0_3 l0_4 l0_5 a0_6 a0_7 = some r) ∧ Aside0 (kq ≤ k) ∧ Aside0 (wc.heap[gb389]? = some (.cells #[.int .i64 a0_0, .int .i64 a0_1, .bool a0_2, .bool a0_3, (.slice A0_4 l0_4.length c0_4), (.slice A0_5 l0_5.length c0_5), .int .i64 a0_6, .int .i64 a0_7] 74 (0, 0))) ∧ Aside0 (Below w.heap.size w wc))
  case first =>
    have H := HC4.out
    clear HC4
    replace H := Option.bind_eq_some_iff.mp H
    obtain ⟨t390, A60, H⟩ := H
    have A6 := QL A60
    clear A60
    by_cases c7 : t390 = true
    · subst c7
      rw [if_pos rfl] at H
      replace H := Option.bind_eq_some_iff.mp H
      obtain ⟨t391, A80, H⟩ := H
      have A8 := QL A80
      clear A80
      by_cases c9 : t391 = true
      · subst c9
        rw [if_pos rfl] at H
        replace H := Option.bind_eq_some_iff.mp H
        obtain ⟨t392, A100, H⟩ := H
        have A10 := QL A100
        clear A100
        have H' := QL H
        clear H
        have hcz11_0 : w5.cell? ⟨gb389, 0, none⟩ = some (.int .i64 a0_0) := (QC BK389.out 0).trans rfl
        have hcz11_1 : w5.cell? ⟨gb389, 1, none⟩ = some (.int .i64 a0_1) := (QC BK389.out 1).trans rfl
        have hcz11_2 : w5.cell? ⟨gb389, 2, none⟩ = some (.bool a0_2) := (QC BK389.out 2).trans rfl
        have hcz11_3 : w5.cell? ⟨gb389, 3, none⟩ = some (.bool a0_3) := (QC BK389.out 3).trans rfl
        have hcz11_4 : w5.cell? ⟨gb389, 4, none⟩ = some (.slice A0_4 l0_4.length c0_4) := (QC BK389.out 4).trans rfl
        have hcz11_5 : w5.cell? ⟨gb389, 5, none⟩ = some (.slice A0_5 l0_5.length c0_5) := (QC BK389.out 5).trans rfl
        have hcz11_6 : w5.cell? ⟨gb389, 6, none⟩ = some (.int .i64 a0_6) := (QC BK389.out 6).trans rfl
        have hcz11_7 : w5.cell? ⟨gb389, 7, none⟩ = some (.int .i64 a0_7) := (QC BK389.out 7).trans rfl
        have hfz11_0 := QB BK389.out 0
        have hfz11_1 := QB BK389.out 1
        have hfz11_2 := QB BK389.out 2
        have hfz11_3 := QB BK389.out 3
        have hfz11_4 := QB BK389.out 4
        have hfz11_5 := QB BK389.out 5
        have hfz11_6 := QB BK389.out 6
        have hfz11_7 := QB BK389.out 7
        go_wp2_with (first | ((with_reducible refine gate_callee (f := 64) rfl ?_); refine goesL_ (some 8) rfl rfl Try.func64 (by kernel_rfl) rfl #[.agg #[.int .i64 a0_0, .int .i64 a0_1, .bool a0_2, .bool a0_3, .slice A0_4 l0_4.length c0_4, .slice A0_5 l0_5.length c0_5, .int .i64 a0_6, .int .i64 a0_7]] rfl (by (try simp only [List.map_toArray, List.map_cons, List.map_nil]); first | done | rfl | (simp only [List.length_drop, List.length_take]; rfl)) ?_; (with_reducible refine (impl_IsRules.calls k a0_0 a0_1 a0_2 a0_3 _ _ l0_4 _ _ l0_5 a0_6 a0_7 true _ ?side1 ?side2 ?side3 ?side4 A6.out).mono ?_); (case side1 => repeat (first | exact (Kd.C_below HR0_4.out HB.out) | (with_reducible refine Kd.C_alloc ?_ _) | (with_reducible refine Kd.C_drewN ?_ _) | (with_reducible refine Kd.C_drew ?_))); (case side2 => exact HC0_4.out); (case side3 => repeat (first | exact (Kd.C_below HR0_5.out HB.out) | (with_reducible refine Kd.C_alloc ?_ _) | (with_reducible refine Kd.C_drewN ?_ _) | (with_reducible refine Kd.C_drew ?_))); (case side4 => exact HC0_5.out); rintro e w12 ⟨rfl, hb⟩; refine ⟨_, rfl, ?_⟩; have n0_ := QL (blk_below (g := gb389) (o := .cells #[.int .i64 a0_0, .int .i64 a0_1, .bool a0_2, .bool a0_3, .slice A0_4 l0_4.length c0_4, .slice A0_5 l0_5.length c0_5, .int .i64 a0_6, .int .i64 a0_7] 74 (0, 0)) (by (with_reducible repeat (first | refine QG ?_ _ | refine QJ ?_ | refine QH ?_ _)); exact BK389.out) hb); have n1_ := QL (below_step (by repeat (first | (with_reducible first | exact HB.out | apply QF | apply QD | apply QE | refine QI ?_ GE389.out) | exact HB.out)) hb); clear BK389; clear HB; have BK389 := n0_; have HB := n1_; clear n0_ n1_; (try clear hb); (try clear hb2); (try clear hk); (try clear hi)) | (go_at_call 46; (with_reducible refine (impl_IsCard.calls a1 true _ A8.out).mono ?_); rintro e w' ⟨rfl, ⟨nd, rfl⟩⟩) | (go_at_call 46; (with_reducible refine (impl_IsCard.calls a2 t392 _ A10.out).mono ?_); rintro e w' ⟨rfl, ⟨nd, rfl⟩⟩))
        go_meet
        case rel => exact ⟨_, (!t392), (by first | rfl | (simp; done) | (simp [*]; done)), H', ⟨by first | omega | exact Nat.le_refl _⟩, ⟨by (with_reducible repeat (first | refine QG ?_ _ | refine QJ ?_ | refine QH ?_ _)); exact BK389.out⟩, ⟨by repeat (first | (with_reducible first | exact HB.out | apply QF | apply QD | apply QE | refine QI ?_ GE389.out) | exact HB.out)⟩⟩
      · replace c9 := Bool.eq_false_iff.mpr c9
        subst c9
        rw [if_neg (show ¬ (false = true) by decide)] at H
        have H' := QL H
        clear H
        have hcz13_0 : w5.cell? ⟨gb389, 0, none⟩ = some (.int .i64 a0_0) := (QC BK389.out 0).trans rfl
        have hcz13_1 : w5.cell? ⟨gb389, 1, none⟩ = some (.int .i64 a0_1) := (QC BK389.out 1).trans rfl
        have hcz13_2 : w5.cell? ⟨gb389, 2, none⟩ = some (.bool a0_2) := (QC BK389.out 2).trans rfl
        have hcz13_3 : w5.cell? ⟨gb389, 3, none⟩ = some (.bool a0_3) := (QC BK389.out 3).trans rfl
        have hcz13_4 : w5.cell? ⟨gb389, 4, none⟩ = some (.slice A0_4 l0_4.length c0_4) := (QC BK389.out 4).trans rfl
        have hcz13_5 : w5.cell? ⟨gb389, 5, none⟩ = some (.slice A0_5 l0_5.length c0_5) := (QC BK389.out 5).trans rfl
        have hcz13_6 : w5.cell? ⟨gb389, 6, none⟩ = some (.int .i64 a0_6) := (QC BK389.out 6).trans rfl
        have hcz13_7 : w5.cell? ⟨gb389, 7, none⟩ = some (.int .i64 a0_7) := (QC BK389.out 7).trans rfl
        have hfz13_0 := QB BK389.out 0
        have hfz13_1 := QB BK389.out 1
        have hfz13_2 := QB BK389.out 2
        have hfz13_3 := QB BK389.out 3
        have hfz13_4 := QB BK389.out 4
        have hfz13_5 := QB BK389.out 5
        have hfz13_6 := QB BK389.out 6
        have hfz13_7 := QB BK389.out 7
        go_wp2_with (first | ((with_reducible refine gate_callee (f := 64) rfl ?_); refine goesL_ (some 8) rfl rfl Try.func64 (by kernel_rfl) rfl #[.agg #[.int .i64 a0_0, .int .i64 a0_1, .bool a0_2, .bool a0_3, .slice A0_4 l0_4.length c0_4, .slice A0_5 l0_5.length c0_5, .int .i64 a0_6, .int .i64 a0_7]] rfl (by (try simp only [List.map_toArray, List.map_cons, List.map_nil]); first | done | rfl | (simp only [List.length_drop, List.length_take]; rfl)) ?_; (with_reducible refine (impl_IsRules.calls k a0_0 a0_1 a0_2 a0_3 _ _ l0_4 _ _ l0_5 a0_6 a0_7 true _ ?side1 ?side2 ?side3 ?side4 A6.out).mono ?_); (case side1 => repeat (first | exact (Kd.C_below HR0_4.out HB.out) | (with_reducible refine Kd.C_alloc ?_ _) | (with_reducible refine Kd.C_drewN ?_ _) | (with_reducible refine Kd.C_drew ?_))); (case side2 => exact HC0_4.out); (case side3 => repeat (first | exact (Kd.C_below HR0_5.out HB.out) | (with_reducible refine Kd.C_alloc ?_ _) | (with_reducible refine Kd.C_drewN ?_ _) | (with_reducible refine Kd.C_drew ?_))); (case side4 => exact HC0_5.out); rintro e w14 ⟨rfl, hb⟩; refine ⟨_, rfl, ?_⟩; have n0_ := QL (blk_below (g := gb389) (o := .cells #[.int .i64 a0_0, .int .i64 a0_1, .bool a0_2, .bool a0_3, .slice A0_4 l0_4.length c0_4, .slice A0_5 l0_5.length c0_5, .int .i64 a0_6, .int .i64 a0_7] 74 (0, 0)) (by (with_reducible repeat (first | refine QG ?_ _ | refine QJ ?_ | refine QH ?_ _)); exact BK389.out) hb); have n1_ := QL (below_step (by repeat (first | (with_reducible first | exact HB.out | apply QF | apply QD | apply QE | refine QI ?_ GE389.out) | exact HB.out)) hb); clear BK389; clear HB; have BK389 := n0_; have HB := n1_; clear n0_ n1_; (try clear hb); (try clear hb2); (try clear hk); (try clear hi)) | (go_at_call 46; (with_reducible refine (impl_IsCard.calls a1 false _ A8.out).mono ?_); rintro e w' ⟨rfl, ⟨nd, rfl⟩⟩))
        go_meet
        case rel => exact ⟨_, (true), (by first | rfl | (simp; done) | (simp [*]; done)), H', ⟨by first | omega | exact Nat.le_refl _⟩, ⟨by (with_reducible repeat (first | refine QG ?_ _ | refine QJ ?_ | refine QH ?_ _)); exact BK389.out⟩, ⟨by repeat (first | (with_reducible first | exact HB.out | apply QF | apply QD | apply QE | refine QI ?_ GE389.out) | exact HB.out)⟩⟩
    · replace c7 := Bool.eq_false_iff.mpr c7
      subst c7
      rw [if_neg (show ¬ (false = true) by decide)] at H
      have H' := QL H
      clear H
      have hcz15_0 : w5.cell? ⟨gb389, 0, none⟩ = some (.int .i64 a0_0) := (QC BK389.out 0).trans rfl
      have hcz15_1 : w5.cell? ⟨gb389, 1, none⟩ = some (.int .i64 a0_1) := (QC BK389.out 1).trans rfl
      have hcz15_2 : w5.cell? ⟨gb389, 2, none⟩ = some (.bool a0_2) := (QC BK389.out 2).trans rfl
      have hcz15_3 : w5.cell? ⟨gb389, 3, none⟩ = some (.bool a0_3) := (QC BK389.out 3).trans rfl
      have hcz15_4 : w5.cell? ⟨gb389, 4, none⟩ = some (.slice A0_4 l0_4.length c0_4) := (QC BK389.out 4).trans rfl
      have hcz15_5 : w5.cell? ⟨gb389, 5, none⟩ = some (.slice A0_5 l0_5.length c0_5) := (QC BK389.out 5).trans rfl
      have hcz15_6 : w5.cell? ⟨gb389, 6, none⟩ = some (.int .i64 a0_6) := (QC BK389.out 6).trans rfl
      have hcz15_7 : w5.cell? ⟨gb389, 7, none⟩ = some (.int .i64 a0_7) := (QC BK389.out 7).trans rfl
      have hfz15_0 := QB BK389.out 0
      have hfz15_1 := QB BK389.out 1
      have hfz15_2 := QB BK389.out 2
      have hfz15_3 := QB BK389.out 3
      have hfz15_4 := QB BK389.out 4
      have hfz15_5 := QB BK389.out 5
      have hfz15_6 := QB BK389.out 6
      have hfz15_7 := QB BK389.out 7
      go_wp2_with (first | ((with_reducible refine gate_callee (f := 64) rfl ?_); refine goesL_ (some 8) rfl rfl Try.func64 (by kernel_rfl) rfl #[.agg #[.int .i64 a0_0, .int .i64 a0_1, .bool a0_2, .bool a0_3, .slice A0_4 l0_4.length c0_4, .slice A0_5 l0_5.length c0_5, .int .i64 a0_6, .int .i64 a0_7]] rfl (by (try simp only [List.map_toArray, List.map_cons, List.map_nil]); first | done | rfl | (simp only [List.length_drop, List.length_take]; rfl)) ?_; (with_reducible refine (impl_IsRules.calls k a0_0 a0_1 a0_2 a0_3 _ _ l0_4 _ _ l0_5 a0_6 a0_7 false _ ?side1 ?side2 ?side3 ?side4 A6.out).mono ?_); (case side1 => repeat (first | exact (Kd.C_below HR0_4.out HB.out) | (with_reducible refine Kd.C_alloc ?_ _) | (with_reducible refine Kd.C_drewN ?_ _) | (with_reducible refine Kd.C_drew ?_))); (case side2 => exact HC0_4.out); (case side3 => repeat (first | exact (Kd.C_below HR0_5.out HB.out) | (with_reducible refine Kd.C_alloc ?_ _) | (with_reducible refine Kd.C_drewN ?_ _) | (with_reducible refine Kd.C_drew ?_))); (case side4 => exact HC0_5.out); rintro e w16 ⟨rfl, hb⟩; refine ⟨_, rfl, ?_⟩; have n0_ := QL (blk_below (g := gb389) (o := .cells #[.int .i64 a0_0, .int .i64 a0_1, .bool a0_2, .bool a0_3, .slice A0_4 l0_4.length c0_4, .slice A0_5 l0_5.length c0_5, .int .i64 a0_6, .int .i64 a0_7] 74 (0, 0)) (by (with_reducible repeat (first | refine QG ?_ _ | refine QJ ?_ | refine QH ?_ _)); exact BK389.out) hb); have n1_ := QL (below_step (by repeat (first | (with_reducible first | exact HB.out | apply QF | apply QD | apply QE | refine QI ?_ GE389.out) | exact HB.out)) hb); clear BK389; clear HB; have BK389 := n0_; have HB := n1_; clear n0_ n1_; (try clear hb); (try clear hb2); (try clear hk); (try clear hi)))
      go_meet
      case rel => exact ⟨_, (true), (by first | rfl | (simp; done) | (simp [*]; done)), H', ⟨by first | omega | exact Nat.le_refl _⟩, ⟨by (with_reducible repeat (first | refine QG ?_ _ | refine QJ ?_ | refine QH ?_ _)); exact BK389.out⟩, ⟨by repeat (first | (with_reducible first | exact HB.out | apply QF | apply QD | apply QE | refine QI ?_ GE389.out) | exact HB.out)⟩⟩
  case rest =>
    clear HC4
    try clear p2
    try clear c6
    try clear c7
    try clear c9
    try clear hcz11_0
    try clear hcz11_1
    try clear hcz11_2
    try clear hcz11_3
    try clear hcz11_4
    try clear hcz11_5
    try clear hcz11_6
    try clear hcz11_7
    try clear hcz13_0
    try clear hcz13_1
    try clear hcz13_2
    try clear hcz13_3
    try clear hcz13_4
    try clear hcz13_5
    try clear hcz13_6
    try clear hcz13_7
    try clear hcz15_0
    try clear hcz15_1
    try clear hcz15_2
    try clear hcz15_3
    try clear hcz15_4
    try clear hcz15_5
    try clear hcz15_6
    try clear hcz15_7
    try clear hfz11_0
    try clear hfz11_1
    try clear hfz11_2
    try clear hfz11_3
    try clear hfz11_4
    try clear hfz11_5
    try clear hfz11_6
    try clear hfz11_7
    try clear hfz13_0
    try clear hfz13_1
    try clear hfz13_2
    try clear hfz13_3
    try clear hfz13_4
    try clear hfz13_5
    try clear hfz13_6
    try clear hfz13_7
    try clear hfz15_0
    try clear hfz15_1
    try clear hfz15_2
    try clear hfz15_3
    try clear hfz15_4
    try clear hfz15_5
    try clear hfz15_6
    try clear hfz15_7
    obtain ⟨kq, x19_3, rfl, HA, HJ3, BK389, HB⟩ := hcut
    cases kq with
    | zero => exact absurd HA.out (by simp [impl_FitsOn.j0])
    | succ kj3 =>
      have H := HA.out
      clear HA
      simp only [impl_FitsOn.j0] at H
      by_cases c17 : x19_3 = true
      · subst c17
        rw [if_pos rfl] at H
        obtain rfl := Option.some.inj H
        go_wp2
        go_ret
        exact ⟨by first | rfl | (simp [errW_none, errW_some] <;> rfl) | (simp [*, errW_none, errW_some] <;> rfl), by repeat (first | (with_reducible first | exact HB.out | apply QF | apply QD | apply QE | refine QI ?_ GE389.out) | exact HB.out)⟩
      · replace c17 := Bool.eq_false_iff.mpr c17
        subst c17
        rw [if_neg (show ¬ (false = true) by decide)] at H
        by_cases c18 : a0_2 = true
        · subst c18
          rw [if_pos rfl] at H
          replace H := Option.bind_eq_some_iff.mp H
          obtain ⟨t393, A190, H⟩ := H
          have A19 := QL A190
          clear A190
          replace H := Option.bind_eq_some_iff.mp H
          obtain ⟨t394, A200, H⟩ := H
          have A20 := QL A200
          clear A200
          by_cases c21 : t393 = t394
          · rw [if_pos c21] at H
            have c21b0 : (t393 == t394) = true := beq_iff_eq.mpr c21
            have c21b1 : (t393 != t394) = false := bne_eq_false_iff_eq.mpr c21
            clear c21
            obtain rfl := Option.some.inj H
            have hcz22_0 : wc.cell? ⟨gb389, 0, none⟩ = some (.int .i64 a0_0) := (QC BK389.out 0).trans rfl
            have hcz22_1 : wc.cell? ⟨gb389, 1, none⟩ = some (.int .i64 a0_1) := (QC BK389.out 1).trans rfl
            have hcz22_2 : wc.cell? ⟨gb389, 2, none⟩ = some (.bool true) := (QC BK389.out 2).trans rfl
            have hcz22_3 : wc.cell? ⟨gb389, 3, none⟩ = some (.bool a0_3) := (QC BK389.out 3).trans rfl
            have hcz22_4 : wc.cell? ⟨gb389, 4, none⟩ = some (.slice A0_4 l0_4.length c0_4) := (QC BK389.out 4).trans rfl
            have hcz22_5 : wc.cell? ⟨gb389, 5, none⟩ = some (.slice A0_5 l0_5.length c0_5) := (QC BK389.out 5).trans rfl
            have hcz22_6 : wc.cell? ⟨gb389, 6, none⟩ = some (.int .i64 a0_6) := (QC BK389.out 6).trans rfl
            have hcz22_7 : wc.cell? ⟨gb389, 7, none⟩ = some (.int .i64 a0_7) := (QC BK389.out 7).trans rfl
            have hfz22_0 := QB BK389.out 0
            have hfz22_1 := QB BK389.out 1
            have hfz22_2 := QB BK389.out 2
            have hfz22_3 := QB BK389.out 3
            have hfz22_4 := QB BK389.out 4
            have hfz22_5 := QB BK389.out 5
            have hfz22_6 := QB BK389.out 6
            have hfz22_7 := QB BK389.out 7
            go_wp2_with (first | (go_at_call 95; (with_reducible refine (impl_SuitOf.calls a2 t393 _ A19.out).mono ?_); rintro e w' ⟨rfl, ⟨nd, rfl⟩⟩) | (go_at_call 95; (with_reducible refine (impl_SuitOf.calls a1 t394 _ A20.out).mono ?_); rintro e w' ⟨rfl, ⟨nd, rfl⟩⟩))
            go_ret
            exact ⟨by first | rfl | (simp [errW_none, errW_some] <;> rfl) | (simp [*, errW_none, errW_some] <;> rfl), by repeat (first | (with_reducible first | exact HB.out | apply QF | apply QD | apply QE | refine QI ?_ GE389.out) | exact HB.out)⟩
          · rw [if_neg c21] at H
            have c21b0 : (t393 == t394) = false := beq_eq_false_iff_ne.mpr c21
            have c21b1 : (t393 != t394) = true := bne_iff_ne.mpr c21
            by_cases c23 : a0_3 = true
            · subst c23
              rw [if_pos rfl] at H
              replace H := Option.bind_eq_some_iff.mp H
              obtain ⟨t395, A240, H⟩ := H
              have A24 := QL A240
              clear A240
              replace H := Option.bind_eq_some_iff.mp H
              obtain ⟨t396, A250, H⟩ := H
              have A25 := QL A250
              clear A250
              by_cases c26 : t395 = t396
              · rw [if_pos c26] at H
                have c26b0 : (t395 == t396) = true := beq_iff_eq.mpr c26
                have c26b1 : (t395 != t396) = false := bne_eq_false_iff_eq.mpr c26
                clear c26
                obtain rfl := Option.some.inj H
                have hcz27_0 : wc.cell? ⟨gb389, 0, none⟩ = some (.int .i64 a0_0) := (QC BK389.out 0).trans rfl
                have hcz27_1 : wc.cell? ⟨gb389, 1, none⟩ = some (.int .i64 a0_1) := (QC BK389.out 1).trans rfl
                have hcz27_2 : wc.cell? ⟨gb389, 2, none⟩ = some (.bool true) := (QC BK389.out 2).trans rfl
                have hcz27_3 : wc.cell? ⟨gb389, 3, none⟩ = some (.bool true) := (QC BK389.out 3).trans rfl
                have hcz27_4 : wc.cell? ⟨gb389, 4, none⟩ = some (.slice A0_4 l0_4.length c0_4) := (QC BK389.out 4).trans rfl
                have hcz27_5 : wc.cell? ⟨gb389, 5, none⟩ = some (.slice A0_5 l0_5.length c0_5) := (QC BK389.out 5).trans rfl
                have hcz27_6 : wc.cell? ⟨gb389, 6, none⟩ = some (.int .i64 a0_6) := (QC BK389.out 6).trans rfl
                have hcz27_7 : wc.cell? ⟨gb389, 7, none⟩ = some (.int .i64 a0_7) := (QC BK389.out 7).trans rfl
                have hfz27_0 := QB BK389.out 0
                have hfz27_1 := QB BK389.out 1
                have hfz27_2 := QB BK389.out 2
                have hfz27_3 := QB BK389.out 3
                have hfz27_4 := QB BK389.out 4
                have hfz27_5 := QB BK389.out 5
                have hfz27_6 := QB BK389.out 6
                have hfz27_7 := QB BK389.out 7
                go_wp2_with (first | (go_at_call 95; (with_reducible refine (impl_SuitOf.calls a2 t393 _ A19.out).mono ?_); rintro e w' ⟨rfl, ⟨nd, rfl⟩⟩) | (go_at_call 95; (with_reducible refine (impl_SuitOf.calls a1 t394 _ A20.out).mono ?_); rintro e w' ⟨rfl, ⟨nd, rfl⟩⟩) | (go_at_call 91; (with_reducible refine (impl_RankOf.calls a2 t395 _ A24.out).mono ?_); rintro e w' ⟨rfl, ⟨nd, rfl⟩⟩) | (go_at_call 91; (with_reducible refine (impl_RankOf.calls a1 t396 _ A25.out).mono ?_); rintro e w' ⟨rfl, ⟨nd, rfl⟩⟩))
                go_ret
                exact ⟨by first | rfl | (simp [errW_none, errW_some] <;> rfl) | (simp [*, errW_none, errW_some] <;> rfl), by repeat (first | (with_reducible first | exact HB.out | apply QF | apply QD | apply QE | refine QI ?_ GE389.out) | exact HB.out)⟩
              · rw [if_neg c26] at H
                have c26b0 : (t395 == t396) = false := beq_eq_false_iff_ne.mpr c26
                have c26b1 : (t395 != t396) = true := bne_iff_ne.mpr c26
                replace H := Option.bind_eq_some_iff.mp H
                obtain ⟨t397, A280, H⟩ := H
                have A28 := QL A280
                clear A280
                obtain rfl := Option.some.inj H
                have hcz29_0 : wc.cell? ⟨gb389, 0, none⟩ = some (.int .i64 a0_0) := (QC BK389.out 0).trans rfl
                have hcz29_1 : wc.cell? ⟨gb389, 1, none⟩ = some (.int .i64 a0_1) := (QC BK389.out 1).trans rfl
                have hcz29_2 : wc.cell? ⟨gb389, 2, none⟩ = some (.bool true) := (QC BK389.out 2).trans rfl
                have hcz29_3 : wc.cell? ⟨gb389, 3, none⟩ = some (.bool true) := (QC BK389.out 3).trans rfl
                have hcz29_4 : wc.cell? ⟨gb389, 4, none⟩ = some (.slice A0_4 l0_4.length c0_4) := (QC BK389.out 4).trans rfl
                have hcz29_5 : wc.cell? ⟨gb389, 5, none⟩ = some (.slice A0_5 l0_5.length c0_5) := (QC BK389.out 5).trans rfl
                have hcz29_6 : wc.cell? ⟨gb389, 6, none⟩ = some (.int .i64 a0_6) := (QC BK389.out 6).trans rfl
                have hcz29_7 : wc.cell? ⟨gb389, 7, none⟩ = some (.int .i64 a0_7) := (QC BK389.out 7).trans rfl
                have hfz29_0 := QB BK389.out 0
                have hfz29_1 := QB BK389.out 1
                have hfz29_2 := QB BK389.out 2
                have hfz29_3 := QB BK389.out 3
                have hfz29_4 := QB BK389.out 4
                have hfz29_5 := QB BK389.out 5
                have hfz29_6 := QB BK389.out 6
                have hfz29_7 := QB BK389.out 7
                go_wp2_with (first | (go_at_call 95; (with_reducible refine (impl_SuitOf.calls a2 t393 _ A19.out).mono ?_); rintro e w' ⟨rfl, ⟨nd, rfl⟩⟩) | (go_at_call 95; (with_reducible refine (impl_SuitOf.calls a1 t394 _ A20.out).mono ?_); rintro e w' ⟨rfl, ⟨nd, rfl⟩⟩) | (go_at_call 91; (with_reducible refine (impl_RankOf.calls a2 t395 _ A24.out).mono ?_); rintro e w' ⟨rfl, ⟨nd, rfl⟩⟩) | (go_at_call 91; (with_reducible refine (impl_RankOf.calls a1 t396 _ A25.out).mono ?_); rintro e w' ⟨rfl, ⟨nd, rfl⟩⟩) | (go_at_call 65; (with_reducible refine (impl_Matches.calls kj3 _ _ l0_4 a2 t397 _ ?side1 ?side2 A28.out).mono ?_); (case side1 => repeat (first | exact (Kd.C_below HR0_4.out (by repeat (first | (with_reducible first | exact HB.out | apply QF | apply QD | apply QE | refine QI ?_ GE389.out) | exact HB.out))) | (with_reducible refine Kd.C_alloc ?_ _) | (with_reducible refine Kd.C_drewN ?_ _) | (with_reducible refine Kd.C_drew ?_))); (case side2 => exact HC0_4.out); rintro e w30 ⟨rfl, hb⟩; have n0_ := QL (blk_below (g := gb389) (o := .cells #[.int .i64 a0_0, .int .i64 a0_1, .bool true, .bool true, .slice A0_4 l0_4.length c0_4, .slice A0_5 l0_5.length c0_5, .int .i64 a0_6, .int .i64 a0_7] 74 (0, 0)) (by (with_reducible repeat (first | refine QG ?_ _ | refine QJ ?_ | refine QH ?_ _)); exact BK389.out) hb); have n1_ := QL (below_step (by repeat (first | (with_reducible first | exact HB.out | apply QF | apply QD | apply QE | refine QI ?_ GE389.out) | exact HB.out)) hb); clear BK389; clear HB; have BK389 := n0_; have HB := n1_; clear n0_ n1_; (try clear hb); (try clear hb2); (try clear hk); (try clear hi)))
                go_ret
                exact ⟨by first | rfl | (simp [errW_none, errW_some] <;> rfl) | (simp [*, errW_none, errW_some] <;> rfl), by repeat (first | (with_reducible first | exact HB.out | apply QF | apply QD | apply QE | refine QI ?_ GE389.out) | exact HB.out)⟩
            · replace c23 := Bool.eq_false_iff.mpr c23
              subst c23
              rw [if_neg (show ¬ (false = true) by decide)] at H
              replace H := Option.bind_eq_some_iff.mp H
              obtain ⟨t398, A310, H⟩ := H
              have A31 := QL A310
              clear A310
              try (obtain rfl := Option.some.inj (A31.out.symm.trans A28.out))
              obtain rfl := Option.some.inj H
              have hcz32_0 : wc.cell? ⟨gb389, 0, none⟩ = some (.int .i64 a0_0) := (QC BK389.out 0).trans rfl
              have hcz32_1 : wc.cell? ⟨gb389, 1, none⟩ = some (.int .i64 a0_1) := (QC BK389.out 1).trans rfl
              have hcz32_2 : wc.cell? ⟨gb389, 2, none⟩ = some (.bool true) := (QC BK389.out 2).trans rfl
              have hcz32_3 : wc.cell? ⟨gb389, 3, none⟩ = some (.bool false) := (QC BK389.out 3).trans rfl
              have hcz32_4 : wc.cell? ⟨gb389, 4, none⟩ = some (.slice A0_4 l0_4.length c0_4) := (QC BK389.out 4).trans rfl
              have hcz32_5 : wc.cell? ⟨gb389, 5, none⟩ = some (.slice A0_5 l0_5.length c0_5) := (QC BK389.out 5).trans rfl
              have hcz32_6 : wc.cell? ⟨gb389, 6, none⟩ = some (.int .i64 a0_6) := (QC BK389.out 6).trans rfl
              have hcz32_7 : wc.cell? ⟨gb389, 7, none⟩ = some (.int .i64 a0_7) := (QC BK389.out 7).trans rfl
              have hfz32_0 := QB BK389.out 0
              have hfz32_1 := QB BK389.out 1
              have hfz32_2 := QB BK389.out 2
              have hfz32_3 := QB BK389.out 3
              have hfz32_4 := QB BK389.out 4
              have hfz32_5 := QB BK389.out 5
              have hfz32_6 := QB BK389.out 6
              have hfz32_7 := QB BK389.out 7
              go_wp2_with (first | (go_at_call 95; (with_reducible refine (impl_SuitOf.calls a2 t393 _ A19.out).mono ?_); rintro e w' ⟨rfl, ⟨nd, rfl⟩⟩) | (go_at_call 95; (with_reducible refine (impl_SuitOf.calls a1 t394 _ A20.out).mono ?_); rintro e w' ⟨rfl, ⟨nd, rfl⟩⟩) | (go_at_call 65; (with_reducible refine (impl_Matches.calls kj3 _ _ l0_4 a2 t398 _ ?side1 ?side2 A31.out).mono ?_); (case side1 => repeat (first | exact (Kd.C_below HR0_4.out (by repeat (first | (with_reducible first | exact HB.out | apply QF | apply QD | apply QE | refine QI ?_ GE389.out) | exact HB.out))) | (with_reducible refine Kd.C_alloc ?_ _) | (with_reducible refine Kd.C_drewN ?_ _) | (with_reducible refine Kd.C_drew ?_))); (case side2 => exact HC0_4.out); rintro e w33 ⟨rfl, hb⟩; have n0_ := QL (blk_below (g := gb389) (o := .cells #[.int .i64 a0_0, .int .i64 a0_1, .bool true, .bool false, .slice A0_4 l0_4.length c0_4, .slice A0_5 l0_5.length c0_5, .int .i64 a0_6, .int .i64 a0_7] 74 (0, 0)) (by (with_reducible repeat (first | refine QG ?_ _ | refine QJ ?_ | refine QH ?_ _)); exact BK389.out) hb); have n1_ := QL (below_step (by repeat (first | (with_reducible first | exact HB.out | apply QF | apply QD | apply QE | refine QI ?_ GE389.out) | exact HB.out)) hb); clear BK389; clear HB; have BK389 := n0_; have HB := n1_; clear n0_ n1_; (try clear hb); (try clear hb2); (try clear hk); (try clear hi)))
              go_ret
              exact ⟨by first | rfl | (simp [errW_none, errW_some] <;> rfl) | (simp [*, errW_none, errW_some] <;> rfl), by repeat (first | (with_reducible first | exact HB.out | apply QF | apply QD | apply QE | refine QI ?_ GE389.out) | exact HB.out)⟩
        · replace c18 := Bool.eq_false_iff.mpr c18
          subst c18
          rw [if_neg (show ¬ (false = true) by decide)] at H
          by_cases c34 : a0_3 = true
          · subst c34
            rw [if_pos rfl] at H
            replace H := Option.bind_eq_some_iff.mp H
            obtain ⟨t399, A350, H⟩ := H
            have A35 := QL A350
            clear A350
            try (obtain rfl := Option.some.inj (A35.out.symm.trans A24.out))
            replace H := Option.bind_eq_some_iff.mp H
            obtain ⟨t400, A360, H⟩ := H
            have A36 := QL A360
            clear A360
            try (obtain rfl := Option.some.inj (A36.out.symm.trans A25.out))
            by_cases c37 : t399 = t400
            · rw [if_pos c37] at H
              have c37b0 : (t399 == t400) = true := beq_iff_eq.mpr c37
              have c37b1 : (t399 != t400) = false := bne_eq_false_iff_eq.mpr c37
              clear c37
              obtain rfl := Option.some.inj H
              have hcz38_0 : wc.cell? ⟨gb389, 0, none⟩ = some (.int .i64 a0_0) := (QC BK389.out 0).trans rfl
              have hcz38_1 : wc.cell? ⟨gb389, 1, none⟩ = some (.int .i64 a0_1) := (QC BK389.out 1).trans rfl
              have hcz38_2 : wc.cell? ⟨gb389, 2, none⟩ = some (.bool false) := (QC BK389.out 2).trans rfl
              have hcz38_3 : wc.cell? ⟨gb389, 3, none⟩ = some (.bool true) := (QC BK389.out 3).trans rfl
              have hcz38_4 : wc.cell? ⟨gb389, 4, none⟩ = some (.slice A0_4 l0_4.length c0_4) := (QC BK389.out 4).trans rfl
              have hcz38_5 : wc.cell? ⟨gb389, 5, none⟩ = some (.slice A0_5 l0_5.length c0_5) := (QC BK389.out 5).trans rfl
              have hcz38_6 : wc.cell? ⟨gb389, 6, none⟩ = some (.int .i64 a0_6) := (QC BK389.out 6).trans rfl
              have hcz38_7 : wc.cell? ⟨gb389, 7, none⟩ = some (.int .i64 a0_7) := (QC BK389.out 7).trans rfl
              have hfz38_0 := QB BK389.out 0
              have hfz38_1 := QB BK389.out 1
              have hfz38_2 := QB BK389.out 2
              have hfz38_3 := QB BK389.out 3
              have hfz38_4 := QB BK389.out 4
              have hfz38_5 := QB BK389.out 5
              have hfz38_6 := QB BK389.out 6
              have hfz38_7 := QB BK389.out 7
              go_wp2_with (first | (go_at_call 91; (with_reducible refine (impl_RankOf.calls a2 t399 _ A35.out).mono ?_); rintro e w' ⟨rfl, ⟨nd, rfl⟩⟩) | (go_at_call 91; (with_reducible refine (impl_RankOf.calls a1 t400 _ A36.out).mono ?_); rintro e w' ⟨rfl, ⟨nd, rfl⟩⟩))
              go_ret
              exact ⟨by first | rfl | (simp [errW_none, errW_some] <;> rfl) | (simp [*, errW_none, errW_some] <;> rfl), by repeat (first | (with_reducible first | exact HB.out | apply QF | apply QD | apply QE | refine QI ?_ GE389.out) | exact HB.out)⟩
            · rw [if_neg c37] at H
              have c37b0 : (t399 == t400) = false := beq_eq_false_iff_ne.mpr c37
              have c37b1 : (t399 != t400) = true := bne_iff_ne.mpr c37
              replace H := Option.bind_eq_some_iff.mp H
              obtain ⟨t401, A390, H⟩ := H
              have A39 := QL A390
              clear A390
              try (obtain rfl := Option.some.inj (A39.out.symm.trans A31.out))
              obtain rfl := Option.some.inj H
              have hcz40_0 : wc.cell? ⟨gb389, 0, none⟩ = some (.int .i64 a0_0) := (QC BK389.out 0).trans rfl
              have hcz40_1 : wc.cell? ⟨gb389, 1, none⟩ = some (.int .i64 a0_1) := (QC BK389.out 1).trans rfl
              have hcz40_2 : wc.cell? ⟨gb389, 2, none⟩ = some (.bool false) := (QC BK389.out 2).trans rfl
              have hcz40_3 : wc.cell? ⟨gb389, 3, none⟩ = some (.bool true) := (QC BK389.out 3).trans rfl
              have hcz40_4 : wc.cell? ⟨gb389, 4, none⟩ = some (.slice A0_4 l0_4.length c0_4) := (QC BK389.out 4).trans rfl
              have hcz40_5 : wc.cell? ⟨gb389, 5, none⟩ = some (.slice A0_5 l0_5.length c0_5) := (QC BK389.out 5).trans rfl
              have hcz40_6 : wc.cell? ⟨gb389, 6, none⟩ = some (.int .i64 a0_6) := (QC BK389.out 6).trans rfl
              have hcz40_7 : wc.cell? ⟨gb389, 7, none⟩ = some (.int .i64 a0_7) := (QC BK389.out 7).trans rfl
              have hfz40_0 := QB BK389.out 0
              have hfz40_1 := QB BK389.out 1
              have hfz40_2 := QB BK389.out 2
              have hfz40_3 := QB BK389.out 3
              have hfz40_4 := QB BK389.out 4
              have hfz40_5 := QB BK389.out 5
              have hfz40_6 := QB BK389.out 6
              have hfz40_7 := QB BK389.out 7
              go_wp2_with (first | (go_at_call 91; (with_reducible refine (impl_RankOf.calls a2 t399 _ A35.out).mono ?_); rintro e w' ⟨rfl, ⟨nd, rfl⟩⟩) | (go_at_call 91; (with_reducible refine (impl_RankOf.calls a1 t400 _ A36.out).mono ?_); rintro e w' ⟨rfl, ⟨nd, rfl⟩⟩) | (go_at_call 65; (with_reducible refine (impl_Matches.calls kj3 _ _ l0_4 a2 t401 _ ?side1 ?side2 A39.out).mono ?_); (case side1 => repeat (first | exact (Kd.C_below HR0_4.out (by repeat (first | (with_reducible first | exact HB.out | apply QF | apply QD | apply QE | refine QI ?_ GE389.out) | exact HB.out))) | (with_reducible refine Kd.C_alloc ?_ _) | (with_reducible refine Kd.C_drewN ?_ _) | (with_reducible refine Kd.C_drew ?_))); (case side2 => exact HC0_4.out); rintro e w41 ⟨rfl, hb⟩; have n0_ := QL (blk_below (g := gb389) (o := .cells #[.int .i64 a0_0, .int .i64 a0_1, .bool false, .bool true, .slice A0_4 l0_4.length c0_4, .slice A0_5 l0_5.length c0_5, .int .i64 a0_6, .int .i64 a0_7] 74 (0, 0)) (by (with_reducible repeat (first | refine QG ?_ _ | refine QJ ?_ | refine QH ?_ _)); exact BK389.out) hb); have n1_ := QL (below_step (by repeat (first | (with_reducible first | exact HB.out | apply QF | apply QD | apply QE | refine QI ?_ GE389.out) | exact HB.out)) hb); clear BK389; clear HB; have BK389 := n0_; have HB := n1_; clear n0_ n1_; (try clear hb); (try clear hb2); (try clear hk); (try clear hi)))
              go_ret
              exact ⟨by first | rfl | (simp [errW_none, errW_some] <;> rfl) | (simp [*, errW_none, errW_some] <;> rfl), by repeat (first | (with_reducible first | exact HB.out | apply QF | apply QD | apply QE | refine QI ?_ GE389.out) | exact HB.out)⟩
          · replace c34 := Bool.eq_false_iff.mpr c34
            subst c34
            rw [if_neg (show ¬ (false = true) by decide)] at H
            replace H := Option.bind_eq_some_iff.mp H
            obtain ⟨t402, A420, H⟩ := H
            have A42 := QL A420
            clear A420
            try (obtain rfl := Option.some.inj (A42.out.symm.trans A39.out))
            obtain rfl := Option.some.inj H
            have hcz43_0 : wc.cell? ⟨gb389, 0, none⟩ = some (.int .i64 a0_0) := (QC BK389.out 0).trans rfl
            have hcz43_1 : wc.cell? ⟨gb389, 1, none⟩ = some (.int .i64 a0_1) := (QC BK389.out 1).trans rfl
            have hcz43_2 : wc.cell? ⟨gb389, 2, none⟩ = some (.bool false) := (QC BK389.out 2).trans rfl
            have hcz43_3 : wc.cell? ⟨gb389, 3, none⟩ = some (.bool false) := (QC BK389.out 3).trans rfl
            have hcz43_4 : wc.cell? ⟨gb389, 4, none⟩ = some (.slice A0_4 l0_4.length c0_4) := (QC BK389.out 4).trans rfl
            have hcz43_5 : wc.cell? ⟨gb389, 5, none⟩ = some (.slice A0_5 l0_5.length c0_5) := (QC BK389.out 5).trans rfl
            have hcz43_6 : wc.cell? ⟨gb389, 6, none⟩ = some (.int .i64 a0_6) := (QC BK389.out 6).trans rfl
            have hcz43_7 : wc.cell? ⟨gb389, 7, none⟩ = some (.int .i64 a0_7) := (QC BK389.out 7).trans rfl
            have hfz43_0 := QB BK389.out 0
            have hfz43_1 := QB BK389.out 1
            have hfz43_2 := QB BK389.out 2
            have hfz43_3 := QB BK389.out 3
            have hfz43_4 := QB BK389.out 4
            have hfz43_5 := QB BK389.out 5
            have hfz43_6 := QB BK389.out 6
            have hfz43_7 := QB BK389.out 7
            go_wp2_with (first | (go_at_call 65; (with_reducible refine (impl_Matches.calls kj3 _ _ l0_4 a2 t402 _ ?side1 ?side2 A42.out).mono ?_); (case side1 => repeat (first | exact (Kd.C_below HR0_4.out HB.out) | (with_reducible refine Kd.C_alloc ?_ _) | (with_reducible refine Kd.C_drewN ?_ _) | (with_reducible refine Kd.C_drew ?_))); (case side2 => exact HC0_4.out); rintro e w44 ⟨rfl, hb⟩; have n0_ := QL (blk_below (g := gb389) (o := .cells #[.int .i64 a0_0, .int .i64 a0_1, .bool false, .bool false, .slice A0_4 l0_4.length c0_4, .slice A0_5 l0_5.length c0_5, .int .i64 a0_6, .int .i64 a0_7] 74 (0, 0)) (by (with_reducible repeat (first | refine QG ?_ _ | refine QJ ?_ | refine QH ?_ _)); exact BK389.out) hb); have n1_ := QL (below_step (by repeat (first | (with_reducible first | exact HB.out | apply QF | apply QD | apply QE | refine QI ?_ GE389.out) | exact HB.out)) hb); clear BK389; clear HB; have BK389 := n0_; have HB := n1_; clear n0_ n1_; (try clear hb); (try clear hb2); (try clear hk); (try clear hi)))
            go_ret
            exact ⟨by first | rfl | (simp [errW_none, errW_some] <;> rfl) | (simp [*, errW_none, errW_some] <;> rfl), by repeat (first | (with_reducible first | exact HB.out | apply QF | apply QD | apply QE | refine QI ?_ GE389.out) | exact HB.out)⟩

/-! ### spec_DrawFitCount: function 66 -/
def spec_DrawFitCount.f (k : Nat) (l0 : List Int) : Option (Int × Int × Bool × Bool × List Int × List Int × Int × Int × Int) := (spec_l1New.f k l0).bind fun bt404 => ((spec_l22Any.f k bt404.1 bt404.2.1 bt404.2.2).bind fun bt408 => ((spec_l4Card.f bt404.1 bt408.2.2.2.2.2.2.2.2.1 bt408.2.2.2.2.2.2.2.2.2).bind fun bt423 => (some (bt408.1, bt408.2.1, bt408.2.2.1, bt408.2.2.2.1, bt408.2.2.2.2.1, bt408.2.2.2.2.2.1, bt408.2.2.2.2.2.2.1, bt408.2.2.2.2.2.2.2.1, bt423.1))))
theorem spec_DrawFitCount.mono : ∀ a0 k, LeO (spec_DrawFitCount.f k a0) (spec_DrawFitCount.f (k + 1) a0) := by
  intro a0 k
  unfold spec_DrawFitCount.f
  repeat' first
      | (with_reducible exact spec_l1New.mono _ _)
      | (with_reducible exact spec_l22Any.mono _ _ _ _)
      | (with_reducible exact LeO.refl _)
      | (with_reducible exact LeO.none _)
      | (with_reducible refine LeO.ite ?_ ?_)
      | (with_reducible refine LeO.bind ?_ (fun _ => ?_))
      | exact spec_l1New.mono _ _
      | exact spec_l22Any.mono _ _ _ _
      | exact LeO.none _
      | refine LeO.ite ?_ ?_
      | refine LeO.bind ?_ (fun _ => ?_)
set_option maxHeartbeats 8000000 in
set_option maxRecDepth 100000 in
theorem spec_DrawFitCount.calls (k : Nat) (A0 : Option Addr) (c0 : Nat) (l0 : List Int) (r1 : Int) (r2 : Int) (r3 : Bool) (r4 : Bool) (r5 : List Int) (r6 : List Int) (r7 : Int) (r8 : Int) (r9 : Int) (w : World) (hr0 : Kd.C (Kd.int .u8) w A0 l0.length l0) (hc0 : l0.length ≤ c0) (h : spec_DrawFitCount.f k l0 = some (r1, r2, r3, r4, r5, r6, r7, r8, r9)) :
    Calls Try.prog 66 #[.slice A0 l0.length c0] w fun e w' => ∃ v4_ v5_ : Value, e = .returned (.tuple #[.agg #[.int .i64 r1, .int .i64 r2, .bool r3, .bool r4, v4_, v5_, .int .i64 r7, .int .i64 r8], .int .i64 r9]) ∧ Kd.Q (Kd.int .i64) 3 w' w.heap.size (fun k_ => some k_ ≠ (v5_ : Value).ownBlock) v4_ r5 ∧ Kd.R (Kd.int .i64) 3 w' w.heap.size (fun k_ => some k_ ≠ (v4_ : Value).ownBlock) v5_ r6 ∧ Below w.heap.size w w' := by
  have hu74 := Try.underlying74
  have HR0 := QL hr0
  have HC0 := QL hc0
  clear hr0 hc0
  have HB := QL (Below.refl w.heap.size w)
  have H : ((spec_l1New.f k l0).bind fun bt404 => ((spec_l22Any.f k bt404.1 bt404.2.1 bt404.2.2).bind fun bt408 => ((spec_l4Card.f bt404.1 bt408.2.2.2.2.2.2.2.2.1 bt408.2.2.2.2.2.2.2.2.2).bind fun bt423 => (some (bt408.1, bt408.2.1, bt408.2.2.1, bt408.2.2.2.1, bt408.2.2.2.2.1, bt408.2.2.2.2.2.1, bt408.2.2.2.2.2.2.1, bt408.2.2.2.2.2.2.2.1, bt423.1))))) = some (r1, r2, r3, r4, r5, r6, r7, r8, r9) := h
  clear h
  replace H := Option.bind_eq_some_iff.mp H
  obtain ⟨⟨t404, t405, t406⟩, A20, H⟩ := H
  replace H : ((spec_l22Any.f k t404 t405 t406).bind fun bt408 => ((spec_l4Card.f t404 bt408.2.2.2.2.2.2.2.2.1 bt408.2.2.2.2.2.2.2.2.2).bind fun bt423 => (some (bt408.1, bt408.2.1, bt408.2.2.1, bt408.2.2.2.1, bt408.2.2.2.2.1, bt408.2.2.2.2.2.1, bt408.2.2.2.2.2.2.1, bt408.2.2.2.2.2.2.2.1, bt423.1)))) = some (r1, r2, r3, r4, r5, r6, r7, r8, r9) := H
  have A2 := QL A20
  clear A20
  replace H := Option.bind_eq_some_iff.mp H
  obtain ⟨⟨t408, t409, t410, t411, t412, t415, t418, t419, t420, t421⟩, A30, H⟩ := H
  replace H : ((spec_l4Card.f t404 t420 t421).bind fun bt423 => (some (t408, t409, t410, t411, t412, t415, t418, t419, bt423.1))) = some (r1, r2, r3, r4, r5, r6, r7, r8, r9) := H
  have A3 := QL A30
  clear A30
  replace H := Option.bind_eq_some_iff.mp H
  obtain ⟨⟨t423, t424, t425⟩, A40, H⟩ := H
  replace H : (some (t408, t409, t410, t411, t412, t415, t418, t419, t423)) = some (r1, r2, r3, r4, r5, r6, r7, r8, r9) := H
  have A4 := QL A40
  clear A40
  simp only [Option.some.injEq, Prod.mk.injEq] at H
  obtain ⟨rfl, rfl, rfl, rfl, rfl, rfl, rfl, rfl, rfl⟩ := H
  go_enter Try.func66, Try.ntmps66
  try go_wp2_with (first | ((with_reducible refine gate_dst (N := 2) rfl ?_); refine box_event ?hg (N := 2) ?hd (cs := #[.int .i64 0, .int .i64 0, .bool false, .bool false, .slice none 0 0, .slice none 0 0, .int .i64 0, .int .i64 0]) (t := 74) ?hr ?_; (case hd => rfl); (case hg => rfl); (case hr => first | (go_simp; done) | (go_simp; rfl)); intro gb403 hg w5 hbox hb; have n0_ := QL (below_step (by repeat (first | (with_reducible first | exact HB.out | apply QF | apply QD | apply QE) | exact HB.out)) hb); have n1_ := QL (hbox); have n2_ := QL ((by rw [hg]; exact (below_size (by repeat (first | (with_reducible first | exact HB.out | apply QF | apply QD | apply QE) | exact HB.out))) : w.heap.size ≤ gb403)); have n3_ := QL ((by rw [hg]; exact (below_size (by repeat (first | (with_reducible first | exact HB.out | apply QF | apply QD | apply QE) | exact HB.out))) : w.heap.size ≤ gb403)); clear HB; have HB := n0_; have BK403 := n1_; have GW403 := n2_; have GE403 := n3_; clear n0_ n1_ n2_ n3_; clear hb hbox hg) | ((with_reducible refine gate_callee (f := 122) rfl ?_); refine goesL_ (some 7) rfl rfl Try.func122 (by kernel_rfl) rfl #[.slice A0 l0.length c0] rfl (by (try simp only [List.map_toArray, List.map_cons, List.map_nil]); first | done | rfl | (simp only [List.length_drop, List.length_take]; rfl)) ?_; (with_reducible refine (spec_l1New.calls k _ _ l0 t404 t405 t406 w _ ?side1 ?side2 ?side3 A2.out).mono ?_); (case side1 => repeat (first | (with_reducible first | exact HB.out | apply QF | apply QD | apply QE | refine QI ?_ GE403.out) | exact HB.out)); (case side2 => exact HR0.out); (case side3 => exact HC0.out); rintro e w6 ⟨g407, rfl, hi, hb, hb2⟩; refine ⟨_, rfl, ?_⟩; have n0_ := QL (blk_below (g := gb403) (o := .cells #[.int .i64 0, .int .i64 0, .bool false, .bool false, .slice none 0 0, .slice none 0 0, .int .i64 0, .int .i64 0] 74 (0, 0)) (by (with_reducible repeat (first | refine QG ?_ _ | refine QJ ?_ | refine QH ?_ _)); exact BK403.out) hb2); have n1_ := QL (hb); have n2_ := QL (hi); have n3_ := QL (IsS123.ne_blk hi (blk_below (g := gb403) (o := .cells #[.int .i64 0, .int .i64 0, .bool false, .bool false, .slice none 0 0, .slice none 0 0, .int .i64 0, .int .i64 0] 74 (0, 0)) (by (with_reducible repeat (first | refine QG ?_ _ | refine QJ ?_ | refine QH ?_ _)); exact BK403.out) hb2) (by decide)); have n4_ := QL (Ne.symm (IsS123.ne_blk hi (blk_below (g := gb403) (o := .cells #[.int .i64 0, .int .i64 0, .bool false, .bool false, .slice none 0 0, .slice none 0 0, .int .i64 0, .int .i64 0] 74 (0, 0)) (by (with_reducible repeat (first | refine QG ?_ _ | refine QJ ?_ | refine QH ?_ _)); exact BK403.out) hb2) (by decide))); clear BK403; clear HB; have BK403 := n0_; have HB := n1_; have HI407 := n2_; have NB407_403 := n3_; have NB403_407 := n4_; clear n0_ n1_ n2_ n3_ n4_; (try clear hb); (try clear hb2); (try clear hk); (try clear hi)) | ((with_reducible refine gate_callee (f := 123) rfl ?_); refine goesL_ (some 9) rfl rfl Try.func123 (by kernel_rfl) rfl #[.pointer (some ⟨g407, 0, none⟩)] rfl (by (try simp only [List.map_toArray, List.map_cons, List.map_nil]); first | done | rfl | (simp only [List.length_drop, List.length_take]; rfl)) ?_; (with_reducible refine (spec_l22Any.calls k g407 t404 t405 t406 t408 t409 t410 t411 t412 t415 t418 t419 t420 t421 w _ ?side1 ?side2 A3.out).mono ?_); (case side1 => repeat (first | (with_reducible first | exact HI407.out | apply IsS123.alloc | apply IsS123.drewN | apply IsS123.drew | apply IsS123.set_1 | apply IsS123.set_2 | refine IsS123.far ?_ NB407_403.out _) | exact HI407.out)); (case side2 => repeat (first | (with_reducible first | exact HB.out | apply QF | apply QD | apply QE | refine QI ?_ (IsS123.ge HI407.out) | refine QI ?_ GE403.out) | exact HB.out)); rintro e w7 ⟨v413, v416, rfl, ho0, ho1, hi, hb, hk⟩; refine ⟨_, rfl, ?_⟩; have n0_ := QL (KeepBut.blk hk (g' := gb403) (o := .cells #[.int .i64 0, .int .i64 0, .bool false, .bool false, .slice none 0 0, .slice none 0 0, .int .i64 0, .int .i64 0] 74 (0, 0)) (by (with_reducible repeat (first | refine QG ?_ _ | refine QJ ?_ | refine QH ?_ _)); exact BK403.out) NB403_407.out (by simp)); have n1_ := QL (Kd.Q_lower ho0 (below_size (by repeat (first | (with_reducible first | exact HB.out | apply QF | apply QD | apply QE | refine QI ?_ (IsS123.ge HI407.out) | refine QI ?_ GE403.out) | exact HB.out)))); have n2_ := QL (Kd.R_lower ho1 (below_size (by repeat (first | (with_reducible first | exact HB.out | apply QF | apply QD | apply QE | refine QI ?_ (IsS123.ge HI407.out) | refine QI ?_ GE403.out) | exact HB.out)))); have n3_ := QL (hb); have n4_ := QL (hi); clear BK403; clear HB; clear HI407; have BK403 := n0_; have HO414 := n1_; have HO417 := n2_; have HB := n3_; have HI407 := n4_; clear n0_ n1_ n2_ n3_ n4_; (try clear hb); (try clear hb2); (try clear hk); (try clear hi); (try clear ho0); (try clear ho1)) | ((with_reducible refine gate_dst (N := 5) rfl ?_); refine box_event ?hg (N := 5) ?hd (cs := #[.int .i64 0, .int .i64 0, .bool false, .bool false, .slice none 0 0, .slice none 0 0, .int .i64 0, .int .i64 0]) (t := 74) ?hr ?_; (case hd => rfl); (case hg => rfl); (case hr => first | (go_simp; done) | (go_simp; rfl)); intro gb422 hg w8 hbox hb; have n0_ := QL (Kd.Q_below (by (with_reducible repeat (first | apply Kd.Q_alloc | apply Kd.Q_drewN | apply Kd.Q_drew)); exact HO414.out) hb); have n1_ := QL (Kd.R_below (by (with_reducible repeat (first | apply Kd.R_alloc | apply Kd.R_drewN | apply Kd.R_drew)); exact HO417.out) hb); have n2_ := QL (blk_below (g := gb403) (o := .cells #[.int .i64 0, .int .i64 0, .bool false, .bool false, .slice none 0 0, .slice none 0 0, .int .i64 0, .int .i64 0] 74 (0, 0)) (by (with_reducible repeat (first | refine QG ?_ _ | refine QJ ?_ | refine QH ?_ _)); exact BK403.out) hb); have n3_ := QL (IsS123.below (by repeat (first | (with_reducible first | exact HI407.out | apply IsS123.alloc | apply IsS123.drewN | apply IsS123.drew | apply IsS123.set_1 | apply IsS123.set_2 | refine IsS123.far ?_ NB407_403.out _) | exact HI407.out)) hb); have n4_ := QL (below_step (by repeat (first | (with_reducible first | exact HB.out | apply QF | apply QD | apply QE | refine QI ?_ (IsS123.ge HI407.out) | refine QI ?_ GE403.out) | exact HB.out)) hb); have n5_ := QL (hbox); have n6_ := QL ((by rw [hg]; exact (below_size (by repeat (first | (with_reducible first | exact HB.out | apply QF | apply QD | apply QE | refine QI ?_ (IsS123.ge HI407.out) | refine QI ?_ GE403.out) | exact HB.out))) : w.heap.size ≤ gb422)); have n7_ := QL ((by rw [hg]; exact (below_size (by repeat (first | (with_reducible first | exact HB.out | apply QF | apply QD | apply QE | refine QI ?_ (IsS123.ge HI407.out) | refine QI ?_ GE403.out) | exact HB.out))) : w.heap.size ≤ gb422)); have n8_ := QL ((by rw [hg]; exact Nat.ne_of_lt (blk_lt (g := gb403) (o := .cells #[.int .i64 0, .int .i64 0, .bool false, .bool false, .slice none 0 0, .slice none 0 0, .int .i64 0, .int .i64 0] 74 (0, 0)) (by (with_reducible repeat (first | refine QG ?_ _ | refine QJ ?_ | refine QH ?_ _)); exact BK403.out)) : gb403 ≠ gb422)); have n9_ := QL ((by rw [hg]; exact Nat.ne_of_gt (blk_lt (g := gb403) (o := .cells #[.int .i64 0, .int .i64 0, .bool false, .bool false, .slice none 0 0, .slice none 0 0, .int .i64 0, .int .i64 0] 74 (0, 0)) (by (with_reducible repeat (first | refine QG ?_ _ | refine QJ ?_ | refine QH ?_ _)); exact BK403.out)) : gb422 ≠ gb403)); have n10_ := QL ((by rw [hg]; exact Nat.ne_of_lt (IsS123.lt (show IsS123 w _ g407 t404 t420 t421 from by repeat (first | (with_reducible first | exact HI407.out | apply IsS123.alloc | apply IsS123.drewN | apply IsS123.drew | apply IsS123.set_1 | apply IsS123.set_2 | refine IsS123.far ?_ NB407_403.out _) | exact HI407.out))) : g407 ≠ gb422)); have n11_ := QL ((by rw [hg]; exact Nat.ne_of_gt (IsS123.lt (show IsS123 w _ g407 t404 t420 t421 from by repeat (first | (with_reducible first | exact HI407.out | apply IsS123.alloc | apply IsS123.drewN | apply IsS123.drew | apply IsS123.set_1 | apply IsS123.set_2 | refine IsS123.far ?_ NB407_403.out _) | exact HI407.out))) : gb422 ≠ g407)); clear HO414; clear HO417; clear BK403; clear HI407; clear HB; have HO414 := n0_; have HO417 := n1_; have BK403 := n2_; have HI407 := n3_; have HB := n4_; have BK422 := n5_; have GW422 := n6_; have GE422 := n7_; have NB403_422 := n8_; have NB422_403 := n9_; have NB407_422 := n10_; have NB422_407 := n11_; clear n0_ n1_ n2_ n3_ n4_ n5_ n6_ n7_ n8_ n9_ n10_ n11_; clear hb hbox hg; have hnb9 := NB422_403.out; have hnc9 := NB403_422.out; have hnb10 := NB422_407.out; have hnc10 := NB407_422.out; have hcz11_0 : w8.cell? ⟨gb422, 0, none⟩ = some (.int .i64 0) := (QC BK422.out 0).trans rfl; have hcz11_1 : w8.cell? ⟨gb422, 1, none⟩ = some (.int .i64 0) := (QC BK422.out 1).trans rfl; have hcz11_2 : w8.cell? ⟨gb422, 2, none⟩ = some (.bool false) := (QC BK422.out 2).trans rfl; have hcz11_3 : w8.cell? ⟨gb422, 3, none⟩ = some (.bool false) := (QC BK422.out 3).trans rfl; have hcz11_4 : w8.cell? ⟨gb422, 4, none⟩ = some (.slice none 0 0) := (QC BK422.out 4).trans rfl; have hcz11_5 : w8.cell? ⟨gb422, 5, none⟩ = some (.slice none 0 0) := (QC BK422.out 5).trans rfl; have hcz11_6 : w8.cell? ⟨gb422, 6, none⟩ = some (.int .i64 0) := (QC BK422.out 6).trans rfl; have hcz11_7 : w8.cell? ⟨gb422, 7, none⟩ = some (.int .i64 0) := (QC BK422.out 7).trans rfl; have hfz11_0 := QB BK422.out 0; have hfz11_1 := QB BK422.out 1; have hfz11_2 := QB BK422.out 2; have hfz11_3 := QB BK422.out 3; have hfz11_4 := QB BK422.out 4; have hfz11_5 := QB BK422.out 5; have hfz11_6 := QB BK422.out 6; have hfz11_7 := QB BK422.out 7; obtain ⟨Ao12, co12, eo12, _⟩ := Kd.Q_slice HO414.out; subst eo12; obtain ⟨Ao13, co13, eo13⟩ := Kd.R_slice HO417.out; subst eo13))
  have n0_ : Aside0 (Kd.Q (Kd.int .i64) 3 ((((((((w8.setCell ⟨gb422, 0, none⟩ (.int .i64 t408)).setCell ⟨gb422, 1, none⟩ (.int .i64 t409)).setCell ⟨gb422, 2, none⟩ (.bool t410)).setCell ⟨gb422, 3, none⟩ (.bool t411)).setCell ⟨gb422, 4, none⟩ (.slice Ao12 t412.length co12)).setCell ⟨gb422, 5, none⟩ (.slice Ao13 t415.length co13)).setCell ⟨gb422, 6, none⟩ (.int .i64 t418)).setCell ⟨gb422, 7, none⟩ (.int .i64 t419)) w.heap.size (fun k_ => some k_ ≠ (.slice Ao13 t415.length co13 : Value).ownBlock) (.slice Ao12 t412.length co12) t412) := ⟨by (with_reducible repeat (first | apply Kd.Q_alloc | apply Kd.Q_drewN | apply Kd.Q_drew)); exact Kd.Q_mono (Kd.Q_far (p := ⟨gb422, 7, none⟩) (Kd.Q_far (p := ⟨gb422, 6, none⟩) (Kd.Q_far (p := ⟨gb422, 5, none⟩) (Kd.Q_far (p := ⟨gb422, 4, none⟩) (Kd.Q_far (p := ⟨gb422, 3, none⟩) (Kd.Q_far (p := ⟨gb422, 2, none⟩) (Kd.Q_far (p := ⟨gb422, 1, none⟩) (Kd.Q_far (p := ⟨gb422, 0, none⟩) (Kd.Q_types HO414.out BK422.out (by decide)) (fun _ hk => hk.2) (.int .i64 t408)) (fun _ hk => hk.2) (.int .i64 t409)) (fun _ hk => hk.2) (.bool t410)) (fun _ hk => hk.2) (.bool t411)) (fun _ hk => hk.2) (.slice Ao12 t412.length co12)) (fun _ hk => hk.2) (.slice Ao13 t415.length co13)) (fun _ hk => hk.2) (.int .i64 t418)) (fun _ hk => hk.2) (.int .i64 t419)) (fun _ hk => hk.1)⟩
  have n1_ : Aside0 (Kd.R (Kd.int .i64) 3 ((((((((w8.setCell ⟨gb422, 0, none⟩ (.int .i64 t408)).setCell ⟨gb422, 1, none⟩ (.int .i64 t409)).setCell ⟨gb422, 2, none⟩ (.bool t410)).setCell ⟨gb422, 3, none⟩ (.bool t411)).setCell ⟨gb422, 4, none⟩ (.slice Ao12 t412.length co12)).setCell ⟨gb422, 5, none⟩ (.slice Ao13 t415.length co13)).setCell ⟨gb422, 6, none⟩ (.int .i64 t418)).setCell ⟨gb422, 7, none⟩ (.int .i64 t419)) w.heap.size (fun k_ => some k_ ≠ (.slice Ao12 t412.length co12 : Value).ownBlock) (.slice Ao13 t415.length co13) t415) := ⟨by (with_reducible repeat (first | apply Kd.R_alloc | apply Kd.R_drewN | apply Kd.R_drew)); exact Kd.R_mono (far_r (far_r (far_r (far_r (far_r (far_r (far_r (far_r (Kd.R_types HO417.out BK422.out (by decide)))))))))) (fun _ hk => hk.1)⟩
  have n2_ : Aside0 (((((((((w8.setCell ⟨gb422, 0, none⟩ (.int .i64 t408)).setCell ⟨gb422, 1, none⟩ (.int .i64 t409)).setCell ⟨gb422, 2, none⟩ (.bool t410)).setCell ⟨gb422, 3, none⟩ (.bool t411)).setCell ⟨gb422, 4, none⟩ (.slice Ao12 t412.length co12)).setCell ⟨gb422, 5, none⟩ (.slice Ao13 t415.length co13)).setCell ⟨gb422, 6, none⟩ (.int .i64 t418)).setCell ⟨gb422, 7, none⟩ (.int .i64 t419)).heap[gb403]? = some (.cells #[.int .i64 0, .int .i64 0, .bool false, .bool false, .slice none 0 0, .slice none 0 0, .int .i64 0, .int .i64 0] 74 (0, 0))) := ⟨by (with_reducible repeat (first | refine QG ?_ _ | refine QJ ?_ | refine QH ?_ _)); refine blk_far ?_ NB403_422.out _; (with_reducible repeat (first | refine QG ?_ _ | refine QJ ?_ | refine QH ?_ _)); refine blk_far ?_ NB403_422.out _; (with_reducible repeat (first | refine QG ?_ _ | refine QJ ?_ | refine QH ?_ _)); refine blk_far ?_ NB403_422.out _; (with_reducible repeat (first | refine QG ?_ _ | refine QJ ?_ | refine QH ?_ _)); refine blk_far ?_ NB403_422.out _; (with_reducible repeat (first | refine QG ?_ _ | refine QJ ?_ | refine QH ?_ _)); refine blk_far ?_ NB403_422.out _; (with_reducible repeat (first | refine QG ?_ _ | refine QJ ?_ | refine QH ?_ _)); refine blk_far ?_ NB403_422.out _; (with_reducible repeat (first | refine QG ?_ _ | refine QJ ?_ | refine QH ?_ _)); refine blk_far ?_ NB403_422.out _; (with_reducible repeat (first | refine QG ?_ _ | refine QJ ?_ | refine QH ?_ _)); refine blk_far ?_ NB403_422.out _; (with_reducible repeat (first | refine QG ?_ _ | refine QJ ?_ | refine QH ?_ _)); exact BK403.out⟩
  have n3_ : Aside0 (((((((((w8.setCell ⟨gb422, 0, none⟩ (.int .i64 t408)).setCell ⟨gb422, 1, none⟩ (.int .i64 t409)).setCell ⟨gb422, 2, none⟩ (.bool t410)).setCell ⟨gb422, 3, none⟩ (.bool t411)).setCell ⟨gb422, 4, none⟩ (.slice Ao12 t412.length co12)).setCell ⟨gb422, 5, none⟩ (.slice Ao13 t415.length co13)).setCell ⟨gb422, 6, none⟩ (.int .i64 t418)).setCell ⟨gb422, 7, none⟩ (.int .i64 t419)).heap[gb422]? = some (.cells #[.int .i64 t408, .int .i64 t409, .bool t410, .bool t411, .slice Ao12 t412.length co12, .slice Ao13 t415.length co13, .int .i64 t418, .int .i64 t419] 74 (0, 0))) := ⟨by (with_reducible repeat (first | refine QG ?_ _ | refine QJ ?_ | refine QH ?_ _)); refine blk_put (cs := #[.int .i64 t408, .int .i64 t409, .bool t410, .bool t411, .slice Ao12 t412.length co12, .slice Ao13 t415.length co13, .int .i64 t418, .int .i64 0]) ?_ 7 _ rfl; (with_reducible repeat (first | refine QG ?_ _ | refine QJ ?_ | refine QH ?_ _)); refine blk_put (cs := #[.int .i64 t408, .int .i64 t409, .bool t410, .bool t411, .slice Ao12 t412.length co12, .slice Ao13 t415.length co13, .int .i64 0, .int .i64 0]) ?_ 6 _ rfl; (with_reducible repeat (first | refine QG ?_ _ | refine QJ ?_ | refine QH ?_ _)); refine blk_put (cs := #[.int .i64 t408, .int .i64 t409, .bool t410, .bool t411, .slice Ao12 t412.length co12, .slice none 0 0, .int .i64 0, .int .i64 0]) ?_ 5 _ rfl; (with_reducible repeat (first | refine QG ?_ _ | refine QJ ?_ | refine QH ?_ _)); refine blk_put (cs := #[.int .i64 t408, .int .i64 t409, .bool t410, .bool t411, .slice none 0 0, .slice none 0 0, .int .i64 0, .int .i64 0]) ?_ 4 _ rfl; (with_reducible repeat (first | refine QG ?_ _ | refine QJ ?_ | refine QH ?_ _)); refine blk_put (cs := #[.int .i64 t408, .int .i64 t409, .bool t410, .bool false, .slice none 0 0, .slice none 0 0, .int .i64 0, .int .i64 0]) ?_ 3 _ rfl; (with_reducible repeat (first | refine QG ?_ _ | refine QJ ?_ | refine QH ?_ _)); refine blk_put (cs := #[.int .i64 t408, .int .i64 t409, .bool false, .bool false, .slice none 0 0, .slice none 0 0, .int .i64 0, .int .i64 0]) ?_ 2 _ rfl; (with_reducible repeat (first | refine QG ?_ _ | refine QJ ?_ | refine QH ?_ _)); refine blk_put (cs := #[.int .i64 t408, .int .i64 0, .bool false, .bool false, .slice none 0 0, .slice none 0 0, .int .i64 0, .int .i64 0]) ?_ 1 _ rfl; (with_reducible repeat (first | refine QG ?_ _ | refine QJ ?_ | refine QH ?_ _)); refine blk_put (cs := #[.int .i64 0, .int .i64 0, .bool false, .bool false, .slice none 0 0, .slice none 0 0, .int .i64 0, .int .i64 0]) ?_ 0 _ rfl; (with_reducible repeat (first | refine QG ?_ _ | refine QJ ?_ | refine QH ?_ _)); exact BK422.out⟩
  have n4_ : Aside0 (IsS123 w ((((((((w8.setCell ⟨gb422, 0, none⟩ (.int .i64 t408)).setCell ⟨gb422, 1, none⟩ (.int .i64 t409)).setCell ⟨gb422, 2, none⟩ (.bool t410)).setCell ⟨gb422, 3, none⟩ (.bool t411)).setCell ⟨gb422, 4, none⟩ (.slice Ao12 t412.length co12)).setCell ⟨gb422, 5, none⟩ (.slice Ao13 t415.length co13)).setCell ⟨gb422, 6, none⟩ (.int .i64 t418)).setCell ⟨gb422, 7, none⟩ (.int .i64 t419)) g407 t404 t420 t421) := ⟨by repeat (first | (with_reducible first | exact HI407.out | apply IsS123.alloc | apply IsS123.drewN | apply IsS123.drew | apply IsS123.set_1 | apply IsS123.set_2 | refine IsS123.far ?_ NB407_403.out _ | refine IsS123.far ?_ NB407_422.out _) | exact HI407.out)⟩
  have n5_ : Aside0 (Below w.heap.size w ((((((((w8.setCell ⟨gb422, 0, none⟩ (.int .i64 t408)).setCell ⟨gb422, 1, none⟩ (.int .i64 t409)).setCell ⟨gb422, 2, none⟩ (.bool t410)).setCell ⟨gb422, 3, none⟩ (.bool t411)).setCell ⟨gb422, 4, none⟩ (.slice Ao12 t412.length co12)).setCell ⟨gb422, 5, none⟩ (.slice Ao13 t415.length co13)).setCell ⟨gb422, 6, none⟩ (.int .i64 t418)).setCell ⟨gb422, 7, none⟩ (.int .i64 t419))) := ⟨by repeat (first | (with_reducible first | exact HB.out | apply QF | apply QD | apply QE | refine QI ?_ (IsS123.ge HI407.out) | refine QI ?_ GE403.out | refine QI ?_ GE422.out) | exact HB.out)⟩
  (try clear HO414)
  (try clear HO417)
  (try clear BK403)
  (try clear BK422)
  (try clear HI407)
  (try clear HB)
  generalize ((((((((w8.setCell ⟨gb422, 0, none⟩ (.int .i64 t408)).setCell ⟨gb422, 1, none⟩ (.int .i64 t409)).setCell ⟨gb422, 2, none⟩ (.bool t410)).setCell ⟨gb422, 3, none⟩ (.bool t411)).setCell ⟨gb422, 4, none⟩ (.slice Ao12 t412.length co12)).setCell ⟨gb422, 5, none⟩ (.slice Ao13 t415.length co13)).setCell ⟨gb422, 6, none⟩ (.int .i64 t418)).setCell ⟨gb422, 7, none⟩ (.int .i64 t419)) = w14 at n0_ n1_ n2_ n3_ n4_ n5_ ⊢
  have HO414 := n0_
  have HO417 := n1_
  have BK403 := n2_
  have BK422 := n3_
  have HI407 := n4_
  have HB := n5_
  clear n0_ n1_ n2_ n3_ n4_ n5_
  have n0_ := QL (Kd.Q_drew HO414.out)
  have n1_ := QL (Kd.R_drew HO417.out)
  have n2_ := QL (QJ BK403.out)
  have n3_ := QL (QJ BK422.out)
  have n4_ := QL (IsS123.drew HI407.out)
  have n5_ := QL (QE HB.out)
  clear HO414
  clear HO417
  clear BK403
  clear BK422
  clear HI407
  clear HB
  have HO414 := n0_
  have HO417 := n1_
  have BK403 := n2_
  have BK422 := n3_
  have HI407 := n4_
  have HB := n5_
  clear n0_ n1_ n2_ n3_ n4_ n5_
  refine start_ (n := 5) (S := fun w' => w'.cell? ⟨gb422, 0, none⟩ = some (.int .i64 t408) ∧ w'.cell? ⟨gb422, 1, none⟩ = some (.int .i64 t409) ∧ w'.cell? ⟨gb422, 2, none⟩ = some (.bool t410) ∧ w'.cell? ⟨gb422, 3, none⟩ = some (.bool t411) ∧ w'.cell? ⟨gb422, 4, none⟩ = some (.slice Ao12 t412.length co12) ∧ w'.cell? ⟨gb422, 5, none⟩ = some (.slice Ao13 t415.length co13) ∧ w'.cell? ⟨gb422, 6, none⟩ = some (.int .i64 t418) ∧ w'.cell? ⟨gb422, 7, none⟩ = some (.int .i64 t419)) (ds := []) #[false, false, false, false, false] (by kernel_rfl) rfl rfl ⟨(QC BK422.out 0).trans rfl, (QC BK422.out 1).trans rfl, (QC BK422.out 2).trans rfl, (QC BK422.out 3).trans rfl, (QC BK422.out 4).trans rfl, (QC BK422.out 5).trans rfl, (QC BK422.out 6).trans rfl, (QC BK422.out 7).trans rfl⟩ (fun hHeld => ?_)
  generalize w14.drew = w15 at HO414 HO417 BK403 BK422 HI407 HB hHeld ⊢
  refine pure_ (i := 1) (N := some 11) (v := ?_) (a' := ?_) #[false, true, false, false, false] rfl rfl (by kernel_rfl) (fun _ _ _ h => h) (Or.inl ⟨by rfl, ?_⟩) ?_ ?_
  rotate_left
  · intro w'
    go_simp
    with_reducible rfl
  rotate_left
  · simp only [Act.put, List.setIfInBounds_toArray, List.set_cons_zero, List.set_cons_succ, i64_w, i32_w]
    rfl
  refine take_ (i := 0) (N := some 10) (v := ?_) (a' := ?_) #[true, true, false, false, false] rfl rfl (by kernel_rfl) (fun _ _ _ h => h) (Or.inl ⟨by rfl, ?_⟩) hHeld ?_ ?_
  rotate_left
  · rintro w' ⟨s0, s1, s2, s3, s4, s5, s6, s7⟩
    go_simp
    with_reducible rfl
  rotate_left
  · simp only [Act.put, List.setIfInBounds_toArray, List.set_cons_zero, List.set_cons_succ, i64_w, i32_w]
    rfl
  refine one_ (i := 2) (N := some 12) #[true, true, true, false, false] rfl rfl (by kernel_rfl) (by decide) (fun K hK => ?_)
  refine goes_ Try.func124 (by kernel_rfl) rfl #[.pointer (some ⟨g407, 0, none⟩)] (by rfl) rfl rfl (by (try simp only [List.map_toArray, List.map_cons, List.map_nil]); first | done | rfl | (simp only [List.length_drop, List.length_take]; rfl)) ?_
  with_reducible refine (spec_l4Card.calls g407 t404 t420 t421 t423 t424 t425 w _ ?side1 ?side2 A4.out).mono ?_
  (case side1 => repeat (first | (with_reducible first | exact HI407.out | apply IsS123.alloc | apply IsS123.drewN | apply IsS123.drew | apply IsS123.set_1 | apply IsS123.set_2 | refine IsS123.far ?_ NB407_403.out _ | refine IsS123.far ?_ NB407_422.out _) | exact HI407.out))
  (case side2 => repeat (first | (with_reducible first | exact HB.out | apply QF | apply QD | apply QE | refine QI ?_ (IsS123.ge HI407.out) | refine QI ?_ GE403.out | refine QI ?_ GE422.out) | exact HB.out))
  rintro e w16 ⟨rfl, hi, hb, hk⟩
  refine ⟨_, rfl, ?_⟩
  have n0_ := QL (KeepBut.blk hk (g' := gb403) (o := .cells #[.int .i64 0, .int .i64 0, .bool false, .bool false, .slice none 0 0, .slice none 0 0, .int .i64 0, .int .i64 0] 74 (0, 0)) (by (with_reducible repeat (first | refine QG ?_ _ | refine QJ ?_ | refine QH ?_ _)); exact BK403.out) NB403_407.out (by simp))
  have n1_ := QL (Kd.Q_mono (Kd.Q_keep (IsS123.apartQ (show IsS123 w _ g407 t404 t420 t421 from by repeat (first | (with_reducible first | exact HI407.out | apply IsS123.alloc | apply IsS123.drewN | apply IsS123.drew | apply IsS123.set_1 | apply IsS123.set_2 | refine IsS123.far ?_ NB407_403.out _ | refine IsS123.far ?_ NB407_422.out _) | exact HI407.out)) (by (with_reducible repeat (first | apply Kd.Q_alloc | apply Kd.Q_drewN | apply Kd.Q_drew)); exact HO414.out) (by decide)) hk (fun _ h => h.2)) (fun _ h => h.1))
  have n2_ := QL (Kd.R_mono (Kd.R_keep (IsS123.apart (show IsS123 w _ g407 t404 t420 t421 from by repeat (first | (with_reducible first | exact HI407.out | apply IsS123.alloc | apply IsS123.drewN | apply IsS123.drew | apply IsS123.set_1 | apply IsS123.set_2 | refine IsS123.far ?_ NB407_403.out _ | refine IsS123.far ?_ NB407_422.out _) | exact HI407.out)) (by (with_reducible repeat (first | apply Kd.R_alloc | apply Kd.R_drewN | apply Kd.R_drew)); exact HO417.out) (by decide)) hk (fun _ h => h.2)) (fun _ h => h.1))
  have n3_ := QL (KeepBut.blk hk (g' := gb422) (o := .cells #[.int .i64 t408, .int .i64 t409, .bool t410, .bool t411, .slice Ao12 t412.length co12, .slice Ao13 t415.length co13, .int .i64 t418, .int .i64 t419] 74 (0, 0)) (by (with_reducible repeat (first | refine QG ?_ _ | refine QJ ?_ | refine QH ?_ _)); exact BK422.out) NB422_407.out (by simp))
  have n4_ := QL (hb)
  have n5_ := QL (hi)
  clear BK403
  clear HO414
  clear HO417
  clear BK422
  clear HB
  clear HI407
  have BK403 := n0_
  have HO414 := n1_
  have HO417 := n2_
  have BK422 := n3_
  have HB := n4_
  have HI407 := n5_
  clear n0_ n1_ n2_ n3_ n4_ n5_
  (try clear hb)
  (try clear hb2)
  (try clear hk)
  (try clear hi)
  refine hK.out _ _ ⟨(QC BK422.out 0).trans rfl, (QC BK422.out 1).trans rfl, (QC BK422.out 2).trans rfl, (QC BK422.out 3).trans rfl, (QC BK422.out 4).trans rfl, (QC BK422.out 5).trans rfl, (QC BK422.out 6).trans rfl, (QC BK422.out 7).trans rfl⟩ (fun hHeld => ?_)
  clear hK K
  refine norm_ (a' := ?_) ?_ ?_
  rotate_left
  · show Act.put _ (some 12) _ = _
    simp only [Act.put, List.setIfInBounds_toArray, List.set_cons_zero, List.set_cons_succ, i64_w, i32_w]
    rfl
  refine one_ (i := 3) (N := none) #[true, true, true, true, false] rfl rfl (by kernel_rfl) (by decide) (fun K hK => ?_)
  have hs17 : w16.cell? ⟨gb403, 0, none⟩ = some (.int .i64 0) := (QC BK403.out 0).trans rfl
  have hfs17 := QB BK403.out 0
  have hns17_1 := NB422_403.out
  have hms17_1 := NB403_422.out
  have hs18 : w16.cell? ⟨gb403, 1, none⟩ = some (.int .i64 0) := (QC BK403.out 1).trans rfl
  have hfs18 := QB BK403.out 1
  have hns18_1 := NB422_403.out
  have hms18_1 := NB403_422.out
  have hs19 : w16.cell? ⟨gb403, 2, none⟩ = some (.bool false) := (QC BK403.out 2).trans rfl
  have hfs19 := QB BK403.out 2
  have hns19_1 := NB422_403.out
  have hms19_1 := NB403_422.out
  have hs20 : w16.cell? ⟨gb403, 3, none⟩ = some (.bool false) := (QC BK403.out 3).trans rfl
  have hfs20 := QB BK403.out 3
  have hns20_1 := NB422_403.out
  have hms20_1 := NB403_422.out
  have hs21 : w16.cell? ⟨gb403, 4, none⟩ = some (.slice none 0 0) := (QC BK403.out 4).trans rfl
  have hfs21 := QB BK403.out 4
  have hns21_1 := NB422_403.out
  have hms21_1 := NB403_422.out
  have hs22 : w16.cell? ⟨gb403, 5, none⟩ = some (.slice none 0 0) := (QC BK403.out 5).trans rfl
  have hfs22 := QB BK403.out 5
  have hns22_1 := NB422_403.out
  have hms22_1 := NB403_422.out
  have hs23 : w16.cell? ⟨gb403, 6, none⟩ = some (.int .i64 0) := (QC BK403.out 6).trans rfl
  have hfs23 := QB BK403.out 6
  have hns23_1 := NB422_403.out
  have hms23_1 := NB403_422.out
  have hs24 : w16.cell? ⟨gb403, 7, none⟩ = some (.int .i64 0) := (QC BK403.out 7).trans rfl
  have hfs24 := QB BK403.out 7
  have hns24_1 := NB422_403.out
  have hms24_1 := NB403_422.out
  refine skip_ (w1 := ?_) (by rfl) rfl ?_ ?_
  rotate_left
  · go_simp
    rfl
  refine hK.out _ _ ⟨((QK (p := ⟨gb403, _, none⟩) NB422_403.out _).trans (((QK (p := ⟨gb403, _, none⟩) NB422_403.out _).trans (((QK (p := ⟨gb403, _, none⟩) NB422_403.out _).trans (((QK (p := ⟨gb403, _, none⟩) NB422_403.out _).trans (((QK (p := ⟨gb403, _, none⟩) NB422_403.out _).trans (((QK (p := ⟨gb403, _, none⟩) NB422_403.out _).trans (((QK (p := ⟨gb403, _, none⟩) NB422_403.out _).trans (((QK (p := ⟨gb403, _, none⟩) NB422_403.out _).trans (hHeld.1)))))))))))))))), ((QK (p := ⟨gb403, _, none⟩) NB422_403.out _).trans (((QK (p := ⟨gb403, _, none⟩) NB422_403.out _).trans (((QK (p := ⟨gb403, _, none⟩) NB422_403.out _).trans (((QK (p := ⟨gb403, _, none⟩) NB422_403.out _).trans (((QK (p := ⟨gb403, _, none⟩) NB422_403.out _).trans (((QK (p := ⟨gb403, _, none⟩) NB422_403.out _).trans (((QK (p := ⟨gb403, _, none⟩) NB422_403.out _).trans (((QK (p := ⟨gb403, _, none⟩) NB422_403.out _).trans (hHeld.2.1)))))))))))))))), ((QK (p := ⟨gb403, _, none⟩) NB422_403.out _).trans (((QK (p := ⟨gb403, _, none⟩) NB422_403.out _).trans (((QK (p := ⟨gb403, _, none⟩) NB422_403.out _).trans (((QK (p := ⟨gb403, _, none⟩) NB422_403.out _).trans (((QK (p := ⟨gb403, _, none⟩) NB422_403.out _).trans (((QK (p := ⟨gb403, _, none⟩) NB422_403.out _).trans (((QK (p := ⟨gb403, _, none⟩) NB422_403.out _).trans (((QK (p := ⟨gb403, _, none⟩) NB422_403.out _).trans (hHeld.2.2.1)))))))))))))))), ((QK (p := ⟨gb403, _, none⟩) NB422_403.out _).trans (((QK (p := ⟨gb403, _, none⟩) NB422_403.out _).trans (((QK (p := ⟨gb403, _, none⟩) NB422_403.out _).trans (((QK (p := ⟨gb403, _, none⟩) NB422_403.out _).trans (((QK (p := ⟨gb403, _, none⟩) NB422_403.out _).trans (((QK (p := ⟨gb403, _, none⟩) NB422_403.out _).trans (((QK (p := ⟨gb403, _, none⟩) NB422_403.out _).trans (((QK (p := ⟨gb403, _, none⟩) NB422_403.out _).trans (hHeld.2.2.2.1)))))))))))))))), ((QK (p := ⟨gb403, _, none⟩) NB422_403.out _).trans (((QK (p := ⟨gb403, _, none⟩) NB422_403.out _).trans (((QK (p := ⟨gb403, _, none⟩) NB422_403.out _).trans (((QK (p := ⟨gb403, _, none⟩) NB422_403.out _).trans (((QK (p := ⟨gb403, _, none⟩) NB422_403.out _).trans (((QK (p := ⟨gb403, _, none⟩) NB422_403.out _).trans (((QK (p := ⟨gb403, _, none⟩) NB422_403.out _).trans (((QK (p := ⟨gb403, _, none⟩) NB422_403.out _).trans (hHeld.2.2.2.2.1)))))))))))))))), ((QK (p := ⟨gb403, _, none⟩) NB422_403.out _).trans (((QK (p := ⟨gb403, _, none⟩) NB422_403.out _).trans (((QK (p := ⟨gb403, _, none⟩) NB422_403.out _).trans (((QK (p := ⟨gb403, _, none⟩) NB422_403.out _).trans (((QK (p := ⟨gb403, _, none⟩) NB422_403.out _).trans (((QK (p := ⟨gb403, _, none⟩) NB422_403.out _).trans (((QK (p := ⟨gb403, _, none⟩) NB422_403.out _).trans (((QK (p := ⟨gb403, _, none⟩) NB422_403.out _).trans (hHeld.2.2.2.2.2.1)))))))))))))))), ((QK (p := ⟨gb403, _, none⟩) NB422_403.out _).trans (((QK (p := ⟨gb403, _, none⟩) NB422_403.out _).trans (((QK (p := ⟨gb403, _, none⟩) NB422_403.out _).trans (((QK (p := ⟨gb403, _, none⟩) NB422_403.out _).trans (((QK (p := ⟨gb403, _, none⟩) NB422_403.out _).trans (((QK (p := ⟨gb403, _, none⟩) NB422_403.out _).trans (((QK (p := ⟨gb403, _, none⟩) NB422_403.out _).trans (((QK (p := ⟨gb403, _, none⟩) NB422_403.out _).trans (hHeld.2.2.2.2.2.2.1)))))))))))))))), ((QK (p := ⟨gb403, _, none⟩) NB422_403.out _).trans (((QK (p := ⟨gb403, _, none⟩) NB422_403.out _).trans (((QK (p := ⟨gb403, _, none⟩) NB422_403.out _).trans (((QK (p := ⟨gb403, _, none⟩) NB422_403.out _).trans (((QK (p := ⟨gb403, _, none⟩) NB422_403.out _).trans (((QK (p := ⟨gb403, _, none⟩) NB422_403.out _).trans (((QK (p := ⟨gb403, _, none⟩) NB422_403.out _).trans (((QK (p := ⟨gb403, _, none⟩) NB422_403.out _).trans (hHeld.2.2.2.2.2.2.2))))))))))))))))⟩ (fun hHeld => ?_)
  clear hK K
  refine pure_ (i := 4) (N := some 3) (v := ?_) (a' := ?_) #[true, true, true, true, true] rfl rfl (by kernel_rfl) (fun _ _ _ h => h) (Or.inl ⟨by rfl, ?_⟩) ?_ ?_
  rotate_left
  · intro w'
    go_simp
    with_reducible rfl
  rotate_left
  · simp only [Act.put, List.setIfInBounds_toArray, List.set_cons_zero, List.set_cons_succ, i64_w, i32_w]
    rfl
  refine done_ (by kernel_rfl) ?_
  try go_wp2
  refine bodyPost_ret (results_ct rfl _ _ gb403 74 #[.int .i64 t408, .int .i64 t409, .bool t410, .bool t411, .slice Ao12 t412.length co12, .slice Ao13 t415.length co13, .int .i64 t418, .int .i64 t419] (0, 0) _ rfl (by (with_reducible repeat (first | refine QG ?_ _ | refine QJ ?_ | refine QH ?_ _)); refine blk_put (cs := #[.int .i64 t408, .int .i64 t409, .bool t410, .bool t411, .slice Ao12 t412.length co12, .slice Ao13 t415.length co13, .int .i64 t418, .int .i64 0]) ?_ 7 _ rfl; (with_reducible repeat (first | refine QG ?_ _ | refine QJ ?_ | refine QH ?_ _)); refine blk_put (cs := #[.int .i64 t408, .int .i64 t409, .bool t410, .bool t411, .slice Ao12 t412.length co12, .slice Ao13 t415.length co13, .int .i64 0, .int .i64 0]) ?_ 6 _ rfl; (with_reducible repeat (first | refine QG ?_ _ | refine QJ ?_ | refine QH ?_ _)); refine blk_put (cs := #[.int .i64 t408, .int .i64 t409, .bool t410, .bool t411, .slice Ao12 t412.length co12, .slice none 0 0, .int .i64 0, .int .i64 0]) ?_ 5 _ rfl; (with_reducible repeat (first | refine QG ?_ _ | refine QJ ?_ | refine QH ?_ _)); refine blk_put (cs := #[.int .i64 t408, .int .i64 t409, .bool t410, .bool t411, .slice none 0 0, .slice none 0 0, .int .i64 0, .int .i64 0]) ?_ 4 _ rfl; (with_reducible repeat (first | refine QG ?_ _ | refine QJ ?_ | refine QH ?_ _)); refine blk_put (cs := #[.int .i64 t408, .int .i64 t409, .bool t410, .bool false, .slice none 0 0, .slice none 0 0, .int .i64 0, .int .i64 0]) ?_ 3 _ rfl; (with_reducible repeat (first | refine QG ?_ _ | refine QJ ?_ | refine QH ?_ _)); refine blk_put (cs := #[.int .i64 t408, .int .i64 t409, .bool false, .bool false, .slice none 0 0, .slice none 0 0, .int .i64 0, .int .i64 0]) ?_ 2 _ rfl; (with_reducible repeat (first | refine QG ?_ _ | refine QJ ?_ | refine QH ?_ _)); refine blk_put (cs := #[.int .i64 t408, .int .i64 0, .bool false, .bool false, .slice none 0 0, .slice none 0 0, .int .i64 0, .int .i64 0]) ?_ 1 _ rfl; (with_reducible repeat (first | refine QG ?_ _ | refine QJ ?_ | refine QH ?_ _)); refine blk_put (cs := #[.int .i64 0, .int .i64 0, .bool false, .bool false, .slice none 0 0, .slice none 0 0, .int .i64 0, .int .i64 0]) ?_ 0 _ rfl; (with_reducible repeat (first | refine QG ?_ _ | refine QJ ?_ | refine QH ?_ _)); exact BK403.out) Try.underlying74 rfl (by kernel_rfl)) rfl ?_
  exact ⟨_, _, by first | rfl | (simp [errW_none, errW_some] <;> rfl) | (simp [*, errW_none, errW_some] <;> rfl), by (with_reducible repeat (first | apply Kd.Q_alloc | apply Kd.Q_drewN | apply Kd.Q_drew)); exact Kd.Q_mono (Kd.Q_far (p := ⟨gb403, 7, none⟩) (Kd.Q_far (p := ⟨gb403, 6, none⟩) (Kd.Q_far (p := ⟨gb403, 5, none⟩) (Kd.Q_far (p := ⟨gb403, 4, none⟩) (Kd.Q_far (p := ⟨gb403, 3, none⟩) (Kd.Q_far (p := ⟨gb403, 2, none⟩) (Kd.Q_far (p := ⟨gb403, 1, none⟩) (Kd.Q_far (p := ⟨gb403, 0, none⟩) (Kd.Q_types HO414.out BK403.out (by decide)) (fun _ hk => hk.2) (.int .i64 t408)) (fun _ hk => hk.2) (.int .i64 t409)) (fun _ hk => hk.2) (.bool t410)) (fun _ hk => hk.2) (.bool t411)) (fun _ hk => hk.2) (.slice Ao12 t412.length co12)) (fun _ hk => hk.2) (.slice Ao13 t415.length co13)) (fun _ hk => hk.2) (.int .i64 t418)) (fun _ hk => hk.2) (.int .i64 t419)) (fun _ hk => hk.1), by (with_reducible repeat (first | apply Kd.R_alloc | apply Kd.R_drewN | apply Kd.R_drew)); exact Kd.R_mono (far_r (far_r (far_r (far_r (far_r (far_r (far_r (far_r (Kd.R_types HO417.out BK403.out (by decide)))))))))) (fun _ hk => hk.1), by repeat (first | (with_reducible first | exact HB.out | apply QF | apply QD | apply QE | refine QI ?_ (IsS123.ge HI407.out) | refine QI ?_ GE403.out | refine QI ?_ GE422.out) | exact HB.out)⟩

/-! ### impl_FitCount: function 67 -/
def impl_FitCount.l0 : Nat → Int → Int → Int → Int → Int → Bool → Bool → List Int → List Int → Int → Int → Option (Int)
  | 0, _, _, _, _, _, _, _, _, _, _, _ => none
  | k + 1, x1, x5, x7, x427000, x427001, x427002, x427003, x427004, x427005, x427006, x427007 => if x7 < 52 then (if x7 = x1 then (impl_FitCount.l0 k x1 x5 (wrap64 (x7 + 1)) x427000 x427001 x427002 x427003 x427004 x427005 x427006 x427007) else ((impl_FitsOn.f k x427000 x427001 x427002 x427003 x427004 x427005 x427006 x427007 x1 x7).bind fun t427 => (if t427 = true then (impl_FitCount.l0 k x1 (wrap64 (x5 + 1)) (wrap64 (x7 + 1)) x427000 x427001 x427002 x427003 x427004 x427005 x427006 x427007) else (impl_FitCount.l0 k x1 x5 (wrap64 (x7 + 1)) x427000 x427001 x427002 x427003 x427004 x427005 x427006 x427007)))) else (some x5)
def impl_FitCount.f (k : Nat) (a0_0 : Int) (a0_1 : Int) (a0_2 : Bool) (a0_3 : Bool) (l0_4 : List Int) (l0_5 : List Int) (a0_6 : Int) (a0_7 : Int) (a1 : Int) : Option (Int) := impl_FitCount.l0 k a1 0 0 a0_0 a0_1 a0_2 a0_3 l0_4 l0_5 a0_6 a0_7
theorem impl_FitCount.mono_l : ∀ k, (∀ y0 y1 y2 y3 y4 y5 y6 y7 y8 y9 y10, LeO (impl_FitCount.l0 k y0 y1 y2 y3 y4 y5 y6 y7 y8 y9 y10) (impl_FitCount.l0 (k + 1) y0 y1 y2 y3 y4 y5 y6 y7 y8 y9 y10))
  | 0 => fun _ _ _ _ _ _ _ _ _ _ _ r h => by simp [impl_FitCount.l0] at h
  | k + 1 => by
    have ih0 := impl_FitCount.mono_l k
    · intro y0 y1 y2 y3 y4 y5 y6 y7 y8 y9 y10
      unfold impl_FitCount.l0
      repeat' first
      | (with_reducible exact ih0 _ _ _ _ _ _ _ _ _ _ _)
      | (with_reducible exact impl_FitsOn.mono _ _ _ _ _ _ _ _ _ _ _)
      | (with_reducible exact LeO.refl _)
      | (with_reducible exact LeO.none _)
      | (with_reducible refine LeO.ite ?_ ?_)
      | (with_reducible refine LeO.bind ?_ (fun _ => ?_))
      | exact ih0 _ _ _ _ _ _ _ _ _ _ _
      | exact impl_FitsOn.mono _ _ _ _ _ _ _ _ _ _ _
      | exact LeO.none _
      | refine LeO.ite ?_ ?_
      | refine LeO.bind ?_ (fun _ => ?_)
theorem impl_FitCount.mono : ∀ a0 a1 a2 a3 a4 a5 a6 a7 a8 k, LeO (impl_FitCount.f k a0 a1 a2 a3 a4 a5 a6 a7 a8) (impl_FitCount.f (k + 1) a0 a1 a2 a3 a4 a5 a6 a7 a8) := by
  intro a0 a1 a2 a3 a4 a5 a6 a7 a8 k
  have ih0 := impl_FitCount.mono_l k
  unfold impl_FitCount.f
  repeat' first
      | (with_reducible exact ih0 _ _ _ _ _ _ _ _ _ _ _)
      | (with_reducible exact impl_FitsOn.mono _ _ _ _ _ _ _ _ _ _ _)
      | (with_reducible exact LeO.refl _)
      | (with_reducible exact LeO.none _)
      | (with_reducible refine LeO.ite ?_ ?_)
      | (with_reducible refine LeO.bind ?_ (fun _ => ?_))
      | exact ih0 _ _ _ _ _ _ _ _ _ _ _
      | exact impl_FitsOn.mono _ _ _ _ _ _ _ _ _ _ _
      | exact LeO.none _
      | refine LeO.ite ?_ ?_
      | refine LeO.bind ?_ (fun _ => ?_)
set_option maxHeartbeats 8000000 in
set_option maxRecDepth 100000 in
theorem impl_FitCount.calls (k : Nat) (a0_0 : Int) (a0_1 : Int) (a0_2 : Bool) (a0_3 : Bool) (A0_4 : Option Addr) (c0_4 : Nat) (l0_4 : List Int) (A0_5 : Option Addr) (c0_5 : Nat) (l0_5 : List Int) (a0_6 : Int) (a0_7 : Int) (a1 : Int) (r : Int) (w : World) (hr0_4 : Kd.C (Kd.int .i64) w A0_4 l0_4.length l0_4) (hc0_4 : l0_4.length ≤ c0_4) (hr0_5 : Kd.C (Kd.int .i64) w A0_5 l0_5.length l0_5) (hc0_5 : l0_5.length ≤ c0_5) (h : impl_FitCount.f k a0_0 a0_1 a0_2 a0_3 l0_4 l0_5 a0_6 a0_7 a1 = some r) :
    Calls Try.prog 67 #[.agg #[.int .i64 a0_0, .int .i64 a0_1, .bool a0_2, .bool a0_3, .slice A0_4 l0_4.length c0_4, .slice A0_5 l0_5.length c0_5, .int .i64 a0_6, .int .i64 a0_7], .int .i64 a1] w fun e w' => e = .returned (.int .i64 r) ∧ Below w.heap.size w w' := by
  have hu74 := Try.underlying74
  have HR0_4 := QL hr0_4
  have HC0_4 := QL hc0_4
  clear hr0_4 hc0_4
  have HR0_5 := QL hr0_5
  have HC0_5 := QL hc0_5
  clear hr0_5 hc0_5
  have HB := QL (Below.refl w.heap.size w)
  have H : (impl_FitCount.l0 k a1 0 0 a0_0 a0_1 a0_2 a0_3 l0_4 l0_5 a0_6 a0_7) = some r := h
  clear h
  have H' := QL H
  clear H
  go_enter Try.func67, Try.ntmps67
  go_wp2_with (first | ((with_reducible refine gate_dst (N := 2) rfl ?_); refine box_event ?hg (N := 2) ?hd (cs := #[.int .i64 a0_0, .int .i64 a0_1, .bool a0_2, .bool a0_3, .slice A0_4 l0_4.length c0_4, .slice A0_5 l0_5.length c0_5, .int .i64 a0_6, .int .i64 a0_7]) (t := 74) ?hr ?_; (case hd => rfl); (case hg => rfl); (case hr => first | (go_simp; done) | (go_simp; rfl)); intro gb426 hg w3 hbox hb; have n0_ := QL (below_step (by repeat (first | (with_reducible first | exact HB.out | apply QF | apply QD | apply QE) | exact HB.out)) hb); have n1_ := QL (hbox); have n2_ := QL ((by rw [hg]; exact (below_size (by repeat (first | (with_reducible first | exact HB.out | apply QF | apply QD | apply QE) | exact HB.out))) : w.heap.size ≤ gb426)); have n3_ := QL ((by rw [hg]; exact (below_size (by repeat (first | (with_reducible first | exact HB.out | apply QF | apply QD | apply QE) | exact HB.out))) : w.heap.size ≤ gb426)); clear HB; have HB := n0_; have BK426 := n1_; have GW426 := n2_; have GE426 := n3_; clear n0_ n1_ n2_ n3_; clear hb hbox hg))
  go_loopg [5, 7] k (fun kq v5 v7 w' => ∃ (x5_1 : Int) (x7_1 : Int), v5 = .int .i64 x5_1 ∧ v7 = .int .i64 x7_1 ∧ Aside0 (impl_FitCount.l0 kq a1 x5_1 x7_1 a0_0 a0_1 a0_2 a0_3 l0_4 l0_5 a0_6 a0_7 = some r) ∧ Aside0 (kq ≤ k) ∧ Aside0 (w'.heap[gb426]? = some (.cells #[.int .i64 a0_0, .int .i64 a0_1, .bool a0_2, .bool a0_3, (.slice A0_4 l0_4.length c0_4), (.slice A0_5 l0_5.length c0_5), .int .i64 a0_6, .int .i64 a0_7] 74 (0, 0))) ∧ Aside0 (Below w.heap.size w w'))
  case atStart => exact ⟨(0), (0), (by first | rfl | (simp; done) | (simp [*]; done)), (by first | rfl | (simp; done) | (simp [*]; done)), H', ⟨Nat.le_refl _⟩, ⟨by (with_reducible repeat (first | refine QG ?_ _ | refine QJ ?_ | refine QH ?_ _)); exact BK426.out⟩, ⟨by repeat (first | (with_reducible first | exact HB.out | apply QF | apply QD | apply QE | refine QI ?_ GE426.out) | exact HB.out)⟩⟩
  case round =>
    clear H'
    try clear p2
    obtain ⟨x5_1, x7_1, rfl, rfl, HA, HK1, BK426, HB⟩ := hrel
    cases gk with
    | zero => exact absurd HA.out (by simp [impl_FitCount.l0])
    | succ k1 =>
      have H := HA.out
      clear HA
      simp only [impl_FitCount.l0] at H
      by_cases c4 : x7_1 < 52
      · rw [if_pos c4] at H
        have c4b0 : decide (x7_1 < 52) = true := decide_eq_true c4
        clear c4
        by_cases c5 : x7_1 = a1
        · rw [if_pos c5] at H
          have c5b0 : (x7_1 == a1) = true := beq_iff_eq.mpr c5
          have c5b1 : (x7_1 != a1) = false := bne_eq_false_iff_eq.mpr c5
          clear c5
          have H' := QL H
          clear H
          go_wp2
          go_roundg k1
          case measure => have := HK1.out; omega
          case rel => exact ⟨(x5_1), (wrap64 (x7_1 + 1)), (by first | rfl | (simp; done) | (simp [*]; done)), (by first | rfl | (simp; done) | (simp [*]; done)), H', ⟨by have := HK1.out; omega⟩, ⟨by (with_reducible repeat (first | refine QG ?_ _ | refine QJ ?_ | refine QH ?_ _)); exact BK426.out⟩, ⟨by repeat (first | (with_reducible first | exact HB.out | apply QF | apply QD | apply QE | refine QI ?_ GE426.out) | exact HB.out)⟩⟩
        · rw [if_neg c5] at H
          have c5b0 : (x7_1 == a1) = false := beq_eq_false_iff_ne.mpr c5
          have c5b1 : (x7_1 != a1) = true := bne_iff_ne.mpr c5
          replace H := Option.bind_eq_some_iff.mp H
          obtain ⟨t427, A60, H⟩ := H
          have A6 := QL A60
          clear A60
          by_cases c7 : t427 = true
          · subst c7
            rw [if_pos rfl] at H
            have H' := QL H
            clear H
            have hcz8_0 : wr.cell? ⟨gb426, 0, none⟩ = some (.int .i64 a0_0) := (QC BK426.out 0).trans rfl
            have hcz8_1 : wr.cell? ⟨gb426, 1, none⟩ = some (.int .i64 a0_1) := (QC BK426.out 1).trans rfl
            have hcz8_2 : wr.cell? ⟨gb426, 2, none⟩ = some (.bool a0_2) := (QC BK426.out 2).trans rfl
            have hcz8_3 : wr.cell? ⟨gb426, 3, none⟩ = some (.bool a0_3) := (QC BK426.out 3).trans rfl
            have hcz8_4 : wr.cell? ⟨gb426, 4, none⟩ = some (.slice A0_4 l0_4.length c0_4) := (QC BK426.out 4).trans rfl
            have hcz8_5 : wr.cell? ⟨gb426, 5, none⟩ = some (.slice A0_5 l0_5.length c0_5) := (QC BK426.out 5).trans rfl
            have hcz8_6 : wr.cell? ⟨gb426, 6, none⟩ = some (.int .i64 a0_6) := (QC BK426.out 6).trans rfl
            have hcz8_7 : wr.cell? ⟨gb426, 7, none⟩ = some (.int .i64 a0_7) := (QC BK426.out 7).trans rfl
            have hfz8_0 := QB BK426.out 0
            have hfz8_1 := QB BK426.out 1
            have hfz8_2 := QB BK426.out 2
            have hfz8_3 := QB BK426.out 3
            have hfz8_4 := QB BK426.out 4
            have hfz8_5 := QB BK426.out 5
            have hfz8_6 := QB BK426.out 6
            have hfz8_7 := QB BK426.out 7
            go_wp2_with (first | (go_at_call 63; (with_reducible refine (impl_FitsOn.calls k1 a0_0 a0_1 a0_2 a0_3 _ _ l0_4 _ _ l0_5 a0_6 a0_7 a1 x7_1 true _ ?side1 ?side2 ?side3 ?side4 A6.out).mono ?_); (case side1 => repeat (first | exact (Kd.C_below HR0_4.out HB.out) | (with_reducible refine Kd.C_alloc ?_ _) | (with_reducible refine Kd.C_drewN ?_ _) | (with_reducible refine Kd.C_drew ?_))); (case side2 => exact HC0_4.out); (case side3 => repeat (first | exact (Kd.C_below HR0_5.out HB.out) | (with_reducible refine Kd.C_alloc ?_ _) | (with_reducible refine Kd.C_drewN ?_ _) | (with_reducible refine Kd.C_drew ?_))); (case side4 => exact HC0_5.out); rintro e w9 ⟨rfl, hb⟩; have n0_ := QL (blk_below (g := gb426) (o := _) (by (with_reducible repeat (first | refine QG ?_ _ | refine QJ ?_ | refine QH ?_ _)); exact BK426.out) hb); have n1_ := QL (below_step (by repeat (first | (with_reducible first | exact HB.out | apply QF | apply QD | apply QE | refine QI ?_ GE426.out) | exact HB.out)) hb); clear BK426; clear HB; have BK426 := n0_; have HB := n1_; clear n0_ n1_; (try clear hb); (try clear hb2); (try clear hk); (try clear hi)))
            go_roundg k1
            case measure => have := HK1.out; omega
            case rel => exact ⟨(wrap64 (x5_1 + 1)), (wrap64 (x7_1 + 1)), (by first | rfl | (simp; done) | (simp [*]; done)), (by first | rfl | (simp; done) | (simp [*]; done)), H', ⟨by have := HK1.out; omega⟩, ⟨by (with_reducible repeat (first | refine QG ?_ _ | refine QJ ?_ | refine QH ?_ _)); exact BK426.out⟩, ⟨by repeat (first | (with_reducible first | exact HB.out | apply QF | apply QD | apply QE | refine QI ?_ GE426.out) | exact HB.out)⟩⟩
          · replace c7 := Bool.eq_false_iff.mpr c7
            subst c7
            rw [if_neg (show ¬ (false = true) by decide)] at H
            have H' := QL H
            clear H
            have hcz10_0 : wr.cell? ⟨gb426, 0, none⟩ = some (.int .i64 a0_0) := (QC BK426.out 0).trans rfl
            have hcz10_1 : wr.cell? ⟨gb426, 1, none⟩ = some (.int .i64 a0_1) := (QC BK426.out 1).trans rfl
            have hcz10_2 : wr.cell? ⟨gb426, 2, none⟩ = some (.bool a0_2) := (QC BK426.out 2).trans rfl
            have hcz10_3 : wr.cell? ⟨gb426, 3, none⟩ = some (.bool a0_3) := (QC BK426.out 3).trans rfl
            have hcz10_4 : wr.cell? ⟨gb426, 4, none⟩ = some (.slice A0_4 l0_4.length c0_4) := (QC BK426.out 4).trans rfl
            have hcz10_5 : wr.cell? ⟨gb426, 5, none⟩ = some (.slice A0_5 l0_5.length c0_5) := (QC BK426.out 5).trans rfl
            have hcz10_6 : wr.cell? ⟨gb426, 6, none⟩ = some (.int .i64 a0_6) := (QC BK426.out 6).trans rfl
            have hcz10_7 : wr.cell? ⟨gb426, 7, none⟩ = some (.int .i64 a0_7) := (QC BK426.out 7).trans rfl
            have hfz10_0 := QB BK426.out 0
            have hfz10_1 := QB BK426.out 1
            have hfz10_2 := QB BK426.out 2
            have hfz10_3 := QB BK426.out 3
            have hfz10_4 := QB BK426.out 4
            have hfz10_5 := QB BK426.out 5
            have hfz10_6 := QB BK426.out 6
            have hfz10_7 := QB BK426.out 7
            go_wp2_with (first | (go_at_call 63; (with_reducible refine (impl_FitsOn.calls k1 a0_0 a0_1 a0_2 a0_3 _ _ l0_4 _ _ l0_5 a0_6 a0_7 a1 x7_1 false _ ?side1 ?side2 ?side3 ?side4 A6.out).mono ?_); (case side1 => repeat (first | exact (Kd.C_below HR0_4.out HB.out) | (with_reducible refine Kd.C_alloc ?_ _) | (with_reducible refine Kd.C_drewN ?_ _) | (with_reducible refine Kd.C_drew ?_))); (case side2 => exact HC0_4.out); (case side3 => repeat (first | exact (Kd.C_below HR0_5.out HB.out) | (with_reducible refine Kd.C_alloc ?_ _) | (with_reducible refine Kd.C_drewN ?_ _) | (with_reducible refine Kd.C_drew ?_))); (case side4 => exact HC0_5.out); rintro e w11 ⟨rfl, hb⟩; have n0_ := QL (blk_below (g := gb426) (o := _) (by (with_reducible repeat (first | refine QG ?_ _ | refine QJ ?_ | refine QH ?_ _)); exact BK426.out) hb); have n1_ := QL (below_step (by repeat (first | (with_reducible first | exact HB.out | apply QF | apply QD | apply QE | refine QI ?_ GE426.out) | exact HB.out)) hb); clear BK426; clear HB; have BK426 := n0_; have HB := n1_; clear n0_ n1_; (try clear hb); (try clear hb2); (try clear hk); (try clear hi)))
            go_roundg k1
            case measure => have := HK1.out; omega
            case rel => exact ⟨(x5_1), (wrap64 (x7_1 + 1)), (by first | rfl | (simp; done) | (simp [*]; done)), (by first | rfl | (simp; done) | (simp [*]; done)), H', ⟨by have := HK1.out; omega⟩, ⟨by (with_reducible repeat (first | refine QG ?_ _ | refine QJ ?_ | refine QH ?_ _)); exact BK426.out⟩, ⟨by repeat (first | (with_reducible first | exact HB.out | apply QF | apply QD | apply QE | refine QI ?_ GE426.out) | exact HB.out)⟩⟩
      · rw [if_neg c4] at H
        have c4b0 : decide (x7_1 < 52) = false := decide_eq_false c4
        clear c4
        obtain rfl := Option.some.inj H
        go_wp2
        go_ret
        exact ⟨by first | rfl | (simp [errW_none, errW_some] <;> rfl) | (simp [*, errW_none, errW_some] <;> rfl), by repeat (first | (with_reducible first | exact HB.out | apply QF | apply QD | apply QE | refine QI ?_ GE426.out) | exact HB.out)⟩

/-! ### spec_l22Copy: function 129 -/
def spec_l22Copy.f (a0_0 : Int) (a0_1 : Int) (a0_2 : Bool) (a0_3 : Bool) (l0_4 : List Int) (l0_5 : List Int) (a0_6 : Int) (a0_7 : Int) : Option (Int × Int × Bool × Bool × List Int × List Int × Int × Int) := (some (([] : List Int) : List Int)).bind fun y430 => (if y430.length + l0_4.length < 17592186044416 then ((some (([] : List Int) : List Int)).bind fun y436 => (if y436.length + l0_5.length < 17592186044416 then (some (a0_0, a0_1, a0_2, a0_3, (y430 ++ l0_4), (y436 ++ l0_5), a0_6, a0_7)) else (none))) else (none))
set_option maxHeartbeats 8000000 in
set_option maxRecDepth 100000 in
theorem spec_l22Copy.calls (a0_0 : Int) (a0_1 : Int) (a0_2 : Bool) (a0_3 : Bool) (A0_4 : Option Addr) (c0_4 : Nat) (l0_4 : List Int) (A0_5 : Option Addr) (c0_5 : Nat) (l0_5 : List Int) (a0_6 : Int) (a0_7 : Int) (r1 : Int) (r2 : Int) (r3 : Bool) (r4 : Bool) (r5 : List Int) (r6 : List Int) (r7 : Int) (r8 : Int) (w : World) (hr0_4 : Kd.C (Kd.int .i64) w A0_4 l0_4.length l0_4) (hc0_4 : l0_4.length ≤ c0_4) (hr0_5 : Kd.C (Kd.int .i64) w A0_5 l0_5.length l0_5) (hc0_5 : l0_5.length ≤ c0_5) (h : spec_l22Copy.f a0_0 a0_1 a0_2 a0_3 l0_4 l0_5 a0_6 a0_7 = some (r1, r2, r3, r4, r5, r6, r7, r8)) :
    Calls Try.prog 129 #[.agg #[.int .i64 a0_0, .int .i64 a0_1, .bool a0_2, .bool a0_3, .slice A0_4 l0_4.length c0_4, .slice A0_5 l0_5.length c0_5, .int .i64 a0_6, .int .i64 a0_7]] w fun e w' => ∃ v4_ v5_ : Value, e = .returned (.agg #[.int .i64 r1, .int .i64 r2, .bool r3, .bool r4, v4_, v5_, .int .i64 r7, .int .i64 r8]) ∧ Kd.R (Kd.int .i64) 3 w' w.heap.size (fun k_ => some k_ ≠ (v5_ : Value).ownBlock) v4_ r5 ∧ Kd.R (Kd.int .i64) 3 w' w.heap.size (fun k_ => some k_ ≠ (v4_ : Value).ownBlock) v5_ r6 ∧ Below w.heap.size w w' := by
  have hu74 := Try.underlying74
  have HR0_4 := QL hr0_4
  have HC0_4 := QL hc0_4
  clear hr0_4 hc0_4
  have HR0_5 := QL hr0_5
  have HC0_5 := QL hc0_5
  clear hr0_5 hc0_5
  have HB := QL (Below.refl w.heap.size w)
  have H : ((some (([] : List Int) : List Int)).bind fun y430 => (if y430.length + l0_4.length < 17592186044416 then ((some (([] : List Int) : List Int)).bind fun y436 => (if y436.length + l0_5.length < 17592186044416 then (some (a0_0, a0_1, a0_2, a0_3, (y430 ++ l0_4), (y436 ++ l0_5), a0_6, a0_7)) else (none))) else (none))) = some (r1, r2, r3, r4, r5, r6, r7, r8) := h
  clear h
  obtain ⟨y430, hy430⟩ : ∃ y_ : List Int, y_ = (([] : List Int)) := ⟨_, rfl⟩
  replace H : (if y430.length + l0_4.length < 17592186044416 then ((some (([] : List Int) : List Int)).bind fun y436 => (if y436.length + l0_5.length < 17592186044416 then (some (a0_0, a0_1, a0_2, a0_3, (y430 ++ l0_4), (y436 ++ l0_5), a0_6, a0_7)) else (none))) else (none)) = some (r1, r2, r3, r4, r5, r6, r7, r8) := by first | (rw [hy430]; with_reducible exact H) | (have H2_ := (Option.bind_some _ _).symm.trans H; rw [hy430]; with_reducible exact H2_) | (have H2_ := (Option.bind_some _ _).symm.trans H; with_reducible exact H2_) | with_reducible exact H | (rw [hy430]; exact H) | exact H
  have Ny430 := QL hy430
  clear hy430
  by_cases c2 : y430.length + l0_4.length < 17592186044416
  · rw [if_pos c2] at H
    have LMc2 := QL c2
    clear c2
    obtain ⟨y433, hy433⟩ : ∃ y_ : List Int, y_ = (y430 ++ l0_4) := ⟨_, rfl⟩
    replace H : ((some (([] : List Int) : List Int)).bind fun y436 => (if y436.length + l0_5.length < 17592186044416 then (some (a0_0, a0_1, a0_2, a0_3, y433, (y436 ++ l0_5), a0_6, a0_7)) else (none))) = some (r1, r2, r3, r4, r5, r6, r7, r8) := by first | (rw [hy433]; with_reducible exact H) | (have H2_ := (Option.bind_some _ _).symm.trans H; rw [hy433]; with_reducible exact H2_) | (have H2_ := (Option.bind_some _ _).symm.trans H; with_reducible exact H2_) | with_reducible exact H | (rw [hy433]; exact H) | exact H
    have Ny433 := QL hy433
    clear hy433
    obtain ⟨y436, hy436⟩ : ∃ y_ : List Int, y_ = (([] : List Int)) := ⟨_, rfl⟩
    replace H : (if y436.length + l0_5.length < 17592186044416 then (some (a0_0, a0_1, a0_2, a0_3, y433, (y436 ++ l0_5), a0_6, a0_7)) else (none)) = some (r1, r2, r3, r4, r5, r6, r7, r8) := by first | (rw [hy436]; with_reducible exact H) | (have H2_ := (Option.bind_some _ _).symm.trans H; rw [hy436]; with_reducible exact H2_) | (have H2_ := (Option.bind_some _ _).symm.trans H; with_reducible exact H2_) | with_reducible exact H | (rw [hy436]; exact H) | exact H
    have Ny436 := QL hy436
    clear hy436
    by_cases c3 : y436.length + l0_5.length < 17592186044416
    · rw [if_pos c3] at H
      have LMc3 := QL c3
      clear c3
      obtain ⟨y439, hy439⟩ : ∃ y_ : List Int, y_ = (y436 ++ l0_5) := ⟨_, rfl⟩
      replace H : (some (a0_0, a0_1, a0_2, a0_3, y433, y439, a0_6, a0_7)) = some (r1, r2, r3, r4, r5, r6, r7, r8) := by first | (rw [hy439]; with_reducible exact H) | (have H2_ := (Option.bind_some _ _).symm.trans H; rw [hy439]; with_reducible exact H2_) | (have H2_ := (Option.bind_some _ _).symm.trans H; with_reducible exact H2_) | with_reducible exact H | (rw [hy439]; exact H) | exact H
      have Ny439 := QL hy439
      clear hy439
      simp only [Option.some.injEq, Prod.mk.injEq] at H
      obtain ⟨rfl, rfl, rfl, rfl, rfl, rfl, rfl, rfl⟩ := H
      go_enter Try.func129, Try.ntmps129
      go_wp2_with (first | ((with_reducible refine gate_dst (N := 1) rfl ?_); refine box_event ?hg (N := 1) ?hd (cs := #[.int .i64 a0_0, .int .i64 a0_1, .bool a0_2, .bool a0_3, .slice A0_4 l0_4.length c0_4, .slice A0_5 l0_5.length c0_5, .int .i64 a0_6, .int .i64 a0_7]) (t := 74) ?hr ?_; (case hd => rfl); (case hg => rfl); (case hr => first | (go_simp; done) | (go_simp; rfl)); intro gb428 hg w4 hbox hb; have n0_ := QL (below_step (by repeat (first | (with_reducible first | exact HB.out | apply QF | apply QD | apply QE) | exact HB.out)) hb); have n1_ := QL (hbox); have n2_ := QL ((by rw [hg]; exact (below_size (by repeat (first | (with_reducible first | exact HB.out | apply QF | apply QD | apply QE) | exact HB.out))) : w.heap.size ≤ gb428)); have n3_ := QL ((by rw [hg]; exact (below_size (by repeat (first | (with_reducible first | exact HB.out | apply QF | apply QD | apply QE) | exact HB.out))) : w.heap.size ≤ gb428)); clear HB; have HB := n0_; have BK428 := n1_; have GW428 := n2_; have GE428 := n3_; clear n0_ n1_ n2_ n3_; clear hb hbox hg) | ((with_reducible refine gate_dst (N := 2) rfl ?_); refine box_event ?hg (N := 2) ?hd (cs := #[.int .i64 0, .int .i64 0, .bool false, .bool false, .slice none 0 0, .slice none 0 0, .int .i64 0, .int .i64 0]) (t := 74) ?hr ?_; (case hd => rfl); (case hg => rfl); (case hr => first | (go_simp; done) | (go_simp; rfl)); intro gb429 hg w5 hbox hb; have n0_ := QL (blk_below (g := gb428) (o := .cells #[.int .i64 a0_0, .int .i64 a0_1, .bool a0_2, .bool a0_3, .slice A0_4 l0_4.length c0_4, .slice A0_5 l0_5.length c0_5, .int .i64 a0_6, .int .i64 a0_7] 74 (0, 0)) (by (with_reducible repeat (first | refine QG ?_ _ | refine QJ ?_ | refine QH ?_ _)); exact BK428.out) hb); have n1_ := QL (below_step (by repeat (first | (with_reducible first | exact HB.out | apply QF | apply QD | apply QE | refine QI ?_ GE428.out) | exact HB.out)) hb); have n2_ := QL (hbox); have n3_ := QL ((by rw [hg]; exact (below_size (by repeat (first | (with_reducible first | exact HB.out | apply QF | apply QD | apply QE | refine QI ?_ GE428.out) | exact HB.out))) : w.heap.size ≤ gb429)); have n4_ := QL ((by rw [hg]; exact (below_size (by repeat (first | (with_reducible first | exact HB.out | apply QF | apply QD | apply QE | refine QI ?_ GE428.out) | exact HB.out))) : w.heap.size ≤ gb429)); have n5_ := QL ((by rw [hg]; exact Nat.ne_of_lt (blk_lt (g := gb428) (o := .cells #[.int .i64 a0_0, .int .i64 a0_1, .bool a0_2, .bool a0_3, .slice A0_4 l0_4.length c0_4, .slice A0_5 l0_5.length c0_5, .int .i64 a0_6, .int .i64 a0_7] 74 (0, 0)) (by (with_reducible repeat (first | refine QG ?_ _ | refine QJ ?_ | refine QH ?_ _)); exact BK428.out)) : gb428 ≠ gb429)); have n6_ := QL ((by rw [hg]; exact Nat.ne_of_gt (blk_lt (g := gb428) (o := .cells #[.int .i64 a0_0, .int .i64 a0_1, .bool a0_2, .bool a0_3, .slice A0_4 l0_4.length c0_4, .slice A0_5 l0_5.length c0_5, .int .i64 a0_6, .int .i64 a0_7] 74 (0, 0)) (by (with_reducible repeat (first | refine QG ?_ _ | refine QJ ?_ | refine QH ?_ _)); exact BK428.out)) : gb429 ≠ gb428)); clear BK428; clear HB; have BK428 := n0_; have HB := n1_; have BK429 := n2_; have GW429 := n3_; have GE429 := n4_; have NB428_429 := n5_; have NB429_428 := n6_; clear n0_ n1_ n2_ n3_ n4_ n5_ n6_; clear hb hbox hg) | ((with_reducible refine gate_dst (N := 3) rfl ?_); refine Kd.R_lit (Kd.int .i64) _ 3 ?hg (N := 3) ?hd (xs := ([] : List Int)) (inner := []) (ok := fun _ => True) (okp := fun _ => True) ?hr ?hp (fun _ hk => hk) trivial (Below.refl _ _) (Nat.le_refl _) (by simp) ?_; (case hd => rfl); (case hg => rfl); (case hr => first | (go_simp; done) | (go_simp; rfl)); (case hp => exact (Reps.none _ _)); intro v431 w6 ho7 hb hg_ hnew_; clear hg_ hnew_; (first | rw [← Ny430.out] at ho7 | (simp only [Int.reduceToNat] at ho7; rw [← Ny430.out] at ho7)); have n0_ := QL (Kd.R_lower ho7 (below_size (by repeat (first | (with_reducible first | exact HB.out | apply QF | apply QD | apply QE | refine QI ?_ GE428.out | refine QI ?_ GE429.out) | exact HB.out)))); have n1_ := QL (blk_below (g := gb428) (o := .cells #[.int .i64 a0_0, .int .i64 a0_1, .bool a0_2, .bool a0_3, .slice A0_4 l0_4.length c0_4, .slice A0_5 l0_5.length c0_5, .int .i64 a0_6, .int .i64 a0_7] 74 (0, 0)) (by (with_reducible repeat (first | refine QG ?_ _ | refine QJ ?_ | refine QH ?_ _)); exact BK428.out) hb); have n2_ := QL (blk_below (g := gb429) (o := .cells #[.int .i64 0, .int .i64 0, .bool false, .bool false, .slice none 0 0, .slice none 0 0, .int .i64 0, .int .i64 0] 74 (0, 0)) (by (with_reducible repeat (first | refine QG ?_ _ | refine QJ ?_ | refine QH ?_ _)); exact BK429.out) hb); have n3_ := QL (below_step (by repeat (first | (with_reducible first | exact HB.out | apply QF | apply QD | apply QE | refine QI ?_ GE428.out | refine QI ?_ GE429.out) | exact HB.out)) hb); clear BK428; clear BK429; clear HB; have HO432 := n0_; have BK428 := n1_; have BK429 := n2_; have HB := n3_; clear n0_ n1_ n2_ n3_; clear hb ho7; have hnb8 := NB428_429.out; have hnc8 := NB429_428.out; have hcz9_0 : w6.cell? ⟨gb428, 0, none⟩ = some (.int .i64 a0_0) := (QC BK428.out 0).trans rfl; have hcz9_1 : w6.cell? ⟨gb428, 1, none⟩ = some (.int .i64 a0_1) := (QC BK428.out 1).trans rfl; have hcz9_2 : w6.cell? ⟨gb428, 2, none⟩ = some (.bool a0_2) := (QC BK428.out 2).trans rfl; have hcz9_3 : w6.cell? ⟨gb428, 3, none⟩ = some (.bool a0_3) := (QC BK428.out 3).trans rfl; have hcz9_4 : w6.cell? ⟨gb428, 4, none⟩ = some (.slice A0_4 l0_4.length c0_4) := (QC BK428.out 4).trans rfl; have hcz9_5 : w6.cell? ⟨gb428, 5, none⟩ = some (.slice A0_5 l0_5.length c0_5) := (QC BK428.out 5).trans rfl; have hcz9_6 : w6.cell? ⟨gb428, 6, none⟩ = some (.int .i64 a0_6) := (QC BK428.out 6).trans rfl; have hcz9_7 : w6.cell? ⟨gb428, 7, none⟩ = some (.int .i64 a0_7) := (QC BK428.out 7).trans rfl; have hfz9_0 := QB BK428.out 0; have hfz9_1 := QB BK428.out 1; have hfz9_2 := QB BK428.out 2; have hfz9_3 := QB BK428.out 3; have hfz9_4 := QB BK428.out 4; have hfz9_5 := QB BK428.out 5; have hfz9_6 := QB BK428.out 6; have hfz9_7 := QB BK428.out 7) | ((with_reducible refine gate_builtin (b := .append) (xs := #[.tmp 3, .tmp 5]) rfl ?_); at_builtin; refine Kd.R_append_rows (Kd.int .i64) (w0 := w) w.heap.size rfl (.tmp 3) (.tmp 5) 22 3 (.int .i64 0) 8 rfl Try.underlying22 info3 rfl (by decide) (by omega) v431 y430 l0_4 _ _ _ (fun _ => True) (fun _ => False) rfl rfl ?aO ?aR (fun _ _ h => h) (fun _ h => h.elim) ?aF ?aB ?aS ?aL ?_; (case aR => repeat (first | exact (Kd.C_below HR0_4.out HB.out) | (with_reducible refine Kd.C_alloc ?_ _) | (with_reducible refine Kd.C_drewN ?_ _) | (with_reducible refine Kd.C_drew ?_))); (case aB => exact (by repeat (first | (with_reducible first | exact HB.out | apply QF | apply QD | apply QE | refine QI ?_ GE428.out | refine QI ?_ GE429.out) | exact HB.out))); (case aF => exact (fun _ _ => trivial)); (case aO => exact (by (with_reducible repeat (first | apply Kd.R_alloc | apply Kd.R_drewN | apply Kd.R_drew)); exact HO432.out)); (case aS => exact (below_size (by repeat (first | (with_reducible first | exact HB.out | apply QF | apply QD | apply QE | refine QI ?_ GE428.out | refine QI ?_ GE429.out) | exact HB.out)))); (case aL => have := LMc2.out; omega); intro v434 w10 ho hb hg hat; rw [← Ny433.out] at ho; have n0_ := QL (blk_grown (g := gb428) (o := .cells #[.int .i64 a0_0, .int .i64 a0_1, .bool a0_2, .bool a0_3, .slice A0_4 l0_4.length c0_4, .slice A0_5 l0_5.length c0_5, .int .i64 a0_6, .int .i64 a0_7] 74 (0, 0)) (by (with_reducible repeat (first | refine QG ?_ _ | refine QJ ?_ | refine QH ?_ _)); exact BK428.out) hg (Kd.R_ne HO432.out BK428.out (by decide))); have n1_ := QL (blk_grown (g := gb429) (o := .cells #[.int .i64 0, .int .i64 0, .bool false, .bool false, .slice none 0 0, .slice none 0 0, .int .i64 0, .int .i64 0] 74 (0, 0)) (by (with_reducible repeat (first | refine QG ?_ _ | refine QJ ?_ | refine QH ?_ _)); exact BK429.out) hg (Kd.R_ne HO432.out BK429.out (by decide))); have n2_ := QL (hb); have n3_ := QL (ho); clear BK428; clear BK429; clear HB; clear HO432; have BK428 := n0_; have BK429 := n1_; have HB := n2_; have HO435 := n3_; clear n0_ n1_ n2_ n3_; clear ho hb hg hat; obtain ⟨Ao11, co11, eo11⟩ := Kd.R_slice HO435.out; subst eo11; have hcz12_0 : w10.cell? ⟨gb428, 0, none⟩ = some (.int .i64 a0_0) := (QC BK428.out 0).trans rfl; have hcz12_1 : w10.cell? ⟨gb428, 1, none⟩ = some (.int .i64 a0_1) := (QC BK428.out 1).trans rfl; have hcz12_2 : w10.cell? ⟨gb428, 2, none⟩ = some (.bool a0_2) := (QC BK428.out 2).trans rfl; have hcz12_3 : w10.cell? ⟨gb428, 3, none⟩ = some (.bool a0_3) := (QC BK428.out 3).trans rfl; have hcz12_4 : w10.cell? ⟨gb428, 4, none⟩ = some (.slice A0_4 l0_4.length c0_4) := (QC BK428.out 4).trans rfl; have hcz12_5 : w10.cell? ⟨gb428, 5, none⟩ = some (.slice A0_5 l0_5.length c0_5) := (QC BK428.out 5).trans rfl; have hcz12_6 : w10.cell? ⟨gb428, 6, none⟩ = some (.int .i64 a0_6) := (QC BK428.out 6).trans rfl; have hcz12_7 : w10.cell? ⟨gb428, 7, none⟩ = some (.int .i64 a0_7) := (QC BK428.out 7).trans rfl; have hfz12_0 := QB BK428.out 0; have hfz12_1 := QB BK428.out 1; have hfz12_2 := QB BK428.out 2; have hfz12_3 := QB BK428.out 3; have hfz12_4 := QB BK428.out 4; have hfz12_5 := QB BK428.out 5; have hfz12_6 := QB BK428.out 6; have hfz12_7 := QB BK428.out 7) | ((with_reducible refine gate_dst (N := 8) rfl ?_); refine Kd.R_lit (Kd.int .i64) _ 3 ?hg (N := 8) ?hd (xs := ([] : List Int)) (inner := []) (ok := fun _ => True) (okp := fun _ => True) ?hr ?hp (fun _ hk => hk) trivial (Below.refl _ _) (Nat.le_refl _) (by simp) ?_; (case hd => rfl); (case hg => rfl); (case hr => first | (go_simp; done) | (go_simp; rfl)); (case hp => exact (Reps.none _ _)); intro v437 w13 ho14 hb hg_ hnew_; clear hg_ hnew_; (first | rw [← Ny436.out] at ho14 | (simp only [Int.reduceToNat] at ho14; rw [← Ny436.out] at ho14)); have n0_ := QL (Kd.R_elder' (by (with_reducible repeat (first | apply Kd.R_alloc | apply Kd.R_drewN | apply Kd.R_drew)); exact (Kd.R_mono (far_r (Kd.R_types HO435.out BK428.out (by decide))) (fun _ h_ => h_.1))) (Kd.R_base ho14) hb); have n1_ := QL (Kd.R_lower (Kd.R_new' ho14 (Kd.R_lt (by (with_reducible repeat (first | apply Kd.R_alloc | apply Kd.R_drewN | apply Kd.R_drew)); exact (Kd.R_mono (far_r (Kd.R_types HO435.out BK428.out (by decide))) (fun _ h_ => h_.1))))) (below_size (by repeat (first | (with_reducible first | exact HB.out | apply QF | apply QD | apply QE | refine QI ?_ GE428.out | refine QI ?_ GE429.out) | exact HB.out)))); have n2_ := QL (blk_below (g := gb428) (o := .cells #[.int .i64 a0_0, .int .i64 a0_1, .bool a0_2, .bool a0_3, .slice Ao11 y433.length co11, .slice A0_5 l0_5.length c0_5, .int .i64 a0_6, .int .i64 a0_7] 74 (0, 0)) (by (with_reducible repeat (first | refine QG ?_ _ | refine QJ ?_ | refine QH ?_ _)); refine blk_put (cs := #[.int .i64 a0_0, .int .i64 a0_1, .bool a0_2, .bool a0_3, .slice A0_4 l0_4.length c0_4, .slice A0_5 l0_5.length c0_5, .int .i64 a0_6, .int .i64 a0_7]) ?_ 4 _ rfl; (with_reducible repeat (first | refine QG ?_ _ | refine QJ ?_ | refine QH ?_ _)); exact BK428.out) hb); have n3_ := QL (blk_below (g := gb429) (o := .cells #[.int .i64 0, .int .i64 0, .bool false, .bool false, .slice none 0 0, .slice none 0 0, .int .i64 0, .int .i64 0] 74 (0, 0)) (by (with_reducible repeat (first | refine QG ?_ _ | refine QJ ?_ | refine QH ?_ _)); refine blk_far ?_ NB429_428.out _; (with_reducible repeat (first | refine QG ?_ _ | refine QJ ?_ | refine QH ?_ _)); exact BK429.out) hb); have n4_ := QL (below_step (by repeat (first | (with_reducible first | exact HB.out | apply QF | apply QD | apply QE | refine QI ?_ GE428.out | refine QI ?_ GE429.out) | exact HB.out)) hb); clear HO435; clear BK428; clear BK429; clear HB; have HO435 := n0_; have HO438 := n1_; have BK428 := n2_; have BK429 := n3_; have HB := n4_; clear n0_ n1_ n2_ n3_ n4_; clear hb ho14; have hcz15_0 : w13.cell? ⟨gb428, 0, none⟩ = some (.int .i64 a0_0) := (QC BK428.out 0).trans rfl; have hcz15_1 : w13.cell? ⟨gb428, 1, none⟩ = some (.int .i64 a0_1) := (QC BK428.out 1).trans rfl; have hcz15_2 : w13.cell? ⟨gb428, 2, none⟩ = some (.bool a0_2) := (QC BK428.out 2).trans rfl; have hcz15_3 : w13.cell? ⟨gb428, 3, none⟩ = some (.bool a0_3) := (QC BK428.out 3).trans rfl; have hcz15_4 : w13.cell? ⟨gb428, 4, none⟩ = some (.slice Ao11 y433.length co11) := (QC BK428.out 4).trans rfl; have hcz15_5 : w13.cell? ⟨gb428, 5, none⟩ = some (.slice A0_5 l0_5.length c0_5) := (QC BK428.out 5).trans rfl; have hcz15_6 : w13.cell? ⟨gb428, 6, none⟩ = some (.int .i64 a0_6) := (QC BK428.out 6).trans rfl; have hcz15_7 : w13.cell? ⟨gb428, 7, none⟩ = some (.int .i64 a0_7) := (QC BK428.out 7).trans rfl; have hfz15_0 := QB BK428.out 0; have hfz15_1 := QB BK428.out 1; have hfz15_2 := QB BK428.out 2; have hfz15_3 := QB BK428.out 3; have hfz15_4 := QB BK428.out 4; have hfz15_5 := QB BK428.out 5; have hfz15_6 := QB BK428.out 6; have hfz15_7 := QB BK428.out 7) | ((with_reducible refine gate_builtin (b := .append) (xs := #[.tmp 8, .tmp 10]) rfl ?_); at_builtin; refine Kd.R_append_rows (Kd.int .i64) (w0 := w) w.heap.size rfl (.tmp 8) (.tmp 10) 22 3 (.int .i64 0) 8 rfl Try.underlying22 info3 rfl (by decide) (by omega) v437 y436 l0_5 _ _ _ (fun k_ => some k_ ≠ (.slice Ao11 y433.length co11 : Value).ownBlock) (fun _ => False) rfl rfl ?aO ?aR (fun _ _ h => h) (fun _ h => h.elim) ?aF ?aB ?aS ?aL ?_; (case aR => repeat (first | exact (Kd.C_below HR0_5.out HB.out) | (with_reducible refine Kd.C_alloc ?_ _) | (with_reducible refine Kd.C_drewN ?_ _) | (with_reducible refine Kd.C_drew ?_))); (case aB => exact (by repeat (first | (with_reducible first | exact HB.out | apply QF | apply QD | apply QE | refine QI ?_ GE428.out | refine QI ?_ GE429.out) | exact HB.out))); (case aF => exact (fun k_ hk => Kd.fresh' (Kd.R_lt (by (with_reducible repeat (first | apply Kd.R_alloc | apply Kd.R_drewN | apply Kd.R_drew)); exact HO435.out)) k_ hk)); (case aO => exact (by (with_reducible repeat (first | apply Kd.R_alloc | apply Kd.R_drewN | apply Kd.R_drew)); exact Kd.R_mono HO438.out (by first | exact fun k_ hk => hk.2 | exact fun k_ hk => hk))); (case aS => exact (below_size (by repeat (first | (with_reducible first | exact HB.out | apply QF | apply QD | apply QE | refine QI ?_ GE428.out | refine QI ?_ GE429.out) | exact HB.out)))); (case aL => have := LMc3.out; omega); intro v440 w16 ho hb hg hat; rw [← Ny439.out] at ho; have n0_ := QL (blk_grown (g := gb428) (o := .cells #[.int .i64 a0_0, .int .i64 a0_1, .bool a0_2, .bool a0_3, .slice Ao11 y433.length co11, .slice A0_5 l0_5.length c0_5, .int .i64 a0_6, .int .i64 a0_7] 74 (0, 0)) (by (with_reducible repeat (first | refine QG ?_ _ | refine QJ ?_ | refine QH ?_ _)); exact BK428.out) hg (Kd.R_ne HO438.out BK428.out (by decide))); have n1_ := QL (blk_grown (g := gb429) (o := .cells #[.int .i64 0, .int .i64 0, .bool false, .bool false, .slice none 0 0, .slice none 0 0, .int .i64 0, .int .i64 0] 74 (0, 0)) (by (with_reducible repeat (first | refine QG ?_ _ | refine QJ ?_ | refine QH ?_ _)); exact BK429.out) hg (Kd.R_ne HO438.out BK429.out (by decide))); have n2_ := QL (Kd.R_after (ok := (fun _ => True)) (by (with_reducible repeat (first | apply Kd.R_alloc | apply Kd.R_drewN | apply Kd.R_drew)); exact HO435.out) hg hat); have n3_ := QL (hb); have n4_ := QL (ho); clear BK428; clear BK429; clear HO435; clear HB; clear HO438; have BK428 := n0_; have BK429 := n1_; have HO435 := n2_; have HB := n3_; have HO441 := n4_; clear n0_ n1_ n2_ n3_ n4_; clear ho hb hg hat; obtain ⟨Ao17, co17, eo17⟩ := Kd.R_slice HO441.out; subst eo17; have hcz18_0 : w16.cell? ⟨gb428, 0, none⟩ = some (.int .i64 a0_0) := (QC BK428.out 0).trans rfl; have hcz18_1 : w16.cell? ⟨gb428, 1, none⟩ = some (.int .i64 a0_1) := (QC BK428.out 1).trans rfl; have hcz18_2 : w16.cell? ⟨gb428, 2, none⟩ = some (.bool a0_2) := (QC BK428.out 2).trans rfl; have hcz18_3 : w16.cell? ⟨gb428, 3, none⟩ = some (.bool a0_3) := (QC BK428.out 3).trans rfl; have hcz18_4 : w16.cell? ⟨gb428, 4, none⟩ = some (.slice Ao11 y433.length co11) := (QC BK428.out 4).trans rfl; have hcz18_5 : w16.cell? ⟨gb428, 5, none⟩ = some (.slice A0_5 l0_5.length c0_5) := (QC BK428.out 5).trans rfl; have hcz18_6 : w16.cell? ⟨gb428, 6, none⟩ = some (.int .i64 a0_6) := (QC BK428.out 6).trans rfl; have hcz18_7 : w16.cell? ⟨gb428, 7, none⟩ = some (.int .i64 a0_7) := (QC BK428.out 7).trans rfl; have hfz18_0 := QB BK428.out 0; have hfz18_1 := QB BK428.out 1; have hfz18_2 := QB BK428.out 2; have hfz18_3 := QB BK428.out 3; have hfz18_4 := QB BK428.out 4; have hfz18_5 := QB BK428.out 5; have hfz18_6 := QB BK428.out 6; have hfz18_7 := QB BK428.out 7; have hcz19_0 : w16.cell? ⟨gb429, 0, none⟩ = some (.int .i64 0) := (QC BK429.out 0).trans rfl; have hcz19_1 : w16.cell? ⟨gb429, 1, none⟩ = some (.int .i64 0) := (QC BK429.out 1).trans rfl; have hcz19_2 : w16.cell? ⟨gb429, 2, none⟩ = some (.bool false) := (QC BK429.out 2).trans rfl; have hcz19_3 : w16.cell? ⟨gb429, 3, none⟩ = some (.bool false) := (QC BK429.out 3).trans rfl; have hcz19_4 : w16.cell? ⟨gb429, 4, none⟩ = some (.slice none 0 0) := (QC BK429.out 4).trans rfl; have hcz19_5 : w16.cell? ⟨gb429, 5, none⟩ = some (.slice none 0 0) := (QC BK429.out 5).trans rfl; have hcz19_6 : w16.cell? ⟨gb429, 6, none⟩ = some (.int .i64 0) := (QC BK429.out 6).trans rfl; have hcz19_7 : w16.cell? ⟨gb429, 7, none⟩ = some (.int .i64 0) := (QC BK429.out 7).trans rfl; have hfz19_0 := QB BK429.out 0; have hfz19_1 := QB BK429.out 1; have hfz19_2 := QB BK429.out 2; have hfz19_3 := QB BK429.out 3; have hfz19_4 := QB BK429.out 4; have hfz19_5 := QB BK429.out 5; have hfz19_6 := QB BK429.out 6; have hfz19_7 := QB BK429.out 7))
      refine bodyPost_ret (results_cell_row rfl _ _ gb429 74 #[.int .i64 a0_0, .int .i64 a0_1, .bool a0_2, .bool a0_3, .slice Ao11 y433.length co11, .slice Ao17 y439.length co17, .int .i64 a0_6, .int .i64 a0_7] (0, 0) _ rfl (by (with_reducible repeat (first | refine QG ?_ _ | refine QJ ?_ | refine QH ?_ _)); refine blk_put (cs := #[.int .i64 a0_0, .int .i64 a0_1, .bool a0_2, .bool a0_3, .slice Ao11 y433.length co11, .slice Ao17 y439.length co17, .int .i64 a0_6, .int .i64 0]) ?_ 7 _ rfl; (with_reducible repeat (first | refine QG ?_ _ | refine QJ ?_ | refine QH ?_ _)); refine blk_put (cs := #[.int .i64 a0_0, .int .i64 a0_1, .bool a0_2, .bool a0_3, .slice Ao11 y433.length co11, .slice Ao17 y439.length co17, .int .i64 0, .int .i64 0]) ?_ 6 _ rfl; (with_reducible repeat (first | refine QG ?_ _ | refine QJ ?_ | refine QH ?_ _)); refine blk_put (cs := #[.int .i64 a0_0, .int .i64 a0_1, .bool a0_2, .bool a0_3, .slice Ao11 y433.length co11, .slice none 0 0, .int .i64 0, .int .i64 0]) ?_ 5 _ rfl; (with_reducible repeat (first | refine QG ?_ _ | refine QJ ?_ | refine QH ?_ _)); refine blk_put (cs := #[.int .i64 a0_0, .int .i64 a0_1, .bool a0_2, .bool a0_3, .slice none 0 0, .slice none 0 0, .int .i64 0, .int .i64 0]) ?_ 4 _ rfl; (with_reducible repeat (first | refine QG ?_ _ | refine QJ ?_ | refine QH ?_ _)); refine blk_put (cs := #[.int .i64 a0_0, .int .i64 a0_1, .bool a0_2, .bool false, .slice none 0 0, .slice none 0 0, .int .i64 0, .int .i64 0]) ?_ 3 _ rfl; (with_reducible repeat (first | refine QG ?_ _ | refine QJ ?_ | refine QH ?_ _)); refine blk_put (cs := #[.int .i64 a0_0, .int .i64 a0_1, .bool false, .bool false, .slice none 0 0, .slice none 0 0, .int .i64 0, .int .i64 0]) ?_ 2 _ rfl; (with_reducible repeat (first | refine QG ?_ _ | refine QJ ?_ | refine QH ?_ _)); refine blk_put (cs := #[.int .i64 a0_0, .int .i64 0, .bool false, .bool false, .slice none 0 0, .slice none 0 0, .int .i64 0, .int .i64 0]) ?_ 1 _ rfl; (with_reducible repeat (first | refine QG ?_ _ | refine QJ ?_ | refine QH ?_ _)); refine blk_put (cs := #[.int .i64 0, .int .i64 0, .bool false, .bool false, .slice none 0 0, .slice none 0 0, .int .i64 0, .int .i64 0]) ?_ 0 _ rfl; (with_reducible repeat (first | refine QG ?_ _ | refine QJ ?_ | refine QH ?_ _)); refine blk_far ?_ NB429_428.out _; (with_reducible repeat (first | refine QG ?_ _ | refine QJ ?_ | refine QH ?_ _)); exact BK429.out) Try.underlying74 rfl (by kernel_rfl)) rfl ?_
      exact ⟨_, _, by first | rfl | (simp [errW_none, errW_some] <;> rfl) | (simp [*, errW_none, errW_some] <;> rfl), by (with_reducible repeat (first | apply Kd.R_alloc | apply Kd.R_drewN | apply Kd.R_drew)); exact Kd.R_mono (far_r (far_r (far_r (far_r (far_r (far_r (far_r (far_r (Kd.R_far (p := ⟨gb428, 5, none⟩) (Kd.R_types (Kd.R_types HO435.out BK428.out (by decide)) BK429.out (by decide)) (fun _ hk => hk.1.2) (.slice Ao17 y439.length co17)))))))))) (fun _ hk => hk.1.1.2), by (with_reducible repeat (first | apply Kd.R_alloc | apply Kd.R_drewN | apply Kd.R_drew)); exact Kd.R_mono (far_r (far_r (far_r (far_r (far_r (far_r (far_r (far_r (Kd.R_far (p := ⟨gb428, 5, none⟩) (Kd.R_types (Kd.R_types HO441.out BK428.out (by decide)) BK429.out (by decide)) (fun _ hk => hk.1.2) (.slice Ao17 y439.length co17)))))))))) (fun _ hk => hk.1.1), by repeat (first | (with_reducible first | exact HB.out | apply QF | apply QD | apply QE | refine QI ?_ GE428.out | refine QI ?_ GE429.out) | exact HB.out)⟩
    · rw [if_neg c3] at H
      exact absurd H (by simp)
  · rw [if_neg c2] at H
    exact absurd H (by simp)

end Go.Proofs.Ytdakhelapeojgaa.QFnRules
