/- What a call of each Go function that FnExactFitsOn reaches comes to, as a Lean function: texts of the kit's print, turned by wip/remake.py. No condition beyond what each names. -/
import Derived.Test.YtdakhelapeojgaaQFnExactFitsOnx3
namespace Go.Proofs.Ytdakhelapeojgaa.QFnExactFitsOn
open Go.RowKit Go.Proofs.YtdakhelapeojgaaW.PrintWords Go.Proofs.YtdakhelapeojgaaW.PrintLast Go.Proofs.YtdakhelapeojgaaW.PrintMore
attribute [local go_sem] max2_int min2_int max_two min_two max_three min_three max_four min_four   -- for this text's walks alone
set_option linter.unusedVariables false
set_option linter.unusedSimpArgs false

/-! ### spec_FitsOn: function 78 -/
def spec_FitsOn.j0 : Nat → Int → Int → Bool → Int → Int → Bool → Bool → List Int → List Int → Int → Int → Option (Bool)
  | 0, _, _, _, _, _, _, _, _, _, _, _ => none
  | k + 1, x1, x2, x19, x278000, x278001, x278002, x278003, x278004, x278005, x278006, x278007 => if x19 = true then (some false) else (if x278002 = true then ((spec_SuitOf.f x2).bind fun t281 => ((spec_SuitOf.f x1).bind fun t282 => (if t281 = t282 then (some true) else (if x278003 = true then ((spec_RankOf.f x2).bind fun t283 => ((spec_RankOf.f x1).bind fun t284 => (if t283 = t284 then (some true) else ((spec_Matches.f k x278004 x2).bind fun t285 => (some t285))))) else ((spec_Matches.f k x278004 x2).bind fun t286 => (some t286)))))) else (if x278003 = true then ((spec_RankOf.f x2).bind fun t287 => ((spec_RankOf.f x1).bind fun t288 => (if t287 = t288 then (some true) else ((spec_Matches.f k x278004 x2).bind fun t289 => (some t289))))) else ((spec_Matches.f k x278004 x2).bind fun t290 => (some t290))))
def spec_FitsOn.f (k : Nat) (a0_0 : Int) (a0_1 : Int) (a0_2 : Bool) (a0_3 : Bool) (l0_4 : List Int) (l0_5 : List Int) (a0_6 : Int) (a0_7 : Int) (a1 : Int) (a2 : Int) : Option (Bool) := (spec_IsRules.f k a0_0 a0_1 a0_2 a0_3 l0_4 l0_5 a0_6 a0_7).bind fun t278 => (if t278 = true then ((spec_IsCard.f a1).bind fun t279 => (if t279 = true then ((spec_IsCard.f a2).bind fun t280 => (spec_FitsOn.j0 k a1 a2 (!t280) a0_0 a0_1 a0_2 a0_3 l0_4 l0_5 a0_6 a0_7)) else (spec_FitsOn.j0 k a1 a2 true a0_0 a0_1 a0_2 a0_3 l0_4 l0_5 a0_6 a0_7))) else (spec_FitsOn.j0 k a1 a2 true a0_0 a0_1 a0_2 a0_3 l0_4 l0_5 a0_6 a0_7))
theorem spec_FitsOn.mono_l : ∀ k, (∀ y0 y1 y2 y3 y4 y5 y6 y7 y8 y9 y10, LeO (spec_FitsOn.j0 k y0 y1 y2 y3 y4 y5 y6 y7 y8 y9 y10) (spec_FitsOn.j0 (k + 1) y0 y1 y2 y3 y4 y5 y6 y7 y8 y9 y10))
  | 0 => fun _ _ _ _ _ _ _ _ _ _ _ r h => by simp [spec_FitsOn.j0] at h
  | k + 1 => by
    have ih0 := spec_FitsOn.mono_l k
    · intro y0 y1 y2 y3 y4 y5 y6 y7 y8 y9 y10
      unfold spec_FitsOn.j0
      repeat' first
      | (with_reducible exact ih0 _ _ _ _ _ _ _ _ _ _ _)
      | (with_reducible exact spec_IsRules.mono _ _ _ _ _ _ _ _ _)
      | (with_reducible exact spec_Matches.mono _ _ _)
      | (with_reducible exact LeO.refl _)
      | (with_reducible exact LeO.none _)
      | (with_reducible refine LeO.ite ?_ ?_)
      | (with_reducible refine LeO.bind ?_ (fun _ => ?_))
      | exact ih0 _ _ _ _ _ _ _ _ _ _ _
      | exact spec_IsRules.mono _ _ _ _ _ _ _ _ _
      | exact spec_Matches.mono _ _ _
      | exact LeO.none _
      | refine LeO.ite ?_ ?_
      | refine LeO.bind ?_ (fun _ => ?_)
theorem spec_FitsOn.mono : ∀ a0 a1 a2 a3 a4 a5 a6 a7 a8 a9 k, LeO (spec_FitsOn.f k a0 a1 a2 a3 a4 a5 a6 a7 a8 a9) (spec_FitsOn.f (k + 1) a0 a1 a2 a3 a4 a5 a6 a7 a8 a9) := by
  intro a0 a1 a2 a3 a4 a5 a6 a7 a8 a9 k
  have ih0 := spec_FitsOn.mono_l k
  unfold spec_FitsOn.f
  repeat' first
      | (with_reducible exact ih0 _ _ _ _ _ _ _ _ _ _ _)
      | (with_reducible exact spec_IsRules.mono _ _ _ _ _ _ _ _ _)
      | (with_reducible exact spec_Matches.mono _ _ _)
      | (with_reducible exact LeO.refl _)
      | (with_reducible exact LeO.none _)
      | (with_reducible refine LeO.ite ?_ ?_)
      | (with_reducible refine LeO.bind ?_ (fun _ => ?_))
      | exact ih0 _ _ _ _ _ _ _ _ _ _ _
      | exact spec_IsRules.mono _ _ _ _ _ _ _ _ _
      | exact spec_Matches.mono _ _ _
      | exact LeO.none _
      | refine LeO.ite ?_ ?_
      | refine LeO.bind ?_ (fun _ => ?_)
set_option maxHeartbeats 8000000 in
set_option maxRecDepth 100000 in
theorem spec_FitsOn.calls (k : Nat) (a0_0 : Int) (a0_1 : Int) (a0_2 : Bool) (a0_3 : Bool) (A0_4 : Option Addr) (c0_4 : Nat) (l0_4 : List Int) (A0_5 : Option Addr) (c0_5 : Nat) (l0_5 : List Int) (a0_6 : Int) (a0_7 : Int) (a1 : Int) (a2 : Int) (r : Bool) (w : World) (hr0_4 : Kd.C (Kd.int .i64) w A0_4 l0_4.length l0_4) (hc0_4 : l0_4.length ≤ c0_4) (hr0_5 : Kd.C (Kd.int .i64) w A0_5 l0_5.length l0_5) (hc0_5 : l0_5.length ≤ c0_5) (h : spec_FitsOn.f k a0_0 a0_1 a0_2 a0_3 l0_4 l0_5 a0_6 a0_7 a1 a2 = some r) :
    Calls Try.prog 78 #[.agg #[.int .i64 a0_0, .int .i64 a0_1, .bool a0_2, .bool a0_3, .slice A0_4 l0_4.length c0_4, .slice A0_5 l0_5.length c0_5, .int .i64 a0_6, .int .i64 a0_7], .int .i64 a1, .int .i64 a2] w fun e w' => e = .returned (.bool r) ∧ Below w.heap.size w w' := by
  have hu74 := Try.underlying74
  have HR0_4 := Aside0.mk hr0_4
  have HC0_4 := Aside0.mk hc0_4
  clear hr0_4 hc0_4
  have HR0_5 := Aside0.mk hr0_5
  have HC0_5 := Aside0.mk hc0_5
  clear hr0_5 hc0_5
  have HB := Aside0.mk (Below.refl w.heap.size w)
  have H : ((spec_IsRules.f k a0_0 a0_1 a0_2 a0_3 l0_4 l0_5 a0_6 a0_7).bind fun t278 => (if t278 = true then ((spec_IsCard.f a1).bind fun t279 => (if t279 = true then ((spec_IsCard.f a2).bind fun t280 => (spec_FitsOn.j0 k a1 a2 (!t280) a0_0 a0_1 a0_2 a0_3 l0_4 l0_5 a0_6 a0_7)) else (spec_FitsOn.j0 k a1 a2 true a0_0 a0_1 a0_2 a0_3 l0_4 l0_5 a0_6 a0_7))) else (spec_FitsOn.j0 k a1 a2 true a0_0 a0_1 a0_2 a0_3 l0_4 l0_5 a0_6 a0_7))) = some r := h
  clear h
  have HC4 := Aside0.mk H
  clear H
  go_enter Try.func78, Try.ntmps78
  go_upto_region 1 with (first | ((with_reducible refine gate_dst (N := 3) rfl ?_); refine box_event ?hg (N := 3) ?hd (cs := #[.int .i64 a0_0, .int .i64 a0_1, .bool a0_2, .bool a0_3, .slice A0_4 l0_4.length c0_4, .slice A0_5 l0_5.length c0_5, .int .i64 a0_6, .int .i64 a0_7]) (t := 74) ?hr ?_; (case hd => rfl); (case hg => rfl); (case hr => first | (go_simp; done) | (go_simp; rfl)); intro gb277 hg w5 hbox hb; have n0_ := Aside0.mk (below_step (by repeat (first | (with_reducible first | exact HB.out | apply below_alloc | apply pw_below_drewN | apply below_drew1) | exact HB.out)) hb); have n1_ := Aside0.mk (hbox); have n2_ := Aside0.mk ((by rw [hg]; exact (below_size (by repeat (first | (with_reducible first | exact HB.out | apply below_alloc | apply pw_below_drewN | apply below_drew1) | exact HB.out))) : w.heap.size ≤ gb277)); have n3_ := Aside0.mk ((by rw [hg]; exact (below_size (by repeat (first | (with_reducible first | exact HB.out | apply below_alloc | apply pw_below_drewN | apply below_drew1) | exact HB.out))) : w.heap.size ≤ gb277)); clear HB; have HB := n0_; have BK277 := n1_; have GW277 := n2_; have GE277 := n3_; clear n0_ n1_ n2_ n3_; clear hb hbox hg))
  (try simp only [Act.put, List.setIfInBounds_toArray, List.set_cons_zero, List.set_cons_succ])
  go_cut [19] (fun v19 wc => ∃ (kq : Nat) (x19_3 : Bool), v19 = .bool x19_3 ∧ Aside0 (spec_FitsOn.j0 kq a1 a2 x19_3 a0_0 a0_1 a0_2 a0_3 l0_4 l0_5 a0_6 a0_7 = some r) ∧ Aside0 (kq ≤ k) ∧ Aside0 (wc.heap[gb277]? = some (.cells #[.int .i64 a0_0, .int .i64 a0_1, .bool a0_2, .bool a0_3, (.slice A0_4 l0_4.length c0_4), (.slice A0_5 l0_5.length c0_5), .int .i64 a0_6, .int .i64 a0_7] 74 (0, 0))) ∧ Aside0 (Below w.heap.size w wc))
  case first =>
    have H := HC4.out
    clear HC4
    replace H := Option.bind_eq_some_iff.mp H
    obtain ⟨t278, A60, H⟩ := H
    replace H : (if t278 = true then ((spec_IsCard.f a1).bind fun t279 => (if t279 = true then ((spec_IsCard.f a2).bind fun t280 => (spec_FitsOn.j0 k a1 a2 (!t280) a0_0 a0_1 a0_2 a0_3 l0_4 l0_5 a0_6 a0_7)) else (spec_FitsOn.j0 k a1 a2 true a0_0 a0_1 a0_2 a0_3 l0_4 l0_5 a0_6 a0_7))) else (spec_FitsOn.j0 k a1 a2 true a0_0 a0_1 a0_2 a0_3 l0_4 l0_5 a0_6 a0_7)) = some r := H
    have A6 := Aside0.mk A60
    clear A60
    by_cases c7 : t278 = true
    · subst c7
      have H1 : ((spec_IsCard.f a1).bind fun t279 => (if t279 = true then ((spec_IsCard.f a2).bind fun t280 => (spec_FitsOn.j0 k a1 a2 (!t280) a0_0 a0_1 a0_2 a0_3 l0_4 l0_5 a0_6 a0_7)) else (spec_FitsOn.j0 k a1 a2 true a0_0 a0_1 a0_2 a0_3 l0_4 l0_5 a0_6 a0_7))) = some r := by rw [if_pos rfl] at H; exact H
      clear H
      have H := H1
      clear H1
      replace H := Option.bind_eq_some_iff.mp H
      obtain ⟨t279, A80, H⟩ := H
      replace H : (if t279 = true then ((spec_IsCard.f a2).bind fun t280 => (spec_FitsOn.j0 k a1 a2 (!t280) a0_0 a0_1 a0_2 a0_3 l0_4 l0_5 a0_6 a0_7)) else (spec_FitsOn.j0 k a1 a2 true a0_0 a0_1 a0_2 a0_3 l0_4 l0_5 a0_6 a0_7)) = some r := H
      have A8 := Aside0.mk A80
      clear A80
      by_cases c9 : t279 = true
      · subst c9
        have H1 : ((spec_IsCard.f a2).bind fun t280 => (spec_FitsOn.j0 k a1 a2 (!t280) a0_0 a0_1 a0_2 a0_3 l0_4 l0_5 a0_6 a0_7)) = some r := by rw [if_pos rfl] at H; exact H
        clear H
        have H := H1
        clear H1
        replace H := Option.bind_eq_some_iff.mp H
        obtain ⟨t280, A100, H⟩ := H
        replace H : (spec_FitsOn.j0 k a1 a2 (!t280) a0_0 a0_1 a0_2 a0_3 l0_4 l0_5 a0_6 a0_7) = some r := H
        have A10 := Aside0.mk A100
        clear A100
        have H' := Aside0.mk H
        clear H
        have hcz11_0 : w5.cell? ⟨gb277, 0, none⟩ = some (.int .i64 a0_0) := (blk_cell BK277.out 0).trans rfl
        have hcz11_1 : w5.cell? ⟨gb277, 1, none⟩ = some (.int .i64 a0_1) := (blk_cell BK277.out 1).trans rfl
        have hcz11_2 : w5.cell? ⟨gb277, 2, none⟩ = some (.bool a0_2) := (blk_cell BK277.out 2).trans rfl
        have hcz11_3 : w5.cell? ⟨gb277, 3, none⟩ = some (.bool a0_3) := (blk_cell BK277.out 3).trans rfl
        have hcz11_4 : w5.cell? ⟨gb277, 4, none⟩ = some (.slice A0_4 l0_4.length c0_4) := (blk_cell BK277.out 4).trans rfl
        have hcz11_5 : w5.cell? ⟨gb277, 5, none⟩ = some (.slice A0_5 l0_5.length c0_5) := (blk_cell BK277.out 5).trans rfl
        have hcz11_6 : w5.cell? ⟨gb277, 6, none⟩ = some (.int .i64 a0_6) := (blk_cell BK277.out 6).trans rfl
        have hcz11_7 : w5.cell? ⟨gb277, 7, none⟩ = some (.int .i64 a0_7) := (blk_cell BK277.out 7).trans rfl
        have hfz11_0 := blk_frozen BK277.out 0
        have hfz11_1 := blk_frozen BK277.out 1
        have hfz11_2 := blk_frozen BK277.out 2
        have hfz11_3 := blk_frozen BK277.out 3
        have hfz11_4 := blk_frozen BK277.out 4
        have hfz11_5 := blk_frozen BK277.out 5
        have hfz11_6 := blk_frozen BK277.out 6
        have hfz11_7 := blk_frozen BK277.out 7
        go_wp2_with (first | ((with_reducible refine gate_callee (f := 134) rfl ?_); refine goesL_ (some 8) rfl rfl Try.func134 (by kernel_rfl) rfl #[.agg #[.int .i64 a0_0, .int .i64 a0_1, .bool a0_2, .bool a0_3, .slice A0_4 l0_4.length c0_4, .slice A0_5 l0_5.length c0_5, .int .i64 a0_6, .int .i64 a0_7]] rfl (by (try simp only [List.map_toArray, List.map_cons, List.map_nil]); first | done | rfl | (simp only [List.length_drop, List.length_take]; rfl)) ?_; (with_reducible refine (spec_IsRules.calls k a0_0 a0_1 a0_2 a0_3 _ _ l0_4 _ _ l0_5 a0_6 a0_7 true _ ?side1 ?side2 ?side3 ?side4 A6.out).mono ?_); (case side1 => repeat (first | exact (Kd.C_below HR0_4.out HB.out) | (with_reducible refine Kd.C_alloc ?_ _) | (with_reducible refine Kd.C_drewN ?_ _) | (with_reducible refine Kd.C_drew ?_))); (case side2 => exact HC0_4.out); (case side3 => repeat (first | exact (Kd.C_below HR0_5.out HB.out) | (with_reducible refine Kd.C_alloc ?_ _) | (with_reducible refine Kd.C_drewN ?_ _) | (with_reducible refine Kd.C_drew ?_))); (case side4 => exact HC0_5.out); rintro e w12 ⟨rfl, hb⟩; refine ⟨_, rfl, ?_⟩; have n0_ := Aside0.mk (blk_below (g := gb277) (o := .cells #[.int .i64 a0_0, .int .i64 a0_1, .bool a0_2, .bool a0_3, .slice A0_4 l0_4.length c0_4, .slice A0_5 l0_5.length c0_5, .int .i64 a0_6, .int .i64 a0_7] 74 (0, 0)) (by (with_reducible repeat (first | refine blk_drewN ?_ _ | refine blk_drew ?_ | refine blk_alloc ?_ _)); exact BK277.out) hb); have n1_ := Aside0.mk (below_step (by repeat (first | (with_reducible first | exact HB.out | apply below_alloc | apply pw_below_drewN | apply below_drew1 | refine below_set ?_ GE277.out) | exact HB.out)) hb); clear BK277; clear HB; have BK277 := n0_; have HB := n1_; clear n0_ n1_; (try clear hb); (try clear hb2); (try clear hk); (try clear hi)) | (go_at_call 85; (with_reducible refine (spec_IsCard.calls a1 true _ A8.out).mono ?_); rintro e w' ⟨rfl, ⟨nd, rfl⟩⟩) | (go_at_call 85; (with_reducible refine (spec_IsCard.calls a2 t280 _ A10.out).mono ?_); rintro e w' ⟨rfl, ⟨nd, rfl⟩⟩))
        go_meet
        case rel => exact ⟨_, (!t280), (by first | rfl | (simp; done) | (simp [*]; done)), H', ⟨by first | omega | exact Nat.le_refl _⟩, ⟨by (with_reducible repeat (first | refine blk_drewN ?_ _ | refine blk_drew ?_ | refine blk_alloc ?_ _)); exact BK277.out⟩, ⟨by repeat (first | (with_reducible first | exact HB.out | apply below_alloc | apply pw_below_drewN | apply below_drew1 | refine below_set ?_ GE277.out) | exact HB.out)⟩⟩
      · replace c9 := Bool.eq_false_iff.mpr c9
        subst c9
        have H1 : (spec_FitsOn.j0 k a1 a2 true a0_0 a0_1 a0_2 a0_3 l0_4 l0_5 a0_6 a0_7) = some r := by rw [if_neg (show ¬ (false = true) by decide)] at H; exact H
        clear H
        have H := H1
        clear H1
        have H' := Aside0.mk H
        clear H
        have hcz13_0 : w5.cell? ⟨gb277, 0, none⟩ = some (.int .i64 a0_0) := (blk_cell BK277.out 0).trans rfl
        have hcz13_1 : w5.cell? ⟨gb277, 1, none⟩ = some (.int .i64 a0_1) := (blk_cell BK277.out 1).trans rfl
        have hcz13_2 : w5.cell? ⟨gb277, 2, none⟩ = some (.bool a0_2) := (blk_cell BK277.out 2).trans rfl
        have hcz13_3 : w5.cell? ⟨gb277, 3, none⟩ = some (.bool a0_3) := (blk_cell BK277.out 3).trans rfl
        have hcz13_4 : w5.cell? ⟨gb277, 4, none⟩ = some (.slice A0_4 l0_4.length c0_4) := (blk_cell BK277.out 4).trans rfl
        have hcz13_5 : w5.cell? ⟨gb277, 5, none⟩ = some (.slice A0_5 l0_5.length c0_5) := (blk_cell BK277.out 5).trans rfl
        have hcz13_6 : w5.cell? ⟨gb277, 6, none⟩ = some (.int .i64 a0_6) := (blk_cell BK277.out 6).trans rfl
        have hcz13_7 : w5.cell? ⟨gb277, 7, none⟩ = some (.int .i64 a0_7) := (blk_cell BK277.out 7).trans rfl
        have hfz13_0 := blk_frozen BK277.out 0
        have hfz13_1 := blk_frozen BK277.out 1
        have hfz13_2 := blk_frozen BK277.out 2
        have hfz13_3 := blk_frozen BK277.out 3
        have hfz13_4 := blk_frozen BK277.out 4
        have hfz13_5 := blk_frozen BK277.out 5
        have hfz13_6 := blk_frozen BK277.out 6
        have hfz13_7 := blk_frozen BK277.out 7
        go_wp2_with (first | ((with_reducible refine gate_callee (f := 134) rfl ?_); refine goesL_ (some 8) rfl rfl Try.func134 (by kernel_rfl) rfl #[.agg #[.int .i64 a0_0, .int .i64 a0_1, .bool a0_2, .bool a0_3, .slice A0_4 l0_4.length c0_4, .slice A0_5 l0_5.length c0_5, .int .i64 a0_6, .int .i64 a0_7]] rfl (by (try simp only [List.map_toArray, List.map_cons, List.map_nil]); first | done | rfl | (simp only [List.length_drop, List.length_take]; rfl)) ?_; (with_reducible refine (spec_IsRules.calls k a0_0 a0_1 a0_2 a0_3 _ _ l0_4 _ _ l0_5 a0_6 a0_7 true _ ?side1 ?side2 ?side3 ?side4 A6.out).mono ?_); (case side1 => repeat (first | exact (Kd.C_below HR0_4.out HB.out) | (with_reducible refine Kd.C_alloc ?_ _) | (with_reducible refine Kd.C_drewN ?_ _) | (with_reducible refine Kd.C_drew ?_))); (case side2 => exact HC0_4.out); (case side3 => repeat (first | exact (Kd.C_below HR0_5.out HB.out) | (with_reducible refine Kd.C_alloc ?_ _) | (with_reducible refine Kd.C_drewN ?_ _) | (with_reducible refine Kd.C_drew ?_))); (case side4 => exact HC0_5.out); rintro e w14 ⟨rfl, hb⟩; refine ⟨_, rfl, ?_⟩; have n0_ := Aside0.mk (blk_below (g := gb277) (o := .cells #[.int .i64 a0_0, .int .i64 a0_1, .bool a0_2, .bool a0_3, .slice A0_4 l0_4.length c0_4, .slice A0_5 l0_5.length c0_5, .int .i64 a0_6, .int .i64 a0_7] 74 (0, 0)) (by (with_reducible repeat (first | refine blk_drewN ?_ _ | refine blk_drew ?_ | refine blk_alloc ?_ _)); exact BK277.out) hb); have n1_ := Aside0.mk (below_step (by repeat (first | (with_reducible first | exact HB.out | apply below_alloc | apply pw_below_drewN | apply below_drew1 | refine below_set ?_ GE277.out) | exact HB.out)) hb); clear BK277; clear HB; have BK277 := n0_; have HB := n1_; clear n0_ n1_; (try clear hb); (try clear hb2); (try clear hk); (try clear hi)) | (go_at_call 85; (with_reducible refine (spec_IsCard.calls a1 false _ A8.out).mono ?_); rintro e w' ⟨rfl, ⟨nd, rfl⟩⟩))
        go_meet
        case rel => exact ⟨_, (true), (by first | rfl | (simp; done) | (simp [*]; done)), H', ⟨by first | omega | exact Nat.le_refl _⟩, ⟨by (with_reducible repeat (first | refine blk_drewN ?_ _ | refine blk_drew ?_ | refine blk_alloc ?_ _)); exact BK277.out⟩, ⟨by repeat (first | (with_reducible first | exact HB.out | apply below_alloc | apply pw_below_drewN | apply below_drew1 | refine below_set ?_ GE277.out) | exact HB.out)⟩⟩
    · replace c7 := Bool.eq_false_iff.mpr c7
      subst c7
      have H1 : (spec_FitsOn.j0 k a1 a2 true a0_0 a0_1 a0_2 a0_3 l0_4 l0_5 a0_6 a0_7) = some r := by rw [if_neg (show ¬ (false = true) by decide)] at H; exact H
      clear H
      have H := H1
      clear H1
      have H' := Aside0.mk H
      clear H
      have hcz15_0 : w5.cell? ⟨gb277, 0, none⟩ = some (.int .i64 a0_0) := (blk_cell BK277.out 0).trans rfl
      have hcz15_1 : w5.cell? ⟨gb277, 1, none⟩ = some (.int .i64 a0_1) := (blk_cell BK277.out 1).trans rfl
      have hcz15_2 : w5.cell? ⟨gb277, 2, none⟩ = some (.bool a0_2) := (blk_cell BK277.out 2).trans rfl
      have hcz15_3 : w5.cell? ⟨gb277, 3, none⟩ = some (.bool a0_3) := (blk_cell BK277.out 3).trans rfl
      have hcz15_4 : w5.cell? ⟨gb277, 4, none⟩ = some (.slice A0_4 l0_4.length c0_4) := (blk_cell BK277.out 4).trans rfl
      have hcz15_5 : w5.cell? ⟨gb277, 5, none⟩ = some (.slice A0_5 l0_5.length c0_5) := (blk_cell BK277.out 5).trans rfl
      have hcz15_6 : w5.cell? ⟨gb277, 6, none⟩ = some (.int .i64 a0_6) := (blk_cell BK277.out 6).trans rfl
      have hcz15_7 : w5.cell? ⟨gb277, 7, none⟩ = some (.int .i64 a0_7) := (blk_cell BK277.out 7).trans rfl
      have hfz15_0 := blk_frozen BK277.out 0
      have hfz15_1 := blk_frozen BK277.out 1
      have hfz15_2 := blk_frozen BK277.out 2
      have hfz15_3 := blk_frozen BK277.out 3
      have hfz15_4 := blk_frozen BK277.out 4
      have hfz15_5 := blk_frozen BK277.out 5
      have hfz15_6 := blk_frozen BK277.out 6
      have hfz15_7 := blk_frozen BK277.out 7
      go_wp2_with (first | ((with_reducible refine gate_callee (f := 134) rfl ?_); refine goesL_ (some 8) rfl rfl Try.func134 (by kernel_rfl) rfl #[.agg #[.int .i64 a0_0, .int .i64 a0_1, .bool a0_2, .bool a0_3, .slice A0_4 l0_4.length c0_4, .slice A0_5 l0_5.length c0_5, .int .i64 a0_6, .int .i64 a0_7]] rfl (by (try simp only [List.map_toArray, List.map_cons, List.map_nil]); first | done | rfl | (simp only [List.length_drop, List.length_take]; rfl)) ?_; (with_reducible refine (spec_IsRules.calls k a0_0 a0_1 a0_2 a0_3 _ _ l0_4 _ _ l0_5 a0_6 a0_7 false _ ?side1 ?side2 ?side3 ?side4 A6.out).mono ?_); (case side1 => repeat (first | exact (Kd.C_below HR0_4.out HB.out) | (with_reducible refine Kd.C_alloc ?_ _) | (with_reducible refine Kd.C_drewN ?_ _) | (with_reducible refine Kd.C_drew ?_))); (case side2 => exact HC0_4.out); (case side3 => repeat (first | exact (Kd.C_below HR0_5.out HB.out) | (with_reducible refine Kd.C_alloc ?_ _) | (with_reducible refine Kd.C_drewN ?_ _) | (with_reducible refine Kd.C_drew ?_))); (case side4 => exact HC0_5.out); rintro e w16 ⟨rfl, hb⟩; refine ⟨_, rfl, ?_⟩; have n0_ := Aside0.mk (blk_below (g := gb277) (o := .cells #[.int .i64 a0_0, .int .i64 a0_1, .bool a0_2, .bool a0_3, .slice A0_4 l0_4.length c0_4, .slice A0_5 l0_5.length c0_5, .int .i64 a0_6, .int .i64 a0_7] 74 (0, 0)) (by (with_reducible repeat (first | refine blk_drewN ?_ _ | refine blk_drew ?_ | refine blk_alloc ?_ _)); exact BK277.out) hb); have n1_ := Aside0.mk (below_step (by repeat (first | (with_reducible first | exact HB.out | apply below_alloc | apply pw_below_drewN | apply below_drew1 | refine below_set ?_ GE277.out) | exact HB.out)) hb); clear BK277; clear HB; have BK277 := n0_; have HB := n1_; clear n0_ n1_; (try clear hb); (try clear hb2); (try clear hk); (try clear hi)))
      go_meet
      case rel => exact ⟨_, (true), (by first | rfl | (simp; done) | (simp [*]; done)), H', ⟨by first | omega | exact Nat.le_refl _⟩, ⟨by (with_reducible repeat (first | refine blk_drewN ?_ _ | refine blk_drew ?_ | refine blk_alloc ?_ _)); exact BK277.out⟩, ⟨by repeat (first | (with_reducible first | exact HB.out | apply below_alloc | apply pw_below_drewN | apply below_drew1 | refine below_set ?_ GE277.out) | exact HB.out)⟩⟩
  case rest =>
    clear HC4
    try clear c1
    try clear p2
    try clear c7
    try clear c9
    try clear c13
    try clear hcz11_0
    try clear hcz11_1
    try clear hcz11_2
    try clear hcz11_3
    try clear hcz11_4
    try clear hcz11_5
    try clear hcz11_6
    try clear hcz11_7
    try clear hcz13_0
    try clear hcz13_1
    try clear hcz13_2
    try clear hcz13_3
    try clear hcz13_4
    try clear hcz13_5
    try clear hcz13_6
    try clear hcz13_7
    try clear hcz15_0
    try clear hcz15_1
    try clear hcz15_2
    try clear hcz15_3
    try clear hcz15_4
    try clear hcz15_5
    try clear hcz15_6
    try clear hcz15_7
    try clear hfz11_0
    try clear hfz11_1
    try clear hfz11_2
    try clear hfz11_3
    try clear hfz11_4
    try clear hfz11_5
    try clear hfz11_6
    try clear hfz11_7
    try clear hfz13_0
    try clear hfz13_1
    try clear hfz13_2
    try clear hfz13_3
    try clear hfz13_4
    try clear hfz13_5
    try clear hfz13_6
    try clear hfz13_7
    try clear hfz15_0
    try clear hfz15_1
    try clear hfz15_2
    try clear hfz15_3
    try clear hfz15_4
    try clear hfz15_5
    try clear hfz15_6
    try clear hfz15_7
    obtain ⟨kq, x19_3, rfl, HA, HJ3, BK277, HB⟩ := hcut
    cases kq with
    | zero => exact absurd HA.out (by simp [spec_FitsOn.j0])
    | succ kj3 =>
      have H := HA.out
      clear HA
      simp only [spec_FitsOn.j0] at H
      by_cases c17 : x19_3 = true
      · subst c17
        have H1 : (some false) = some r := by rw [if_pos rfl] at H; exact H
        clear H
        have H := H1
        clear H1
        obtain rfl := Option.some.inj H
        go_wp2
        go_ret
        exact ⟨by first | rfl | (simp [errW_none, errW_some] <;> rfl) | (simp [*, errW_none, errW_some] <;> rfl), by repeat (first | (with_reducible first | exact HB.out | apply below_alloc | apply pw_below_drewN | apply below_drew1 | refine below_set ?_ GE277.out) | exact HB.out)⟩
      · replace c17 := Bool.eq_false_iff.mpr c17
        subst c17
        have H1 : (if a0_2 = true then ((spec_SuitOf.f a2).bind fun t281 => ((spec_SuitOf.f a1).bind fun t282 => (if t281 = t282 then (some true) else (if a0_3 = true then ((spec_RankOf.f a2).bind fun t283 => ((spec_RankOf.f a1).bind fun t284 => (if t283 = t284 then (some true) else ((spec_Matches.f kj3 l0_4 a2).bind fun t285 => (some t285))))) else ((spec_Matches.f kj3 l0_4 a2).bind fun t286 => (some t286)))))) else (if a0_3 = true then ((spec_RankOf.f a2).bind fun t287 => ((spec_RankOf.f a1).bind fun t288 => (if t287 = t288 then (some true) else ((spec_Matches.f kj3 l0_4 a2).bind fun t289 => (some t289))))) else ((spec_Matches.f kj3 l0_4 a2).bind fun t290 => (some t290)))) = some r := by rw [if_neg (show ¬ (false = true) by decide)] at H; exact H
        clear H
        have H := H1
        clear H1
        by_cases c18 : a0_2 = true
        · subst c18
          have H1 : ((spec_SuitOf.f a2).bind fun t281 => ((spec_SuitOf.f a1).bind fun t282 => (if t281 = t282 then (some true) else (if a0_3 = true then ((spec_RankOf.f a2).bind fun t283 => ((spec_RankOf.f a1).bind fun t284 => (if t283 = t284 then (some true) else ((spec_Matches.f kj3 l0_4 a2).bind fun t285 => (some t285))))) else ((spec_Matches.f kj3 l0_4 a2).bind fun t286 => (some t286)))))) = some r := by rw [if_pos rfl] at H; exact H
          clear H
          have H := H1
          clear H1
          replace H := Option.bind_eq_some_iff.mp H
          obtain ⟨t281, A190, H⟩ := H
          replace H : ((spec_SuitOf.f a1).bind fun t282 => (if t281 = t282 then (some true) else (if a0_3 = true then ((spec_RankOf.f a2).bind fun t283 => ((spec_RankOf.f a1).bind fun t284 => (if t283 = t284 then (some true) else ((spec_Matches.f kj3 l0_4 a2).bind fun t285 => (some t285))))) else ((spec_Matches.f kj3 l0_4 a2).bind fun t286 => (some t286))))) = some r := H
          have A19 := Aside0.mk A190
          clear A190
          replace H := Option.bind_eq_some_iff.mp H
          obtain ⟨t282, A200, H⟩ := H
          replace H : (if t281 = t282 then (some true) else (if a0_3 = true then ((spec_RankOf.f a2).bind fun t283 => ((spec_RankOf.f a1).bind fun t284 => (if t283 = t284 then (some true) else ((spec_Matches.f kj3 l0_4 a2).bind fun t285 => (some t285))))) else ((spec_Matches.f kj3 l0_4 a2).bind fun t286 => (some t286)))) = some r := H
          have A20 := Aside0.mk A200
          clear A200
          by_cases c21 : t281 = t282
          · rw [if_pos c21] at H
            have c21b0 : (t281 == t282) = true := beq_iff_eq.mpr c21
            have c21b1 : (t281 != t282) = false := bne_eq_false_iff_eq.mpr c21
            clear c21
            obtain rfl := Option.some.inj H
            have hcz22_0 : wc.cell? ⟨gb277, 0, none⟩ = some (.int .i64 a0_0) := (blk_cell BK277.out 0).trans rfl
            have hcz22_1 : wc.cell? ⟨gb277, 1, none⟩ = some (.int .i64 a0_1) := (blk_cell BK277.out 1).trans rfl
            have hcz22_2 : wc.cell? ⟨gb277, 2, none⟩ = some (.bool true) := (blk_cell BK277.out 2).trans rfl
            have hcz22_3 : wc.cell? ⟨gb277, 3, none⟩ = some (.bool a0_3) := (blk_cell BK277.out 3).trans rfl
            have hcz22_4 : wc.cell? ⟨gb277, 4, none⟩ = some (.slice A0_4 l0_4.length c0_4) := (blk_cell BK277.out 4).trans rfl
            have hcz22_5 : wc.cell? ⟨gb277, 5, none⟩ = some (.slice A0_5 l0_5.length c0_5) := (blk_cell BK277.out 5).trans rfl
            have hcz22_6 : wc.cell? ⟨gb277, 6, none⟩ = some (.int .i64 a0_6) := (blk_cell BK277.out 6).trans rfl
            have hcz22_7 : wc.cell? ⟨gb277, 7, none⟩ = some (.int .i64 a0_7) := (blk_cell BK277.out 7).trans rfl
            have hfz22_0 := blk_frozen BK277.out 0
            have hfz22_1 := blk_frozen BK277.out 1
            have hfz22_2 := blk_frozen BK277.out 2
            have hfz22_3 := blk_frozen BK277.out 3
            have hfz22_4 := blk_frozen BK277.out 4
            have hfz22_5 := blk_frozen BK277.out 5
            have hfz22_6 := blk_frozen BK277.out 6
            have hfz22_7 := blk_frozen BK277.out 7
            go_wp2_with (first | (go_at_call 136; (with_reducible refine (spec_SuitOf.calls a2 t281 _ A19.out).mono ?_); rintro e w' ⟨rfl, ⟨nd, rfl⟩⟩) | (go_at_call 136; (with_reducible refine (spec_SuitOf.calls a1 t282 _ A20.out).mono ?_); rintro e w' ⟨rfl, ⟨nd, rfl⟩⟩))
            go_ret
            exact ⟨by first | rfl | (simp [errW_none, errW_some] <;> rfl) | (simp [*, errW_none, errW_some] <;> rfl), by repeat (first | (with_reducible first | exact HB.out | apply below_alloc | apply pw_below_drewN | apply below_drew1 | refine below_set ?_ GE277.out) | exact HB.out)⟩
          · rw [if_neg c21] at H
            have c21b0 : (t281 == t282) = false := beq_eq_false_iff_ne.mpr c21
            have c21b1 : (t281 != t282) = true := bne_iff_ne.mpr c21
            by_cases c23 : a0_3 = true
            · subst c23
              have H1 : ((spec_RankOf.f a2).bind fun t283 => ((spec_RankOf.f a1).bind fun t284 => (if t283 = t284 then (some true) else ((spec_Matches.f kj3 l0_4 a2).bind fun t285 => (some t285))))) = some r := by rw [if_pos rfl] at H; exact H
              clear H
              have H := H1
              clear H1
              replace H := Option.bind_eq_some_iff.mp H
              obtain ⟨t283, A240, H⟩ := H
              replace H : ((spec_RankOf.f a1).bind fun t284 => (if t283 = t284 then (some true) else ((spec_Matches.f kj3 l0_4 a2).bind fun t285 => (some t285)))) = some r := H
              have A24 := Aside0.mk A240
              clear A240
              replace H := Option.bind_eq_some_iff.mp H
              obtain ⟨t284, A250, H⟩ := H
              replace H : (if t283 = t284 then (some true) else ((spec_Matches.f kj3 l0_4 a2).bind fun t285 => (some t285))) = some r := H
              have A25 := Aside0.mk A250
              clear A250
              by_cases c26 : t283 = t284
              · rw [if_pos c26] at H
                have c26b0 : (t283 == t284) = true := beq_iff_eq.mpr c26
                have c26b1 : (t283 != t284) = false := bne_eq_false_iff_eq.mpr c26
                clear c26
                obtain rfl := Option.some.inj H
                have hcz27_0 : wc.cell? ⟨gb277, 0, none⟩ = some (.int .i64 a0_0) := (blk_cell BK277.out 0).trans rfl
                have hcz27_1 : wc.cell? ⟨gb277, 1, none⟩ = some (.int .i64 a0_1) := (blk_cell BK277.out 1).trans rfl
                have hcz27_2 : wc.cell? ⟨gb277, 2, none⟩ = some (.bool true) := (blk_cell BK277.out 2).trans rfl
                have hcz27_3 : wc.cell? ⟨gb277, 3, none⟩ = some (.bool true) := (blk_cell BK277.out 3).trans rfl
                have hcz27_4 : wc.cell? ⟨gb277, 4, none⟩ = some (.slice A0_4 l0_4.length c0_4) := (blk_cell BK277.out 4).trans rfl
                have hcz27_5 : wc.cell? ⟨gb277, 5, none⟩ = some (.slice A0_5 l0_5.length c0_5) := (blk_cell BK277.out 5).trans rfl
                have hcz27_6 : wc.cell? ⟨gb277, 6, none⟩ = some (.int .i64 a0_6) := (blk_cell BK277.out 6).trans rfl
                have hcz27_7 : wc.cell? ⟨gb277, 7, none⟩ = some (.int .i64 a0_7) := (blk_cell BK277.out 7).trans rfl
                have hfz27_0 := blk_frozen BK277.out 0
                have hfz27_1 := blk_frozen BK277.out 1
                have hfz27_2 := blk_frozen BK277.out 2
                have hfz27_3 := blk_frozen BK277.out 3
                have hfz27_4 := blk_frozen BK277.out 4
                have hfz27_5 := blk_frozen BK277.out 5
                have hfz27_6 := blk_frozen BK277.out 6
                have hfz27_7 := blk_frozen BK277.out 7
                go_wp2_with (first | (go_at_call 136; (with_reducible refine (spec_SuitOf.calls a2 t281 _ A19.out).mono ?_); rintro e w' ⟨rfl, ⟨nd, rfl⟩⟩) | (go_at_call 136; (with_reducible refine (spec_SuitOf.calls a1 t282 _ A20.out).mono ?_); rintro e w' ⟨rfl, ⟨nd, rfl⟩⟩) | (go_at_call 87; (with_reducible refine (spec_RankOf.calls a2 t283 _ A24.out).mono ?_); rintro e w' ⟨rfl, ⟨nd, rfl⟩⟩) | (go_at_call 87; (with_reducible refine (spec_RankOf.calls a1 t284 _ A25.out).mono ?_); rintro e w' ⟨rfl, ⟨nd, rfl⟩⟩))
                go_ret
                exact ⟨by first | rfl | (simp [errW_none, errW_some] <;> rfl) | (simp [*, errW_none, errW_some] <;> rfl), by repeat (first | (with_reducible first | exact HB.out | apply below_alloc | apply pw_below_drewN | apply below_drew1 | refine below_set ?_ GE277.out) | exact HB.out)⟩
              · rw [if_neg c26] at H
                have c26b0 : (t283 == t284) = false := beq_eq_false_iff_ne.mpr c26
                have c26b1 : (t283 != t284) = true := bne_iff_ne.mpr c26
                replace H := Option.bind_eq_some_iff.mp H
                obtain ⟨t285, A280, H⟩ := H
                replace H : (some t285) = some r := H
                have A28 := Aside0.mk A280
                clear A280
                obtain rfl := Option.some.inj H
                have hcz29_0 : wc.cell? ⟨gb277, 0, none⟩ = some (.int .i64 a0_0) := (blk_cell BK277.out 0).trans rfl
                have hcz29_1 : wc.cell? ⟨gb277, 1, none⟩ = some (.int .i64 a0_1) := (blk_cell BK277.out 1).trans rfl
                have hcz29_2 : wc.cell? ⟨gb277, 2, none⟩ = some (.bool true) := (blk_cell BK277.out 2).trans rfl
                have hcz29_3 : wc.cell? ⟨gb277, 3, none⟩ = some (.bool true) := (blk_cell BK277.out 3).trans rfl
                have hcz29_4 : wc.cell? ⟨gb277, 4, none⟩ = some (.slice A0_4 l0_4.length c0_4) := (blk_cell BK277.out 4).trans rfl
                have hcz29_5 : wc.cell? ⟨gb277, 5, none⟩ = some (.slice A0_5 l0_5.length c0_5) := (blk_cell BK277.out 5).trans rfl
                have hcz29_6 : wc.cell? ⟨gb277, 6, none⟩ = some (.int .i64 a0_6) := (blk_cell BK277.out 6).trans rfl
                have hcz29_7 : wc.cell? ⟨gb277, 7, none⟩ = some (.int .i64 a0_7) := (blk_cell BK277.out 7).trans rfl
                have hfz29_0 := blk_frozen BK277.out 0
                have hfz29_1 := blk_frozen BK277.out 1
                have hfz29_2 := blk_frozen BK277.out 2
                have hfz29_3 := blk_frozen BK277.out 3
                have hfz29_4 := blk_frozen BK277.out 4
                have hfz29_5 := blk_frozen BK277.out 5
                have hfz29_6 := blk_frozen BK277.out 6
                have hfz29_7 := blk_frozen BK277.out 7
                go_wp2_with (first | (go_at_call 136; (with_reducible refine (spec_SuitOf.calls a2 t281 _ A19.out).mono ?_); rintro e w' ⟨rfl, ⟨nd, rfl⟩⟩) | (go_at_call 136; (with_reducible refine (spec_SuitOf.calls a1 t282 _ A20.out).mono ?_); rintro e w' ⟨rfl, ⟨nd, rfl⟩⟩) | (go_at_call 87; (with_reducible refine (spec_RankOf.calls a2 t283 _ A24.out).mono ?_); rintro e w' ⟨rfl, ⟨nd, rfl⟩⟩) | (go_at_call 87; (with_reducible refine (spec_RankOf.calls a1 t284 _ A25.out).mono ?_); rintro e w' ⟨rfl, ⟨nd, rfl⟩⟩) | (go_at_call 135; (with_reducible refine (spec_Matches.calls kj3 _ _ l0_4 a2 t285 _ ?side1 ?side2 A28.out).mono ?_); (case side1 => repeat (first | exact (Kd.C_below HR0_4.out (by repeat (first | (with_reducible first | exact HB.out | apply below_alloc | apply pw_below_drewN | apply below_drew1 | refine below_set ?_ GE277.out) | exact HB.out))) | (with_reducible refine Kd.C_alloc ?_ _) | (with_reducible refine Kd.C_drewN ?_ _) | (with_reducible refine Kd.C_drew ?_))); (case side2 => exact HC0_4.out); rintro e w30 ⟨rfl, hb⟩; have n0_ := Aside0.mk (blk_below (g := gb277) (o := .cells #[.int .i64 a0_0, .int .i64 a0_1, .bool true, .bool true, .slice A0_4 l0_4.length c0_4, .slice A0_5 l0_5.length c0_5, .int .i64 a0_6, .int .i64 a0_7] 74 (0, 0)) (by (with_reducible repeat (first | refine blk_drewN ?_ _ | refine blk_drew ?_ | refine blk_alloc ?_ _)); exact BK277.out) hb); have n1_ := Aside0.mk (below_step (by repeat (first | (with_reducible first | exact HB.out | apply below_alloc | apply pw_below_drewN | apply below_drew1 | refine below_set ?_ GE277.out) | exact HB.out)) hb); clear BK277; clear HB; have BK277 := n0_; have HB := n1_; clear n0_ n1_; (try clear hb); (try clear hb2); (try clear hk); (try clear hi)))
                go_ret
                exact ⟨by first | rfl | (simp [errW_none, errW_some] <;> rfl) | (simp [*, errW_none, errW_some] <;> rfl), by repeat (first | (with_reducible first | exact HB.out | apply below_alloc | apply pw_below_drewN | apply below_drew1 | refine below_set ?_ GE277.out) | exact HB.out)⟩
            · replace c23 := Bool.eq_false_iff.mpr c23
              subst c23
              have H1 : ((spec_Matches.f kj3 l0_4 a2).bind fun t286 => (some t286)) = some r := by rw [if_neg (show ¬ (false = true) by decide)] at H; exact H
              clear H
              have H := H1
              clear H1
              replace H := Option.bind_eq_some_iff.mp H
              obtain ⟨t286, A310, H⟩ := H
              replace H : (some t286) = some r := H
              have A31 := Aside0.mk A310
              clear A310
              try (obtain rfl := Option.some.inj (A31.out.symm.trans A28.out))
              obtain rfl := Option.some.inj H
              have hcz32_0 : wc.cell? ⟨gb277, 0, none⟩ = some (.int .i64 a0_0) := (blk_cell BK277.out 0).trans rfl
              have hcz32_1 : wc.cell? ⟨gb277, 1, none⟩ = some (.int .i64 a0_1) := (blk_cell BK277.out 1).trans rfl
              have hcz32_2 : wc.cell? ⟨gb277, 2, none⟩ = some (.bool true) := (blk_cell BK277.out 2).trans rfl
              have hcz32_3 : wc.cell? ⟨gb277, 3, none⟩ = some (.bool false) := (blk_cell BK277.out 3).trans rfl
              have hcz32_4 : wc.cell? ⟨gb277, 4, none⟩ = some (.slice A0_4 l0_4.length c0_4) := (blk_cell BK277.out 4).trans rfl
              have hcz32_5 : wc.cell? ⟨gb277, 5, none⟩ = some (.slice A0_5 l0_5.length c0_5) := (blk_cell BK277.out 5).trans rfl
              have hcz32_6 : wc.cell? ⟨gb277, 6, none⟩ = some (.int .i64 a0_6) := (blk_cell BK277.out 6).trans rfl
              have hcz32_7 : wc.cell? ⟨gb277, 7, none⟩ = some (.int .i64 a0_7) := (blk_cell BK277.out 7).trans rfl
              have hfz32_0 := blk_frozen BK277.out 0
              have hfz32_1 := blk_frozen BK277.out 1
              have hfz32_2 := blk_frozen BK277.out 2
              have hfz32_3 := blk_frozen BK277.out 3
              have hfz32_4 := blk_frozen BK277.out 4
              have hfz32_5 := blk_frozen BK277.out 5
              have hfz32_6 := blk_frozen BK277.out 6
              have hfz32_7 := blk_frozen BK277.out 7
              go_wp2_with (first | (go_at_call 136; (with_reducible refine (spec_SuitOf.calls a2 t281 _ A19.out).mono ?_); rintro e w' ⟨rfl, ⟨nd, rfl⟩⟩) | (go_at_call 136; (with_reducible refine (spec_SuitOf.calls a1 t282 _ A20.out).mono ?_); rintro e w' ⟨rfl, ⟨nd, rfl⟩⟩) | (go_at_call 135; (with_reducible refine (spec_Matches.calls kj3 _ _ l0_4 a2 t286 _ ?side1 ?side2 A31.out).mono ?_); (case side1 => repeat (first | exact (Kd.C_below HR0_4.out (by repeat (first | (with_reducible first | exact HB.out | apply below_alloc | apply pw_below_drewN | apply below_drew1 | refine below_set ?_ GE277.out) | exact HB.out))) | (with_reducible refine Kd.C_alloc ?_ _) | (with_reducible refine Kd.C_drewN ?_ _) | (with_reducible refine Kd.C_drew ?_))); (case side2 => exact HC0_4.out); rintro e w33 ⟨rfl, hb⟩; have n0_ := Aside0.mk (blk_below (g := gb277) (o := .cells #[.int .i64 a0_0, .int .i64 a0_1, .bool true, .bool false, .slice A0_4 l0_4.length c0_4, .slice A0_5 l0_5.length c0_5, .int .i64 a0_6, .int .i64 a0_7] 74 (0, 0)) (by (with_reducible repeat (first | refine blk_drewN ?_ _ | refine blk_drew ?_ | refine blk_alloc ?_ _)); exact BK277.out) hb); have n1_ := Aside0.mk (below_step (by repeat (first | (with_reducible first | exact HB.out | apply below_alloc | apply pw_below_drewN | apply below_drew1 | refine below_set ?_ GE277.out) | exact HB.out)) hb); clear BK277; clear HB; have BK277 := n0_; have HB := n1_; clear n0_ n1_; (try clear hb); (try clear hb2); (try clear hk); (try clear hi)))
              go_ret
              exact ⟨by first | rfl | (simp [errW_none, errW_some] <;> rfl) | (simp [*, errW_none, errW_some] <;> rfl), by repeat (first | (with_reducible first | exact HB.out | apply below_alloc | apply pw_below_drewN | apply below_drew1 | refine below_set ?_ GE277.out) | exact HB.out)⟩
        · replace c18 := Bool.eq_false_iff.mpr c18
          subst c18
          have H1 : (if a0_3 = true then ((spec_RankOf.f a2).bind fun t287 => ((spec_RankOf.f a1).bind fun t288 => (if t287 = t288 then (some true) else ((spec_Matches.f kj3 l0_4 a2).bind fun t289 => (some t289))))) else ((spec_Matches.f kj3 l0_4 a2).bind fun t290 => (some t290))) = some r := by rw [if_neg (show ¬ (false = true) by decide)] at H; exact H
          clear H
          have H := H1
          clear H1
          by_cases c34 : a0_3 = true
          · subst c34
            have H1 : ((spec_RankOf.f a2).bind fun t287 => ((spec_RankOf.f a1).bind fun t288 => (if t287 = t288 then (some true) else ((spec_Matches.f kj3 l0_4 a2).bind fun t289 => (some t289))))) = some r := by rw [if_pos rfl] at H; exact H
            clear H
            have H := H1
            clear H1
            replace H := Option.bind_eq_some_iff.mp H
            obtain ⟨t287, A350, H⟩ := H
            replace H : ((spec_RankOf.f a1).bind fun t288 => (if t287 = t288 then (some true) else ((spec_Matches.f kj3 l0_4 a2).bind fun t289 => (some t289)))) = some r := H
            have A35 := Aside0.mk A350
            clear A350
            try (obtain rfl := Option.some.inj (A35.out.symm.trans A24.out))
            replace H := Option.bind_eq_some_iff.mp H
            obtain ⟨t288, A360, H⟩ := H
            replace H : (if t287 = t288 then (some true) else ((spec_Matches.f kj3 l0_4 a2).bind fun t289 => (some t289))) = some r := H
            have A36 := Aside0.mk A360
            clear A360
            try (obtain rfl := Option.some.inj (A36.out.symm.trans A25.out))
            by_cases c37 : t287 = t288
            · rw [if_pos c37] at H
              have c37b0 : (t287 == t288) = true := beq_iff_eq.mpr c37
              have c37b1 : (t287 != t288) = false := bne_eq_false_iff_eq.mpr c37
              clear c37
              obtain rfl := Option.some.inj H
              have hcz38_0 : wc.cell? ⟨gb277, 0, none⟩ = some (.int .i64 a0_0) := (blk_cell BK277.out 0).trans rfl
              have hcz38_1 : wc.cell? ⟨gb277, 1, none⟩ = some (.int .i64 a0_1) := (blk_cell BK277.out 1).trans rfl
              have hcz38_2 : wc.cell? ⟨gb277, 2, none⟩ = some (.bool false) := (blk_cell BK277.out 2).trans rfl
              have hcz38_3 : wc.cell? ⟨gb277, 3, none⟩ = some (.bool true) := (blk_cell BK277.out 3).trans rfl
              have hcz38_4 : wc.cell? ⟨gb277, 4, none⟩ = some (.slice A0_4 l0_4.length c0_4) := (blk_cell BK277.out 4).trans rfl
              have hcz38_5 : wc.cell? ⟨gb277, 5, none⟩ = some (.slice A0_5 l0_5.length c0_5) := (blk_cell BK277.out 5).trans rfl
              have hcz38_6 : wc.cell? ⟨gb277, 6, none⟩ = some (.int .i64 a0_6) := (blk_cell BK277.out 6).trans rfl
              have hcz38_7 : wc.cell? ⟨gb277, 7, none⟩ = some (.int .i64 a0_7) := (blk_cell BK277.out 7).trans rfl
              have hfz38_0 := blk_frozen BK277.out 0
              have hfz38_1 := blk_frozen BK277.out 1
              have hfz38_2 := blk_frozen BK277.out 2
              have hfz38_3 := blk_frozen BK277.out 3
              have hfz38_4 := blk_frozen BK277.out 4
              have hfz38_5 := blk_frozen BK277.out 5
              have hfz38_6 := blk_frozen BK277.out 6
              have hfz38_7 := blk_frozen BK277.out 7
              go_wp2_with (first | (go_at_call 87; (with_reducible refine (spec_RankOf.calls a2 t287 _ A35.out).mono ?_); rintro e w' ⟨rfl, ⟨nd, rfl⟩⟩) | (go_at_call 87; (with_reducible refine (spec_RankOf.calls a1 t288 _ A36.out).mono ?_); rintro e w' ⟨rfl, ⟨nd, rfl⟩⟩))
              go_ret
              exact ⟨by first | rfl | (simp [errW_none, errW_some] <;> rfl) | (simp [*, errW_none, errW_some] <;> rfl), by repeat (first | (with_reducible first | exact HB.out | apply below_alloc | apply pw_below_drewN | apply below_drew1 | refine below_set ?_ GE277.out) | exact HB.out)⟩
            · rw [if_neg c37] at H
              have c37b0 : (t287 == t288) = false := beq_eq_false_iff_ne.mpr c37
              have c37b1 : (t287 != t288) = true := bne_iff_ne.mpr c37
              replace H := Option.bind_eq_some_iff.mp H
              obtain ⟨t289, A390, H⟩ := H
              replace H : (some t289) = some r := H
              have A39 := Aside0.mk A390
              clear A390
              try (obtain rfl := Option.some.inj (A39.out.symm.trans A31.out))
              obtain rfl := Option.some.inj H
              have hcz40_0 : wc.cell? ⟨gb277, 0, none⟩ = some (.int .i64 a0_0) := (blk_cell BK277.out 0).trans rfl
              have hcz40_1 : wc.cell? ⟨gb277, 1, none⟩ = some (.int .i64 a0_1) := (blk_cell BK277.out 1).trans rfl
              have hcz40_2 : wc.cell? ⟨gb277, 2, none⟩ = some (.bool false) := (blk_cell BK277.out 2).trans rfl
              have hcz40_3 : wc.cell? ⟨gb277, 3, none⟩ = some (.bool true) := (blk_cell BK277.out 3).trans rfl
              have hcz40_4 : wc.cell? ⟨gb277, 4, none⟩ = some (.slice A0_4 l0_4.length c0_4) := (blk_cell BK277.out 4).trans rfl
              have hcz40_5 : wc.cell? ⟨gb277, 5, none⟩ = some (.slice A0_5 l0_5.length c0_5) := (blk_cell BK277.out 5).trans rfl
              have hcz40_6 : wc.cell? ⟨gb277, 6, none⟩ = some (.int .i64 a0_6) := (blk_cell BK277.out 6).trans rfl
              have hcz40_7 : wc.cell? ⟨gb277, 7, none⟩ = some (.int .i64 a0_7) := (blk_cell BK277.out 7).trans rfl
              have hfz40_0 := blk_frozen BK277.out 0
              have hfz40_1 := blk_frozen BK277.out 1
              have hfz40_2 := blk_frozen BK277.out 2
              have hfz40_3 := blk_frozen BK277.out 3
              have hfz40_4 := blk_frozen BK277.out 4
              have hfz40_5 := blk_frozen BK277.out 5
              have hfz40_6 := blk_frozen BK277.out 6
              have hfz40_7 := blk_frozen BK277.out 7
              go_wp2_with (first | (go_at_call 87; (with_reducible refine (spec_RankOf.calls a2 t287 _ A35.out).mono ?_); rintro e w' ⟨rfl, ⟨nd, rfl⟩⟩) | (go_at_call 87; (with_reducible refine (spec_RankOf.calls a1 t288 _ A36.out).mono ?_); rintro e w' ⟨rfl, ⟨nd, rfl⟩⟩) | (go_at_call 135; (with_reducible refine (spec_Matches.calls kj3 _ _ l0_4 a2 t289 _ ?side1 ?side2 A39.out).mono ?_); (case side1 => repeat (first | exact (Kd.C_below HR0_4.out (by repeat (first | (with_reducible first | exact HB.out | apply below_alloc | apply pw_below_drewN | apply below_drew1 | refine below_set ?_ GE277.out) | exact HB.out))) | (with_reducible refine Kd.C_alloc ?_ _) | (with_reducible refine Kd.C_drewN ?_ _) | (with_reducible refine Kd.C_drew ?_))); (case side2 => exact HC0_4.out); rintro e w41 ⟨rfl, hb⟩; have n0_ := Aside0.mk (blk_below (g := gb277) (o := .cells #[.int .i64 a0_0, .int .i64 a0_1, .bool false, .bool true, .slice A0_4 l0_4.length c0_4, .slice A0_5 l0_5.length c0_5, .int .i64 a0_6, .int .i64 a0_7] 74 (0, 0)) (by (with_reducible repeat (first | refine blk_drewN ?_ _ | refine blk_drew ?_ | refine blk_alloc ?_ _)); exact BK277.out) hb); have n1_ := Aside0.mk (below_step (by repeat (first | (with_reducible first | exact HB.out | apply below_alloc | apply pw_below_drewN | apply below_drew1 | refine below_set ?_ GE277.out) | exact HB.out)) hb); clear BK277; clear HB; have BK277 := n0_; have HB := n1_; clear n0_ n1_; (try clear hb); (try clear hb2); (try clear hk); (try clear hi)))
              go_ret
              exact ⟨by first | rfl | (simp [errW_none, errW_some] <;> rfl) | (simp [*, errW_none, errW_some] <;> rfl), by repeat (first | (with_reducible first | exact HB.out | apply below_alloc | apply pw_below_drewN | apply below_drew1 | refine below_set ?_ GE277.out) | exact HB.out)⟩
          · replace c34 := Bool.eq_false_iff.mpr c34
            subst c34
            have H1 : ((spec_Matches.f kj3 l0_4 a2).bind fun t290 => (some t290)) = some r := by rw [if_neg (show ¬ (false = true) by decide)] at H; exact H
            clear H
            have H := H1
            clear H1
            replace H := Option.bind_eq_some_iff.mp H
            obtain ⟨t290, A420, H⟩ := H
            replace H : (some t290) = some r := H
            have A42 := Aside0.mk A420
            clear A420
            try (obtain rfl := Option.some.inj (A42.out.symm.trans A39.out))
            obtain rfl := Option.some.inj H
            have hcz43_0 : wc.cell? ⟨gb277, 0, none⟩ = some (.int .i64 a0_0) := (blk_cell BK277.out 0).trans rfl
            have hcz43_1 : wc.cell? ⟨gb277, 1, none⟩ = some (.int .i64 a0_1) := (blk_cell BK277.out 1).trans rfl
            have hcz43_2 : wc.cell? ⟨gb277, 2, none⟩ = some (.bool false) := (blk_cell BK277.out 2).trans rfl
            have hcz43_3 : wc.cell? ⟨gb277, 3, none⟩ = some (.bool false) := (blk_cell BK277.out 3).trans rfl
            have hcz43_4 : wc.cell? ⟨gb277, 4, none⟩ = some (.slice A0_4 l0_4.length c0_4) := (blk_cell BK277.out 4).trans rfl
            have hcz43_5 : wc.cell? ⟨gb277, 5, none⟩ = some (.slice A0_5 l0_5.length c0_5) := (blk_cell BK277.out 5).trans rfl
            have hcz43_6 : wc.cell? ⟨gb277, 6, none⟩ = some (.int .i64 a0_6) := (blk_cell BK277.out 6).trans rfl
            have hcz43_7 : wc.cell? ⟨gb277, 7, none⟩ = some (.int .i64 a0_7) := (blk_cell BK277.out 7).trans rfl
            have hfz43_0 := blk_frozen BK277.out 0
            have hfz43_1 := blk_frozen BK277.out 1
            have hfz43_2 := blk_frozen BK277.out 2
            have hfz43_3 := blk_frozen BK277.out 3
            have hfz43_4 := blk_frozen BK277.out 4
            have hfz43_5 := blk_frozen BK277.out 5
            have hfz43_6 := blk_frozen BK277.out 6
            have hfz43_7 := blk_frozen BK277.out 7
            go_wp2_with (first | (go_at_call 135; (with_reducible refine (spec_Matches.calls kj3 _ _ l0_4 a2 t290 _ ?side1 ?side2 A42.out).mono ?_); (case side1 => repeat (first | exact (Kd.C_below HR0_4.out HB.out) | (with_reducible refine Kd.C_alloc ?_ _) | (with_reducible refine Kd.C_drewN ?_ _) | (with_reducible refine Kd.C_drew ?_))); (case side2 => exact HC0_4.out); rintro e w44 ⟨rfl, hb⟩; have n0_ := Aside0.mk (blk_below (g := gb277) (o := .cells #[.int .i64 a0_0, .int .i64 a0_1, .bool false, .bool false, .slice A0_4 l0_4.length c0_4, .slice A0_5 l0_5.length c0_5, .int .i64 a0_6, .int .i64 a0_7] 74 (0, 0)) (by (with_reducible repeat (first | refine blk_drewN ?_ _ | refine blk_drew ?_ | refine blk_alloc ?_ _)); exact BK277.out) hb); have n1_ := Aside0.mk (below_step (by repeat (first | (with_reducible first | exact HB.out | apply below_alloc | apply pw_below_drewN | apply below_drew1 | refine below_set ?_ GE277.out) | exact HB.out)) hb); clear BK277; clear HB; have BK277 := n0_; have HB := n1_; clear n0_ n1_; (try clear hb); (try clear hb2); (try clear hk); (try clear hi)))
            go_ret
            exact ⟨by first | rfl | (simp [errW_none, errW_some] <;> rfl) | (simp [*, errW_none, errW_some] <;> rfl), by repeat (first | (with_reducible first | exact HB.out | apply below_alloc | apply pw_below_drewN | apply below_drew1 | refine below_set ?_ GE277.out) | exact HB.out)⟩

/-! ### laws_FnExactFitsOn: function 14 -/
def laws_FnExactFitsOn.f (k : Nat) (a0_0 : Int) (a0_1 : Int) (a0_2 : Bool) (a0_3 : Bool) (l0_4 : List Int) (l0_5 : List Int) (a0_6 : Int) (a0_7 : Int) (a1 : Int) (a2 : Int) : Option (Bool) := (laws_szRules.f a0_0 a0_1 a0_2 a0_3 l0_4 l0_5 a0_6 a0_7 1048576).bind fun t292 => (if t292 < 0 then (some true) else ((laws_toRules.f k a0_0 a0_1 a0_2 a0_3 l0_4 l0_5 a0_6 a0_7).bind fun bt293 => ((spec_FitsOn.f k bt293.1 bt293.2.1 bt293.2.2.1 bt293.2.2.2.1 bt293.2.2.2.2.1 bt293.2.2.2.2.2.1 bt293.2.2.2.2.2.2.1 bt293.2.2.2.2.2.2.2 a1 a2).bind fun t305 => ((laws_toRules.f k a0_0 a0_1 a0_2 a0_3 l0_4 l0_5 a0_6 a0_7).bind fun bt306 => ((impl_FitsOn.f k bt306.1 bt306.2.1 bt306.2.2.1 bt306.2.2.2.1 bt306.2.2.2.2.1 bt306.2.2.2.2.2.1 bt306.2.2.2.2.2.2.1 bt306.2.2.2.2.2.2.2 a1 a2).bind fun t319 => (if (t319 != t305) = true then (some false) else ((laws_toRules.f k a0_0 a0_1 a0_2 a0_3 l0_4 l0_5 a0_6 a0_7).bind fun bt320 => ((laws_eqRules.f k bt306.1 bt306.2.1 bt306.2.2.1 bt306.2.2.2.1 bt306.2.2.2.2.1 bt306.2.2.2.2.2.1 bt306.2.2.2.2.2.2.1 bt306.2.2.2.2.2.2.2 bt320.1 bt320.2.1 bt320.2.2.1 bt320.2.2.2.1 bt320.2.2.2.2.1 bt320.2.2.2.2.2.1 bt320.2.2.2.2.2.2.1 bt320.2.2.2.2.2.2.2).bind fun t332 => (if t332 = true then (some true) else (some false))))))))))
theorem laws_FnExactFitsOn.mono : ∀ a0 a1 a2 a3 a4 a5 a6 a7 a8 a9 k, LeO (laws_FnExactFitsOn.f k a0 a1 a2 a3 a4 a5 a6 a7 a8 a9) (laws_FnExactFitsOn.f (k + 1) a0 a1 a2 a3 a4 a5 a6 a7 a8 a9) := by
  intro a0 a1 a2 a3 a4 a5 a6 a7 a8 a9 k
  unfold laws_FnExactFitsOn.f
  repeat' first
      | (with_reducible exact impl_FitsOn.mono _ _ _ _ _ _ _ _ _ _ _)
      | (with_reducible exact laws_eqRules.mono _ _ _ _ _ _ _ _ _ _ _ _ _ _ _ _ _)
      | (with_reducible exact laws_toRules.mono _ _ _ _ _ _ _ _ _)
      | (with_reducible exact spec_FitsOn.mono _ _ _ _ _ _ _ _ _ _ _)
      | (with_reducible exact LeO.refl _)
      | (with_reducible exact LeO.none _)
      | (with_reducible refine LeO.ite ?_ ?_)
      | (with_reducible refine LeO.bind ?_ (fun _ => ?_))
      | exact impl_FitsOn.mono _ _ _ _ _ _ _ _ _ _ _
      | exact laws_eqRules.mono _ _ _ _ _ _ _ _ _ _ _ _ _ _ _ _ _
      | exact laws_toRules.mono _ _ _ _ _ _ _ _ _
      | exact spec_FitsOn.mono _ _ _ _ _ _ _ _ _ _ _
      | exact LeO.none _
      | refine LeO.ite ?_ ?_
      | refine LeO.bind ?_ (fun _ => ?_)
set_option maxHeartbeats 8000000 in
set_option maxRecDepth 100000 in
theorem laws_FnExactFitsOn.calls (k : Nat) (a0_0 : Int) (a0_1 : Int) (a0_2 : Bool) (a0_3 : Bool) (A0_4 : Option Addr) (c0_4 : Nat) (l0_4 : List Int) (A0_5 : Option Addr) (c0_5 : Nat) (l0_5 : List Int) (a0_6 : Int) (a0_7 : Int) (a1 : Int) (a2 : Int) (r : Bool) (w : World) (hr0_4 : Kd.C (Kd.int .i64) w A0_4 l0_4.length l0_4) (hc0_4 : l0_4.length ≤ c0_4) (hr0_5 : Kd.C (Kd.int .i64) w A0_5 l0_5.length l0_5) (hc0_5 : l0_5.length ≤ c0_5) (h : laws_FnExactFitsOn.f k a0_0 a0_1 a0_2 a0_3 l0_4 l0_5 a0_6 a0_7 a1 a2 = some r) (hT : r = true) :
    Calls Try.prog 14 #[.agg #[.int .i64 a0_0, .int .i64 a0_1, .bool a0_2, .bool a0_3, .slice A0_4 l0_4.length c0_4, .slice A0_5 l0_5.length c0_5, .int .i64 a0_6, .int .i64 a0_7], .int .i64 a1, .int .i64 a2] w fun e w' => e = .returned (.bool r) ∧ Below w.heap.size w w' := by
  have HT := Aside0.mk hT
  clear hT
  have hu68 := Try.underlying68
  have hu74 := Try.underlying74
  have HR0_4 := Aside0.mk hr0_4
  have HC0_4 := Aside0.mk hc0_4
  clear hr0_4 hc0_4
  have HR0_5 := Aside0.mk hr0_5
  have HC0_5 := Aside0.mk hc0_5
  clear hr0_5 hc0_5
  have HB := Aside0.mk (Below.refl w.heap.size w)
  have H : ((laws_szRules.f a0_0 a0_1 a0_2 a0_3 l0_4 l0_5 a0_6 a0_7 1048576).bind fun t292 => (if t292 < 0 then (some true) else ((laws_toRules.f k a0_0 a0_1 a0_2 a0_3 l0_4 l0_5 a0_6 a0_7).bind fun bt293 => ((spec_FitsOn.f k bt293.1 bt293.2.1 bt293.2.2.1 bt293.2.2.2.1 bt293.2.2.2.2.1 bt293.2.2.2.2.2.1 bt293.2.2.2.2.2.2.1 bt293.2.2.2.2.2.2.2 a1 a2).bind fun t305 => ((laws_toRules.f k a0_0 a0_1 a0_2 a0_3 l0_4 l0_5 a0_6 a0_7).bind fun bt306 => ((impl_FitsOn.f k bt306.1 bt306.2.1 bt306.2.2.1 bt306.2.2.2.1 bt306.2.2.2.2.1 bt306.2.2.2.2.2.1 bt306.2.2.2.2.2.2.1 bt306.2.2.2.2.2.2.2 a1 a2).bind fun t319 => (if (t319 != t305) = true then (some false) else ((laws_toRules.f k a0_0 a0_1 a0_2 a0_3 l0_4 l0_5 a0_6 a0_7).bind fun bt320 => ((laws_eqRules.f k bt306.1 bt306.2.1 bt306.2.2.1 bt306.2.2.2.1 bt306.2.2.2.2.1 bt306.2.2.2.2.2.1 bt306.2.2.2.2.2.2.1 bt306.2.2.2.2.2.2.2 bt320.1 bt320.2.1 bt320.2.2.1 bt320.2.2.2.1 bt320.2.2.2.2.1 bt320.2.2.2.2.2.1 bt320.2.2.2.2.2.2.1 bt320.2.2.2.2.2.2.2).bind fun t332 => (if t332 = true then (some true) else (some false))))))))))) = some r := h
  clear h
  replace H := Option.bind_eq_some_iff.mp H
  obtain ⟨t292, A40, H⟩ := H
  replace H : (if t292 < 0 then (some true) else ((laws_toRules.f k a0_0 a0_1 a0_2 a0_3 l0_4 l0_5 a0_6 a0_7).bind fun bt293 => ((spec_FitsOn.f k bt293.1 bt293.2.1 bt293.2.2.1 bt293.2.2.2.1 bt293.2.2.2.2.1 bt293.2.2.2.2.2.1 bt293.2.2.2.2.2.2.1 bt293.2.2.2.2.2.2.2 a1 a2).bind fun t305 => ((laws_toRules.f k a0_0 a0_1 a0_2 a0_3 l0_4 l0_5 a0_6 a0_7).bind fun bt306 => ((impl_FitsOn.f k bt306.1 bt306.2.1 bt306.2.2.1 bt306.2.2.2.1 bt306.2.2.2.2.1 bt306.2.2.2.2.2.1 bt306.2.2.2.2.2.2.1 bt306.2.2.2.2.2.2.2 a1 a2).bind fun t319 => (if (t319 != t305) = true then (some false) else ((laws_toRules.f k a0_0 a0_1 a0_2 a0_3 l0_4 l0_5 a0_6 a0_7).bind fun bt320 => ((laws_eqRules.f k bt306.1 bt306.2.1 bt306.2.2.1 bt306.2.2.2.1 bt306.2.2.2.2.1 bt306.2.2.2.2.2.1 bt306.2.2.2.2.2.2.1 bt306.2.2.2.2.2.2.2 bt320.1 bt320.2.1 bt320.2.2.1 bt320.2.2.2.1 bt320.2.2.2.2.1 bt320.2.2.2.2.2.1 bt320.2.2.2.2.2.2.1 bt320.2.2.2.2.2.2.2).bind fun t332 => (if t332 = true then (some true) else (some false)))))))))) = some r := H
  have A4 := Aside0.mk A40
  clear A40
  by_cases c5 : t292 < 0
  · rw [if_pos c5] at H
    have c5b0 : decide (t292 < 0) = true := decide_eq_true c5
    clear c5
    obtain rfl := Option.some.inj H
    go_enter Try.func14, Try.ntmps14
    go_wp2_with (first | ((with_reducible refine gate_dst (N := 3) rfl ?_); refine box_event ?hg (N := 3) ?hd (cs := #[.int .i64 a0_0, .int .i64 a0_1, .bool a0_2, .bool a0_3, .slice A0_4 l0_4.length c0_4, .slice A0_5 l0_5.length c0_5, .int .i64 a0_6, .int .i64 a0_7]) (t := 68) ?hr ?_; (case hd => rfl); (case hg => rfl); (case hr => first | (go_simp; done) | (go_simp; rfl)); intro gb291 hg w6 hbox hb; have n0_ := Aside0.mk (below_step (by repeat (first | (with_reducible first | exact HB.out | apply below_alloc | apply pw_below_drewN | apply below_drew1) | exact HB.out)) hb); have n1_ := Aside0.mk (hbox); have n2_ := Aside0.mk ((by rw [hg]; exact (below_size (by repeat (first | (with_reducible first | exact HB.out | apply below_alloc | apply pw_below_drewN | apply below_drew1) | exact HB.out))) : w.heap.size ≤ gb291)); have n3_ := Aside0.mk ((by rw [hg]; exact (below_size (by repeat (first | (with_reducible first | exact HB.out | apply below_alloc | apply pw_below_drewN | apply below_drew1) | exact HB.out))) : w.heap.size ≤ gb291)); clear HB; have HB := n0_; have BK291 := n1_; have GW291 := n2_; have GE291 := n3_; clear n0_ n1_ n2_ n3_; clear hb hbox hg; have hcz7_0 : w6.cell? ⟨gb291, 0, none⟩ = some (.int .i64 a0_0) := (blk_cell BK291.out 0).trans rfl; have hcz7_1 : w6.cell? ⟨gb291, 1, none⟩ = some (.int .i64 a0_1) := (blk_cell BK291.out 1).trans rfl; have hcz7_2 : w6.cell? ⟨gb291, 2, none⟩ = some (.bool a0_2) := (blk_cell BK291.out 2).trans rfl; have hcz7_3 : w6.cell? ⟨gb291, 3, none⟩ = some (.bool a0_3) := (blk_cell BK291.out 3).trans rfl; have hcz7_4 : w6.cell? ⟨gb291, 4, none⟩ = some (.slice A0_4 l0_4.length c0_4) := (blk_cell BK291.out 4).trans rfl; have hcz7_5 : w6.cell? ⟨gb291, 5, none⟩ = some (.slice A0_5 l0_5.length c0_5) := (blk_cell BK291.out 5).trans rfl; have hcz7_6 : w6.cell? ⟨gb291, 6, none⟩ = some (.int .i64 a0_6) := (blk_cell BK291.out 6).trans rfl; have hcz7_7 : w6.cell? ⟨gb291, 7, none⟩ = some (.int .i64 a0_7) := (blk_cell BK291.out 7).trans rfl; have hfz7_0 := blk_frozen BK291.out 0; have hfz7_1 := blk_frozen BK291.out 1; have hfz7_2 := blk_frozen BK291.out 2; have hfz7_3 := blk_frozen BK291.out 3; have hfz7_4 := blk_frozen BK291.out 4; have hfz7_5 := blk_frozen BK291.out 5; have hfz7_6 := blk_frozen BK291.out 6; have hfz7_7 := blk_frozen BK291.out 7) | ((with_reducible refine gate_callee (f := 74) rfl ?_); refine goesL_ (some 13) rfl rfl Try.func74 (by kernel_rfl) rfl #[.agg #[.int .i64 a0_0, .int .i64 a0_1, .bool a0_2, .bool a0_3, .slice A0_4 l0_4.length c0_4, .slice A0_5 l0_5.length c0_5, .int .i64 a0_6, .int .i64 a0_7], .int .i64 1048576] rfl (by (try simp only [List.map_toArray, List.map_cons, List.map_nil]); first | done | rfl | (simp only [List.length_drop, List.length_take]; rfl)) ?_; (with_reducible refine (laws_szRules.calls a0_0 a0_1 a0_2 a0_3 _ _ l0_4 _ _ l0_5 a0_6 a0_7 1048576 t292 _ ?side1 ?side2 ?side3 ?side4 A4.out).mono ?_); (case side1 => repeat (first | exact (Kd.C_below HR0_4.out HB.out) | (with_reducible refine Kd.C_alloc ?_ _) | (with_reducible refine Kd.C_drewN ?_ _) | (with_reducible refine Kd.C_drew ?_))); (case side2 => exact HC0_4.out); (case side3 => repeat (first | exact (Kd.C_below HR0_5.out HB.out) | (with_reducible refine Kd.C_alloc ?_ _) | (with_reducible refine Kd.C_drewN ?_ _) | (with_reducible refine Kd.C_drew ?_))); (case side4 => exact HC0_5.out); rintro e w8 ⟨rfl, hb⟩; refine ⟨_, rfl, ?_⟩; have n0_ := Aside0.mk (blk_below (g := gb291) (o := .cells #[.int .i64 a0_0, .int .i64 a0_1, .bool a0_2, .bool a0_3, .slice A0_4 l0_4.length c0_4, .slice A0_5 l0_5.length c0_5, .int .i64 a0_6, .int .i64 a0_7] 68 (0, 0)) (by (with_reducible repeat (first | refine blk_drewN ?_ _ | refine blk_drew ?_ | refine blk_alloc ?_ _)); exact BK291.out) hb); have n1_ := Aside0.mk (below_step (by repeat (first | (with_reducible first | exact HB.out | apply below_alloc | apply pw_below_drewN | apply below_drew1 | refine below_set ?_ GE291.out) | exact HB.out)) hb); clear BK291; clear HB; have BK291 := n0_; have HB := n1_; clear n0_ n1_; (try clear hb); (try clear hb2); (try clear hk); (try clear hi)))
    go_ret
    exact ⟨by first | rfl | (simp [errW_none, errW_some] <;> rfl) | (simp [*, errW_none, errW_some] <;> rfl), by repeat (first | (with_reducible first | exact HB.out | apply below_alloc | apply pw_below_drewN | apply below_drew1 | refine below_set ?_ GE291.out) | exact HB.out)⟩
  · rw [if_neg c5] at H
    have c5b0 : decide (t292 < 0) = false := decide_eq_false c5
    clear c5
    replace H := Option.bind_eq_some_iff.mp H
    obtain ⟨⟨t293, t294, t295, t296, t297, t300, t303, t304⟩, A90, H⟩ := H
    replace H : ((spec_FitsOn.f k t293 t294 t295 t296 t297 t300 t303 t304 a1 a2).bind fun t305 => ((laws_toRules.f k a0_0 a0_1 a0_2 a0_3 l0_4 l0_5 a0_6 a0_7).bind fun bt306 => ((impl_FitsOn.f k bt306.1 bt306.2.1 bt306.2.2.1 bt306.2.2.2.1 bt306.2.2.2.2.1 bt306.2.2.2.2.2.1 bt306.2.2.2.2.2.2.1 bt306.2.2.2.2.2.2.2 a1 a2).bind fun t319 => (if (t319 != t305) = true then (some false) else ((laws_toRules.f k a0_0 a0_1 a0_2 a0_3 l0_4 l0_5 a0_6 a0_7).bind fun bt320 => ((laws_eqRules.f k bt306.1 bt306.2.1 bt306.2.2.1 bt306.2.2.2.1 bt306.2.2.2.2.1 bt306.2.2.2.2.2.1 bt306.2.2.2.2.2.2.1 bt306.2.2.2.2.2.2.2 bt320.1 bt320.2.1 bt320.2.2.1 bt320.2.2.2.1 bt320.2.2.2.2.1 bt320.2.2.2.2.2.1 bt320.2.2.2.2.2.2.1 bt320.2.2.2.2.2.2.2).bind fun t332 => (if t332 = true then (some true) else (some false)))))))) = some r := H
    have A9 := Aside0.mk A90
    clear A90
    replace H := Option.bind_eq_some_iff.mp H
    obtain ⟨t305, A100, H⟩ := H
    replace H : ((laws_toRules.f k a0_0 a0_1 a0_2 a0_3 l0_4 l0_5 a0_6 a0_7).bind fun bt306 => ((impl_FitsOn.f k bt306.1 bt306.2.1 bt306.2.2.1 bt306.2.2.2.1 bt306.2.2.2.2.1 bt306.2.2.2.2.2.1 bt306.2.2.2.2.2.2.1 bt306.2.2.2.2.2.2.2 a1 a2).bind fun t319 => (if (t319 != t305) = true then (some false) else ((laws_toRules.f k a0_0 a0_1 a0_2 a0_3 l0_4 l0_5 a0_6 a0_7).bind fun bt320 => ((laws_eqRules.f k bt306.1 bt306.2.1 bt306.2.2.1 bt306.2.2.2.1 bt306.2.2.2.2.1 bt306.2.2.2.2.2.1 bt306.2.2.2.2.2.2.1 bt306.2.2.2.2.2.2.2 bt320.1 bt320.2.1 bt320.2.2.1 bt320.2.2.2.1 bt320.2.2.2.2.1 bt320.2.2.2.2.2.1 bt320.2.2.2.2.2.2.1 bt320.2.2.2.2.2.2.2).bind fun t332 => (if t332 = true then (some true) else (some false))))))) = some r := H
    have A10 := Aside0.mk A100
    clear A100
    replace H := Option.bind_eq_some_iff.mp H
    obtain ⟨⟨t306, t307, t308, t309, t310, t313, t316, t317⟩, A110, H⟩ := H
    replace H : ((impl_FitsOn.f k t306 t307 t308 t309 t310 t313 t316 t317 a1 a2).bind fun t319 => (if (t319 != t305) = true then (some false) else ((laws_toRules.f k a0_0 a0_1 a0_2 a0_3 l0_4 l0_5 a0_6 a0_7).bind fun bt320 => ((laws_eqRules.f k t306 t307 t308 t309 t310 t313 t316 t317 bt320.1 bt320.2.1 bt320.2.2.1 bt320.2.2.2.1 bt320.2.2.2.2.1 bt320.2.2.2.2.2.1 bt320.2.2.2.2.2.2.1 bt320.2.2.2.2.2.2.2).bind fun t332 => (if t332 = true then (some true) else (some false)))))) = some r := H
    have A11 := Aside0.mk A110
    clear A110
    replace H := Option.bind_eq_some_iff.mp H
    obtain ⟨t319, A120, H⟩ := H
    replace H : (if (t319 != t305) = true then (some false) else ((laws_toRules.f k a0_0 a0_1 a0_2 a0_3 l0_4 l0_5 a0_6 a0_7).bind fun bt320 => ((laws_eqRules.f k t306 t307 t308 t309 t310 t313 t316 t317 bt320.1 bt320.2.1 bt320.2.2.1 bt320.2.2.2.1 bt320.2.2.2.2.1 bt320.2.2.2.2.2.1 bt320.2.2.2.2.2.2.1 bt320.2.2.2.2.2.2.2).bind fun t332 => (if t332 = true then (some true) else (some false))))) = some r := H
    have A12 := Aside0.mk A120
    clear A120
    by_cases c13 : (t319 != t305) = true
    · rw [if_pos c13] at H
      have c13b0 : (t319 != t305) = true := c13
      (try (have c13b1 : decide (t319 = t305) = false := by simpa using c13))
      (try (have c13b2 : (t319 == t305) = false := by simpa using c13))
      (try (have c13b3 : ¬ (t319 = t305) := by simpa using c13))
      clear c13
      exact absurd (Option.some.inj H) (by rw [HT.out]; decide)
    · rw [if_neg c13] at H
      have c13b0 : (t319 != t305) = false := by simpa using c13
      (try (have c13b1 : decide (t319 = t305) = true := by simpa using c13))
      (try (have c13b2 : (t319 == t305) = true := by simpa using c13))
      clear c13
      replace H := Option.bind_eq_some_iff.mp H
      obtain ⟨⟨t320, t321, t322, t323, t324, t327, t330, t331⟩, A300, H⟩ := H
      replace H : ((laws_eqRules.f k t306 t307 t308 t309 t310 t313 t316 t317 t320 t321 t322 t323 t324 t327 t330 t331).bind fun t332 => (if t332 = true then (some true) else (some false))) = some r := H
      have A30 := Aside0.mk A300
      clear A300
      replace H := Option.bind_eq_some_iff.mp H
      obtain ⟨t332, A310, H⟩ := H
      replace H : (if t332 = true then (some true) else (some false)) = some r := H
      have A31 := Aside0.mk A310
      clear A310
      by_cases c32 : t332 = true
      · subst c32
        have H1 : (some true) = some r := by rw [if_pos rfl] at H; exact H
        clear H
        have H := H1
        clear H1
        obtain rfl := Option.some.inj H
        go_enter Try.func14, Try.ntmps14
        try go_wp2_with (first | ((with_reducible refine gate_dst (N := 3) rfl ?_); refine box_event ?hg (N := 3) ?hd (cs := #[.int .i64 a0_0, .int .i64 a0_1, .bool a0_2, .bool a0_3, .slice A0_4 l0_4.length c0_4, .slice A0_5 l0_5.length c0_5, .int .i64 a0_6, .int .i64 a0_7]) (t := 68) ?hr ?_; (case hd => rfl); (case hg => rfl); (case hr => first | (go_simp; done) | (go_simp; rfl)); intro gb291 hg w33 hbox hb; have n0_ := Aside0.mk (below_step (by repeat (first | (with_reducible first | exact HB.out | apply below_alloc | apply pw_below_drewN | apply below_drew1) | exact HB.out)) hb); have n1_ := Aside0.mk (hbox); have n2_ := Aside0.mk ((by rw [hg]; exact (below_size (by repeat (first | (with_reducible first | exact HB.out | apply below_alloc | apply pw_below_drewN | apply below_drew1) | exact HB.out))) : w.heap.size ≤ gb291)); have n3_ := Aside0.mk ((by rw [hg]; exact (below_size (by repeat (first | (with_reducible first | exact HB.out | apply below_alloc | apply pw_below_drewN | apply below_drew1) | exact HB.out))) : w.heap.size ≤ gb291)); clear HB; have HB := n0_; have BK291 := n1_; have GW291 := n2_; have GE291 := n3_; clear n0_ n1_ n2_ n3_; clear hb hbox hg; have hcz34_0 : w33.cell? ⟨gb291, 0, none⟩ = some (.int .i64 a0_0) := (blk_cell BK291.out 0).trans rfl; have hcz34_1 : w33.cell? ⟨gb291, 1, none⟩ = some (.int .i64 a0_1) := (blk_cell BK291.out 1).trans rfl; have hcz34_2 : w33.cell? ⟨gb291, 2, none⟩ = some (.bool a0_2) := (blk_cell BK291.out 2).trans rfl; have hcz34_3 : w33.cell? ⟨gb291, 3, none⟩ = some (.bool a0_3) := (blk_cell BK291.out 3).trans rfl; have hcz34_4 : w33.cell? ⟨gb291, 4, none⟩ = some (.slice A0_4 l0_4.length c0_4) := (blk_cell BK291.out 4).trans rfl; have hcz34_5 : w33.cell? ⟨gb291, 5, none⟩ = some (.slice A0_5 l0_5.length c0_5) := (blk_cell BK291.out 5).trans rfl; have hcz34_6 : w33.cell? ⟨gb291, 6, none⟩ = some (.int .i64 a0_6) := (blk_cell BK291.out 6).trans rfl; have hcz34_7 : w33.cell? ⟨gb291, 7, none⟩ = some (.int .i64 a0_7) := (blk_cell BK291.out 7).trans rfl; have hfz34_0 := blk_frozen BK291.out 0; have hfz34_1 := blk_frozen BK291.out 1; have hfz34_2 := blk_frozen BK291.out 2; have hfz34_3 := blk_frozen BK291.out 3; have hfz34_4 := blk_frozen BK291.out 4; have hfz34_5 := blk_frozen BK291.out 5; have hfz34_6 := blk_frozen BK291.out 6; have hfz34_7 := blk_frozen BK291.out 7) | ((with_reducible refine gate_callee (f := 74) rfl ?_); refine goesL_ (some 13) rfl rfl Try.func74 (by kernel_rfl) rfl #[.agg #[.int .i64 a0_0, .int .i64 a0_1, .bool a0_2, .bool a0_3, .slice A0_4 l0_4.length c0_4, .slice A0_5 l0_5.length c0_5, .int .i64 a0_6, .int .i64 a0_7], .int .i64 1048576] rfl (by (try simp only [List.map_toArray, List.map_cons, List.map_nil]); first | done | rfl | (simp only [List.length_drop, List.length_take]; rfl)) ?_; (with_reducible refine (laws_szRules.calls a0_0 a0_1 a0_2 a0_3 _ _ l0_4 _ _ l0_5 a0_6 a0_7 1048576 t292 _ ?side1 ?side2 ?side3 ?side4 A4.out).mono ?_); (case side1 => repeat (first | exact (Kd.C_below HR0_4.out HB.out) | (with_reducible refine Kd.C_alloc ?_ _) | (with_reducible refine Kd.C_drewN ?_ _) | (with_reducible refine Kd.C_drew ?_))); (case side2 => exact HC0_4.out); (case side3 => repeat (first | exact (Kd.C_below HR0_5.out HB.out) | (with_reducible refine Kd.C_alloc ?_ _) | (with_reducible refine Kd.C_drewN ?_ _) | (with_reducible refine Kd.C_drew ?_))); (case side4 => exact HC0_5.out); rintro e w35 ⟨rfl, hb⟩; refine ⟨_, rfl, ?_⟩; have n0_ := Aside0.mk (blk_below (g := gb291) (o := .cells #[.int .i64 a0_0, .int .i64 a0_1, .bool a0_2, .bool a0_3, .slice A0_4 l0_4.length c0_4, .slice A0_5 l0_5.length c0_5, .int .i64 a0_6, .int .i64 a0_7] 68 (0, 0)) (by (with_reducible repeat (first | refine blk_drewN ?_ _ | refine blk_drew ?_ | refine blk_alloc ?_ _)); exact BK291.out) hb); have n1_ := Aside0.mk (below_step (by repeat (first | (with_reducible first | exact HB.out | apply below_alloc | apply pw_below_drewN | apply below_drew1 | refine below_set ?_ GE291.out) | exact HB.out)) hb); clear BK291; clear HB; have BK291 := n0_; have HB := n1_; clear n0_ n1_; (try clear hb); (try clear hb2); (try clear hk); (try clear hi); have hcz36_0 : w35.cell? ⟨gb291, 0, none⟩ = some (.int .i64 a0_0) := (blk_cell BK291.out 0).trans rfl; have hcz36_1 : w35.cell? ⟨gb291, 1, none⟩ = some (.int .i64 a0_1) := (blk_cell BK291.out 1).trans rfl; have hcz36_2 : w35.cell? ⟨gb291, 2, none⟩ = some (.bool a0_2) := (blk_cell BK291.out 2).trans rfl; have hcz36_3 : w35.cell? ⟨gb291, 3, none⟩ = some (.bool a0_3) := (blk_cell BK291.out 3).trans rfl; have hcz36_4 : w35.cell? ⟨gb291, 4, none⟩ = some (.slice A0_4 l0_4.length c0_4) := (blk_cell BK291.out 4).trans rfl; have hcz36_5 : w35.cell? ⟨gb291, 5, none⟩ = some (.slice A0_5 l0_5.length c0_5) := (blk_cell BK291.out 5).trans rfl; have hcz36_6 : w35.cell? ⟨gb291, 6, none⟩ = some (.int .i64 a0_6) := (blk_cell BK291.out 6).trans rfl; have hcz36_7 : w35.cell? ⟨gb291, 7, none⟩ = some (.int .i64 a0_7) := (blk_cell BK291.out 7).trans rfl; have hfz36_0 := blk_frozen BK291.out 0; have hfz36_1 := blk_frozen BK291.out 1; have hfz36_2 := blk_frozen BK291.out 2; have hfz36_3 := blk_frozen BK291.out 3; have hfz36_4 := blk_frozen BK291.out 4; have hfz36_5 := blk_frozen BK291.out 5; have hfz36_6 := blk_frozen BK291.out 6; have hfz36_7 := blk_frozen BK291.out 7) | ((with_reducible refine gate_callee (f := 76) rfl ?_); refine goesL_ (some 17) rfl rfl Try.func76 (by kernel_rfl) rfl #[.agg #[.int .i64 a0_0, .int .i64 a0_1, .bool a0_2, .bool a0_3, .slice A0_4 l0_4.length c0_4, .slice A0_5 l0_5.length c0_5, .int .i64 a0_6, .int .i64 a0_7]] rfl (by (try simp only [List.map_toArray, List.map_cons, List.map_nil]); first | done | rfl | (simp only [List.length_drop, List.length_take]; rfl)) ?_; (with_reducible refine (laws_toRules.calls k a0_0 a0_1 a0_2 a0_3 _ _ l0_4 _ _ l0_5 a0_6 a0_7 t293 t294 t295 t296 t297 t300 t303 t304 _ ?side1 ?side2 ?side3 ?side4 A9.out).mono ?_); (case side1 => repeat (first | exact (Kd.C_below HR0_4.out HB.out) | (with_reducible refine Kd.C_alloc ?_ _) | (with_reducible refine Kd.C_drewN ?_ _) | (with_reducible refine Kd.C_drew ?_))); (case side2 => exact HC0_4.out); (case side3 => repeat (first | exact (Kd.C_below HR0_5.out HB.out) | (with_reducible refine Kd.C_alloc ?_ _) | (with_reducible refine Kd.C_drewN ?_ _) | (with_reducible refine Kd.C_drew ?_))); (case side4 => exact HC0_5.out); rintro e w37 ⟨v298, v301, rfl, ho0, ho1, hb⟩; refine ⟨_, rfl, ?_⟩; have n0_ := Aside0.mk (Kd.R_lower ho0 (below_size (by repeat (first | (with_reducible first | exact HB.out | apply below_alloc | apply pw_below_drewN | apply below_drew1 | refine below_set ?_ GE291.out) | exact HB.out)))); have n1_ := Aside0.mk (Kd.R_lower ho1 (below_size (by repeat (first | (with_reducible first | exact HB.out | apply below_alloc | apply pw_below_drewN | apply below_drew1 | refine below_set ?_ GE291.out) | exact HB.out)))); have n2_ := Aside0.mk (blk_below (g := gb291) (o := .cells #[.int .i64 a0_0, .int .i64 a0_1, .bool a0_2, .bool a0_3, .slice A0_4 l0_4.length c0_4, .slice A0_5 l0_5.length c0_5, .int .i64 a0_6, .int .i64 a0_7] 68 (0, 0)) (by (with_reducible repeat (first | refine blk_drewN ?_ _ | refine blk_drew ?_ | refine blk_alloc ?_ _)); exact BK291.out) hb); have n3_ := Aside0.mk (below_step (by repeat (first | (with_reducible first | exact HB.out | apply below_alloc | apply pw_below_drewN | apply below_drew1 | refine below_set ?_ GE291.out) | exact HB.out)) hb); clear BK291; clear HB; have HO299 := n0_; have HO302 := n1_; have BK291 := n2_; have HB := n3_; clear n0_ n1_ n2_ n3_; (try clear hb); (try clear hb2); (try clear hk); (try clear hi); (try clear ho0); (try clear ho1); obtain ⟨Ao38, co38, eo38⟩ := Kd.R_slice HO299.out; subst eo38; obtain ⟨Ao39, co39, eo39⟩ := Kd.R_slice HO302.out; subst eo39) | ((with_reducible refine gate_callee (f := 78) rfl ?_); refine goesL_ (some 20) rfl rfl Try.func78 (by kernel_rfl) rfl #[.agg #[.int .i64 t293, .int .i64 t294, .bool t295, .bool t296, .slice Ao38 t297.length co38, .slice Ao39 t300.length co39, .int .i64 t303, .int .i64 t304], .int .i64 a1, .int .i64 a2] rfl (by (try simp only [List.map_toArray, List.map_cons, List.map_nil]); first | done | rfl | (simp only [List.length_drop, List.length_take]; rfl)) ?_; (with_reducible refine (spec_FitsOn.calls k t293 t294 t295 t296 _ _ t297 _ _ t300 t303 t304 a1 a2 t305 _ ?side1 ?side2 ?side3 ?side4 A10.out).mono ?_); (case side1 => repeat (first | exact (Kd.R_reads' HO299.out).2.2 | (with_reducible refine Kd.C_alloc ?_ _) | (with_reducible refine Kd.C_drewN ?_ _) | (with_reducible refine Kd.C_drew ?_))); (case side2 => exact (Kd.R_reads' HO299.out).2.1); (case side3 => repeat (first | exact (Kd.R_reads' HO302.out).2.2 | (with_reducible refine Kd.C_alloc ?_ _) | (with_reducible refine Kd.C_drewN ?_ _) | (with_reducible refine Kd.C_drew ?_))); (case side4 => exact (Kd.R_reads' HO302.out).2.1); rintro e w40 ⟨rfl, hb⟩; refine ⟨_, rfl, ?_⟩; have n0_ := Aside0.mk (Kd.R_below (by (with_reducible repeat (first | apply Kd.R_alloc | apply Kd.R_drewN | apply Kd.R_drew)); exact HO299.out) hb); have n1_ := Aside0.mk (Kd.R_below (by (with_reducible repeat (first | apply Kd.R_alloc | apply Kd.R_drewN | apply Kd.R_drew)); exact HO302.out) hb); have n2_ := Aside0.mk (blk_below (g := gb291) (o := .cells #[.int .i64 a0_0, .int .i64 a0_1, .bool a0_2, .bool a0_3, .slice A0_4 l0_4.length c0_4, .slice A0_5 l0_5.length c0_5, .int .i64 a0_6, .int .i64 a0_7] 68 (0, 0)) (by (with_reducible repeat (first | refine blk_drewN ?_ _ | refine blk_drew ?_ | refine blk_alloc ?_ _)); exact BK291.out) hb); have n3_ := Aside0.mk (below_step (by repeat (first | (with_reducible first | exact HB.out | apply below_alloc | apply pw_below_drewN | apply below_drew1 | refine below_set ?_ GE291.out) | exact HB.out)) hb); clear HO299; clear HO302; clear BK291; clear HB; have HO299 := n0_; have HO302 := n1_; have BK291 := n2_; have HB := n3_; clear n0_ n1_ n2_ n3_; (try clear hb); (try clear hb2); (try clear hk); (try clear hi); have hcz41_0 : w40.cell? ⟨gb291, 0, none⟩ = some (.int .i64 a0_0) := (blk_cell BK291.out 0).trans rfl; have hcz41_1 : w40.cell? ⟨gb291, 1, none⟩ = some (.int .i64 a0_1) := (blk_cell BK291.out 1).trans rfl; have hcz41_2 : w40.cell? ⟨gb291, 2, none⟩ = some (.bool a0_2) := (blk_cell BK291.out 2).trans rfl; have hcz41_3 : w40.cell? ⟨gb291, 3, none⟩ = some (.bool a0_3) := (blk_cell BK291.out 3).trans rfl; have hcz41_4 : w40.cell? ⟨gb291, 4, none⟩ = some (.slice A0_4 l0_4.length c0_4) := (blk_cell BK291.out 4).trans rfl; have hcz41_5 : w40.cell? ⟨gb291, 5, none⟩ = some (.slice A0_5 l0_5.length c0_5) := (blk_cell BK291.out 5).trans rfl; have hcz41_6 : w40.cell? ⟨gb291, 6, none⟩ = some (.int .i64 a0_6) := (blk_cell BK291.out 6).trans rfl; have hcz41_7 : w40.cell? ⟨gb291, 7, none⟩ = some (.int .i64 a0_7) := (blk_cell BK291.out 7).trans rfl; have hfz41_0 := blk_frozen BK291.out 0; have hfz41_1 := blk_frozen BK291.out 1; have hfz41_2 := blk_frozen BK291.out 2; have hfz41_3 := blk_frozen BK291.out 3; have hfz41_4 := blk_frozen BK291.out 4; have hfz41_5 := blk_frozen BK291.out 5; have hfz41_6 := blk_frozen BK291.out 6; have hfz41_7 := blk_frozen BK291.out 7) | ((with_reducible refine gate_callee (f := 76) rfl ?_); refine goesL_ (some 22) rfl rfl Try.func76 (by kernel_rfl) rfl #[.agg #[.int .i64 a0_0, .int .i64 a0_1, .bool a0_2, .bool a0_3, .slice A0_4 l0_4.length c0_4, .slice A0_5 l0_5.length c0_5, .int .i64 a0_6, .int .i64 a0_7]] rfl (by (try simp only [List.map_toArray, List.map_cons, List.map_nil]); first | done | rfl | (simp only [List.length_drop, List.length_take]; rfl)) ?_; (with_reducible refine (laws_toRules.calls k a0_0 a0_1 a0_2 a0_3 _ _ l0_4 _ _ l0_5 a0_6 a0_7 t306 t307 t308 t309 t310 t313 t316 t317 _ ?side1 ?side2 ?side3 ?side4 A11.out).mono ?_); (case side1 => repeat (first | exact (Kd.C_below HR0_4.out HB.out) | (with_reducible refine Kd.C_alloc ?_ _) | (with_reducible refine Kd.C_drewN ?_ _) | (with_reducible refine Kd.C_drew ?_))); (case side2 => exact HC0_4.out); (case side3 => repeat (first | exact (Kd.C_below HR0_5.out HB.out) | (with_reducible refine Kd.C_alloc ?_ _) | (with_reducible refine Kd.C_drewN ?_ _) | (with_reducible refine Kd.C_drew ?_))); (case side4 => exact HC0_5.out); rintro e w42 ⟨v311, v314, rfl, ho0, ho1, hb⟩; refine ⟨_, rfl, ?_⟩; have n0_ := Aside0.mk (Kd.R_mono (Kd.R_told (Kd.R_told (Kd.R_old (by (with_reducible repeat (first | apply Kd.R_alloc | apply Kd.R_drewN | apply Kd.R_drew)); exact HO299.out) hb) (Kd.R_base ho0)) (Kd.R_base ho1)) (fun _ h_ => h_.1)); have n1_ := Aside0.mk (Kd.R_mono (Kd.R_told (Kd.R_told (Kd.R_old (by (with_reducible repeat (first | apply Kd.R_alloc | apply Kd.R_drewN | apply Kd.R_drew)); exact HO302.out) hb) (Kd.R_base ho0)) (Kd.R_base ho1)) (fun _ h_ => h_.1)); have n2_ := Aside0.mk (Kd.R_lower (Kd.R_new' (Kd.R_new' ho0 (Kd.R_lt (by (with_reducible repeat (first | apply Kd.R_alloc | apply Kd.R_drewN | apply Kd.R_drew)); exact HO299.out))) (Kd.R_lt (by (with_reducible repeat (first | apply Kd.R_alloc | apply Kd.R_drewN | apply Kd.R_drew)); exact HO302.out))) (below_size (by repeat (first | (with_reducible first | exact HB.out | apply below_alloc | apply pw_below_drewN | apply below_drew1 | refine below_set ?_ GE291.out) | exact HB.out)))); have n3_ := Aside0.mk (Kd.R_lower (Kd.R_new' (Kd.R_new' ho1 (Kd.R_lt (by (with_reducible repeat (first | apply Kd.R_alloc | apply Kd.R_drewN | apply Kd.R_drew)); exact HO299.out))) (Kd.R_lt (by (with_reducible repeat (first | apply Kd.R_alloc | apply Kd.R_drewN | apply Kd.R_drew)); exact HO302.out))) (below_size (by repeat (first | (with_reducible first | exact HB.out | apply below_alloc | apply pw_below_drewN | apply below_drew1 | refine below_set ?_ GE291.out) | exact HB.out)))); have n4_ := Aside0.mk (blk_below (g := gb291) (o := .cells #[.int .i64 a0_0, .int .i64 a0_1, .bool a0_2, .bool a0_3, .slice A0_4 l0_4.length c0_4, .slice A0_5 l0_5.length c0_5, .int .i64 a0_6, .int .i64 a0_7] 68 (0, 0)) (by (with_reducible repeat (first | refine blk_drewN ?_ _ | refine blk_drew ?_ | refine blk_alloc ?_ _)); exact BK291.out) hb); have n5_ := Aside0.mk (below_step (by repeat (first | (with_reducible first | exact HB.out | apply below_alloc | apply pw_below_drewN | apply below_drew1 | refine below_set ?_ GE291.out) | exact HB.out)) hb); clear HO299; clear HO302; clear BK291; clear HB; have HO299 := n0_; have HO302 := n1_; have HO312 := n2_; have HO315 := n3_; have BK291 := n4_; have HB := n5_; clear n0_ n1_ n2_ n3_ n4_ n5_; (try clear hb); (try clear hb2); (try clear hk); (try clear hi); (try clear ho0); (try clear ho1)) | ((with_reducible refine gate_dst (N := 9) rfl ?_); refine box_event ?hg (N := 9) ?hd (cs := #[.int .i64 0, .int .i64 0, .bool false, .bool false, .slice none 0 0, .slice none 0 0, .int .i64 0, .int .i64 0]) (t := 74) ?hr ?_; (case hd => rfl); (case hg => rfl); (case hr => first | (go_simp; done) | (go_simp; rfl)); intro gb318 hg w43 hbox hb; have n0_ := Aside0.mk (Kd.R_below (by (with_reducible repeat (first | apply Kd.R_alloc | apply Kd.R_drewN | apply Kd.R_drew)); exact HO299.out) hb); have n1_ := Aside0.mk (Kd.R_below (by (with_reducible repeat (first | apply Kd.R_alloc | apply Kd.R_drewN | apply Kd.R_drew)); exact HO302.out) hb); have n2_ := Aside0.mk (Kd.R_below (by (with_reducible repeat (first | apply Kd.R_alloc | apply Kd.R_drewN | apply Kd.R_drew)); exact HO312.out) hb); have n3_ := Aside0.mk (Kd.R_below (by (with_reducible repeat (first | apply Kd.R_alloc | apply Kd.R_drewN | apply Kd.R_drew)); exact HO315.out) hb); have n4_ := Aside0.mk (blk_below (g := gb291) (o := .cells #[.int .i64 a0_0, .int .i64 a0_1, .bool a0_2, .bool a0_3, .slice A0_4 l0_4.length c0_4, .slice A0_5 l0_5.length c0_5, .int .i64 a0_6, .int .i64 a0_7] 68 (0, 0)) (by (with_reducible repeat (first | refine blk_drewN ?_ _ | refine blk_drew ?_ | refine blk_alloc ?_ _)); exact BK291.out) hb); have n5_ := Aside0.mk (below_step (by repeat (first | (with_reducible first | exact HB.out | apply below_alloc | apply pw_below_drewN | apply below_drew1 | refine below_set ?_ GE291.out) | exact HB.out)) hb); have n6_ := Aside0.mk (hbox); have n7_ := Aside0.mk ((by rw [hg]; exact (below_size (by repeat (first | (with_reducible first | exact HB.out | apply below_alloc | apply pw_below_drewN | apply below_drew1 | refine below_set ?_ GE291.out) | exact HB.out))) : w.heap.size ≤ gb318)); have n8_ := Aside0.mk ((by rw [hg]; exact (below_size (by repeat (first | (with_reducible first | exact HB.out | apply below_alloc | apply pw_below_drewN | apply below_drew1 | refine below_set ?_ GE291.out) | exact HB.out))) : w.heap.size ≤ gb318)); have n9_ := Aside0.mk ((by rw [hg]; exact Nat.ne_of_lt (blk_lt (g := gb291) (o := .cells #[.int .i64 a0_0, .int .i64 a0_1, .bool a0_2, .bool a0_3, .slice A0_4 l0_4.length c0_4, .slice A0_5 l0_5.length c0_5, .int .i64 a0_6, .int .i64 a0_7] 68 (0, 0)) (by (with_reducible repeat (first | refine blk_drewN ?_ _ | refine blk_drew ?_ | refine blk_alloc ?_ _)); exact BK291.out)) : gb291 ≠ gb318)); have n10_ := Aside0.mk ((by rw [hg]; exact Nat.ne_of_gt (blk_lt (g := gb291) (o := .cells #[.int .i64 a0_0, .int .i64 a0_1, .bool a0_2, .bool a0_3, .slice A0_4 l0_4.length c0_4, .slice A0_5 l0_5.length c0_5, .int .i64 a0_6, .int .i64 a0_7] 68 (0, 0)) (by (with_reducible repeat (first | refine blk_drewN ?_ _ | refine blk_drew ?_ | refine blk_alloc ?_ _)); exact BK291.out)) : gb318 ≠ gb291)); clear HO299; clear HO302; clear HO312; clear HO315; clear BK291; clear HB; have HO299 := n0_; have HO302 := n1_; have HO312 := n2_; have HO315 := n3_; have BK291 := n4_; have HB := n5_; have BK318 := n6_; have GW318 := n7_; have GE318 := n8_; have NB291_318 := n9_; have NB318_291 := n10_; clear n0_ n1_ n2_ n3_ n4_ n5_ n6_ n7_ n8_ n9_ n10_; clear hb hbox hg; have hnb44 := NB318_291.out; have hnc44 := NB291_318.out; have hcz45_0 : w43.cell? ⟨gb318, 0, none⟩ = some (.int .i64 0) := (blk_cell BK318.out 0).trans rfl; have hcz45_1 : w43.cell? ⟨gb318, 1, none⟩ = some (.int .i64 0) := (blk_cell BK318.out 1).trans rfl; have hcz45_2 : w43.cell? ⟨gb318, 2, none⟩ = some (.bool false) := (blk_cell BK318.out 2).trans rfl; have hcz45_3 : w43.cell? ⟨gb318, 3, none⟩ = some (.bool false) := (blk_cell BK318.out 3).trans rfl; have hcz45_4 : w43.cell? ⟨gb318, 4, none⟩ = some (.slice none 0 0) := (blk_cell BK318.out 4).trans rfl; have hcz45_5 : w43.cell? ⟨gb318, 5, none⟩ = some (.slice none 0 0) := (blk_cell BK318.out 5).trans rfl; have hcz45_6 : w43.cell? ⟨gb318, 6, none⟩ = some (.int .i64 0) := (blk_cell BK318.out 6).trans rfl; have hcz45_7 : w43.cell? ⟨gb318, 7, none⟩ = some (.int .i64 0) := (blk_cell BK318.out 7).trans rfl; have hfz45_0 := blk_frozen BK318.out 0; have hfz45_1 := blk_frozen BK318.out 1; have hfz45_2 := blk_frozen BK318.out 2; have hfz45_3 := blk_frozen BK318.out 3; have hfz45_4 := blk_frozen BK318.out 4; have hfz45_5 := blk_frozen BK318.out 5; have hfz45_6 := blk_frozen BK318.out 6; have hfz45_7 := blk_frozen BK318.out 7; obtain ⟨Ao46, co46, eo46⟩ := Kd.R_slice HO312.out; subst eo46; obtain ⟨Ao47, co47, eo47⟩ := Kd.R_slice HO315.out; subst eo47) | ((with_reducible refine gate_callee (f := 63) rfl ?_); refine goesL_ (some 26) rfl rfl Try.func63 (by kernel_rfl) rfl #[.agg #[.int .i64 t306, .int .i64 t307, .bool t308, .bool t309, .slice Ao46 t310.length co46, .slice Ao47 t313.length co47, .int .i64 t316, .int .i64 t317], .int .i64 a1, .int .i64 a2] rfl (by (try simp only [List.map_toArray, List.map_cons, List.map_nil]); first | done | rfl | (simp only [List.length_drop, List.length_take]; rfl)) ?_; (with_reducible refine (impl_FitsOn.calls k t306 t307 t308 t309 _ _ t310 _ _ t313 t316 t317 a1 a2 t319 _ ?side1 ?side2 ?side3 ?side4 A12.out).mono ?_); (case side1 => refine (Kd.R_reads' (e := 3) (base := w.heap.size) (ok := fun k_ => ((some k_ ≠ (.slice Ao47 t313.length co47 : Value).ownBlock ∧ some k_ ≠ (.slice Ao38 t297.length co38 : Value).ownBlock) ∧ some k_ ≠ (.slice Ao39 t300.length co39 : Value).ownBlock)) (n := t310.length) (c := co46) ?_).2.2; exact (by (with_reducible repeat (first | apply Kd.R_alloc | apply Kd.R_drewN | apply Kd.R_drew)); exact (Kd.R_mono (Kd.R_far (p := ⟨gb318, 7, none⟩) (Kd.R_far (p := ⟨gb318, 6, none⟩) (Kd.R_far (p := ⟨gb318, 5, none⟩) (Kd.R_far (p := ⟨gb318, 4, none⟩) (Kd.R_far (p := ⟨gb318, 3, none⟩) (Kd.R_far (p := ⟨gb318, 2, none⟩) (Kd.R_far (p := ⟨gb318, 1, none⟩) (Kd.R_far (p := ⟨gb318, 0, none⟩) (Kd.R_types HO312.out BK318.out (by decide)) (fun _ hk => hk.2) (.int .i64 t306)) (fun _ hk => hk.2) (.int .i64 t307)) (fun _ hk => hk.2) (.bool t308)) (fun _ hk => hk.2) (.bool t309)) (fun _ hk => hk.2) (.slice Ao46 t310.length co46)) (fun _ hk => hk.2) (.slice Ao47 t313.length co47)) (fun _ hk => hk.2) (.int .i64 t316)) (fun _ hk => hk.2) (.int .i64 t317)) (fun _ h_ => h_.1)))); (case side2 => exact (Kd.R_reads' HO312.out).2.1); (case side3 => refine (Kd.R_reads' (e := 3) (base := w.heap.size) (ok := fun k_ => ((some k_ ≠ (.slice Ao46 t310.length co46 : Value).ownBlock ∧ some k_ ≠ (.slice Ao38 t297.length co38 : Value).ownBlock) ∧ some k_ ≠ (.slice Ao39 t300.length co39 : Value).ownBlock)) (n := t313.length) (c := co47) ?_).2.2; exact (by (with_reducible repeat (first | apply Kd.R_alloc | apply Kd.R_drewN | apply Kd.R_drew)); exact (Kd.R_mono (Kd.R_far (p := ⟨gb318, 7, none⟩) (Kd.R_far (p := ⟨gb318, 6, none⟩) (Kd.R_far (p := ⟨gb318, 5, none⟩) (Kd.R_far (p := ⟨gb318, 4, none⟩) (Kd.R_far (p := ⟨gb318, 3, none⟩) (Kd.R_far (p := ⟨gb318, 2, none⟩) (Kd.R_far (p := ⟨gb318, 1, none⟩) (Kd.R_far (p := ⟨gb318, 0, none⟩) (Kd.R_types HO315.out BK318.out (by decide)) (fun _ hk => hk.2) (.int .i64 t306)) (fun _ hk => hk.2) (.int .i64 t307)) (fun _ hk => hk.2) (.bool t308)) (fun _ hk => hk.2) (.bool t309)) (fun _ hk => hk.2) (.slice Ao46 t310.length co46)) (fun _ hk => hk.2) (.slice Ao47 t313.length co47)) (fun _ hk => hk.2) (.int .i64 t316)) (fun _ hk => hk.2) (.int .i64 t317)) (fun _ h_ => h_.1)))); (case side4 => exact (Kd.R_reads' HO315.out).2.1); rintro e w48 ⟨rfl, hb⟩; refine ⟨_, rfl, ?_⟩; have n0_ := Aside0.mk (Kd.R_below (by (with_reducible repeat (first | apply Kd.R_alloc | apply Kd.R_drewN | apply Kd.R_drew)); exact (Kd.R_mono (Kd.R_far (p := ⟨gb318, 7, none⟩) (Kd.R_far (p := ⟨gb318, 6, none⟩) (Kd.R_far (p := ⟨gb318, 5, none⟩) (Kd.R_far (p := ⟨gb318, 4, none⟩) (Kd.R_far (p := ⟨gb318, 3, none⟩) (Kd.R_far (p := ⟨gb318, 2, none⟩) (Kd.R_far (p := ⟨gb318, 1, none⟩) (Kd.R_far (p := ⟨gb318, 0, none⟩) (Kd.R_types HO299.out BK318.out (by decide)) (fun _ hk => hk.2) (.int .i64 t306)) (fun _ hk => hk.2) (.int .i64 t307)) (fun _ hk => hk.2) (.bool t308)) (fun _ hk => hk.2) (.bool t309)) (fun _ hk => hk.2) (.slice Ao46 t310.length co46)) (fun _ hk => hk.2) (.slice Ao47 t313.length co47)) (fun _ hk => hk.2) (.int .i64 t316)) (fun _ hk => hk.2) (.int .i64 t317)) (fun _ h_ => h_.1))) hb); have n1_ := Aside0.mk (Kd.R_below (by (with_reducible repeat (first | apply Kd.R_alloc | apply Kd.R_drewN | apply Kd.R_drew)); exact (Kd.R_mono (Kd.R_far (p := ⟨gb318, 7, none⟩) (Kd.R_far (p := ⟨gb318, 6, none⟩) (Kd.R_far (p := ⟨gb318, 5, none⟩) (Kd.R_far (p := ⟨gb318, 4, none⟩) (Kd.R_far (p := ⟨gb318, 3, none⟩) (Kd.R_far (p := ⟨gb318, 2, none⟩) (Kd.R_far (p := ⟨gb318, 1, none⟩) (Kd.R_far (p := ⟨gb318, 0, none⟩) (Kd.R_types HO302.out BK318.out (by decide)) (fun _ hk => hk.2) (.int .i64 t306)) (fun _ hk => hk.2) (.int .i64 t307)) (fun _ hk => hk.2) (.bool t308)) (fun _ hk => hk.2) (.bool t309)) (fun _ hk => hk.2) (.slice Ao46 t310.length co46)) (fun _ hk => hk.2) (.slice Ao47 t313.length co47)) (fun _ hk => hk.2) (.int .i64 t316)) (fun _ hk => hk.2) (.int .i64 t317)) (fun _ h_ => h_.1))) hb); have n2_ := Aside0.mk (Kd.R_below (by (with_reducible repeat (first | apply Kd.R_alloc | apply Kd.R_drewN | apply Kd.R_drew)); exact (Kd.R_mono (Kd.R_far (p := ⟨gb318, 7, none⟩) (Kd.R_far (p := ⟨gb318, 6, none⟩) (Kd.R_far (p := ⟨gb318, 5, none⟩) (Kd.R_far (p := ⟨gb318, 4, none⟩) (Kd.R_far (p := ⟨gb318, 3, none⟩) (Kd.R_far (p := ⟨gb318, 2, none⟩) (Kd.R_far (p := ⟨gb318, 1, none⟩) (Kd.R_far (p := ⟨gb318, 0, none⟩) (Kd.R_types HO312.out BK318.out (by decide)) (fun _ hk => hk.2) (.int .i64 t306)) (fun _ hk => hk.2) (.int .i64 t307)) (fun _ hk => hk.2) (.bool t308)) (fun _ hk => hk.2) (.bool t309)) (fun _ hk => hk.2) (.slice Ao46 t310.length co46)) (fun _ hk => hk.2) (.slice Ao47 t313.length co47)) (fun _ hk => hk.2) (.int .i64 t316)) (fun _ hk => hk.2) (.int .i64 t317)) (fun _ h_ => h_.1))) hb); have n3_ := Aside0.mk (Kd.R_below (by (with_reducible repeat (first | apply Kd.R_alloc | apply Kd.R_drewN | apply Kd.R_drew)); exact (Kd.R_mono (Kd.R_far (p := ⟨gb318, 7, none⟩) (Kd.R_far (p := ⟨gb318, 6, none⟩) (Kd.R_far (p := ⟨gb318, 5, none⟩) (Kd.R_far (p := ⟨gb318, 4, none⟩) (Kd.R_far (p := ⟨gb318, 3, none⟩) (Kd.R_far (p := ⟨gb318, 2, none⟩) (Kd.R_far (p := ⟨gb318, 1, none⟩) (Kd.R_far (p := ⟨gb318, 0, none⟩) (Kd.R_types HO315.out BK318.out (by decide)) (fun _ hk => hk.2) (.int .i64 t306)) (fun _ hk => hk.2) (.int .i64 t307)) (fun _ hk => hk.2) (.bool t308)) (fun _ hk => hk.2) (.bool t309)) (fun _ hk => hk.2) (.slice Ao46 t310.length co46)) (fun _ hk => hk.2) (.slice Ao47 t313.length co47)) (fun _ hk => hk.2) (.int .i64 t316)) (fun _ hk => hk.2) (.int .i64 t317)) (fun _ h_ => h_.1))) hb); have n4_ := Aside0.mk (blk_below (g := gb291) (o := .cells #[.int .i64 a0_0, .int .i64 a0_1, .bool a0_2, .bool a0_3, .slice A0_4 l0_4.length c0_4, .slice A0_5 l0_5.length c0_5, .int .i64 a0_6, .int .i64 a0_7] 68 (0, 0)) (by (with_reducible repeat (first | refine blk_drewN ?_ _ | refine blk_drew ?_ | refine blk_alloc ?_ _)); refine blk_far ?_ NB291_318.out _; (with_reducible repeat (first | refine blk_drewN ?_ _ | refine blk_drew ?_ | refine blk_alloc ?_ _)); refine blk_far ?_ NB291_318.out _; (with_reducible repeat (first | refine blk_drewN ?_ _ | refine blk_drew ?_ | refine blk_alloc ?_ _)); refine blk_far ?_ NB291_318.out _; (with_reducible repeat (first | refine blk_drewN ?_ _ | refine blk_drew ?_ | refine blk_alloc ?_ _)); refine blk_far ?_ NB291_318.out _; (with_reducible repeat (first | refine blk_drewN ?_ _ | refine blk_drew ?_ | refine blk_alloc ?_ _)); refine blk_far ?_ NB291_318.out _; (with_reducible repeat (first | refine blk_drewN ?_ _ | refine blk_drew ?_ | refine blk_alloc ?_ _)); refine blk_far ?_ NB291_318.out _; (with_reducible repeat (first | refine blk_drewN ?_ _ | refine blk_drew ?_ | refine blk_alloc ?_ _)); refine blk_far ?_ NB291_318.out _; (with_reducible repeat (first | refine blk_drewN ?_ _ | refine blk_drew ?_ | refine blk_alloc ?_ _)); refine blk_far ?_ NB291_318.out _; (with_reducible repeat (first | refine blk_drewN ?_ _ | refine blk_drew ?_ | refine blk_alloc ?_ _)); exact BK291.out) hb); have n5_ := Aside0.mk (blk_below (g := gb318) (o := .cells #[.int .i64 t306, .int .i64 t307, .bool t308, .bool t309, .slice Ao46 t310.length co46, .slice Ao47 t313.length co47, .int .i64 t316, .int .i64 t317] 74 (0, 0)) (by (with_reducible repeat (first | refine blk_drewN ?_ _ | refine blk_drew ?_ | refine blk_alloc ?_ _)); refine blk_put (cs := #[.int .i64 t306, .int .i64 t307, .bool t308, .bool t309, .slice Ao46 t310.length co46, .slice Ao47 t313.length co47, .int .i64 t316, .int .i64 0]) ?_ 7 _ rfl; (with_reducible repeat (first | refine blk_drewN ?_ _ | refine blk_drew ?_ | refine blk_alloc ?_ _)); refine blk_put (cs := #[.int .i64 t306, .int .i64 t307, .bool t308, .bool t309, .slice Ao46 t310.length co46, .slice Ao47 t313.length co47, .int .i64 0, .int .i64 0]) ?_ 6 _ rfl; (with_reducible repeat (first | refine blk_drewN ?_ _ | refine blk_drew ?_ | refine blk_alloc ?_ _)); refine blk_put (cs := #[.int .i64 t306, .int .i64 t307, .bool t308, .bool t309, .slice Ao46 t310.length co46, .slice none 0 0, .int .i64 0, .int .i64 0]) ?_ 5 _ rfl; (with_reducible repeat (first | refine blk_drewN ?_ _ | refine blk_drew ?_ | refine blk_alloc ?_ _)); refine blk_put (cs := #[.int .i64 t306, .int .i64 t307, .bool t308, .bool t309, .slice none 0 0, .slice none 0 0, .int .i64 0, .int .i64 0]) ?_ 4 _ rfl; (with_reducible repeat (first | refine blk_drewN ?_ _ | refine blk_drew ?_ | refine blk_alloc ?_ _)); refine blk_put (cs := #[.int .i64 t306, .int .i64 t307, .bool t308, .bool false, .slice none 0 0, .slice none 0 0, .int .i64 0, .int .i64 0]) ?_ 3 _ rfl; (with_reducible repeat (first | refine blk_drewN ?_ _ | refine blk_drew ?_ | refine blk_alloc ?_ _)); refine blk_put (cs := #[.int .i64 t306, .int .i64 t307, .bool false, .bool false, .slice none 0 0, .slice none 0 0, .int .i64 0, .int .i64 0]) ?_ 2 _ rfl; (with_reducible repeat (first | refine blk_drewN ?_ _ | refine blk_drew ?_ | refine blk_alloc ?_ _)); refine blk_put (cs := #[.int .i64 t306, .int .i64 0, .bool false, .bool false, .slice none 0 0, .slice none 0 0, .int .i64 0, .int .i64 0]) ?_ 1 _ rfl; (with_reducible repeat (first | refine blk_drewN ?_ _ | refine blk_drew ?_ | refine blk_alloc ?_ _)); refine blk_put (cs := #[.int .i64 0, .int .i64 0, .bool false, .bool false, .slice none 0 0, .slice none 0 0, .int .i64 0, .int .i64 0]) ?_ 0 _ rfl; (with_reducible repeat (first | refine blk_drewN ?_ _ | refine blk_drew ?_ | refine blk_alloc ?_ _)); exact BK318.out) hb); have n6_ := Aside0.mk (below_step (by repeat (first | (with_reducible first | exact HB.out | apply below_alloc | apply pw_below_drewN | apply below_drew1 | refine below_set ?_ GE291.out | refine below_set ?_ GE318.out) | exact HB.out)) hb); clear HO299; clear HO302; clear HO312; clear HO315; clear BK291; clear BK318; clear HB; have HO299 := n0_; have HO302 := n1_; have HO312 := n2_; have HO315 := n3_; have BK291 := n4_; have BK318 := n5_; have HB := n6_; clear n0_ n1_ n2_ n3_ n4_ n5_ n6_; (try clear hb); (try clear hb2); (try clear hk); (try clear hi)))
        have n0_ := Aside0.mk (Kd.R_drew HO299.out)
        have n1_ := Aside0.mk (Kd.R_drew HO302.out)
        have n2_ := Aside0.mk (Kd.R_drew HO312.out)
        have n3_ := Aside0.mk (Kd.R_drew HO315.out)
        have n4_ := Aside0.mk (blk_drew BK291.out)
        have n5_ := Aside0.mk (blk_drew BK318.out)
        have n6_ := Aside0.mk (below_drew1 HB.out)
        clear HO299
        clear HO302
        clear HO312
        clear HO315
        clear BK291
        clear BK318
        clear HB
        have HO299 := n0_
        have HO302 := n1_
        have HO312 := n2_
        have HO315 := n3_
        have BK291 := n4_
        have BK318 := n5_
        have HB := n6_
        clear n0_ n1_ n2_ n3_ n4_ n5_ n6_
        refine start_ (n := 5) (S := fun w' => w'.cell? ⟨gb318, 0, none⟩ = some (.int .i64 t306) ∧ w'.cell? ⟨gb318, 1, none⟩ = some (.int .i64 t307) ∧ w'.cell? ⟨gb318, 2, none⟩ = some (.bool t308) ∧ w'.cell? ⟨gb318, 3, none⟩ = some (.bool t309) ∧ w'.cell? ⟨gb318, 4, none⟩ = some (.slice Ao46 t310.length co46) ∧ w'.cell? ⟨gb318, 5, none⟩ = some (.slice Ao47 t313.length co47) ∧ w'.cell? ⟨gb318, 6, none⟩ = some (.int .i64 t316) ∧ w'.cell? ⟨gb318, 7, none⟩ = some (.int .i64 t317) ∧ w'.cell? ⟨gb291, 0, none⟩ = some (.int .i64 a0_0) ∧ w'.cell? ⟨gb291, 1, none⟩ = some (.int .i64 a0_1) ∧ w'.cell? ⟨gb291, 2, none⟩ = some (.bool a0_2) ∧ w'.cell? ⟨gb291, 3, none⟩ = some (.bool a0_3) ∧ w'.cell? ⟨gb291, 4, none⟩ = some (.slice A0_4 l0_4.length c0_4) ∧ w'.cell? ⟨gb291, 5, none⟩ = some (.slice A0_5 l0_5.length c0_5) ∧ w'.cell? ⟨gb291, 6, none⟩ = some (.int .i64 a0_6) ∧ w'.cell? ⟨gb291, 7, none⟩ = some (.int .i64 a0_7)) (ds := []) #[false, false, false, false, false] (by kernel_rfl) rfl rfl ⟨(blk_cell BK318.out 0).trans rfl, (blk_cell BK318.out 1).trans rfl, (blk_cell BK318.out 2).trans rfl, (blk_cell BK318.out 3).trans rfl, (blk_cell BK318.out 4).trans rfl, (blk_cell BK318.out 5).trans rfl, (blk_cell BK318.out 6).trans rfl, (blk_cell BK318.out 7).trans rfl, (blk_cell BK291.out 0).trans rfl, (blk_cell BK291.out 1).trans rfl, (blk_cell BK291.out 2).trans rfl, (blk_cell BK291.out 3).trans rfl, (blk_cell BK291.out 4).trans rfl, (blk_cell BK291.out 5).trans rfl, (blk_cell BK291.out 6).trans rfl, (blk_cell BK291.out 7).trans rfl⟩ (fun hHeld => ?_)
        generalize w48.drew = w49 at HO299 HO302 HO312 HO315 BK291 BK318 HB hHeld ⊢
        refine take_ (i := 0) (N := some 30) (v := ?_) (a' := ?_) #[true, false, false, false, false] rfl rfl (by kernel_rfl) (fun _ _ _ h => h) (Or.inl ⟨by rfl, ?_⟩) hHeld ?_ ?_
        rotate_left
        · rintro w' ⟨s0, s1, s2, s3, s4, s5, s6, s7, s8, s9, s10, s11, s12, s13, s14, s15⟩
          go_simp
          with_reducible rfl
        rotate_left
        · simp only [Act.put, List.setIfInBounds_toArray, List.set_cons_zero, List.set_cons_succ, i64_w, i32_w]
          rfl
        refine take_ (i := 1) (N := some 31) (v := ?_) (a' := ?_) #[true, true, false, false, false] rfl rfl (by kernel_rfl) (fun _ _ _ h => h) (Or.inl ⟨by rfl, ?_⟩) hHeld ?_ ?_
        rotate_left
        · rintro w' ⟨s0, s1, s2, s3, s4, s5, s6, s7, s8, s9, s10, s11, s12, s13, s14, s15⟩
          go_simp
          with_reducible rfl
        rotate_left
        · simp only [Act.put, List.setIfInBounds_toArray, List.set_cons_zero, List.set_cons_succ, i64_w, i32_w]
          rfl
        refine one_ (i := 2) (N := some 32) #[true, true, true, false, false] rfl rfl (by kernel_rfl) (by decide) (fun K hK => ?_)
        refine goes_ Try.func76 (by kernel_rfl) rfl #[.agg #[.int .i64 a0_0, .int .i64 a0_1, .bool a0_2, .bool a0_3, .slice A0_4 l0_4.length c0_4, .slice A0_5 l0_5.length c0_5, .int .i64 a0_6, .int .i64 a0_7]] (by rfl) rfl rfl (by (try simp only [List.map_toArray, List.map_cons, List.map_nil]); first | done | rfl | (simp only [List.length_drop, List.length_take]; rfl)) ?_
        with_reducible refine (laws_toRules.calls k a0_0 a0_1 a0_2 a0_3 _ _ l0_4 _ _ l0_5 a0_6 a0_7 t320 t321 t322 t323 t324 t327 t330 t331 _ ?side1 ?side2 ?side3 ?side4 A30.out).mono ?_
        (case side1 => repeat (first | exact (Kd.C_below HR0_4.out HB.out) | (with_reducible refine Kd.C_alloc ?_ _) | (with_reducible refine Kd.C_drewN ?_ _) | (with_reducible refine Kd.C_drew ?_)))
        (case side2 => exact HC0_4.out)
        (case side3 => repeat (first | exact (Kd.C_below HR0_5.out HB.out) | (with_reducible refine Kd.C_alloc ?_ _) | (with_reducible refine Kd.C_drewN ?_ _) | (with_reducible refine Kd.C_drew ?_)))
        (case side4 => exact HC0_5.out)
        rintro e w50 ⟨v325, v328, rfl, ho0, ho1, hb⟩
        refine ⟨_, rfl, ?_⟩
        have n0_ := Aside0.mk (Kd.R_mono (Kd.R_told (Kd.R_told (Kd.R_old (by (with_reducible repeat (first | apply Kd.R_alloc | apply Kd.R_drewN | apply Kd.R_drew)); exact HO299.out) hb) (Kd.R_base ho0)) (Kd.R_base ho1)) (fun _ h_ => h_.1))
        have n1_ := Aside0.mk (Kd.R_mono (Kd.R_told (Kd.R_told (Kd.R_old (by (with_reducible repeat (first | apply Kd.R_alloc | apply Kd.R_drewN | apply Kd.R_drew)); exact HO302.out) hb) (Kd.R_base ho0)) (Kd.R_base ho1)) (fun _ h_ => h_.1))
        have n2_ := Aside0.mk (Kd.R_mono (Kd.R_told (Kd.R_told (Kd.R_old (by (with_reducible repeat (first | apply Kd.R_alloc | apply Kd.R_drewN | apply Kd.R_drew)); exact HO312.out) hb) (Kd.R_base ho0)) (Kd.R_base ho1)) (fun _ h_ => h_.1))
        have n3_ := Aside0.mk (Kd.R_mono (Kd.R_told (Kd.R_told (Kd.R_old (by (with_reducible repeat (first | apply Kd.R_alloc | apply Kd.R_drewN | apply Kd.R_drew)); exact HO315.out) hb) (Kd.R_base ho0)) (Kd.R_base ho1)) (fun _ h_ => h_.1))
        have n4_ := Aside0.mk (Kd.R_lower (Kd.R_new' (Kd.R_new' (Kd.R_new' (Kd.R_new' ho0 (Kd.R_lt (by (with_reducible repeat (first | apply Kd.R_alloc | apply Kd.R_drewN | apply Kd.R_drew)); exact HO299.out))) (Kd.R_lt (by (with_reducible repeat (first | apply Kd.R_alloc | apply Kd.R_drewN | apply Kd.R_drew)); exact HO302.out))) (Kd.R_lt (by (with_reducible repeat (first | apply Kd.R_alloc | apply Kd.R_drewN | apply Kd.R_drew)); exact HO312.out))) (Kd.R_lt (by (with_reducible repeat (first | apply Kd.R_alloc | apply Kd.R_drewN | apply Kd.R_drew)); exact HO315.out))) (below_size (by repeat (first | (with_reducible first | exact HB.out | apply below_alloc | apply pw_below_drewN | apply below_drew1 | refine below_set ?_ GE291.out | refine below_set ?_ GE318.out) | exact HB.out))))
        have n5_ := Aside0.mk (Kd.R_lower (Kd.R_new' (Kd.R_new' (Kd.R_new' (Kd.R_new' ho1 (Kd.R_lt (by (with_reducible repeat (first | apply Kd.R_alloc | apply Kd.R_drewN | apply Kd.R_drew)); exact HO299.out))) (Kd.R_lt (by (with_reducible repeat (first | apply Kd.R_alloc | apply Kd.R_drewN | apply Kd.R_drew)); exact HO302.out))) (Kd.R_lt (by (with_reducible repeat (first | apply Kd.R_alloc | apply Kd.R_drewN | apply Kd.R_drew)); exact HO312.out))) (Kd.R_lt (by (with_reducible repeat (first | apply Kd.R_alloc | apply Kd.R_drewN | apply Kd.R_drew)); exact HO315.out))) (below_size (by repeat (first | (with_reducible first | exact HB.out | apply below_alloc | apply pw_below_drewN | apply below_drew1 | refine below_set ?_ GE291.out | refine below_set ?_ GE318.out) | exact HB.out))))
        have n6_ := Aside0.mk (blk_below (g := gb291) (o := .cells #[.int .i64 a0_0, .int .i64 a0_1, .bool a0_2, .bool a0_3, .slice A0_4 l0_4.length c0_4, .slice A0_5 l0_5.length c0_5, .int .i64 a0_6, .int .i64 a0_7] 68 (0, 0)) (by (with_reducible repeat (first | refine blk_drewN ?_ _ | refine blk_drew ?_ | refine blk_alloc ?_ _)); exact BK291.out) hb)
        have n7_ := Aside0.mk (blk_below (g := gb318) (o := .cells #[.int .i64 t306, .int .i64 t307, .bool t308, .bool t309, .slice Ao46 t310.length co46, .slice Ao47 t313.length co47, .int .i64 t316, .int .i64 t317] 74 (0, 0)) (by (with_reducible repeat (first | refine blk_drewN ?_ _ | refine blk_drew ?_ | refine blk_alloc ?_ _)); exact BK318.out) hb)
        have n8_ := Aside0.mk (below_step (by repeat (first | (with_reducible first | exact HB.out | apply below_alloc | apply pw_below_drewN | apply below_drew1 | refine below_set ?_ GE291.out | refine below_set ?_ GE318.out) | exact HB.out)) hb)
        clear HO299
        clear HO302
        clear HO312
        clear HO315
        clear BK291
        clear BK318
        clear HB
        have HO299 := n0_
        have HO302 := n1_
        have HO312 := n2_
        have HO315 := n3_
        have HO326 := n4_
        have HO329 := n5_
        have BK291 := n6_
        have BK318 := n7_
        have HB := n8_
        clear n0_ n1_ n2_ n3_ n4_ n5_ n6_ n7_ n8_
        (try clear hb)
        (try clear hb2)
        (try clear hk)
        (try clear hi)
        (try clear ho0)
        (try clear ho1)
        obtain ⟨Ao51, co51, eo51⟩ := Kd.R_slice HO326.out
        (first | subst eo51 | (injection eo51 with f1_ f2_ f3_; have f4_ := f1_.symm; have f5_ := f3_.symm; clear f1_ f2_ f3_; subst f4_; subst f5_))
        obtain ⟨Ao52, co52, eo52⟩ := Kd.R_slice HO329.out
        (first | subst eo52 | (injection eo52 with f1_ f2_ f3_; have f4_ := f1_.symm; have f5_ := f3_.symm; clear f1_ f2_ f3_; subst f4_; subst f5_))
        refine hK.out _ _ ⟨(blk_cell BK318.out 0).trans rfl, (blk_cell BK318.out 1).trans rfl, (blk_cell BK318.out 2).trans rfl, (blk_cell BK318.out 3).trans rfl, (blk_cell BK318.out 4).trans rfl, (blk_cell BK318.out 5).trans rfl, (blk_cell BK318.out 6).trans rfl, (blk_cell BK318.out 7).trans rfl, (blk_cell BK291.out 0).trans rfl, (blk_cell BK291.out 1).trans rfl, (blk_cell BK291.out 2).trans rfl, (blk_cell BK291.out 3).trans rfl, (blk_cell BK291.out 4).trans rfl, (blk_cell BK291.out 5).trans rfl, (blk_cell BK291.out 6).trans rfl, (blk_cell BK291.out 7).trans rfl⟩ (fun hHeld => ?_)
        clear hK K
        refine norm_ (a' := ?_) ?_ ?_
        rotate_left
        · show Act.put _ (some 32) _ = _
          simp only [Act.put, List.setIfInBounds_toArray, List.set_cons_zero, List.set_cons_succ, i64_w, i32_w]
          rfl
        refine one_ (i := 3) (N := some 33) #[true, true, true, true, false] rfl rfl (by kernel_rfl) (by decide) (fun K hK => ?_)
        refine goes_ Try.func77 (by kernel_rfl) rfl #[.agg #[.int .i64 t306, .int .i64 t307, .bool t308, .bool t309, .slice Ao46 t310.length co46, .slice Ao47 t313.length co47, .int .i64 t316, .int .i64 t317], .agg #[.int .i64 t320, .int .i64 t321, .bool t322, .bool t323, .slice Ao51 t324.length co51, .slice Ao52 t327.length co52, .int .i64 t330, .int .i64 t331]] (by rfl) rfl rfl (by (try simp only [List.map_toArray, List.map_cons, List.map_nil]); first | done | rfl | (simp only [List.length_drop, List.length_take]; rfl)) ?_
        with_reducible refine (laws_eqRules.calls k t306 t307 t308 t309 _ _ t310 _ _ t313 t316 t317 t320 t321 t322 t323 _ _ t324 _ _ t327 t330 t331 true _ ?side1 ?side2 ?side3 ?side4 ?side5 ?side6 ?side7 ?side8 A31.out).mono ?_
        (case side1 => repeat (first | exact (Kd.R_reads' HO312.out).2.2 | (with_reducible refine Kd.C_alloc ?_ _) | (with_reducible refine Kd.C_drewN ?_ _) | (with_reducible refine Kd.C_drew ?_)))
        (case side2 => exact (Kd.R_reads' HO312.out).2.1)
        (case side3 => repeat (first | exact (Kd.R_reads' HO315.out).2.2 | (with_reducible refine Kd.C_alloc ?_ _) | (with_reducible refine Kd.C_drewN ?_ _) | (with_reducible refine Kd.C_drew ?_)))
        (case side4 => exact (Kd.R_reads' HO315.out).2.1)
        (case side5 => repeat (first | exact (Kd.R_reads' HO326.out).2.2 | (with_reducible refine Kd.C_alloc ?_ _) | (with_reducible refine Kd.C_drewN ?_ _) | (with_reducible refine Kd.C_drew ?_)))
        (case side6 => exact (Kd.R_reads' HO326.out).2.1)
        (case side7 => repeat (first | exact (Kd.R_reads' HO329.out).2.2 | (with_reducible refine Kd.C_alloc ?_ _) | (with_reducible refine Kd.C_drewN ?_ _) | (with_reducible refine Kd.C_drew ?_)))
        (case side8 => exact (Kd.R_reads' HO329.out).2.1)
        rintro e w53 ⟨rfl, hb⟩
        refine ⟨_, rfl, ?_⟩
        have n0_ := Aside0.mk (Kd.R_below (by (with_reducible repeat (first | apply Kd.R_alloc | apply Kd.R_drewN | apply Kd.R_drew)); exact HO299.out) hb)
        have n1_ := Aside0.mk (Kd.R_below (by (with_reducible repeat (first | apply Kd.R_alloc | apply Kd.R_drewN | apply Kd.R_drew)); exact HO302.out) hb)
        have n2_ := Aside0.mk (Kd.R_below (by (with_reducible repeat (first | apply Kd.R_alloc | apply Kd.R_drewN | apply Kd.R_drew)); exact HO312.out) hb)
        have n3_ := Aside0.mk (Kd.R_below (by (with_reducible repeat (first | apply Kd.R_alloc | apply Kd.R_drewN | apply Kd.R_drew)); exact HO315.out) hb)
        have n4_ := Aside0.mk (Kd.R_below (by (with_reducible repeat (first | apply Kd.R_alloc | apply Kd.R_drewN | apply Kd.R_drew)); exact HO326.out) hb)
        have n5_ := Aside0.mk (Kd.R_below (by (with_reducible repeat (first | apply Kd.R_alloc | apply Kd.R_drewN | apply Kd.R_drew)); exact HO329.out) hb)
        have n6_ := Aside0.mk (blk_below (g := gb291) (o := .cells #[.int .i64 a0_0, .int .i64 a0_1, .bool a0_2, .bool a0_3, .slice A0_4 l0_4.length c0_4, .slice A0_5 l0_5.length c0_5, .int .i64 a0_6, .int .i64 a0_7] 68 (0, 0)) (by (with_reducible repeat (first | refine blk_drewN ?_ _ | refine blk_drew ?_ | refine blk_alloc ?_ _)); exact BK291.out) hb)
        have n7_ := Aside0.mk (blk_below (g := gb318) (o := .cells #[.int .i64 t306, .int .i64 t307, .bool t308, .bool t309, .slice Ao46 t310.length co46, .slice Ao47 t313.length co47, .int .i64 t316, .int .i64 t317] 74 (0, 0)) (by (with_reducible repeat (first | refine blk_drewN ?_ _ | refine blk_drew ?_ | refine blk_alloc ?_ _)); exact BK318.out) hb)
        have n8_ := Aside0.mk (below_step (by repeat (first | (with_reducible first | exact HB.out | apply below_alloc | apply pw_below_drewN | apply below_drew1 | refine below_set ?_ GE291.out | refine below_set ?_ GE318.out) | exact HB.out)) hb)
        clear HO299
        clear HO302
        clear HO312
        clear HO315
        clear HO326
        clear HO329
        clear BK291
        clear BK318
        clear HB
        have HO299 := n0_
        have HO302 := n1_
        have HO312 := n2_
        have HO315 := n3_
        have HO326 := n4_
        have HO329 := n5_
        have BK291 := n6_
        have BK318 := n7_
        have HB := n8_
        clear n0_ n1_ n2_ n3_ n4_ n5_ n6_ n7_ n8_
        (try clear hb)
        (try clear hb2)
        (try clear hk)
        (try clear hi)
        refine hK.out _ _ ⟨(blk_cell BK318.out 0).trans rfl, (blk_cell BK318.out 1).trans rfl, (blk_cell BK318.out 2).trans rfl, (blk_cell BK318.out 3).trans rfl, (blk_cell BK318.out 4).trans rfl, (blk_cell BK318.out 5).trans rfl, (blk_cell BK318.out 6).trans rfl, (blk_cell BK318.out 7).trans rfl, (blk_cell BK291.out 0).trans rfl, (blk_cell BK291.out 1).trans rfl, (blk_cell BK291.out 2).trans rfl, (blk_cell BK291.out 3).trans rfl, (blk_cell BK291.out 4).trans rfl, (blk_cell BK291.out 5).trans rfl, (blk_cell BK291.out 6).trans rfl, (blk_cell BK291.out 7).trans rfl⟩ (fun hHeld => ?_)
        clear hK K
        refine norm_ (a' := ?_) ?_ ?_
        rotate_left
        · show Act.put _ (some 33) _ = _
          simp only [Act.put, List.setIfInBounds_toArray, List.set_cons_zero, List.set_cons_succ, i64_w, i32_w]
          rfl
        refine pure_ (i := 4) (N := some 34) (v := ?_) (a' := ?_) #[true, true, true, true, true] rfl rfl (by kernel_rfl) (fun _ _ _ h => h) (Or.inl ⟨by rfl, ?_⟩) ?_ ?_
        rotate_left
        · intro w'
          go_simp
          with_reducible rfl
        rotate_left
        · simp only [Act.put, List.setIfInBounds_toArray, List.set_cons_zero, List.set_cons_succ, i64_w, i32_w]
          rfl
        refine done_ (by kernel_rfl) ?_
        try go_wp2
        go_ret
        exact ⟨by first | rfl | (simp [errW_none, errW_some] <;> rfl) | (simp [*, errW_none, errW_some] <;> rfl), by repeat (first | (with_reducible first | exact HB.out | apply below_alloc | apply pw_below_drewN | apply below_drew1 | refine below_set ?_ GE291.out | refine below_set ?_ GE318.out) | exact HB.out)⟩
      · replace c32 := Bool.eq_false_iff.mpr c32
        subst c32
        have H1 : (some false) = some r := by rw [if_neg (show ¬ (false = true) by decide)] at H; exact H
        clear H
        have H := H1
        clear H1
        exact absurd (Option.some.inj H) (by rw [HT.out]; decide)

end Go.Proofs.Ytdakhelapeojgaa.QFnExactFitsOn
