/- What a call of each Go function that FnExactEqualGames reaches comes to, as a Lean function: texts of the kit's print, turned by wip/remake.py. No condition beyond what each names. -/
import Derived.Test.YtdakhelapeojgaaQFnExactEqualGamesx1
namespace Go.Proofs.Ytdakhelapeojgaa.QFnExactEqualGames
open Go.RowKit Go.Proofs.YtdakhelapeojgaaW.PrintWords Go.Proofs.YtdakhelapeojgaaW.PrintLast Go.Proofs.YtdakhelapeojgaaW.PrintMore
attribute [local go_sem] max2_int min2_int max_two min_two max_three min_three max_four min_four   -- for this text's walks alone
set_option linter.unusedVariables false
set_option linter.unusedSimpArgs false

/-! ### spec_EqualRules: function 132 -/
def spec_EqualRules.f (k : Nat) (a0_0 : Int) (a0_1 : Int) (a0_2 : Bool) (a0_3 : Bool) (l0_4 : List Int) (l0_5 : List Int) (a0_6 : Int) (a0_7 : Int) (a1_0 : Int) (a1_1 : Int) (a1_2 : Bool) (a1_3 : Bool) (l1_4 : List Int) (l1_5 : List Int) (a1_6 : Int) (a1_7 : Int) : Option (Bool) := if a0_0 = a1_0 then (if a0_1 = a1_1 then (if (a0_2 == a1_2) = true then (if (a0_3 == a1_3) = true then ((spec_EqualInts.f k l0_4 l1_4).bind fun t176 => (if t176 = true then ((spec_EqualInts.f k l0_5 l1_5).bind fun t177 => (if t177 = true then (if a0_6 = a1_6 then (some (a0_7 == a1_7)) else (some false)) else (some false))) else (some false))) else (some false)) else (some false)) else (some false)) else (some false)
theorem spec_EqualRules.mono : ∀ a0 a1 a2 a3 a4 a5 a6 a7 a8 a9 a10 a11 a12 a13 a14 a15 k, LeO (spec_EqualRules.f k a0 a1 a2 a3 a4 a5 a6 a7 a8 a9 a10 a11 a12 a13 a14 a15) (spec_EqualRules.f (k + 1) a0 a1 a2 a3 a4 a5 a6 a7 a8 a9 a10 a11 a12 a13 a14 a15) := by
  intro a0 a1 a2 a3 a4 a5 a6 a7 a8 a9 a10 a11 a12 a13 a14 a15 k
  unfold spec_EqualRules.f
  repeat' first
      | (with_reducible exact spec_EqualInts.mono _ _ _)
      | (with_reducible exact LeO.refl _)
      | (with_reducible exact LeO.none _)
      | (with_reducible refine LeO.ite ?_ ?_)
      | (with_reducible refine LeO.bind ?_ (fun _ => ?_))
      | exact spec_EqualInts.mono _ _ _
      | exact LeO.none _
      | refine LeO.ite ?_ ?_
      | refine LeO.bind ?_ (fun _ => ?_)
set_option maxHeartbeats 8000000 in
set_option maxRecDepth 100000 in
theorem spec_EqualRules.calls (k : Nat) (a0_0 : Int) (a0_1 : Int) (a0_2 : Bool) (a0_3 : Bool) (A0_4 : Option Addr) (c0_4 : Nat) (l0_4 : List Int) (A0_5 : Option Addr) (c0_5 : Nat) (l0_5 : List Int) (a0_6 : Int) (a0_7 : Int) (a1_0 : Int) (a1_1 : Int) (a1_2 : Bool) (a1_3 : Bool) (A1_4 : Option Addr) (c1_4 : Nat) (l1_4 : List Int) (A1_5 : Option Addr) (c1_5 : Nat) (l1_5 : List Int) (a1_6 : Int) (a1_7 : Int) (r : Bool) (w : World) (hr0_4 : Kd.C (Kd.int .i64) w A0_4 l0_4.length l0_4) (hc0_4 : l0_4.length ≤ c0_4) (hr0_5 : Kd.C (Kd.int .i64) w A0_5 l0_5.length l0_5) (hc0_5 : l0_5.length ≤ c0_5) (hr1_4 : Kd.C (Kd.int .i64) w A1_4 l1_4.length l1_4) (hc1_4 : l1_4.length ≤ c1_4) (hr1_5 : Kd.C (Kd.int .i64) w A1_5 l1_5.length l1_5) (hc1_5 : l1_5.length ≤ c1_5) (h : spec_EqualRules.f k a0_0 a0_1 a0_2 a0_3 l0_4 l0_5 a0_6 a0_7 a1_0 a1_1 a1_2 a1_3 l1_4 l1_5 a1_6 a1_7 = some r) :
    Calls Try.prog 132 #[.agg #[.int .i64 a0_0, .int .i64 a0_1, .bool a0_2, .bool a0_3, .slice A0_4 l0_4.length c0_4, .slice A0_5 l0_5.length c0_5, .int .i64 a0_6, .int .i64 a0_7], .agg #[.int .i64 a1_0, .int .i64 a1_1, .bool a1_2, .bool a1_3, .slice A1_4 l1_4.length c1_4, .slice A1_5 l1_5.length c1_5, .int .i64 a1_6, .int .i64 a1_7]] w fun e w' => e = .returned (.bool r) ∧ Below w.heap.size w w' := by
  have hu74 := Try.underlying74
  have HR0_4 := Aside0.mk hr0_4
  have HC0_4 := Aside0.mk hc0_4
  clear hr0_4 hc0_4
  have HR0_5 := Aside0.mk hr0_5
  have HC0_5 := Aside0.mk hc0_5
  clear hr0_5 hc0_5
  have HR1_4 := Aside0.mk hr1_4
  have HC1_4 := Aside0.mk hc1_4
  clear hr1_4 hc1_4
  have HR1_5 := Aside0.mk hr1_5
  have HC1_5 := Aside0.mk hc1_5
  clear hr1_5 hc1_5
  have HB := Aside0.mk (Below.refl w.heap.size w)
  have H : (if a0_0 = a1_0 then (if a0_1 = a1_1 then (if (a0_2 == a1_2) = true then (if (a0_3 == a1_3) = true then ((spec_EqualInts.f k l0_4 l1_4).bind fun t176 => (if t176 = true then ((spec_EqualInts.f k l0_5 l1_5).bind fun t177 => (if t177 = true then (if a0_6 = a1_6 then (some (a0_7 == a1_7)) else (some false)) else (some false))) else (some false))) else (some false)) else (some false)) else (some false)) else (some false)) = some r := h
  clear h
  by_cases c3 : a0_0 = a1_0
  rotate_left
  rw [if_neg c3] at H
  have c3b0 : (a0_0 == a1_0) = false := beq_eq_false_iff_ne.mpr c3
  have c3b1 : (a0_0 != a1_0) = true := bne_iff_ne.mpr c3
  obtain rfl := Option.some.inj H
  rotate_right
  rw [if_pos c3] at H
  have c3b0 : (a0_0 == a1_0) = true := beq_iff_eq.mpr c3
  have c3b1 : (a0_0 != a1_0) = false := bne_eq_false_iff_eq.mpr c3
  clear c3
  by_cases c4 : a0_1 = a1_1
  rotate_left
  rw [if_neg c4] at H
  have c4b0 : (a0_1 == a1_1) = false := beq_eq_false_iff_ne.mpr c4
  have c4b1 : (a0_1 != a1_1) = true := bne_iff_ne.mpr c4
  obtain rfl := Option.some.inj H
  rotate_right
  rw [if_pos c4] at H
  have c4b0 : (a0_1 == a1_1) = true := beq_iff_eq.mpr c4
  have c4b1 : (a0_1 != a1_1) = false := bne_eq_false_iff_eq.mpr c4
  clear c4
  by_cases c5 : (a0_2 == a1_2) = true
  rotate_left
  rw [if_neg c5] at H
  have c5b0 : (a0_2 == a1_2) = false := by simpa using c5
  (try (have c5b1 : decide (a0_2 = a1_2) = false := by simpa using c5))
  (try (have c5b2 : (a0_2 == a1_2) = false := by simpa using c5))
  (try (have c5b3 : ¬ (a0_2 = a1_2) := by simpa using c5))
  clear c5
  obtain rfl := Option.some.inj H
  rotate_right
  rw [if_pos c5] at H
  have c5b0 : (a0_2 == a1_2) = true := c5
  (try (have c5b1 : decide (a0_2 = a1_2) = true := by simpa using c5))
  (try (have c5b2 : (a0_2 == a1_2) = true := by simpa using c5))
  clear c5
  by_cases c6 : (a0_3 == a1_3) = true
  rotate_left
  rw [if_neg c6] at H
  have c6b0 : (a0_3 == a1_3) = false := by simpa using c6
  (try (have c6b1 : decide (a0_3 = a1_3) = false := by simpa using c6))
  (try (have c6b2 : (a0_3 == a1_3) = false := by simpa using c6))
  (try (have c6b3 : ¬ (a0_3 = a1_3) := by simpa using c6))
  clear c6
  obtain rfl := Option.some.inj H
  rotate_right
  rw [if_pos c6] at H
  have c6b0 : (a0_3 == a1_3) = true := c6
  (try (have c6b1 : decide (a0_3 = a1_3) = true := by simpa using c6))
  (try (have c6b2 : (a0_3 == a1_3) = true := by simpa using c6))
  clear c6
  replace H := Option.bind_eq_some_iff.mp H
  obtain ⟨t176, A70, H⟩ := H
  have A7 := Aside0.mk A70
  clear A70
  by_cases c8 : t176 = true
  rotate_left
  replace c8 := Bool.eq_false_iff.mpr c8
  subst c8
  rw [if_neg (show ¬ (false = true) by decide)] at H
  obtain rfl := Option.some.inj H
  rotate_right
  subst c8
  rw [if_pos rfl] at H
  replace H := Option.bind_eq_some_iff.mp H
  obtain ⟨t177, A90, H⟩ := H
  have A9 := Aside0.mk A90
  clear A90
  by_cases c10 : t177 = true
  rotate_left
  replace c10 := Bool.eq_false_iff.mpr c10
  subst c10
  rw [if_neg (show ¬ (false = true) by decide)] at H
  obtain rfl := Option.some.inj H
  rotate_right
  subst c10
  rw [if_pos rfl] at H
  by_cases c11 : a0_6 = a1_6
  rotate_left
  rw [if_neg c11] at H
  have c11b0 : (a0_6 == a1_6) = false := beq_eq_false_iff_ne.mpr c11
  have c11b1 : (a0_6 != a1_6) = true := bne_iff_ne.mpr c11
  obtain rfl := Option.some.inj H
  rotate_right
  rw [if_pos c11] at H
  have c11b0 : (a0_6 == a1_6) = true := beq_iff_eq.mpr c11
  have c11b1 : (a0_6 != a1_6) = false := bne_eq_false_iff_eq.mpr c11
  clear c11
  obtain rfl := Option.some.inj H
  all_goals
    go_enter Try.func132, Try.ntmps132
    go_wp2_with (first | ((with_reducible refine gate_dst (N := 2) rfl ?_); refine box_event ?hg (N := 2) ?hd (cs := #[.int .i64 a0_0, .int .i64 a0_1, .bool a0_2, .bool a0_3, .slice A0_4 l0_4.length c0_4, .slice A0_5 l0_5.length c0_5, .int .i64 a0_6, .int .i64 a0_7]) (t := 74) ?hr ?_; (case hd => rfl); (case hg => rfl); (case hr => first | (go_simp; done) | (go_simp; rfl)); intro gb174 hg w22 hbox hb; have n0_ := Aside0.mk (below_step (by repeat (first | (with_reducible first | exact HB.out | apply below_alloc | apply pw_below_drewN | apply below_drew1) | exact HB.out)) hb); have n1_ := Aside0.mk (hbox); have n2_ := Aside0.mk ((by rw [hg]; exact (below_size (by repeat (first | (with_reducible first | exact HB.out | apply below_alloc | apply pw_below_drewN | apply below_drew1) | exact HB.out))) : w.heap.size ≤ gb174)); have n3_ := Aside0.mk ((by rw [hg]; exact (below_size (by repeat (first | (with_reducible first | exact HB.out | apply below_alloc | apply pw_below_drewN | apply below_drew1) | exact HB.out))) : w.heap.size ≤ gb174)); clear HB; have HB := n0_; have BK174 := n1_; have GW174 := n2_; have GE174 := n3_; clear n0_ n1_ n2_ n3_; clear hb hbox hg) | ((with_reducible refine gate_dst (N := 3) rfl ?_); refine box_event ?hg (N := 3) ?hd (cs := #[.int .i64 a1_0, .int .i64 a1_1, .bool a1_2, .bool a1_3, .slice A1_4 l1_4.length c1_4, .slice A1_5 l1_5.length c1_5, .int .i64 a1_6, .int .i64 a1_7]) (t := 74) ?hr ?_; (case hd => rfl); (case hg => rfl); (case hr => first | (go_simp; done) | (go_simp; rfl)); intro gb175 hg w23 hbox hb; have n0_ := Aside0.mk (blk_below (g := gb174) (o := _) (by (with_reducible repeat (first | refine blk_drewN ?_ _ | refine blk_drew ?_ | refine blk_alloc ?_ _)); exact BK174.out) hb); have n1_ := Aside0.mk (below_step (by repeat (first | (with_reducible first | exact HB.out | apply below_alloc | apply pw_below_drewN | apply below_drew1 | refine below_set ?_ GE174.out) | exact HB.out)) hb); have n2_ := Aside0.mk (hbox); have n3_ := Aside0.mk ((by rw [hg]; exact (below_size (by repeat (first | (with_reducible first | exact HB.out | apply below_alloc | apply pw_below_drewN | apply below_drew1 | refine below_set ?_ GE174.out) | exact HB.out))) : w.heap.size ≤ gb175)); have n4_ := Aside0.mk ((by rw [hg]; exact (below_size (by repeat (first | (with_reducible first | exact HB.out | apply below_alloc | apply pw_below_drewN | apply below_drew1 | refine below_set ?_ GE174.out) | exact HB.out))) : w.heap.size ≤ gb175)); have n5_ := Aside0.mk ((by rw [hg]; exact Nat.ne_of_lt (blk_lt (g := gb174) (o := _) (by (with_reducible repeat (first | refine blk_drewN ?_ _ | refine blk_drew ?_ | refine blk_alloc ?_ _)); exact BK174.out)) : gb174 ≠ gb175)); have n6_ := Aside0.mk ((by rw [hg]; exact Nat.ne_of_gt (blk_lt (g := gb174) (o := _) (by (with_reducible repeat (first | refine blk_drewN ?_ _ | refine blk_drew ?_ | refine blk_alloc ?_ _)); exact BK174.out)) : gb175 ≠ gb174)); clear BK174; clear HB; have BK174 := n0_; have HB := n1_; have BK175 := n2_; have GW175 := n3_; have GE175 := n4_; have NB174_175 := n5_; have NB175_174 := n6_; clear n0_ n1_ n2_ n3_ n4_ n5_ n6_; clear hb hbox hg; have hnb24 := NB174_175.out; have hnc24 := NB175_174.out; have hcz25_0 : w23.cell? ⟨gb174, 0, none⟩ = some (.int .i64 a0_0) := (blk_cell BK174.out 0).trans rfl; have hcz25_1 : w23.cell? ⟨gb174, 1, none⟩ = some (.int .i64 a0_1) := (blk_cell BK174.out 1).trans rfl; have hcz25_2 : w23.cell? ⟨gb174, 2, none⟩ = some (.bool a0_2) := (blk_cell BK174.out 2).trans rfl; have hcz25_3 : w23.cell? ⟨gb174, 3, none⟩ = some (.bool a0_3) := (blk_cell BK174.out 3).trans rfl; have hcz25_4 : w23.cell? ⟨gb174, 4, none⟩ = some (.slice A0_4 l0_4.length c0_4) := (blk_cell BK174.out 4).trans rfl; have hcz25_5 : w23.cell? ⟨gb174, 5, none⟩ = some (.slice A0_5 l0_5.length c0_5) := (blk_cell BK174.out 5).trans rfl; have hcz25_6 : w23.cell? ⟨gb174, 6, none⟩ = some (.int .i64 a0_6) := (blk_cell BK174.out 6).trans rfl; have hcz25_7 : w23.cell? ⟨gb174, 7, none⟩ = some (.int .i64 a0_7) := (blk_cell BK174.out 7).trans rfl; have hfz25_0 := blk_frozen BK174.out 0; have hfz25_1 := blk_frozen BK174.out 1; have hfz25_2 := blk_frozen BK174.out 2; have hfz25_3 := blk_frozen BK174.out 3; have hfz25_4 := blk_frozen BK174.out 4; have hfz25_5 := blk_frozen BK174.out 5; have hfz25_6 := blk_frozen BK174.out 6; have hfz25_7 := blk_frozen BK174.out 7; have hcz26_0 : w23.cell? ⟨gb175, 0, none⟩ = some (.int .i64 a1_0) := (blk_cell BK175.out 0).trans rfl; have hcz26_1 : w23.cell? ⟨gb175, 1, none⟩ = some (.int .i64 a1_1) := (blk_cell BK175.out 1).trans rfl; have hcz26_2 : w23.cell? ⟨gb175, 2, none⟩ = some (.bool a1_2) := (blk_cell BK175.out 2).trans rfl; have hcz26_3 : w23.cell? ⟨gb175, 3, none⟩ = some (.bool a1_3) := (blk_cell BK175.out 3).trans rfl; have hcz26_4 : w23.cell? ⟨gb175, 4, none⟩ = some (.slice A1_4 l1_4.length c1_4) := (blk_cell BK175.out 4).trans rfl; have hcz26_5 : w23.cell? ⟨gb175, 5, none⟩ = some (.slice A1_5 l1_5.length c1_5) := (blk_cell BK175.out 5).trans rfl; have hcz26_6 : w23.cell? ⟨gb175, 6, none⟩ = some (.int .i64 a1_6) := (blk_cell BK175.out 6).trans rfl; have hcz26_7 : w23.cell? ⟨gb175, 7, none⟩ = some (.int .i64 a1_7) := (blk_cell BK175.out 7).trans rfl; have hfz26_0 := blk_frozen BK175.out 0; have hfz26_1 := blk_frozen BK175.out 1; have hfz26_2 := blk_frozen BK175.out 2; have hfz26_3 := blk_frozen BK175.out 3; have hfz26_4 := blk_frozen BK175.out 4; have hfz26_5 := blk_frozen BK175.out 5; have hfz26_6 := blk_frozen BK175.out 6; have hfz26_7 := blk_frozen BK175.out 7) | (go_at_call 131; (with_reducible refine (spec_EqualInts.calls k _ _ l0_4 _ _ l1_4 _ _ ?side1 ?side2 ?side3 ?side4 A7.out).mono ?_); (case side1 => repeat (first | exact (Kd.C_below HR0_4.out HB.out) | (with_reducible refine Kd.C_alloc ?_ _) | (with_reducible refine Kd.C_drewN ?_ _) | (with_reducible refine Kd.C_drew ?_))); (case side2 => exact HC0_4.out); (case side3 => repeat (first | exact (Kd.C_below HR1_4.out HB.out) | (with_reducible refine Kd.C_alloc ?_ _) | (with_reducible refine Kd.C_drewN ?_ _) | (with_reducible refine Kd.C_drew ?_))); (case side4 => exact HC1_4.out); rintro e w' ⟨rfl, ⟨nd, rfl⟩⟩) | (go_at_call 131; (with_reducible refine (spec_EqualInts.calls k _ _ l0_5 _ _ l1_5 _ _ ?side1 ?side2 ?side3 ?side4 A9.out).mono ?_); (case side1 => repeat (first | exact (Kd.C_below HR0_5.out (by repeat (first | (with_reducible first | exact HB.out | apply below_alloc | apply pw_below_drewN | apply below_drew1 | refine below_set ?_ GE174.out | refine below_set ?_ GE175.out) | exact HB.out))) | (with_reducible refine Kd.C_alloc ?_ _) | (with_reducible refine Kd.C_drewN ?_ _) | (with_reducible refine Kd.C_drew ?_))); (case side2 => exact HC0_5.out); (case side3 => repeat (first | exact (Kd.C_below HR1_5.out (by repeat (first | (with_reducible first | exact HB.out | apply below_alloc | apply pw_below_drewN | apply below_drew1 | refine below_set ?_ GE174.out | refine below_set ?_ GE175.out) | exact HB.out))) | (with_reducible refine Kd.C_alloc ?_ _) | (with_reducible refine Kd.C_drewN ?_ _) | (with_reducible refine Kd.C_drew ?_))); (case side4 => exact HC1_5.out); rintro e w' ⟨rfl, ⟨nd, rfl⟩⟩))
    go_ret
    exact ⟨by first | rfl | (simp [errW_none, errW_some] <;> rfl) | (simp [*, errW_none, errW_some] <;> rfl), by repeat (first | (with_reducible first | exact HB.out | apply below_alloc | apply pw_below_drewN | apply below_drew1 | refine below_set ?_ GE174.out | refine below_set ?_ GE175.out) | exact HB.out)⟩

/-! ### spec_EqualGames: function 72 -/
def spec_EqualGames.l0 : Nat → Int → Int → Int → Bool → Bool → List Int → List Int → Int → Int → List (List Int) → List Int → List Int → Int → Int → Int → Int → Int → Bool → Bool → List Int → List Int → Int → Int → List (List Int) → List Int → List Int → Int → Int → Int → Option (Bool)
  | 0, _, _, _, _, _, _, _, _, _, _, _, _, _, _, _, _, _, _, _, _, _, _, _, _, _, _, _, _, _ => none
  | k + 1, x5, x179000, x179001, x179002, x179003, x179004, x179005, x179006, x179007, x179008, x179009, x179010, x179011, x179012, x179013, x180000, x180001, x180002, x180003, x180004, x180005, x180006, x180007, x180008, x180009, x180010, x180011, x180012, x180013 => if x5 < (x179008.length : Int) then (if 0 ≤ x5 then (if x5 < (x180008.length : Int) then ((spec_EqualInts.f k (rd_L1 x179008 x5) (rd_L1 x180008 x5)).bind fun t182 => (if t182 = true then (spec_EqualGames.l0 k (wrap64 (x5 + 1)) x179000 x179001 x179002 x179003 x179004 x179005 x179006 x179007 x179008 x179009 x179010 x179011 x179012 x179013 x180000 x180001 x180002 x180003 x180004 x180005 x180006 x180007 x180008 x180009 x180010 x180011 x180012 x180013) else (some false))) else (none)) else (none)) else ((spec_EqualRules.f k x179000 x179001 x179002 x179003 x179004 x179005 x179006 x179007 x180000 x180001 x180002 x180003 x180004 x180005 x180006 x180007).bind fun t183 => (if t183 = true then ((spec_EqualInts.f k x179009 x180009).bind fun t184 => (if t184 = true then ((spec_EqualInts.f k x179010 x180010).bind fun t185 => (if t185 = true then (if x179011 = x180011 then (if x179012 = x180012 then (some (x179013 == x180013)) else (some false)) else (some false)) else (some false))) else (some false))) else (some false)))
def spec_EqualGames.f (k : Nat) (a0_0 : Int) (a0_1 : Int) (a0_2 : Bool) (a0_3 : Bool) (l0_4 : List Int) (l0_5 : List Int) (a0_6 : Int) (a0_7 : Int) (l0_8 : List (List Int)) (l0_9 : List Int) (l0_10 : List Int) (a0_11 : Int) (a0_12 : Int) (a0_13 : Int) (a1_0 : Int) (a1_1 : Int) (a1_2 : Bool) (a1_3 : Bool) (l1_4 : List Int) (l1_5 : List Int) (a1_6 : Int) (a1_7 : Int) (l1_8 : List (List Int)) (l1_9 : List Int) (l1_10 : List Int) (a1_11 : Int) (a1_12 : Int) (a1_13 : Int) : Option (Bool) := if (l0_8.length : Int) = (l1_8.length : Int) then (spec_EqualGames.l0 k 0 a0_0 a0_1 a0_2 a0_3 l0_4 l0_5 a0_6 a0_7 l0_8 l0_9 l0_10 a0_11 a0_12 a0_13 a1_0 a1_1 a1_2 a1_3 l1_4 l1_5 a1_6 a1_7 l1_8 l1_9 l1_10 a1_11 a1_12 a1_13) else (some false)
theorem spec_EqualGames.mono_l : ∀ k, (∀ y0 y1 y2 y3 y4 y5 y6 y7 y8 y9 y10 y11 y12 y13 y14 y15 y16 y17 y18 y19 y20 y21 y22 y23 y24 y25 y26 y27 y28, LeO (spec_EqualGames.l0 k y0 y1 y2 y3 y4 y5 y6 y7 y8 y9 y10 y11 y12 y13 y14 y15 y16 y17 y18 y19 y20 y21 y22 y23 y24 y25 y26 y27 y28) (spec_EqualGames.l0 (k + 1) y0 y1 y2 y3 y4 y5 y6 y7 y8 y9 y10 y11 y12 y13 y14 y15 y16 y17 y18 y19 y20 y21 y22 y23 y24 y25 y26 y27 y28))
  | 0 => fun _ _ _ _ _ _ _ _ _ _ _ _ _ _ _ _ _ _ _ _ _ _ _ _ _ _ _ _ _ r h => by simp [spec_EqualGames.l0] at h
  | k + 1 => by
    have ih0 := spec_EqualGames.mono_l k
    · intro y0 y1 y2 y3 y4 y5 y6 y7 y8 y9 y10 y11 y12 y13 y14 y15 y16 y17 y18 y19 y20 y21 y22 y23 y24 y25 y26 y27 y28
      unfold spec_EqualGames.l0
      repeat' first
      | (with_reducible exact ih0 _ _ _ _ _ _ _ _ _ _ _ _ _ _ _ _ _ _ _ _ _ _ _ _ _ _ _ _ _)
      | (with_reducible exact spec_EqualInts.mono _ _ _)
      | (with_reducible exact spec_EqualRules.mono _ _ _ _ _ _ _ _ _ _ _ _ _ _ _ _ _)
      | (with_reducible exact LeO.refl _)
      | (with_reducible exact LeO.none _)
      | (with_reducible refine LeO.ite ?_ ?_)
      | (with_reducible refine LeO.bind ?_ (fun _ => ?_))
      | exact ih0 _ _ _ _ _ _ _ _ _ _ _ _ _ _ _ _ _ _ _ _ _ _ _ _ _ _ _ _ _
      | exact spec_EqualInts.mono _ _ _
      | exact spec_EqualRules.mono _ _ _ _ _ _ _ _ _ _ _ _ _ _ _ _ _
      | exact LeO.none _
      | refine LeO.ite ?_ ?_
      | refine LeO.bind ?_ (fun _ => ?_)
theorem spec_EqualGames.mono : ∀ a0 a1 a2 a3 a4 a5 a6 a7 a8 a9 a10 a11 a12 a13 a14 a15 a16 a17 a18 a19 a20 a21 a22 a23 a24 a25 a26 a27 k, LeO (spec_EqualGames.f k a0 a1 a2 a3 a4 a5 a6 a7 a8 a9 a10 a11 a12 a13 a14 a15 a16 a17 a18 a19 a20 a21 a22 a23 a24 a25 a26 a27) (spec_EqualGames.f (k + 1) a0 a1 a2 a3 a4 a5 a6 a7 a8 a9 a10 a11 a12 a13 a14 a15 a16 a17 a18 a19 a20 a21 a22 a23 a24 a25 a26 a27) := by
  intro a0 a1 a2 a3 a4 a5 a6 a7 a8 a9 a10 a11 a12 a13 a14 a15 a16 a17 a18 a19 a20 a21 a22 a23 a24 a25 a26 a27 k
  have ih0 := spec_EqualGames.mono_l k
  unfold spec_EqualGames.f
  repeat' first
      | (with_reducible exact ih0 _ _ _ _ _ _ _ _ _ _ _ _ _ _ _ _ _ _ _ _ _ _ _ _ _ _ _ _ _)
      | (with_reducible exact spec_EqualInts.mono _ _ _)
      | (with_reducible exact spec_EqualRules.mono _ _ _ _ _ _ _ _ _ _ _ _ _ _ _ _ _)
      | (with_reducible exact LeO.refl _)
      | (with_reducible exact LeO.none _)
      | (with_reducible refine LeO.ite ?_ ?_)
      | (with_reducible refine LeO.bind ?_ (fun _ => ?_))
      | exact ih0 _ _ _ _ _ _ _ _ _ _ _ _ _ _ _ _ _ _ _ _ _ _ _ _ _ _ _ _ _
      | exact spec_EqualInts.mono _ _ _
      | exact spec_EqualRules.mono _ _ _ _ _ _ _ _ _ _ _ _ _ _ _ _ _
      | exact LeO.none _
      | refine LeO.ite ?_ ?_
      | refine LeO.bind ?_ (fun _ => ?_)
set_option maxHeartbeats 8000000 in
set_option maxRecDepth 100000 in
theorem spec_EqualGames.calls (k : Nat) (a0_0 : Int) (a0_1 : Int) (a0_2 : Bool) (a0_3 : Bool) (A0_4 : Option Addr) (c0_4 : Nat) (l0_4 : List Int) (A0_5 : Option Addr) (c0_5 : Nat) (l0_5 : List Int) (a0_6 : Int) (a0_7 : Int) (A0_8 : Option Addr) (c0_8 : Nat) (l0_8 : List (List Int)) (A0_9 : Option Addr) (c0_9 : Nat) (l0_9 : List Int) (A0_10 : Option Addr) (c0_10 : Nat) (l0_10 : List Int) (a0_11 : Int) (a0_12 : Int) (a0_13 : Int) (a1_0 : Int) (a1_1 : Int) (a1_2 : Bool) (a1_3 : Bool) (A1_4 : Option Addr) (c1_4 : Nat) (l1_4 : List Int) (A1_5 : Option Addr) (c1_5 : Nat) (l1_5 : List Int) (a1_6 : Int) (a1_7 : Int) (A1_8 : Option Addr) (c1_8 : Nat) (l1_8 : List (List Int)) (A1_9 : Option Addr) (c1_9 : Nat) (l1_9 : List Int) (A1_10 : Option Addr) (c1_10 : Nat) (l1_10 : List Int) (a1_11 : Int) (a1_12 : Int) (a1_13 : Int) (r : Bool) (w : World) (hr0_4 : Kd.C (Kd.int .i64) w A0_4 l0_4.length l0_4) (hc0_4 : l0_4.length ≤ c0_4) (hr0_5 : Kd.C (Kd.int .i64) w A0_5 l0_5.length l0_5) (hc0_5 : l0_5.length ≤ c0_5) (hr0_8 : Kd.C (Kd.slice 3 (Kd.int .i64)) w A0_8 l0_8.length l0_8) (hc0_8 : l0_8.length ≤ c0_8) (hr0_9 : Kd.C (Kd.int .i64) w A0_9 l0_9.length l0_9) (hc0_9 : l0_9.length ≤ c0_9) (hr0_10 : Kd.C (Kd.int .i64) w A0_10 l0_10.length l0_10) (hc0_10 : l0_10.length ≤ c0_10) (hr1_4 : Kd.C (Kd.int .i64) w A1_4 l1_4.length l1_4) (hc1_4 : l1_4.length ≤ c1_4) (hr1_5 : Kd.C (Kd.int .i64) w A1_5 l1_5.length l1_5) (hc1_5 : l1_5.length ≤ c1_5) (hr1_8 : Kd.C (Kd.slice 3 (Kd.int .i64)) w A1_8 l1_8.length l1_8) (hc1_8 : l1_8.length ≤ c1_8) (hr1_9 : Kd.C (Kd.int .i64) w A1_9 l1_9.length l1_9) (hc1_9 : l1_9.length ≤ c1_9) (hr1_10 : Kd.C (Kd.int .i64) w A1_10 l1_10.length l1_10) (hc1_10 : l1_10.length ≤ c1_10) (h : spec_EqualGames.f k a0_0 a0_1 a0_2 a0_3 l0_4 l0_5 a0_6 a0_7 l0_8 l0_9 l0_10 a0_11 a0_12 a0_13 a1_0 a1_1 a1_2 a1_3 l1_4 l1_5 a1_6 a1_7 l1_8 l1_9 l1_10 a1_11 a1_12 a1_13 = some r) :
    Calls Try.prog 72 #[.agg #[.int .i64 a0_0, .int .i64 a0_1, .bool a0_2, .bool a0_3, .slice A0_4 l0_4.length c0_4, .slice A0_5 l0_5.length c0_5, .int .i64 a0_6, .int .i64 a0_7, .slice A0_8 l0_8.length c0_8, .slice A0_9 l0_9.length c0_9, .slice A0_10 l0_10.length c0_10, .int .i64 a0_11, .int .i64 a0_12, .int .i64 a0_13], .agg #[.int .i64 a1_0, .int .i64 a1_1, .bool a1_2, .bool a1_3, .slice A1_4 l1_4.length c1_4, .slice A1_5 l1_5.length c1_5, .int .i64 a1_6, .int .i64 a1_7, .slice A1_8 l1_8.length c1_8, .slice A1_9 l1_9.length c1_9, .slice A1_10 l1_10.length c1_10, .int .i64 a1_11, .int .i64 a1_12, .int .i64 a1_13]] w fun e w' => e = .returned (.bool r) ∧ Below w.heap.size w w' := by
  have hu76 := Try.underlying76
  have hu74 := Try.underlying74
  have HR0_4 := Aside0.mk hr0_4
  have HC0_4 := Aside0.mk hc0_4
  clear hr0_4 hc0_4
  have HR0_5 := Aside0.mk hr0_5
  have HC0_5 := Aside0.mk hc0_5
  clear hr0_5 hc0_5
  have HR0_8 := Aside0.mk hr0_8
  have HC0_8 := Aside0.mk hc0_8
  clear hr0_8 hc0_8
  have HR0_9 := Aside0.mk hr0_9
  have HC0_9 := Aside0.mk hc0_9
  clear hr0_9 hc0_9
  have HR0_10 := Aside0.mk hr0_10
  have HC0_10 := Aside0.mk hc0_10
  clear hr0_10 hc0_10
  have HR1_4 := Aside0.mk hr1_4
  have HC1_4 := Aside0.mk hc1_4
  clear hr1_4 hc1_4
  have HR1_5 := Aside0.mk hr1_5
  have HC1_5 := Aside0.mk hc1_5
  clear hr1_5 hc1_5
  have HR1_8 := Aside0.mk hr1_8
  have HC1_8 := Aside0.mk hc1_8
  clear hr1_8 hc1_8
  have HR1_9 := Aside0.mk hr1_9
  have HC1_9 := Aside0.mk hc1_9
  clear hr1_9 hc1_9
  have HR1_10 := Aside0.mk hr1_10
  have HC1_10 := Aside0.mk hc1_10
  clear hr1_10 hc1_10
  have HB := Aside0.mk (Below.refl w.heap.size w)
  have H : (if (l0_8.length : Int) = (l1_8.length : Int) then (spec_EqualGames.l0 k 0 a0_0 a0_1 a0_2 a0_3 l0_4 l0_5 a0_6 a0_7 l0_8 l0_9 l0_10 a0_11 a0_12 a0_13 a1_0 a1_1 a1_2 a1_3 l1_4 l1_5 a1_6 a1_7 l1_8 l1_9 l1_10 a1_11 a1_12 a1_13) else (some false)) = some r := h
  clear h
  by_cases c3 : (l0_8.length : Int) = (l1_8.length : Int)
  · rw [if_pos c3] at H
    have c3b0 : ((l0_8.length : Int) == (l1_8.length : Int)) = true := beq_iff_eq.mpr c3
    have c3b1 : ((l0_8.length : Int) != (l1_8.length : Int)) = false := bne_eq_false_iff_eq.mpr c3
    have c3b2 : (l0_8.length == l1_8.length) = true := by first | simpa using c3 | (simp at c3 ⊢; omega)
    clear c3
    have H' := Aside0.mk H
    clear H
    go_enter Try.func72, Try.ntmps72
    go_wp2_with (first | ((with_reducible refine gate_dst (N := 2) rfl ?_); refine box_event ?hg (N := 2) ?hd (cs := #[.int .i64 a0_0, .int .i64 a0_1, .bool a0_2, .bool a0_3, .slice A0_4 l0_4.length c0_4, .slice A0_5 l0_5.length c0_5, .int .i64 a0_6, .int .i64 a0_7, .slice A0_8 l0_8.length c0_8, .slice A0_9 l0_9.length c0_9, .slice A0_10 l0_10.length c0_10, .int .i64 a0_11, .int .i64 a0_12, .int .i64 a0_13]) (t := 76) ?hr ?_; (case hd => rfl); (case hg => rfl); (case hr => first | (go_simp; done) | (go_simp; rfl)); intro gb178 hg w4 hbox hb; have n0_ := Aside0.mk (below_step (by repeat (first | (with_reducible first | exact HB.out | apply below_alloc | apply pw_below_drewN | apply below_drew1) | exact HB.out)) hb); have n1_ := Aside0.mk (hbox); have n2_ := Aside0.mk ((by rw [hg]; exact (below_size (by repeat (first | (with_reducible first | exact HB.out | apply below_alloc | apply pw_below_drewN | apply below_drew1) | exact HB.out))) : w.heap.size ≤ gb178)); have n3_ := Aside0.mk ((by rw [hg]; exact (below_size (by repeat (first | (with_reducible first | exact HB.out | apply below_alloc | apply pw_below_drewN | apply below_drew1) | exact HB.out))) : w.heap.size ≤ gb178)); clear HB; have HB := n0_; have BK178 := n1_; have GW178 := n2_; have GE178 := n3_; clear n0_ n1_ n2_ n3_; clear hb hbox hg) | ((with_reducible refine gate_dst (N := 3) rfl ?_); refine box_event ?hg (N := 3) ?hd (cs := #[.int .i64 a1_0, .int .i64 a1_1, .bool a1_2, .bool a1_3, .slice A1_4 l1_4.length c1_4, .slice A1_5 l1_5.length c1_5, .int .i64 a1_6, .int .i64 a1_7, .slice A1_8 l1_8.length c1_8, .slice A1_9 l1_9.length c1_9, .slice A1_10 l1_10.length c1_10, .int .i64 a1_11, .int .i64 a1_12, .int .i64 a1_13]) (t := 76) ?hr ?_; (case hd => rfl); (case hg => rfl); (case hr => first | (go_simp; done) | (go_simp; rfl)); intro gb179 hg w5 hbox hb; have n0_ := Aside0.mk (blk_below (g := gb178) (o := _) (by (with_reducible repeat (first | refine blk_drewN ?_ _ | refine blk_drew ?_ | refine blk_alloc ?_ _)); exact BK178.out) hb); have n1_ := Aside0.mk (below_step (by repeat (first | (with_reducible first | exact HB.out | apply below_alloc | apply pw_below_drewN | apply below_drew1 | refine below_set ?_ GE178.out) | exact HB.out)) hb); have n2_ := Aside0.mk (hbox); have n3_ := Aside0.mk ((by rw [hg]; exact (below_size (by repeat (first | (with_reducible first | exact HB.out | apply below_alloc | apply pw_below_drewN | apply below_drew1 | refine below_set ?_ GE178.out) | exact HB.out))) : w.heap.size ≤ gb179)); have n4_ := Aside0.mk ((by rw [hg]; exact (below_size (by repeat (first | (with_reducible first | exact HB.out | apply below_alloc | apply pw_below_drewN | apply below_drew1 | refine below_set ?_ GE178.out) | exact HB.out))) : w.heap.size ≤ gb179)); have n5_ := Aside0.mk ((by rw [hg]; exact Nat.ne_of_lt (blk_lt (g := gb178) (o := _) (by (with_reducible repeat (first | refine blk_drewN ?_ _ | refine blk_drew ?_ | refine blk_alloc ?_ _)); exact BK178.out)) : gb178 ≠ gb179)); have n6_ := Aside0.mk ((by rw [hg]; exact Nat.ne_of_gt (blk_lt (g := gb178) (o := _) (by (with_reducible repeat (first | refine blk_drewN ?_ _ | refine blk_drew ?_ | refine blk_alloc ?_ _)); exact BK178.out)) : gb179 ≠ gb178)); clear BK178; clear HB; have BK178 := n0_; have HB := n1_; have BK179 := n2_; have GW179 := n3_; have GE179 := n4_; have NB178_179 := n5_; have NB179_178 := n6_; clear n0_ n1_ n2_ n3_ n4_ n5_ n6_; clear hb hbox hg; have hnb6 := NB178_179.out; have hnc6 := NB179_178.out; have hcz7_0 : w5.cell? ⟨gb178, 0, none⟩ = some (.int .i64 a0_0) := (blk_cell BK178.out 0).trans rfl; have hcz7_1 : w5.cell? ⟨gb178, 1, none⟩ = some (.int .i64 a0_1) := (blk_cell BK178.out 1).trans rfl; have hcz7_2 : w5.cell? ⟨gb178, 2, none⟩ = some (.bool a0_2) := (blk_cell BK178.out 2).trans rfl; have hcz7_3 : w5.cell? ⟨gb178, 3, none⟩ = some (.bool a0_3) := (blk_cell BK178.out 3).trans rfl; have hcz7_4 : w5.cell? ⟨gb178, 4, none⟩ = some (.slice A0_4 l0_4.length c0_4) := (blk_cell BK178.out 4).trans rfl; have hcz7_5 : w5.cell? ⟨gb178, 5, none⟩ = some (.slice A0_5 l0_5.length c0_5) := (blk_cell BK178.out 5).trans rfl; have hcz7_6 : w5.cell? ⟨gb178, 6, none⟩ = some (.int .i64 a0_6) := (blk_cell BK178.out 6).trans rfl; have hcz7_7 : w5.cell? ⟨gb178, 7, none⟩ = some (.int .i64 a0_7) := (blk_cell BK178.out 7).trans rfl; have hcz7_8 : w5.cell? ⟨gb178, 8, none⟩ = some (.slice A0_8 l0_8.length c0_8) := (blk_cell BK178.out 8).trans rfl; have hcz7_9 : w5.cell? ⟨gb178, 9, none⟩ = some (.slice A0_9 l0_9.length c0_9) := (blk_cell BK178.out 9).trans rfl; have hcz7_10 : w5.cell? ⟨gb178, 10, none⟩ = some (.slice A0_10 l0_10.length c0_10) := (blk_cell BK178.out 10).trans rfl; have hcz7_11 : w5.cell? ⟨gb178, 11, none⟩ = some (.int .i64 a0_11) := (blk_cell BK178.out 11).trans rfl; have hcz7_12 : w5.cell? ⟨gb178, 12, none⟩ = some (.int .i64 a0_12) := (blk_cell BK178.out 12).trans rfl; have hcz7_13 : w5.cell? ⟨gb178, 13, none⟩ = some (.int .i64 a0_13) := (blk_cell BK178.out 13).trans rfl; have hfz7_0 := blk_frozen BK178.out 0; have hfz7_1 := blk_frozen BK178.out 1; have hfz7_2 := blk_frozen BK178.out 2; have hfz7_3 := blk_frozen BK178.out 3; have hfz7_4 := blk_frozen BK178.out 4; have hfz7_5 := blk_frozen BK178.out 5; have hfz7_6 := blk_frozen BK178.out 6; have hfz7_7 := blk_frozen BK178.out 7; have hfz7_8 := blk_frozen BK178.out 8; have hfz7_9 := blk_frozen BK178.out 9; have hfz7_10 := blk_frozen BK178.out 10; have hfz7_11 := blk_frozen BK178.out 11; have hfz7_12 := blk_frozen BK178.out 12; have hfz7_13 := blk_frozen BK178.out 13; have hcz8_0 : w5.cell? ⟨gb179, 0, none⟩ = some (.int .i64 a1_0) := (blk_cell BK179.out 0).trans rfl; have hcz8_1 : w5.cell? ⟨gb179, 1, none⟩ = some (.int .i64 a1_1) := (blk_cell BK179.out 1).trans rfl; have hcz8_2 : w5.cell? ⟨gb179, 2, none⟩ = some (.bool a1_2) := (blk_cell BK179.out 2).trans rfl; have hcz8_3 : w5.cell? ⟨gb179, 3, none⟩ = some (.bool a1_3) := (blk_cell BK179.out 3).trans rfl; have hcz8_4 : w5.cell? ⟨gb179, 4, none⟩ = some (.slice A1_4 l1_4.length c1_4) := (blk_cell BK179.out 4).trans rfl; have hcz8_5 : w5.cell? ⟨gb179, 5, none⟩ = some (.slice A1_5 l1_5.length c1_5) := (blk_cell BK179.out 5).trans rfl; have hcz8_6 : w5.cell? ⟨gb179, 6, none⟩ = some (.int .i64 a1_6) := (blk_cell BK179.out 6).trans rfl; have hcz8_7 : w5.cell? ⟨gb179, 7, none⟩ = some (.int .i64 a1_7) := (blk_cell BK179.out 7).trans rfl; have hcz8_8 : w5.cell? ⟨gb179, 8, none⟩ = some (.slice A1_8 l1_8.length c1_8) := (blk_cell BK179.out 8).trans rfl; have hcz8_9 : w5.cell? ⟨gb179, 9, none⟩ = some (.slice A1_9 l1_9.length c1_9) := (blk_cell BK179.out 9).trans rfl; have hcz8_10 : w5.cell? ⟨gb179, 10, none⟩ = some (.slice A1_10 l1_10.length c1_10) := (blk_cell BK179.out 10).trans rfl; have hcz8_11 : w5.cell? ⟨gb179, 11, none⟩ = some (.int .i64 a1_11) := (blk_cell BK179.out 11).trans rfl; have hcz8_12 : w5.cell? ⟨gb179, 12, none⟩ = some (.int .i64 a1_12) := (blk_cell BK179.out 12).trans rfl; have hcz8_13 : w5.cell? ⟨gb179, 13, none⟩ = some (.int .i64 a1_13) := (blk_cell BK179.out 13).trans rfl; have hfz8_0 := blk_frozen BK179.out 0; have hfz8_1 := blk_frozen BK179.out 1; have hfz8_2 := blk_frozen BK179.out 2; have hfz8_3 := blk_frozen BK179.out 3; have hfz8_4 := blk_frozen BK179.out 4; have hfz8_5 := blk_frozen BK179.out 5; have hfz8_6 := blk_frozen BK179.out 6; have hfz8_7 := blk_frozen BK179.out 7; have hfz8_8 := blk_frozen BK179.out 8; have hfz8_9 := blk_frozen BK179.out 9; have hfz8_10 := blk_frozen BK179.out 10; have hfz8_11 := blk_frozen BK179.out 11; have hfz8_12 := blk_frozen BK179.out 12; have hfz8_13 := blk_frozen BK179.out 13))
    repeat (go_quiet (first | ((with_reducible refine gate_dst (N := 2) rfl ?_); refine box_event ?hg (N := 2) ?hd (cs := #[.int .i64 a0_0, .int .i64 a0_1, .bool a0_2, .bool a0_3, .slice A0_4 l0_4.length c0_4, .slice A0_5 l0_5.length c0_5, .int .i64 a0_6, .int .i64 a0_7, .slice A0_8 l0_8.length c0_8, .slice A0_9 l0_9.length c0_9, .slice A0_10 l0_10.length c0_10, .int .i64 a0_11, .int .i64 a0_12, .int .i64 a0_13]) (t := 76) ?hr ?_; (case hd => rfl); (case hg => rfl); (case hr => first | (go_simp; done) | (go_simp; rfl)); intro gb178 hg w4 hbox hb; have n0_ := Aside0.mk (below_step (by repeat (first | (with_reducible first | exact HB.out | apply below_alloc | apply pw_below_drewN | apply below_drew1) | exact HB.out)) hb); have n1_ := Aside0.mk (hbox); have n2_ := Aside0.mk ((by rw [hg]; exact (below_size (by repeat (first | (with_reducible first | exact HB.out | apply below_alloc | apply pw_below_drewN | apply below_drew1) | exact HB.out))) : w.heap.size ≤ gb178)); have n3_ := Aside0.mk ((by rw [hg]; exact (below_size (by repeat (first | (with_reducible first | exact HB.out | apply below_alloc | apply pw_below_drewN | apply below_drew1) | exact HB.out))) : w.heap.size ≤ gb178)); clear HB; have HB := n0_; have BK178 := n1_; have GW178 := n2_; have GE178 := n3_; clear n0_ n1_ n2_ n3_; clear hb hbox hg) | ((with_reducible refine gate_dst (N := 3) rfl ?_); refine box_event ?hg (N := 3) ?hd (cs := #[.int .i64 a1_0, .int .i64 a1_1, .bool a1_2, .bool a1_3, .slice A1_4 l1_4.length c1_4, .slice A1_5 l1_5.length c1_5, .int .i64 a1_6, .int .i64 a1_7, .slice A1_8 l1_8.length c1_8, .slice A1_9 l1_9.length c1_9, .slice A1_10 l1_10.length c1_10, .int .i64 a1_11, .int .i64 a1_12, .int .i64 a1_13]) (t := 76) ?hr ?_; (case hd => rfl); (case hg => rfl); (case hr => first | (go_simp; done) | (go_simp; rfl)); intro gb179 hg w5 hbox hb; have n0_ := Aside0.mk (blk_below (g := gb178) (o := _) (by (with_reducible repeat (first | refine blk_drewN ?_ _ | refine blk_drew ?_ | refine blk_alloc ?_ _)); exact BK178.out) hb); have n1_ := Aside0.mk (below_step (by repeat (first | (with_reducible first | exact HB.out | apply below_alloc | apply pw_below_drewN | apply below_drew1 | refine below_set ?_ GE178.out) | exact HB.out)) hb); have n2_ := Aside0.mk (hbox); have n3_ := Aside0.mk ((by rw [hg]; exact (below_size (by repeat (first | (with_reducible first | exact HB.out | apply below_alloc | apply pw_below_drewN | apply below_drew1 | refine below_set ?_ GE178.out) | exact HB.out))) : w.heap.size ≤ gb179)); have n4_ := Aside0.mk ((by rw [hg]; exact (below_size (by repeat (first | (with_reducible first | exact HB.out | apply below_alloc | apply pw_below_drewN | apply below_drew1 | refine below_set ?_ GE178.out) | exact HB.out))) : w.heap.size ≤ gb179)); have n5_ := Aside0.mk ((by rw [hg]; exact Nat.ne_of_lt (blk_lt (g := gb178) (o := _) (by (with_reducible repeat (first | refine blk_drewN ?_ _ | refine blk_drew ?_ | refine blk_alloc ?_ _)); exact BK178.out)) : gb178 ≠ gb179)); have n6_ := Aside0.mk ((by rw [hg]; exact Nat.ne_of_gt (blk_lt (g := gb178) (o := _) (by (with_reducible repeat (first | refine blk_drewN ?_ _ | refine blk_drew ?_ | refine blk_alloc ?_ _)); exact BK178.out)) : gb179 ≠ gb178)); clear BK178; clear HB; have BK178 := n0_; have HB := n1_; have BK179 := n2_; have GW179 := n3_; have GE179 := n4_; have NB178_179 := n5_; have NB179_178 := n6_; clear n0_ n1_ n2_ n3_ n4_ n5_ n6_; clear hb hbox hg; have hnb6 := NB178_179.out; have hnc6 := NB179_178.out; have hcz7_0 : w5.cell? ⟨gb178, 0, none⟩ = some (.int .i64 a0_0) := (blk_cell BK178.out 0).trans rfl; have hcz7_1 : w5.cell? ⟨gb178, 1, none⟩ = some (.int .i64 a0_1) := (blk_cell BK178.out 1).trans rfl; have hcz7_2 : w5.cell? ⟨gb178, 2, none⟩ = some (.bool a0_2) := (blk_cell BK178.out 2).trans rfl; have hcz7_3 : w5.cell? ⟨gb178, 3, none⟩ = some (.bool a0_3) := (blk_cell BK178.out 3).trans rfl; have hcz7_4 : w5.cell? ⟨gb178, 4, none⟩ = some (.slice A0_4 l0_4.length c0_4) := (blk_cell BK178.out 4).trans rfl; have hcz7_5 : w5.cell? ⟨gb178, 5, none⟩ = some (.slice A0_5 l0_5.length c0_5) := (blk_cell BK178.out 5).trans rfl; have hcz7_6 : w5.cell? ⟨gb178, 6, none⟩ = some (.int .i64 a0_6) := (blk_cell BK178.out 6).trans rfl; have hcz7_7 : w5.cell? ⟨gb178, 7, none⟩ = some (.int .i64 a0_7) := (blk_cell BK178.out 7).trans rfl; have hcz7_8 : w5.cell? ⟨gb178, 8, none⟩ = some (.slice A0_8 l0_8.length c0_8) := (blk_cell BK178.out 8).trans rfl; have hcz7_9 : w5.cell? ⟨gb178, 9, none⟩ = some (.slice A0_9 l0_9.length c0_9) := (blk_cell BK178.out 9).trans rfl; have hcz7_10 : w5.cell? ⟨gb178, 10, none⟩ = some (.slice A0_10 l0_10.length c0_10) := (blk_cell BK178.out 10).trans rfl; have hcz7_11 : w5.cell? ⟨gb178, 11, none⟩ = some (.int .i64 a0_11) := (blk_cell BK178.out 11).trans rfl; have hcz7_12 : w5.cell? ⟨gb178, 12, none⟩ = some (.int .i64 a0_12) := (blk_cell BK178.out 12).trans rfl; have hcz7_13 : w5.cell? ⟨gb178, 13, none⟩ = some (.int .i64 a0_13) := (blk_cell BK178.out 13).trans rfl; have hfz7_0 := blk_frozen BK178.out 0; have hfz7_1 := blk_frozen BK178.out 1; have hfz7_2 := blk_frozen BK178.out 2; have hfz7_3 := blk_frozen BK178.out 3; have hfz7_4 := blk_frozen BK178.out 4; have hfz7_5 := blk_frozen BK178.out 5; have hfz7_6 := blk_frozen BK178.out 6; have hfz7_7 := blk_frozen BK178.out 7; have hfz7_8 := blk_frozen BK178.out 8; have hfz7_9 := blk_frozen BK178.out 9; have hfz7_10 := blk_frozen BK178.out 10; have hfz7_11 := blk_frozen BK178.out 11; have hfz7_12 := blk_frozen BK178.out 12; have hfz7_13 := blk_frozen BK178.out 13; have hcz8_0 : w5.cell? ⟨gb179, 0, none⟩ = some (.int .i64 a1_0) := (blk_cell BK179.out 0).trans rfl; have hcz8_1 : w5.cell? ⟨gb179, 1, none⟩ = some (.int .i64 a1_1) := (blk_cell BK179.out 1).trans rfl; have hcz8_2 : w5.cell? ⟨gb179, 2, none⟩ = some (.bool a1_2) := (blk_cell BK179.out 2).trans rfl; have hcz8_3 : w5.cell? ⟨gb179, 3, none⟩ = some (.bool a1_3) := (blk_cell BK179.out 3).trans rfl; have hcz8_4 : w5.cell? ⟨gb179, 4, none⟩ = some (.slice A1_4 l1_4.length c1_4) := (blk_cell BK179.out 4).trans rfl; have hcz8_5 : w5.cell? ⟨gb179, 5, none⟩ = some (.slice A1_5 l1_5.length c1_5) := (blk_cell BK179.out 5).trans rfl; have hcz8_6 : w5.cell? ⟨gb179, 6, none⟩ = some (.int .i64 a1_6) := (blk_cell BK179.out 6).trans rfl; have hcz8_7 : w5.cell? ⟨gb179, 7, none⟩ = some (.int .i64 a1_7) := (blk_cell BK179.out 7).trans rfl; have hcz8_8 : w5.cell? ⟨gb179, 8, none⟩ = some (.slice A1_8 l1_8.length c1_8) := (blk_cell BK179.out 8).trans rfl; have hcz8_9 : w5.cell? ⟨gb179, 9, none⟩ = some (.slice A1_9 l1_9.length c1_9) := (blk_cell BK179.out 9).trans rfl; have hcz8_10 : w5.cell? ⟨gb179, 10, none⟩ = some (.slice A1_10 l1_10.length c1_10) := (blk_cell BK179.out 10).trans rfl; have hcz8_11 : w5.cell? ⟨gb179, 11, none⟩ = some (.int .i64 a1_11) := (blk_cell BK179.out 11).trans rfl; have hcz8_12 : w5.cell? ⟨gb179, 12, none⟩ = some (.int .i64 a1_12) := (blk_cell BK179.out 12).trans rfl; have hcz8_13 : w5.cell? ⟨gb179, 13, none⟩ = some (.int .i64 a1_13) := (blk_cell BK179.out 13).trans rfl; have hfz8_0 := blk_frozen BK179.out 0; have hfz8_1 := blk_frozen BK179.out 1; have hfz8_2 := blk_frozen BK179.out 2; have hfz8_3 := blk_frozen BK179.out 3; have hfz8_4 := blk_frozen BK179.out 4; have hfz8_5 := blk_frozen BK179.out 5; have hfz8_6 := blk_frozen BK179.out 6; have hfz8_7 := blk_frozen BK179.out 7; have hfz8_8 := blk_frozen BK179.out 8; have hfz8_9 := blk_frozen BK179.out 9; have hfz8_10 := blk_frozen BK179.out 10; have hfz8_11 := blk_frozen BK179.out 11; have hfz8_12 := blk_frozen BK179.out 12; have hfz8_13 := blk_frozen BK179.out 13)); try go_wp2_with (first | ((with_reducible refine gate_dst (N := 2) rfl ?_); refine box_event ?hg (N := 2) ?hd (cs := #[.int .i64 a0_0, .int .i64 a0_1, .bool a0_2, .bool a0_3, .slice A0_4 l0_4.length c0_4, .slice A0_5 l0_5.length c0_5, .int .i64 a0_6, .int .i64 a0_7, .slice A0_8 l0_8.length c0_8, .slice A0_9 l0_9.length c0_9, .slice A0_10 l0_10.length c0_10, .int .i64 a0_11, .int .i64 a0_12, .int .i64 a0_13]) (t := 76) ?hr ?_; (case hd => rfl); (case hg => rfl); (case hr => first | (go_simp; done) | (go_simp; rfl)); intro gb178 hg w4 hbox hb; have n0_ := Aside0.mk (below_step (by repeat (first | (with_reducible first | exact HB.out | apply below_alloc | apply pw_below_drewN | apply below_drew1) | exact HB.out)) hb); have n1_ := Aside0.mk (hbox); have n2_ := Aside0.mk ((by rw [hg]; exact (below_size (by repeat (first | (with_reducible first | exact HB.out | apply below_alloc | apply pw_below_drewN | apply below_drew1) | exact HB.out))) : w.heap.size ≤ gb178)); have n3_ := Aside0.mk ((by rw [hg]; exact (below_size (by repeat (first | (with_reducible first | exact HB.out | apply below_alloc | apply pw_below_drewN | apply below_drew1) | exact HB.out))) : w.heap.size ≤ gb178)); clear HB; have HB := n0_; have BK178 := n1_; have GW178 := n2_; have GE178 := n3_; clear n0_ n1_ n2_ n3_; clear hb hbox hg) | ((with_reducible refine gate_dst (N := 3) rfl ?_); refine box_event ?hg (N := 3) ?hd (cs := #[.int .i64 a1_0, .int .i64 a1_1, .bool a1_2, .bool a1_3, .slice A1_4 l1_4.length c1_4, .slice A1_5 l1_5.length c1_5, .int .i64 a1_6, .int .i64 a1_7, .slice A1_8 l1_8.length c1_8, .slice A1_9 l1_9.length c1_9, .slice A1_10 l1_10.length c1_10, .int .i64 a1_11, .int .i64 a1_12, .int .i64 a1_13]) (t := 76) ?hr ?_; (case hd => rfl); (case hg => rfl); (case hr => first | (go_simp; done) | (go_simp; rfl)); intro gb179 hg w5 hbox hb; have n0_ := Aside0.mk (blk_below (g := gb178) (o := _) (by (with_reducible repeat (first | refine blk_drewN ?_ _ | refine blk_drew ?_ | refine blk_alloc ?_ _)); exact BK178.out) hb); have n1_ := Aside0.mk (below_step (by repeat (first | (with_reducible first | exact HB.out | apply below_alloc | apply pw_below_drewN | apply below_drew1 | refine below_set ?_ GE178.out) | exact HB.out)) hb); have n2_ := Aside0.mk (hbox); have n3_ := Aside0.mk ((by rw [hg]; exact (below_size (by repeat (first | (with_reducible first | exact HB.out | apply below_alloc | apply pw_below_drewN | apply below_drew1 | refine below_set ?_ GE178.out) | exact HB.out))) : w.heap.size ≤ gb179)); have n4_ := Aside0.mk ((by rw [hg]; exact (below_size (by repeat (first | (with_reducible first | exact HB.out | apply below_alloc | apply pw_below_drewN | apply below_drew1 | refine below_set ?_ GE178.out) | exact HB.out))) : w.heap.size ≤ gb179)); have n5_ := Aside0.mk ((by rw [hg]; exact Nat.ne_of_lt (blk_lt (g := gb178) (o := _) (by (with_reducible repeat (first | refine blk_drewN ?_ _ | refine blk_drew ?_ | refine blk_alloc ?_ _)); exact BK178.out)) : gb178 ≠ gb179)); have n6_ := Aside0.mk ((by rw [hg]; exact Nat.ne_of_gt (blk_lt (g := gb178) (o := _) (by (with_reducible repeat (first | refine blk_drewN ?_ _ | refine blk_drew ?_ | refine blk_alloc ?_ _)); exact BK178.out)) : gb179 ≠ gb178)); clear BK178; clear HB; have BK178 := n0_; have HB := n1_; have BK179 := n2_; have GW179 := n3_; have GE179 := n4_; have NB178_179 := n5_; have NB179_178 := n6_; clear n0_ n1_ n2_ n3_ n4_ n5_ n6_; clear hb hbox hg; have hnb6 := NB178_179.out; have hnc6 := NB179_178.out; have hcz7_0 : w5.cell? ⟨gb178, 0, none⟩ = some (.int .i64 a0_0) := (blk_cell BK178.out 0).trans rfl; have hcz7_1 : w5.cell? ⟨gb178, 1, none⟩ = some (.int .i64 a0_1) := (blk_cell BK178.out 1).trans rfl; have hcz7_2 : w5.cell? ⟨gb178, 2, none⟩ = some (.bool a0_2) := (blk_cell BK178.out 2).trans rfl; have hcz7_3 : w5.cell? ⟨gb178, 3, none⟩ = some (.bool a0_3) := (blk_cell BK178.out 3).trans rfl; have hcz7_4 : w5.cell? ⟨gb178, 4, none⟩ = some (.slice A0_4 l0_4.length c0_4) := (blk_cell BK178.out 4).trans rfl; have hcz7_5 : w5.cell? ⟨gb178, 5, none⟩ = some (.slice A0_5 l0_5.length c0_5) := (blk_cell BK178.out 5).trans rfl; have hcz7_6 : w5.cell? ⟨gb178, 6, none⟩ = some (.int .i64 a0_6) := (blk_cell BK178.out 6).trans rfl; have hcz7_7 : w5.cell? ⟨gb178, 7, none⟩ = some (.int .i64 a0_7) := (blk_cell BK178.out 7).trans rfl; have hcz7_8 : w5.cell? ⟨gb178, 8, none⟩ = some (.slice A0_8 l0_8.length c0_8) := (blk_cell BK178.out 8).trans rfl; have hcz7_9 : w5.cell? ⟨gb178, 9, none⟩ = some (.slice A0_9 l0_9.length c0_9) := (blk_cell BK178.out 9).trans rfl; have hcz7_10 : w5.cell? ⟨gb178, 10, none⟩ = some (.slice A0_10 l0_10.length c0_10) := (blk_cell BK178.out 10).trans rfl; have hcz7_11 : w5.cell? ⟨gb178, 11, none⟩ = some (.int .i64 a0_11) := (blk_cell BK178.out 11).trans rfl; have hcz7_12 : w5.cell? ⟨gb178, 12, none⟩ = some (.int .i64 a0_12) := (blk_cell BK178.out 12).trans rfl; have hcz7_13 : w5.cell? ⟨gb178, 13, none⟩ = some (.int .i64 a0_13) := (blk_cell BK178.out 13).trans rfl; have hfz7_0 := blk_frozen BK178.out 0; have hfz7_1 := blk_frozen BK178.out 1; have hfz7_2 := blk_frozen BK178.out 2; have hfz7_3 := blk_frozen BK178.out 3; have hfz7_4 := blk_frozen BK178.out 4; have hfz7_5 := blk_frozen BK178.out 5; have hfz7_6 := blk_frozen BK178.out 6; have hfz7_7 := blk_frozen BK178.out 7; have hfz7_8 := blk_frozen BK178.out 8; have hfz7_9 := blk_frozen BK178.out 9; have hfz7_10 := blk_frozen BK178.out 10; have hfz7_11 := blk_frozen BK178.out 11; have hfz7_12 := blk_frozen BK178.out 12; have hfz7_13 := blk_frozen BK178.out 13; have hcz8_0 : w5.cell? ⟨gb179, 0, none⟩ = some (.int .i64 a1_0) := (blk_cell BK179.out 0).trans rfl; have hcz8_1 : w5.cell? ⟨gb179, 1, none⟩ = some (.int .i64 a1_1) := (blk_cell BK179.out 1).trans rfl; have hcz8_2 : w5.cell? ⟨gb179, 2, none⟩ = some (.bool a1_2) := (blk_cell BK179.out 2).trans rfl; have hcz8_3 : w5.cell? ⟨gb179, 3, none⟩ = some (.bool a1_3) := (blk_cell BK179.out 3).trans rfl; have hcz8_4 : w5.cell? ⟨gb179, 4, none⟩ = some (.slice A1_4 l1_4.length c1_4) := (blk_cell BK179.out 4).trans rfl; have hcz8_5 : w5.cell? ⟨gb179, 5, none⟩ = some (.slice A1_5 l1_5.length c1_5) := (blk_cell BK179.out 5).trans rfl; have hcz8_6 : w5.cell? ⟨gb179, 6, none⟩ = some (.int .i64 a1_6) := (blk_cell BK179.out 6).trans rfl; have hcz8_7 : w5.cell? ⟨gb179, 7, none⟩ = some (.int .i64 a1_7) := (blk_cell BK179.out 7).trans rfl; have hcz8_8 : w5.cell? ⟨gb179, 8, none⟩ = some (.slice A1_8 l1_8.length c1_8) := (blk_cell BK179.out 8).trans rfl; have hcz8_9 : w5.cell? ⟨gb179, 9, none⟩ = some (.slice A1_9 l1_9.length c1_9) := (blk_cell BK179.out 9).trans rfl; have hcz8_10 : w5.cell? ⟨gb179, 10, none⟩ = some (.slice A1_10 l1_10.length c1_10) := (blk_cell BK179.out 10).trans rfl; have hcz8_11 : w5.cell? ⟨gb179, 11, none⟩ = some (.int .i64 a1_11) := (blk_cell BK179.out 11).trans rfl; have hcz8_12 : w5.cell? ⟨gb179, 12, none⟩ = some (.int .i64 a1_12) := (blk_cell BK179.out 12).trans rfl; have hcz8_13 : w5.cell? ⟨gb179, 13, none⟩ = some (.int .i64 a1_13) := (blk_cell BK179.out 13).trans rfl; have hfz8_0 := blk_frozen BK179.out 0; have hfz8_1 := blk_frozen BK179.out 1; have hfz8_2 := blk_frozen BK179.out 2; have hfz8_3 := blk_frozen BK179.out 3; have hfz8_4 := blk_frozen BK179.out 4; have hfz8_5 := blk_frozen BK179.out 5; have hfz8_6 := blk_frozen BK179.out 6; have hfz8_7 := blk_frozen BK179.out 7; have hfz8_8 := blk_frozen BK179.out 8; have hfz8_9 := blk_frozen BK179.out 9; have hfz8_10 := blk_frozen BK179.out 10; have hfz8_11 := blk_frozen BK179.out 11; have hfz8_12 := blk_frozen BK179.out 12; have hfz8_13 := blk_frozen BK179.out 13)))
    go_loopg [5] k (fun kq v5 w' => ∃ (x5_1 : Int), v5 = .int .i64 x5_1 ∧ Aside0 (spec_EqualGames.l0 kq x5_1 a0_0 a0_1 a0_2 a0_3 l0_4 l0_5 a0_6 a0_7 l0_8 l0_9 l0_10 a0_11 a0_12 a0_13 a1_0 a1_1 a1_2 a1_3 l1_4 l1_5 a1_6 a1_7 l1_8 l1_9 l1_10 a1_11 a1_12 a1_13 = some r) ∧ Aside0 (kq ≤ k) ∧ Aside0 (w'.heap[gb178]? = some (.cells #[.int .i64 a0_0, .int .i64 a0_1, .bool a0_2, .bool a0_3, (.slice A0_4 l0_4.length c0_4), (.slice A0_5 l0_5.length c0_5), .int .i64 a0_6, .int .i64 a0_7, (.slice A0_8 l0_8.length c0_8), (.slice A0_9 l0_9.length c0_9), (.slice A0_10 l0_10.length c0_10), .int .i64 a0_11, .int .i64 a0_12, .int .i64 a0_13] 76 (0, 0))) ∧ Aside0 (w'.heap[gb179]? = some (.cells #[.int .i64 a1_0, .int .i64 a1_1, .bool a1_2, .bool a1_3, (.slice A1_4 l1_4.length c1_4), (.slice A1_5 l1_5.length c1_5), .int .i64 a1_6, .int .i64 a1_7, (.slice A1_8 l1_8.length c1_8), (.slice A1_9 l1_9.length c1_9), (.slice A1_10 l1_10.length c1_10), .int .i64 a1_11, .int .i64 a1_12, .int .i64 a1_13] 76 (0, 0))) ∧ Aside0 (Below w.heap.size w w'))
    case atStart => exact ⟨(0), (by first | rfl | (simp; done) | (simp [*]; done)), H', ⟨Nat.le_refl _⟩, ⟨by (with_reducible repeat (first | refine blk_drewN ?_ _ | refine blk_drew ?_ | refine blk_alloc ?_ _)); exact BK178.out⟩, ⟨by (with_reducible repeat (first | refine blk_drewN ?_ _ | refine blk_drew ?_ | refine blk_alloc ?_ _)); exact BK179.out⟩, ⟨by repeat (first | (with_reducible first | exact HB.out | apply below_alloc | apply pw_below_drewN | apply below_drew1 | refine below_set ?_ GE178.out | refine below_set ?_ GE179.out) | exact HB.out)⟩⟩
    case round =>
      clear H'
      try clear c1
      try clear p2
      try clear c3
      try clear c3b0
      try clear c3b1
      try clear c3b2
      try clear c6
      try clear c7
      try clear hcz7_0
      try clear hcz7_1
      try clear hcz7_10
      try clear hcz7_11
      try clear hcz7_12
      try clear hcz7_13
      try clear hcz7_2
      try clear hcz7_3
      try clear hcz7_4
      try clear hcz7_5
      try clear hcz7_6
      try clear hcz7_7
      try clear hcz7_8
      try clear hcz7_9
      try clear hcz8_0
      try clear hcz8_1
      try clear hcz8_10
      try clear hcz8_11
      try clear hcz8_12
      try clear hcz8_13
      try clear hcz8_2
      try clear hcz8_3
      try clear hcz8_4
      try clear hcz8_5
      try clear hcz8_6
      try clear hcz8_7
      try clear hcz8_8
      try clear hcz8_9
      try clear hfz7_0
      try clear hfz7_1
      try clear hfz7_10
      try clear hfz7_11
      try clear hfz7_12
      try clear hfz7_13
      try clear hfz7_2
      try clear hfz7_3
      try clear hfz7_4
      try clear hfz7_5
      try clear hfz7_6
      try clear hfz7_7
      try clear hfz7_8
      try clear hfz7_9
      try clear hfz8_0
      try clear hfz8_1
      try clear hfz8_10
      try clear hfz8_11
      try clear hfz8_12
      try clear hfz8_13
      try clear hfz8_2
      try clear hfz8_3
      try clear hfz8_4
      try clear hfz8_5
      try clear hfz8_6
      try clear hfz8_7
      try clear hfz8_8
      try clear hfz8_9
      obtain ⟨x5_1, rfl, HA, HK1, BK178, BK179, HB⟩ := hrel
      cases gk with
      | zero => exact absurd HA.out (by simp [spec_EqualGames.l0])
      | succ k1 =>
        have H := HA.out
        clear HA
        simp only [spec_EqualGames.l0] at H
        by_cases c9 : x5_1 < (l0_8.length : Int)
        rotate_left
        rw [if_neg c9] at H
        have c9b0 : decide (x5_1 < (l0_8.length : Int)) = false := decide_eq_false c9
        clear c9
        replace H := Option.bind_eq_some_iff.mp H
        obtain ⟨t183, A200, H⟩ := H
        have A20 := Aside0.mk A200
        clear A200
        by_cases c21 : t183 = true
        rotate_left
        · replace c21 := Bool.eq_false_iff.mpr c21
          subst c21
          rw [if_neg (show ¬ (false = true) by decide)] at H
          obtain rfl := Option.some.inj H
          have hnb58 := NB178_179.out
          have hnc58 := NB179_178.out
          have hcz59_0 : wr.cell? ⟨gb178, 0, none⟩ = some (.int .i64 a0_0) := (blk_cell BK178.out 0).trans rfl
          have hcz59_1 : wr.cell? ⟨gb178, 1, none⟩ = some (.int .i64 a0_1) := (blk_cell BK178.out 1).trans rfl
          have hcz59_2 : wr.cell? ⟨gb178, 2, none⟩ = some (.bool a0_2) := (blk_cell BK178.out 2).trans rfl
          have hcz59_3 : wr.cell? ⟨gb178, 3, none⟩ = some (.bool a0_3) := (blk_cell BK178.out 3).trans rfl
          have hcz59_4 : wr.cell? ⟨gb178, 4, none⟩ = some (.slice A0_4 l0_4.length c0_4) := (blk_cell BK178.out 4).trans rfl
          have hcz59_5 : wr.cell? ⟨gb178, 5, none⟩ = some (.slice A0_5 l0_5.length c0_5) := (blk_cell BK178.out 5).trans rfl
          have hcz59_6 : wr.cell? ⟨gb178, 6, none⟩ = some (.int .i64 a0_6) := (blk_cell BK178.out 6).trans rfl
          have hcz59_7 : wr.cell? ⟨gb178, 7, none⟩ = some (.int .i64 a0_7) := (blk_cell BK178.out 7).trans rfl
          have hcz59_8 : wr.cell? ⟨gb178, 8, none⟩ = some (.slice A0_8 l0_8.length c0_8) := (blk_cell BK178.out 8).trans rfl
          have hcz59_9 : wr.cell? ⟨gb178, 9, none⟩ = some (.slice A0_9 l0_9.length c0_9) := (blk_cell BK178.out 9).trans rfl
          have hcz59_10 : wr.cell? ⟨gb178, 10, none⟩ = some (.slice A0_10 l0_10.length c0_10) := (blk_cell BK178.out 10).trans rfl
          have hcz59_11 : wr.cell? ⟨gb178, 11, none⟩ = some (.int .i64 a0_11) := (blk_cell BK178.out 11).trans rfl
          have hcz59_12 : wr.cell? ⟨gb178, 12, none⟩ = some (.int .i64 a0_12) := (blk_cell BK178.out 12).trans rfl
          have hcz59_13 : wr.cell? ⟨gb178, 13, none⟩ = some (.int .i64 a0_13) := (blk_cell BK178.out 13).trans rfl
          have hfz59_0 := blk_frozen BK178.out 0
          have hfz59_1 := blk_frozen BK178.out 1
          have hfz59_2 := blk_frozen BK178.out 2
          have hfz59_3 := blk_frozen BK178.out 3
          have hfz59_4 := blk_frozen BK178.out 4
          have hfz59_5 := blk_frozen BK178.out 5
          have hfz59_6 := blk_frozen BK178.out 6
          have hfz59_7 := blk_frozen BK178.out 7
          have hfz59_8 := blk_frozen BK178.out 8
          have hfz59_9 := blk_frozen BK178.out 9
          have hfz59_10 := blk_frozen BK178.out 10
          have hfz59_11 := blk_frozen BK178.out 11
          have hfz59_12 := blk_frozen BK178.out 12
          have hfz59_13 := blk_frozen BK178.out 13
          have hcz60_0 : wr.cell? ⟨gb179, 0, none⟩ = some (.int .i64 a1_0) := (blk_cell BK179.out 0).trans rfl
          have hcz60_1 : wr.cell? ⟨gb179, 1, none⟩ = some (.int .i64 a1_1) := (blk_cell BK179.out 1).trans rfl
          have hcz60_2 : wr.cell? ⟨gb179, 2, none⟩ = some (.bool a1_2) := (blk_cell BK179.out 2).trans rfl
          have hcz60_3 : wr.cell? ⟨gb179, 3, none⟩ = some (.bool a1_3) := (blk_cell BK179.out 3).trans rfl
          have hcz60_4 : wr.cell? ⟨gb179, 4, none⟩ = some (.slice A1_4 l1_4.length c1_4) := (blk_cell BK179.out 4).trans rfl
          have hcz60_5 : wr.cell? ⟨gb179, 5, none⟩ = some (.slice A1_5 l1_5.length c1_5) := (blk_cell BK179.out 5).trans rfl
          have hcz60_6 : wr.cell? ⟨gb179, 6, none⟩ = some (.int .i64 a1_6) := (blk_cell BK179.out 6).trans rfl
          have hcz60_7 : wr.cell? ⟨gb179, 7, none⟩ = some (.int .i64 a1_7) := (blk_cell BK179.out 7).trans rfl
          have hcz60_8 : wr.cell? ⟨gb179, 8, none⟩ = some (.slice A1_8 l1_8.length c1_8) := (blk_cell BK179.out 8).trans rfl
          have hcz60_9 : wr.cell? ⟨gb179, 9, none⟩ = some (.slice A1_9 l1_9.length c1_9) := (blk_cell BK179.out 9).trans rfl
          have hcz60_10 : wr.cell? ⟨gb179, 10, none⟩ = some (.slice A1_10 l1_10.length c1_10) := (blk_cell BK179.out 10).trans rfl
          have hcz60_11 : wr.cell? ⟨gb179, 11, none⟩ = some (.int .i64 a1_11) := (blk_cell BK179.out 11).trans rfl
          have hcz60_12 : wr.cell? ⟨gb179, 12, none⟩ = some (.int .i64 a1_12) := (blk_cell BK179.out 12).trans rfl
          have hcz60_13 : wr.cell? ⟨gb179, 13, none⟩ = some (.int .i64 a1_13) := (blk_cell BK179.out 13).trans rfl
          have hfz60_0 := blk_frozen BK179.out 0
          have hfz60_1 := blk_frozen BK179.out 1
          have hfz60_2 := blk_frozen BK179.out 2
          have hfz60_3 := blk_frozen BK179.out 3
          have hfz60_4 := blk_frozen BK179.out 4
          have hfz60_5 := blk_frozen BK179.out 5
          have hfz60_6 := blk_frozen BK179.out 6
          have hfz60_7 := blk_frozen BK179.out 7
          have hfz60_8 := blk_frozen BK179.out 8
          have hfz60_9 := blk_frozen BK179.out 9
          have hfz60_10 := blk_frozen BK179.out 10
          have hfz60_11 := blk_frozen BK179.out 11
          have hfz60_12 := blk_frozen BK179.out 12
          have hfz60_13 := blk_frozen BK179.out 13
          go_wp2_with (first | (go_at_call 132; (with_reducible refine (spec_EqualRules.calls k1 a0_0 a0_1 a0_2 a0_3 _ _ l0_4 _ _ l0_5 a0_6 a0_7 a1_0 a1_1 a1_2 a1_3 _ _ l1_4 _ _ l1_5 a1_6 a1_7 false _ ?side1 ?side2 ?side3 ?side4 ?side5 ?side6 ?side7 ?side8 A20.out).mono ?_); (case side1 => repeat (first | exact (Kd.C_below HR0_4.out HB.out) | (with_reducible refine Kd.C_alloc ?_ _) | (with_reducible refine Kd.C_drewN ?_ _) | (with_reducible refine Kd.C_drew ?_))); (case side2 => exact HC0_4.out); (case side3 => repeat (first | exact (Kd.C_below HR0_5.out HB.out) | (with_reducible refine Kd.C_alloc ?_ _) | (with_reducible refine Kd.C_drewN ?_ _) | (with_reducible refine Kd.C_drew ?_))); (case side4 => exact HC0_5.out); (case side5 => repeat (first | exact (Kd.C_below HR1_4.out HB.out) | (with_reducible refine Kd.C_alloc ?_ _) | (with_reducible refine Kd.C_drewN ?_ _) | (with_reducible refine Kd.C_drew ?_))); (case side6 => exact HC1_4.out); (case side7 => repeat (first | exact (Kd.C_below HR1_5.out HB.out) | (with_reducible refine Kd.C_alloc ?_ _) | (with_reducible refine Kd.C_drewN ?_ _) | (with_reducible refine Kd.C_drew ?_))); (case side8 => exact HC1_5.out); rintro e w61 ⟨rfl, hb⟩; have n0_ := Aside0.mk (blk_below (g := gb178) (o := _) (by (with_reducible repeat (first | refine blk_drewN ?_ _ | refine blk_drew ?_ | refine blk_alloc ?_ _)); exact BK178.out) hb); have n1_ := Aside0.mk (blk_below (g := gb179) (o := _) (by (with_reducible repeat (first | refine blk_drewN ?_ _ | refine blk_drew ?_ | refine blk_alloc ?_ _)); exact BK179.out) hb); have n2_ := Aside0.mk (below_step (by repeat (first | (with_reducible first | exact HB.out | apply below_alloc | apply pw_below_drewN | apply below_drew1 | refine below_set ?_ GE178.out | refine below_set ?_ GE179.out) | exact HB.out)) hb); clear BK178; clear BK179; clear HB; have BK178 := n0_; have BK179 := n1_; have HB := n2_; clear n0_ n1_ n2_; (try clear hb); (try clear hb2); (try clear hk); (try clear hi)))
          repeat (go_quiet (first | (go_at_call 132; (with_reducible refine (spec_EqualRules.calls k1 a0_0 a0_1 a0_2 a0_3 _ _ l0_4 _ _ l0_5 a0_6 a0_7 a1_0 a1_1 a1_2 a1_3 _ _ l1_4 _ _ l1_5 a1_6 a1_7 false _ ?side1 ?side2 ?side3 ?side4 ?side5 ?side6 ?side7 ?side8 A20.out).mono ?_); (case side1 => repeat (first | exact (Kd.C_below HR0_4.out HB.out) | (with_reducible refine Kd.C_alloc ?_ _) | (with_reducible refine Kd.C_drewN ?_ _) | (with_reducible refine Kd.C_drew ?_))); (case side2 => exact HC0_4.out); (case side3 => repeat (first | exact (Kd.C_below HR0_5.out HB.out) | (with_reducible refine Kd.C_alloc ?_ _) | (with_reducible refine Kd.C_drewN ?_ _) | (with_reducible refine Kd.C_drew ?_))); (case side4 => exact HC0_5.out); (case side5 => repeat (first | exact (Kd.C_below HR1_4.out HB.out) | (with_reducible refine Kd.C_alloc ?_ _) | (with_reducible refine Kd.C_drewN ?_ _) | (with_reducible refine Kd.C_drew ?_))); (case side6 => exact HC1_4.out); (case side7 => repeat (first | exact (Kd.C_below HR1_5.out HB.out) | (with_reducible refine Kd.C_alloc ?_ _) | (with_reducible refine Kd.C_drewN ?_ _) | (with_reducible refine Kd.C_drew ?_))); (case side8 => exact HC1_5.out); rintro e w61 ⟨rfl, hb⟩; have n0_ := Aside0.mk (blk_below (g := gb178) (o := _) (by (with_reducible repeat (first | refine blk_drewN ?_ _ | refine blk_drew ?_ | refine blk_alloc ?_ _)); exact BK178.out) hb); have n1_ := Aside0.mk (blk_below (g := gb179) (o := _) (by (with_reducible repeat (first | refine blk_drewN ?_ _ | refine blk_drew ?_ | refine blk_alloc ?_ _)); exact BK179.out) hb); have n2_ := Aside0.mk (below_step (by repeat (first | (with_reducible first | exact HB.out | apply below_alloc | apply pw_below_drewN | apply below_drew1 | refine below_set ?_ GE178.out | refine below_set ?_ GE179.out) | exact HB.out)) hb); clear BK178; clear BK179; clear HB; have BK178 := n0_; have BK179 := n1_; have HB := n2_; clear n0_ n1_ n2_; (try clear hb); (try clear hb2); (try clear hk); (try clear hi))); try go_wp2_with (first | (go_at_call 132; (with_reducible refine (spec_EqualRules.calls k1 a0_0 a0_1 a0_2 a0_3 _ _ l0_4 _ _ l0_5 a0_6 a0_7 a1_0 a1_1 a1_2 a1_3 _ _ l1_4 _ _ l1_5 a1_6 a1_7 false _ ?side1 ?side2 ?side3 ?side4 ?side5 ?side6 ?side7 ?side8 A20.out).mono ?_); (case side1 => repeat (first | exact (Kd.C_below HR0_4.out HB.out) | (with_reducible refine Kd.C_alloc ?_ _) | (with_reducible refine Kd.C_drewN ?_ _) | (with_reducible refine Kd.C_drew ?_))); (case side2 => exact HC0_4.out); (case side3 => repeat (first | exact (Kd.C_below HR0_5.out HB.out) | (with_reducible refine Kd.C_alloc ?_ _) | (with_reducible refine Kd.C_drewN ?_ _) | (with_reducible refine Kd.C_drew ?_))); (case side4 => exact HC0_5.out); (case side5 => repeat (first | exact (Kd.C_below HR1_4.out HB.out) | (with_reducible refine Kd.C_alloc ?_ _) | (with_reducible refine Kd.C_drewN ?_ _) | (with_reducible refine Kd.C_drew ?_))); (case side6 => exact HC1_4.out); (case side7 => repeat (first | exact (Kd.C_below HR1_5.out HB.out) | (with_reducible refine Kd.C_alloc ?_ _) | (with_reducible refine Kd.C_drewN ?_ _) | (with_reducible refine Kd.C_drew ?_))); (case side8 => exact HC1_5.out); rintro e w61 ⟨rfl, hb⟩; have n0_ := Aside0.mk (blk_below (g := gb178) (o := _) (by (with_reducible repeat (first | refine blk_drewN ?_ _ | refine blk_drew ?_ | refine blk_alloc ?_ _)); exact BK178.out) hb); have n1_ := Aside0.mk (blk_below (g := gb179) (o := _) (by (with_reducible repeat (first | refine blk_drewN ?_ _ | refine blk_drew ?_ | refine blk_alloc ?_ _)); exact BK179.out) hb); have n2_ := Aside0.mk (below_step (by repeat (first | (with_reducible first | exact HB.out | apply below_alloc | apply pw_below_drewN | apply below_drew1 | refine below_set ?_ GE178.out | refine below_set ?_ GE179.out) | exact HB.out)) hb); clear BK178; clear BK179; clear HB; have BK178 := n0_; have BK179 := n1_; have HB := n2_; clear n0_ n1_ n2_; (try clear hb); (try clear hb2); (try clear hk); (try clear hi))))
          go_ret
          exact ⟨by first | rfl | (simp [errW_none, errW_some] <;> rfl) | (simp [*, errW_none, errW_some] <;> rfl), by repeat (first | (with_reducible first | exact HB.out | apply below_alloc | apply pw_below_drewN | apply below_drew1 | refine below_set ?_ GE178.out | refine below_set ?_ GE179.out) | exact HB.out)⟩
        rotate_right
        subst c21
        rw [if_pos rfl] at H
        replace H := Option.bind_eq_some_iff.mp H
        obtain ⟨t184, A220, H⟩ := H
        have A22 := Aside0.mk A220
        clear A220
        by_cases c23 : t184 = true
        rotate_left
        · replace c23 := Bool.eq_false_iff.mpr c23
          subst c23
          rw [if_neg (show ¬ (false = true) by decide)] at H
          obtain rfl := Option.some.inj H
          have hnb52 := NB178_179.out
          have hnc52 := NB179_178.out
          have hcz53_0 : wr.cell? ⟨gb178, 0, none⟩ = some (.int .i64 a0_0) := (blk_cell BK178.out 0).trans rfl
          have hcz53_1 : wr.cell? ⟨gb178, 1, none⟩ = some (.int .i64 a0_1) := (blk_cell BK178.out 1).trans rfl
          have hcz53_2 : wr.cell? ⟨gb178, 2, none⟩ = some (.bool a0_2) := (blk_cell BK178.out 2).trans rfl
          have hcz53_3 : wr.cell? ⟨gb178, 3, none⟩ = some (.bool a0_3) := (blk_cell BK178.out 3).trans rfl
          have hcz53_4 : wr.cell? ⟨gb178, 4, none⟩ = some (.slice A0_4 l0_4.length c0_4) := (blk_cell BK178.out 4).trans rfl
          have hcz53_5 : wr.cell? ⟨gb178, 5, none⟩ = some (.slice A0_5 l0_5.length c0_5) := (blk_cell BK178.out 5).trans rfl
          have hcz53_6 : wr.cell? ⟨gb178, 6, none⟩ = some (.int .i64 a0_6) := (blk_cell BK178.out 6).trans rfl
          have hcz53_7 : wr.cell? ⟨gb178, 7, none⟩ = some (.int .i64 a0_7) := (blk_cell BK178.out 7).trans rfl
          have hcz53_8 : wr.cell? ⟨gb178, 8, none⟩ = some (.slice A0_8 l0_8.length c0_8) := (blk_cell BK178.out 8).trans rfl
          have hcz53_9 : wr.cell? ⟨gb178, 9, none⟩ = some (.slice A0_9 l0_9.length c0_9) := (blk_cell BK178.out 9).trans rfl
          have hcz53_10 : wr.cell? ⟨gb178, 10, none⟩ = some (.slice A0_10 l0_10.length c0_10) := (blk_cell BK178.out 10).trans rfl
          have hcz53_11 : wr.cell? ⟨gb178, 11, none⟩ = some (.int .i64 a0_11) := (blk_cell BK178.out 11).trans rfl
          have hcz53_12 : wr.cell? ⟨gb178, 12, none⟩ = some (.int .i64 a0_12) := (blk_cell BK178.out 12).trans rfl
          have hcz53_13 : wr.cell? ⟨gb178, 13, none⟩ = some (.int .i64 a0_13) := (blk_cell BK178.out 13).trans rfl
          have hfz53_0 := blk_frozen BK178.out 0
          have hfz53_1 := blk_frozen BK178.out 1
          have hfz53_2 := blk_frozen BK178.out 2
          have hfz53_3 := blk_frozen BK178.out 3
          have hfz53_4 := blk_frozen BK178.out 4
          have hfz53_5 := blk_frozen BK178.out 5
          have hfz53_6 := blk_frozen BK178.out 6
          have hfz53_7 := blk_frozen BK178.out 7
          have hfz53_8 := blk_frozen BK178.out 8
          have hfz53_9 := blk_frozen BK178.out 9
          have hfz53_10 := blk_frozen BK178.out 10
          have hfz53_11 := blk_frozen BK178.out 11
          have hfz53_12 := blk_frozen BK178.out 12
          have hfz53_13 := blk_frozen BK178.out 13
          have hcz54_0 : wr.cell? ⟨gb179, 0, none⟩ = some (.int .i64 a1_0) := (blk_cell BK179.out 0).trans rfl
          have hcz54_1 : wr.cell? ⟨gb179, 1, none⟩ = some (.int .i64 a1_1) := (blk_cell BK179.out 1).trans rfl
          have hcz54_2 : wr.cell? ⟨gb179, 2, none⟩ = some (.bool a1_2) := (blk_cell BK179.out 2).trans rfl
          have hcz54_3 : wr.cell? ⟨gb179, 3, none⟩ = some (.bool a1_3) := (blk_cell BK179.out 3).trans rfl
          have hcz54_4 : wr.cell? ⟨gb179, 4, none⟩ = some (.slice A1_4 l1_4.length c1_4) := (blk_cell BK179.out 4).trans rfl
          have hcz54_5 : wr.cell? ⟨gb179, 5, none⟩ = some (.slice A1_5 l1_5.length c1_5) := (blk_cell BK179.out 5).trans rfl
          have hcz54_6 : wr.cell? ⟨gb179, 6, none⟩ = some (.int .i64 a1_6) := (blk_cell BK179.out 6).trans rfl
          have hcz54_7 : wr.cell? ⟨gb179, 7, none⟩ = some (.int .i64 a1_7) := (blk_cell BK179.out 7).trans rfl
          have hcz54_8 : wr.cell? ⟨gb179, 8, none⟩ = some (.slice A1_8 l1_8.length c1_8) := (blk_cell BK179.out 8).trans rfl
          have hcz54_9 : wr.cell? ⟨gb179, 9, none⟩ = some (.slice A1_9 l1_9.length c1_9) := (blk_cell BK179.out 9).trans rfl
          have hcz54_10 : wr.cell? ⟨gb179, 10, none⟩ = some (.slice A1_10 l1_10.length c1_10) := (blk_cell BK179.out 10).trans rfl
          have hcz54_11 : wr.cell? ⟨gb179, 11, none⟩ = some (.int .i64 a1_11) := (blk_cell BK179.out 11).trans rfl
          have hcz54_12 : wr.cell? ⟨gb179, 12, none⟩ = some (.int .i64 a1_12) := (blk_cell BK179.out 12).trans rfl
          have hcz54_13 : wr.cell? ⟨gb179, 13, none⟩ = some (.int .i64 a1_13) := (blk_cell BK179.out 13).trans rfl
          have hfz54_0 := blk_frozen BK179.out 0
          have hfz54_1 := blk_frozen BK179.out 1
          have hfz54_2 := blk_frozen BK179.out 2
          have hfz54_3 := blk_frozen BK179.out 3
          have hfz54_4 := blk_frozen BK179.out 4
          have hfz54_5 := blk_frozen BK179.out 5
          have hfz54_6 := blk_frozen BK179.out 6
          have hfz54_7 := blk_frozen BK179.out 7
          have hfz54_8 := blk_frozen BK179.out 8
          have hfz54_9 := blk_frozen BK179.out 9
          have hfz54_10 := blk_frozen BK179.out 10
          have hfz54_11 := blk_frozen BK179.out 11
          have hfz54_12 := blk_frozen BK179.out 12
          have hfz54_13 := blk_frozen BK179.out 13
          go_wp2_with (first | (go_at_call 132; (with_reducible refine (spec_EqualRules.calls k1 a0_0 a0_1 a0_2 a0_3 _ _ l0_4 _ _ l0_5 a0_6 a0_7 a1_0 a1_1 a1_2 a1_3 _ _ l1_4 _ _ l1_5 a1_6 a1_7 true _ ?side1 ?side2 ?side3 ?side4 ?side5 ?side6 ?side7 ?side8 A20.out).mono ?_); (case side1 => repeat (first | exact (Kd.C_below HR0_4.out HB.out) | (with_reducible refine Kd.C_alloc ?_ _) | (with_reducible refine Kd.C_drewN ?_ _) | (with_reducible refine Kd.C_drew ?_))); (case side2 => exact HC0_4.out); (case side3 => repeat (first | exact (Kd.C_below HR0_5.out HB.out) | (with_reducible refine Kd.C_alloc ?_ _) | (with_reducible refine Kd.C_drewN ?_ _) | (with_reducible refine Kd.C_drew ?_))); (case side4 => exact HC0_5.out); (case side5 => repeat (first | exact (Kd.C_below HR1_4.out HB.out) | (with_reducible refine Kd.C_alloc ?_ _) | (with_reducible refine Kd.C_drewN ?_ _) | (with_reducible refine Kd.C_drew ?_))); (case side6 => exact HC1_4.out); (case side7 => repeat (first | exact (Kd.C_below HR1_5.out HB.out) | (with_reducible refine Kd.C_alloc ?_ _) | (with_reducible refine Kd.C_drewN ?_ _) | (with_reducible refine Kd.C_drew ?_))); (case side8 => exact HC1_5.out); rintro e w55 ⟨rfl, hb⟩; have n0_ := Aside0.mk (blk_below (g := gb178) (o := _) (by (with_reducible repeat (first | refine blk_drewN ?_ _ | refine blk_drew ?_ | refine blk_alloc ?_ _)); exact BK178.out) hb); have n1_ := Aside0.mk (blk_below (g := gb179) (o := _) (by (with_reducible repeat (first | refine blk_drewN ?_ _ | refine blk_drew ?_ | refine blk_alloc ?_ _)); exact BK179.out) hb); have n2_ := Aside0.mk (below_step (by repeat (first | (with_reducible first | exact HB.out | apply below_alloc | apply pw_below_drewN | apply below_drew1 | refine below_set ?_ GE178.out | refine below_set ?_ GE179.out) | exact HB.out)) hb); clear BK178; clear BK179; clear HB; have BK178 := n0_; have BK179 := n1_; have HB := n2_; clear n0_ n1_ n2_; (try clear hb); (try clear hb2); (try clear hk); (try clear hi); have hcz56_0 : w55.cell? ⟨gb178, 0, none⟩ = some (.int .i64 a0_0) := (blk_cell BK178.out 0).trans rfl; have hcz56_1 : w55.cell? ⟨gb178, 1, none⟩ = some (.int .i64 a0_1) := (blk_cell BK178.out 1).trans rfl; have hcz56_2 : w55.cell? ⟨gb178, 2, none⟩ = some (.bool a0_2) := (blk_cell BK178.out 2).trans rfl; have hcz56_3 : w55.cell? ⟨gb178, 3, none⟩ = some (.bool a0_3) := (blk_cell BK178.out 3).trans rfl; have hcz56_4 : w55.cell? ⟨gb178, 4, none⟩ = some (.slice A0_4 l0_4.length c0_4) := (blk_cell BK178.out 4).trans rfl; have hcz56_5 : w55.cell? ⟨gb178, 5, none⟩ = some (.slice A0_5 l0_5.length c0_5) := (blk_cell BK178.out 5).trans rfl; have hcz56_6 : w55.cell? ⟨gb178, 6, none⟩ = some (.int .i64 a0_6) := (blk_cell BK178.out 6).trans rfl; have hcz56_7 : w55.cell? ⟨gb178, 7, none⟩ = some (.int .i64 a0_7) := (blk_cell BK178.out 7).trans rfl; have hcz56_8 : w55.cell? ⟨gb178, 8, none⟩ = some (.slice A0_8 l0_8.length c0_8) := (blk_cell BK178.out 8).trans rfl; have hcz56_9 : w55.cell? ⟨gb178, 9, none⟩ = some (.slice A0_9 l0_9.length c0_9) := (blk_cell BK178.out 9).trans rfl; have hcz56_10 : w55.cell? ⟨gb178, 10, none⟩ = some (.slice A0_10 l0_10.length c0_10) := (blk_cell BK178.out 10).trans rfl; have hcz56_11 : w55.cell? ⟨gb178, 11, none⟩ = some (.int .i64 a0_11) := (blk_cell BK178.out 11).trans rfl; have hcz56_12 : w55.cell? ⟨gb178, 12, none⟩ = some (.int .i64 a0_12) := (blk_cell BK178.out 12).trans rfl; have hcz56_13 : w55.cell? ⟨gb178, 13, none⟩ = some (.int .i64 a0_13) := (blk_cell BK178.out 13).trans rfl; have hfz56_0 := blk_frozen BK178.out 0; have hfz56_1 := blk_frozen BK178.out 1; have hfz56_2 := blk_frozen BK178.out 2; have hfz56_3 := blk_frozen BK178.out 3; have hfz56_4 := blk_frozen BK178.out 4; have hfz56_5 := blk_frozen BK178.out 5; have hfz56_6 := blk_frozen BK178.out 6; have hfz56_7 := blk_frozen BK178.out 7; have hfz56_8 := blk_frozen BK178.out 8; have hfz56_9 := blk_frozen BK178.out 9; have hfz56_10 := blk_frozen BK178.out 10; have hfz56_11 := blk_frozen BK178.out 11; have hfz56_12 := blk_frozen BK178.out 12; have hfz56_13 := blk_frozen BK178.out 13; have hcz57_0 : w55.cell? ⟨gb179, 0, none⟩ = some (.int .i64 a1_0) := (blk_cell BK179.out 0).trans rfl; have hcz57_1 : w55.cell? ⟨gb179, 1, none⟩ = some (.int .i64 a1_1) := (blk_cell BK179.out 1).trans rfl; have hcz57_2 : w55.cell? ⟨gb179, 2, none⟩ = some (.bool a1_2) := (blk_cell BK179.out 2).trans rfl; have hcz57_3 : w55.cell? ⟨gb179, 3, none⟩ = some (.bool a1_3) := (blk_cell BK179.out 3).trans rfl; have hcz57_4 : w55.cell? ⟨gb179, 4, none⟩ = some (.slice A1_4 l1_4.length c1_4) := (blk_cell BK179.out 4).trans rfl; have hcz57_5 : w55.cell? ⟨gb179, 5, none⟩ = some (.slice A1_5 l1_5.length c1_5) := (blk_cell BK179.out 5).trans rfl; have hcz57_6 : w55.cell? ⟨gb179, 6, none⟩ = some (.int .i64 a1_6) := (blk_cell BK179.out 6).trans rfl; have hcz57_7 : w55.cell? ⟨gb179, 7, none⟩ = some (.int .i64 a1_7) := (blk_cell BK179.out 7).trans rfl; have hcz57_8 : w55.cell? ⟨gb179, 8, none⟩ = some (.slice A1_8 l1_8.length c1_8) := (blk_cell BK179.out 8).trans rfl; have hcz57_9 : w55.cell? ⟨gb179, 9, none⟩ = some (.slice A1_9 l1_9.length c1_9) := (blk_cell BK179.out 9).trans rfl; have hcz57_10 : w55.cell? ⟨gb179, 10, none⟩ = some (.slice A1_10 l1_10.length c1_10) := (blk_cell BK179.out 10).trans rfl; have hcz57_11 : w55.cell? ⟨gb179, 11, none⟩ = some (.int .i64 a1_11) := (blk_cell BK179.out 11).trans rfl; have hcz57_12 : w55.cell? ⟨gb179, 12, none⟩ = some (.int .i64 a1_12) := (blk_cell BK179.out 12).trans rfl; have hcz57_13 : w55.cell? ⟨gb179, 13, none⟩ = some (.int .i64 a1_13) := (blk_cell BK179.out 13).trans rfl; have hfz57_0 := blk_frozen BK179.out 0; have hfz57_1 := blk_frozen BK179.out 1; have hfz57_2 := blk_frozen BK179.out 2; have hfz57_3 := blk_frozen BK179.out 3; have hfz57_4 := blk_frozen BK179.out 4; have hfz57_5 := blk_frozen BK179.out 5; have hfz57_6 := blk_frozen BK179.out 6; have hfz57_7 := blk_frozen BK179.out 7; have hfz57_8 := blk_frozen BK179.out 8; have hfz57_9 := blk_frozen BK179.out 9; have hfz57_10 := blk_frozen BK179.out 10; have hfz57_11 := blk_frozen BK179.out 11; have hfz57_12 := blk_frozen BK179.out 12; have hfz57_13 := blk_frozen BK179.out 13) | (go_at_call 131; (with_reducible refine (spec_EqualInts.calls k1 _ _ l0_9 _ _ l1_9 false _ ?side1 ?side2 ?side3 ?side4 A22.out).mono ?_); (case side1 => repeat (first | exact (Kd.C_below HR0_9.out HB.out) | (with_reducible refine Kd.C_alloc ?_ _) | (with_reducible refine Kd.C_drewN ?_ _) | (with_reducible refine Kd.C_drew ?_))); (case side2 => exact HC0_9.out); (case side3 => repeat (first | exact (Kd.C_below HR1_9.out HB.out) | (with_reducible refine Kd.C_alloc ?_ _) | (with_reducible refine Kd.C_drewN ?_ _) | (with_reducible refine Kd.C_drew ?_))); (case side4 => exact HC1_9.out); rintro e w' ⟨rfl, ⟨nd, rfl⟩⟩; (try first | exact ⟨rfl, _, World.drewN_drewN _ _ _⟩ | exact ⟨rfl, _, Eq.trans (World.drewN_drewN _ _ _) (congrArg (World.drewN _) (Nat.add_assoc _ _ _))⟩)))
          repeat (go_quiet (first | (go_at_call 132; (with_reducible refine (spec_EqualRules.calls k1 a0_0 a0_1 a0_2 a0_3 _ _ l0_4 _ _ l0_5 a0_6 a0_7 a1_0 a1_1 a1_2 a1_3 _ _ l1_4 _ _ l1_5 a1_6 a1_7 true _ ?side1 ?side2 ?side3 ?side4 ?side5 ?side6 ?side7 ?side8 A20.out).mono ?_); (case side1 => repeat (first | exact (Kd.C_below HR0_4.out HB.out) | (with_reducible refine Kd.C_alloc ?_ _) | (with_reducible refine Kd.C_drewN ?_ _) | (with_reducible refine Kd.C_drew ?_))); (case side2 => exact HC0_4.out); (case side3 => repeat (first | exact (Kd.C_below HR0_5.out HB.out) | (with_reducible refine Kd.C_alloc ?_ _) | (with_reducible refine Kd.C_drewN ?_ _) | (with_reducible refine Kd.C_drew ?_))); (case side4 => exact HC0_5.out); (case side5 => repeat (first | exact (Kd.C_below HR1_4.out HB.out) | (with_reducible refine Kd.C_alloc ?_ _) | (with_reducible refine Kd.C_drewN ?_ _) | (with_reducible refine Kd.C_drew ?_))); (case side6 => exact HC1_4.out); (case side7 => repeat (first | exact (Kd.C_below HR1_5.out HB.out) | (with_reducible refine Kd.C_alloc ?_ _) | (with_reducible refine Kd.C_drewN ?_ _) | (with_reducible refine Kd.C_drew ?_))); (case side8 => exact HC1_5.out); rintro e w55 ⟨rfl, hb⟩; have n0_ := Aside0.mk (blk_below (g := gb178) (o := _) (by (with_reducible repeat (first | refine blk_drewN ?_ _ | refine blk_drew ?_ | refine blk_alloc ?_ _)); exact BK178.out) hb); have n1_ := Aside0.mk (blk_below (g := gb179) (o := _) (by (with_reducible repeat (first | refine blk_drewN ?_ _ | refine blk_drew ?_ | refine blk_alloc ?_ _)); exact BK179.out) hb); have n2_ := Aside0.mk (below_step (by repeat (first | (with_reducible first | exact HB.out | apply below_alloc | apply pw_below_drewN | apply below_drew1 | refine below_set ?_ GE178.out | refine below_set ?_ GE179.out) | exact HB.out)) hb); clear BK178; clear BK179; clear HB; have BK178 := n0_; have BK179 := n1_; have HB := n2_; clear n0_ n1_ n2_; (try clear hb); (try clear hb2); (try clear hk); (try clear hi); have hcz56_0 : w55.cell? ⟨gb178, 0, none⟩ = some (.int .i64 a0_0) := (blk_cell BK178.out 0).trans rfl; have hcz56_1 : w55.cell? ⟨gb178, 1, none⟩ = some (.int .i64 a0_1) := (blk_cell BK178.out 1).trans rfl; have hcz56_2 : w55.cell? ⟨gb178, 2, none⟩ = some (.bool a0_2) := (blk_cell BK178.out 2).trans rfl; have hcz56_3 : w55.cell? ⟨gb178, 3, none⟩ = some (.bool a0_3) := (blk_cell BK178.out 3).trans rfl; have hcz56_4 : w55.cell? ⟨gb178, 4, none⟩ = some (.slice A0_4 l0_4.length c0_4) := (blk_cell BK178.out 4).trans rfl; have hcz56_5 : w55.cell? ⟨gb178, 5, none⟩ = some (.slice A0_5 l0_5.length c0_5) := (blk_cell BK178.out 5).trans rfl; have hcz56_6 : w55.cell? ⟨gb178, 6, none⟩ = some (.int .i64 a0_6) := (blk_cell BK178.out 6).trans rfl; have hcz56_7 : w55.cell? ⟨gb178, 7, none⟩ = some (.int .i64 a0_7) := (blk_cell BK178.out 7).trans rfl; have hcz56_8 : w55.cell? ⟨gb178, 8, none⟩ = some (.slice A0_8 l0_8.length c0_8) := (blk_cell BK178.out 8).trans rfl; have hcz56_9 : w55.cell? ⟨gb178, 9, none⟩ = some (.slice A0_9 l0_9.length c0_9) := (blk_cell BK178.out 9).trans rfl; have hcz56_10 : w55.cell? ⟨gb178, 10, none⟩ = some (.slice A0_10 l0_10.length c0_10) := (blk_cell BK178.out 10).trans rfl; have hcz56_11 : w55.cell? ⟨gb178, 11, none⟩ = some (.int .i64 a0_11) := (blk_cell BK178.out 11).trans rfl; have hcz56_12 : w55.cell? ⟨gb178, 12, none⟩ = some (.int .i64 a0_12) := (blk_cell BK178.out 12).trans rfl; have hcz56_13 : w55.cell? ⟨gb178, 13, none⟩ = some (.int .i64 a0_13) := (blk_cell BK178.out 13).trans rfl; have hfz56_0 := blk_frozen BK178.out 0; have hfz56_1 := blk_frozen BK178.out 1; have hfz56_2 := blk_frozen BK178.out 2; have hfz56_3 := blk_frozen BK178.out 3; have hfz56_4 := blk_frozen BK178.out 4; have hfz56_5 := blk_frozen BK178.out 5; have hfz56_6 := blk_frozen BK178.out 6; have hfz56_7 := blk_frozen BK178.out 7; have hfz56_8 := blk_frozen BK178.out 8; have hfz56_9 := blk_frozen BK178.out 9; have hfz56_10 := blk_frozen BK178.out 10; have hfz56_11 := blk_frozen BK178.out 11; have hfz56_12 := blk_frozen BK178.out 12; have hfz56_13 := blk_frozen BK178.out 13; have hcz57_0 : w55.cell? ⟨gb179, 0, none⟩ = some (.int .i64 a1_0) := (blk_cell BK179.out 0).trans rfl; have hcz57_1 : w55.cell? ⟨gb179, 1, none⟩ = some (.int .i64 a1_1) := (blk_cell BK179.out 1).trans rfl; have hcz57_2 : w55.cell? ⟨gb179, 2, none⟩ = some (.bool a1_2) := (blk_cell BK179.out 2).trans rfl; have hcz57_3 : w55.cell? ⟨gb179, 3, none⟩ = some (.bool a1_3) := (blk_cell BK179.out 3).trans rfl; have hcz57_4 : w55.cell? ⟨gb179, 4, none⟩ = some (.slice A1_4 l1_4.length c1_4) := (blk_cell BK179.out 4).trans rfl; have hcz57_5 : w55.cell? ⟨gb179, 5, none⟩ = some (.slice A1_5 l1_5.length c1_5) := (blk_cell BK179.out 5).trans rfl; have hcz57_6 : w55.cell? ⟨gb179, 6, none⟩ = some (.int .i64 a1_6) := (blk_cell BK179.out 6).trans rfl; have hcz57_7 : w55.cell? ⟨gb179, 7, none⟩ = some (.int .i64 a1_7) := (blk_cell BK179.out 7).trans rfl; have hcz57_8 : w55.cell? ⟨gb179, 8, none⟩ = some (.slice A1_8 l1_8.length c1_8) := (blk_cell BK179.out 8).trans rfl; have hcz57_9 : w55.cell? ⟨gb179, 9, none⟩ = some (.slice A1_9 l1_9.length c1_9) := (blk_cell BK179.out 9).trans rfl; have hcz57_10 : w55.cell? ⟨gb179, 10, none⟩ = some (.slice A1_10 l1_10.length c1_10) := (blk_cell BK179.out 10).trans rfl; have hcz57_11 : w55.cell? ⟨gb179, 11, none⟩ = some (.int .i64 a1_11) := (blk_cell BK179.out 11).trans rfl; have hcz57_12 : w55.cell? ⟨gb179, 12, none⟩ = some (.int .i64 a1_12) := (blk_cell BK179.out 12).trans rfl; have hcz57_13 : w55.cell? ⟨gb179, 13, none⟩ = some (.int .i64 a1_13) := (blk_cell BK179.out 13).trans rfl; have hfz57_0 := blk_frozen BK179.out 0; have hfz57_1 := blk_frozen BK179.out 1; have hfz57_2 := blk_frozen BK179.out 2; have hfz57_3 := blk_frozen BK179.out 3; have hfz57_4 := blk_frozen BK179.out 4; have hfz57_5 := blk_frozen BK179.out 5; have hfz57_6 := blk_frozen BK179.out 6; have hfz57_7 := blk_frozen BK179.out 7; have hfz57_8 := blk_frozen BK179.out 8; have hfz57_9 := blk_frozen BK179.out 9; have hfz57_10 := blk_frozen BK179.out 10; have hfz57_11 := blk_frozen BK179.out 11; have hfz57_12 := blk_frozen BK179.out 12; have hfz57_13 := blk_frozen BK179.out 13) | (go_at_call 131; (with_reducible refine (spec_EqualInts.calls k1 _ _ l0_9 _ _ l1_9 false _ ?side1 ?side2 ?side3 ?side4 A22.out).mono ?_); (case side1 => repeat (first | exact (Kd.C_below HR0_9.out HB.out) | (with_reducible refine Kd.C_alloc ?_ _) | (with_reducible refine Kd.C_drewN ?_ _) | (with_reducible refine Kd.C_drew ?_))); (case side2 => exact HC0_9.out); (case side3 => repeat (first | exact (Kd.C_below HR1_9.out HB.out) | (with_reducible refine Kd.C_alloc ?_ _) | (with_reducible refine Kd.C_drewN ?_ _) | (with_reducible refine Kd.C_drew ?_))); (case side4 => exact HC1_9.out); rintro e w' ⟨rfl, ⟨nd, rfl⟩⟩; (try first | exact ⟨rfl, _, World.drewN_drewN _ _ _⟩ | exact ⟨rfl, _, Eq.trans (World.drewN_drewN _ _ _) (congrArg (World.drewN _) (Nat.add_assoc _ _ _))⟩))); try go_wp2_with (first | (go_at_call 132; (with_reducible refine (spec_EqualRules.calls k1 a0_0 a0_1 a0_2 a0_3 _ _ l0_4 _ _ l0_5 a0_6 a0_7 a1_0 a1_1 a1_2 a1_3 _ _ l1_4 _ _ l1_5 a1_6 a1_7 true _ ?side1 ?side2 ?side3 ?side4 ?side5 ?side6 ?side7 ?side8 A20.out).mono ?_); (case side1 => repeat (first | exact (Kd.C_below HR0_4.out HB.out) | (with_reducible refine Kd.C_alloc ?_ _) | (with_reducible refine Kd.C_drewN ?_ _) | (with_reducible refine Kd.C_drew ?_))); (case side2 => exact HC0_4.out); (case side3 => repeat (first | exact (Kd.C_below HR0_5.out HB.out) | (with_reducible refine Kd.C_alloc ?_ _) | (with_reducible refine Kd.C_drewN ?_ _) | (with_reducible refine Kd.C_drew ?_))); (case side4 => exact HC0_5.out); (case side5 => repeat (first | exact (Kd.C_below HR1_4.out HB.out) | (with_reducible refine Kd.C_alloc ?_ _) | (with_reducible refine Kd.C_drewN ?_ _) | (with_reducible refine Kd.C_drew ?_))); (case side6 => exact HC1_4.out); (case side7 => repeat (first | exact (Kd.C_below HR1_5.out HB.out) | (with_reducible refine Kd.C_alloc ?_ _) | (with_reducible refine Kd.C_drewN ?_ _) | (with_reducible refine Kd.C_drew ?_))); (case side8 => exact HC1_5.out); rintro e w55 ⟨rfl, hb⟩; have n0_ := Aside0.mk (blk_below (g := gb178) (o := _) (by (with_reducible repeat (first | refine blk_drewN ?_ _ | refine blk_drew ?_ | refine blk_alloc ?_ _)); exact BK178.out) hb); have n1_ := Aside0.mk (blk_below (g := gb179) (o := _) (by (with_reducible repeat (first | refine blk_drewN ?_ _ | refine blk_drew ?_ | refine blk_alloc ?_ _)); exact BK179.out) hb); have n2_ := Aside0.mk (below_step (by repeat (first | (with_reducible first | exact HB.out | apply below_alloc | apply pw_below_drewN | apply below_drew1 | refine below_set ?_ GE178.out | refine below_set ?_ GE179.out) | exact HB.out)) hb); clear BK178; clear BK179; clear HB; have BK178 := n0_; have BK179 := n1_; have HB := n2_; clear n0_ n1_ n2_; (try clear hb); (try clear hb2); (try clear hk); (try clear hi); have hcz56_0 : w55.cell? ⟨gb178, 0, none⟩ = some (.int .i64 a0_0) := (blk_cell BK178.out 0).trans rfl; have hcz56_1 : w55.cell? ⟨gb178, 1, none⟩ = some (.int .i64 a0_1) := (blk_cell BK178.out 1).trans rfl; have hcz56_2 : w55.cell? ⟨gb178, 2, none⟩ = some (.bool a0_2) := (blk_cell BK178.out 2).trans rfl; have hcz56_3 : w55.cell? ⟨gb178, 3, none⟩ = some (.bool a0_3) := (blk_cell BK178.out 3).trans rfl; have hcz56_4 : w55.cell? ⟨gb178, 4, none⟩ = some (.slice A0_4 l0_4.length c0_4) := (blk_cell BK178.out 4).trans rfl; have hcz56_5 : w55.cell? ⟨gb178, 5, none⟩ = some (.slice A0_5 l0_5.length c0_5) := (blk_cell BK178.out 5).trans rfl; have hcz56_6 : w55.cell? ⟨gb178, 6, none⟩ = some (.int .i64 a0_6) := (blk_cell BK178.out 6).trans rfl; have hcz56_7 : w55.cell? ⟨gb178, 7, none⟩ = some (.int .i64 a0_7) := (blk_cell BK178.out 7).trans rfl; have hcz56_8 : w55.cell? ⟨gb178, 8, none⟩ = some (.slice A0_8 l0_8.length c0_8) := (blk_cell BK178.out 8).trans rfl; have hcz56_9 : w55.cell? ⟨gb178, 9, none⟩ = some (.slice A0_9 l0_9.length c0_9) := (blk_cell BK178.out 9).trans rfl; have hcz56_10 : w55.cell? ⟨gb178, 10, none⟩ = some (.slice A0_10 l0_10.length c0_10) := (blk_cell BK178.out 10).trans rfl; have hcz56_11 : w55.cell? ⟨gb178, 11, none⟩ = some (.int .i64 a0_11) := (blk_cell BK178.out 11).trans rfl; have hcz56_12 : w55.cell? ⟨gb178, 12, none⟩ = some (.int .i64 a0_12) := (blk_cell BK178.out 12).trans rfl; have hcz56_13 : w55.cell? ⟨gb178, 13, none⟩ = some (.int .i64 a0_13) := (blk_cell BK178.out 13).trans rfl; have hfz56_0 := blk_frozen BK178.out 0; have hfz56_1 := blk_frozen BK178.out 1; have hfz56_2 := blk_frozen BK178.out 2; have hfz56_3 := blk_frozen BK178.out 3; have hfz56_4 := blk_frozen BK178.out 4; have hfz56_5 := blk_frozen BK178.out 5; have hfz56_6 := blk_frozen BK178.out 6; have hfz56_7 := blk_frozen BK178.out 7; have hfz56_8 := blk_frozen BK178.out 8; have hfz56_9 := blk_frozen BK178.out 9; have hfz56_10 := blk_frozen BK178.out 10; have hfz56_11 := blk_frozen BK178.out 11; have hfz56_12 := blk_frozen BK178.out 12; have hfz56_13 := blk_frozen BK178.out 13; have hcz57_0 : w55.cell? ⟨gb179, 0, none⟩ = some (.int .i64 a1_0) := (blk_cell BK179.out 0).trans rfl; have hcz57_1 : w55.cell? ⟨gb179, 1, none⟩ = some (.int .i64 a1_1) := (blk_cell BK179.out 1).trans rfl; have hcz57_2 : w55.cell? ⟨gb179, 2, none⟩ = some (.bool a1_2) := (blk_cell BK179.out 2).trans rfl; have hcz57_3 : w55.cell? ⟨gb179, 3, none⟩ = some (.bool a1_3) := (blk_cell BK179.out 3).trans rfl; have hcz57_4 : w55.cell? ⟨gb179, 4, none⟩ = some (.slice A1_4 l1_4.length c1_4) := (blk_cell BK179.out 4).trans rfl; have hcz57_5 : w55.cell? ⟨gb179, 5, none⟩ = some (.slice A1_5 l1_5.length c1_5) := (blk_cell BK179.out 5).trans rfl; have hcz57_6 : w55.cell? ⟨gb179, 6, none⟩ = some (.int .i64 a1_6) := (blk_cell BK179.out 6).trans rfl; have hcz57_7 : w55.cell? ⟨gb179, 7, none⟩ = some (.int .i64 a1_7) := (blk_cell BK179.out 7).trans rfl; have hcz57_8 : w55.cell? ⟨gb179, 8, none⟩ = some (.slice A1_8 l1_8.length c1_8) := (blk_cell BK179.out 8).trans rfl; have hcz57_9 : w55.cell? ⟨gb179, 9, none⟩ = some (.slice A1_9 l1_9.length c1_9) := (blk_cell BK179.out 9).trans rfl; have hcz57_10 : w55.cell? ⟨gb179, 10, none⟩ = some (.slice A1_10 l1_10.length c1_10) := (blk_cell BK179.out 10).trans rfl; have hcz57_11 : w55.cell? ⟨gb179, 11, none⟩ = some (.int .i64 a1_11) := (blk_cell BK179.out 11).trans rfl; have hcz57_12 : w55.cell? ⟨gb179, 12, none⟩ = some (.int .i64 a1_12) := (blk_cell BK179.out 12).trans rfl; have hcz57_13 : w55.cell? ⟨gb179, 13, none⟩ = some (.int .i64 a1_13) := (blk_cell BK179.out 13).trans rfl; have hfz57_0 := blk_frozen BK179.out 0; have hfz57_1 := blk_frozen BK179.out 1; have hfz57_2 := blk_frozen BK179.out 2; have hfz57_3 := blk_frozen BK179.out 3; have hfz57_4 := blk_frozen BK179.out 4; have hfz57_5 := blk_frozen BK179.out 5; have hfz57_6 := blk_frozen BK179.out 6; have hfz57_7 := blk_frozen BK179.out 7; have hfz57_8 := blk_frozen BK179.out 8; have hfz57_9 := blk_frozen BK179.out 9; have hfz57_10 := blk_frozen BK179.out 10; have hfz57_11 := blk_frozen BK179.out 11; have hfz57_12 := blk_frozen BK179.out 12; have hfz57_13 := blk_frozen BK179.out 13) | (go_at_call 131; (with_reducible refine (spec_EqualInts.calls k1 _ _ l0_9 _ _ l1_9 false _ ?side1 ?side2 ?side3 ?side4 A22.out).mono ?_); (case side1 => repeat (first | exact (Kd.C_below HR0_9.out HB.out) | (with_reducible refine Kd.C_alloc ?_ _) | (with_reducible refine Kd.C_drewN ?_ _) | (with_reducible refine Kd.C_drew ?_))); (case side2 => exact HC0_9.out); (case side3 => repeat (first | exact (Kd.C_below HR1_9.out HB.out) | (with_reducible refine Kd.C_alloc ?_ _) | (with_reducible refine Kd.C_drewN ?_ _) | (with_reducible refine Kd.C_drew ?_))); (case side4 => exact HC1_9.out); rintro e w' ⟨rfl, ⟨nd, rfl⟩⟩; (try first | exact ⟨rfl, _, World.drewN_drewN _ _ _⟩ | exact ⟨rfl, _, Eq.trans (World.drewN_drewN _ _ _) (congrArg (World.drewN _) (Nat.add_assoc _ _ _))⟩))))
          go_ret
          exact ⟨by first | rfl | (simp [errW_none, errW_some] <;> rfl) | (simp [*, errW_none, errW_some] <;> rfl), by repeat (first | (with_reducible first | exact HB.out | apply below_alloc | apply pw_below_drewN | apply below_drew1 | refine below_set ?_ GE178.out | refine below_set ?_ GE179.out) | exact HB.out)⟩
        rotate_right
        subst c23
        rw [if_pos rfl] at H
        replace H := Option.bind_eq_some_iff.mp H
        obtain ⟨t185, A240, H⟩ := H
        have A24 := Aside0.mk A240
        clear A240
        by_cases c25 : t185 = true
        rotate_left
        replace c25 := Bool.eq_false_iff.mpr c25
        subst c25
        rw [if_neg (show ¬ (false = true) by decide)] at H
        obtain rfl := Option.some.inj H
        rotate_right
        subst c25
        rw [if_pos rfl] at H
        by_cases c26 : a0_11 = a1_11
        rotate_left
        rw [if_neg c26] at H
        have c26b0 : (a0_11 == a1_11) = false := beq_eq_false_iff_ne.mpr c26
        have c26b1 : (a0_11 != a1_11) = true := bne_iff_ne.mpr c26
        obtain rfl := Option.some.inj H
        rotate_right
        rw [if_pos c26] at H
        have c26b0 : (a0_11 == a1_11) = true := beq_iff_eq.mpr c26
        have c26b1 : (a0_11 != a1_11) = false := bne_eq_false_iff_eq.mpr c26
        clear c26
        by_cases c27 : a0_12 = a1_12
        rotate_left
        rw [if_neg c27] at H
        have c27b0 : (a0_12 == a1_12) = false := beq_eq_false_iff_ne.mpr c27
        have c27b1 : (a0_12 != a1_12) = true := bne_iff_ne.mpr c27
        obtain rfl := Option.some.inj H
        rotate_right
        rw [if_pos c27] at H
        have c27b0 : (a0_12 == a1_12) = true := beq_iff_eq.mpr c27
        have c27b1 : (a0_12 != a1_12) = false := bne_eq_false_iff_eq.mpr c27
        clear c27
        obtain rfl := Option.some.inj H
        rotate_right
        rw [if_pos c9] at H
        have c9b0 : decide (x5_1 < (l0_8.length : Int)) = true := decide_eq_true c9
        clear c9
        by_cases c10 : 0 ≤ x5_1
        rotate_left
        · rw [if_neg c10] at H
          exact absurd H (by simp)
        rotate_right
        rw [if_pos c10] at H
        have c10b0 : decide (0 ≤ x5_1) = true := decide_eq_true c10
        clear c10
        by_cases c11 : x5_1 < (l1_8.length : Int)
        rotate_left
        · rw [if_neg c11] at H
          exact absurd H (by simp)
        rotate_right
        rw [if_pos c11] at H
        have c11b0 : decide (x5_1 < (l1_8.length : Int)) = true := decide_eq_true c11
        clear c11
        replace H := Option.bind_eq_some_iff.mp H
        obtain ⟨t182, A120, H⟩ := H
        have A12 := Aside0.mk A120
        clear A120
        by_cases c13 : t182 = true
        rotate_left
        · replace c13 := Bool.eq_false_iff.mpr c13
          subst c13
          rw [if_neg (show ¬ (false = true) by decide)] at H
          obtain rfl := Option.some.inj H
          have hnb17 := NB178_179.out
          have hnc17 := NB179_178.out
          have hcz18_0 : wr.cell? ⟨gb178, 0, none⟩ = some (.int .i64 a0_0) := (blk_cell BK178.out 0).trans rfl
          have hcz18_1 : wr.cell? ⟨gb178, 1, none⟩ = some (.int .i64 a0_1) := (blk_cell BK178.out 1).trans rfl
          have hcz18_2 : wr.cell? ⟨gb178, 2, none⟩ = some (.bool a0_2) := (blk_cell BK178.out 2).trans rfl
          have hcz18_3 : wr.cell? ⟨gb178, 3, none⟩ = some (.bool a0_3) := (blk_cell BK178.out 3).trans rfl
          have hcz18_4 : wr.cell? ⟨gb178, 4, none⟩ = some (.slice A0_4 l0_4.length c0_4) := (blk_cell BK178.out 4).trans rfl
          have hcz18_5 : wr.cell? ⟨gb178, 5, none⟩ = some (.slice A0_5 l0_5.length c0_5) := (blk_cell BK178.out 5).trans rfl
          have hcz18_6 : wr.cell? ⟨gb178, 6, none⟩ = some (.int .i64 a0_6) := (blk_cell BK178.out 6).trans rfl
          have hcz18_7 : wr.cell? ⟨gb178, 7, none⟩ = some (.int .i64 a0_7) := (blk_cell BK178.out 7).trans rfl
          have hcz18_8 : wr.cell? ⟨gb178, 8, none⟩ = some (.slice A0_8 l0_8.length c0_8) := (blk_cell BK178.out 8).trans rfl
          have hcz18_9 : wr.cell? ⟨gb178, 9, none⟩ = some (.slice A0_9 l0_9.length c0_9) := (blk_cell BK178.out 9).trans rfl
          have hcz18_10 : wr.cell? ⟨gb178, 10, none⟩ = some (.slice A0_10 l0_10.length c0_10) := (blk_cell BK178.out 10).trans rfl
          have hcz18_11 : wr.cell? ⟨gb178, 11, none⟩ = some (.int .i64 a0_11) := (blk_cell BK178.out 11).trans rfl
          have hcz18_12 : wr.cell? ⟨gb178, 12, none⟩ = some (.int .i64 a0_12) := (blk_cell BK178.out 12).trans rfl
          have hcz18_13 : wr.cell? ⟨gb178, 13, none⟩ = some (.int .i64 a0_13) := (blk_cell BK178.out 13).trans rfl
          have hfz18_0 := blk_frozen BK178.out 0
          have hfz18_1 := blk_frozen BK178.out 1
          have hfz18_2 := blk_frozen BK178.out 2
          have hfz18_3 := blk_frozen BK178.out 3
          have hfz18_4 := blk_frozen BK178.out 4
          have hfz18_5 := blk_frozen BK178.out 5
          have hfz18_6 := blk_frozen BK178.out 6
          have hfz18_7 := blk_frozen BK178.out 7
          have hfz18_8 := blk_frozen BK178.out 8
          have hfz18_9 := blk_frozen BK178.out 9
          have hfz18_10 := blk_frozen BK178.out 10
          have hfz18_11 := blk_frozen BK178.out 11
          have hfz18_12 := blk_frozen BK178.out 12
          have hfz18_13 := blk_frozen BK178.out 13
          have p180 : 0 ≤ (x5_1 : Int) := of_decide_eq_true (by first | (with_reducible assumption) | assumption)
          have q180 : x5_1 < (l0_8.length : Int) := of_decide_eq_true (by first | (with_reducible assumption) | assumption)
          obtain ⟨ad180, A180_0, c180_0, e180, hx180_0, hl180_0, hi180_0⟩ := at_L1 HR0_8.out x5_1 p180 q180
          cases e180
          replace hx180_0 := (HB.out.cell (World.block_lt_of_cell? w _ hx180_0)).trans hx180_0
          have HR180_0 := Aside0.mk hi180_0
          have HC180_0 := Aside0.mk hl180_0
          clear hi180_0 hl180_0
          replace p180 := eq_true p180
          replace q180 := eq_true q180
          have hcz19_0 : wr.cell? ⟨gb179, 0, none⟩ = some (.int .i64 a1_0) := (blk_cell BK179.out 0).trans rfl
          have hcz19_1 : wr.cell? ⟨gb179, 1, none⟩ = some (.int .i64 a1_1) := (blk_cell BK179.out 1).trans rfl
          have hcz19_2 : wr.cell? ⟨gb179, 2, none⟩ = some (.bool a1_2) := (blk_cell BK179.out 2).trans rfl
          have hcz19_3 : wr.cell? ⟨gb179, 3, none⟩ = some (.bool a1_3) := (blk_cell BK179.out 3).trans rfl
          have hcz19_4 : wr.cell? ⟨gb179, 4, none⟩ = some (.slice A1_4 l1_4.length c1_4) := (blk_cell BK179.out 4).trans rfl
          have hcz19_5 : wr.cell? ⟨gb179, 5, none⟩ = some (.slice A1_5 l1_5.length c1_5) := (blk_cell BK179.out 5).trans rfl
          have hcz19_6 : wr.cell? ⟨gb179, 6, none⟩ = some (.int .i64 a1_6) := (blk_cell BK179.out 6).trans rfl
          have hcz19_7 : wr.cell? ⟨gb179, 7, none⟩ = some (.int .i64 a1_7) := (blk_cell BK179.out 7).trans rfl
          have hcz19_8 : wr.cell? ⟨gb179, 8, none⟩ = some (.slice A1_8 l1_8.length c1_8) := (blk_cell BK179.out 8).trans rfl
          have hcz19_9 : wr.cell? ⟨gb179, 9, none⟩ = some (.slice A1_9 l1_9.length c1_9) := (blk_cell BK179.out 9).trans rfl
          have hcz19_10 : wr.cell? ⟨gb179, 10, none⟩ = some (.slice A1_10 l1_10.length c1_10) := (blk_cell BK179.out 10).trans rfl
          have hcz19_11 : wr.cell? ⟨gb179, 11, none⟩ = some (.int .i64 a1_11) := (blk_cell BK179.out 11).trans rfl
          have hcz19_12 : wr.cell? ⟨gb179, 12, none⟩ = some (.int .i64 a1_12) := (blk_cell BK179.out 12).trans rfl
          have hcz19_13 : wr.cell? ⟨gb179, 13, none⟩ = some (.int .i64 a1_13) := (blk_cell BK179.out 13).trans rfl
          have hfz19_0 := blk_frozen BK179.out 0
          have hfz19_1 := blk_frozen BK179.out 1
          have hfz19_2 := blk_frozen BK179.out 2
          have hfz19_3 := blk_frozen BK179.out 3
          have hfz19_4 := blk_frozen BK179.out 4
          have hfz19_5 := blk_frozen BK179.out 5
          have hfz19_6 := blk_frozen BK179.out 6
          have hfz19_7 := blk_frozen BK179.out 7
          have hfz19_8 := blk_frozen BK179.out 8
          have hfz19_9 := blk_frozen BK179.out 9
          have hfz19_10 := blk_frozen BK179.out 10
          have hfz19_11 := blk_frozen BK179.out 11
          have hfz19_12 := blk_frozen BK179.out 12
          have hfz19_13 := blk_frozen BK179.out 13
          have p181 : 0 ≤ (x5_1 : Int) := of_decide_eq_true (by first | (with_reducible assumption) | assumption)
          have q181 : x5_1 < (l1_8.length : Int) := of_decide_eq_true (by first | (with_reducible assumption) | assumption)
          obtain ⟨ad181, A181_0, c181_0, e181, hx181_0, hl181_0, hi181_0⟩ := at_L1 HR1_8.out x5_1 p181 q181
          cases e181
          replace hx181_0 := (HB.out.cell (World.block_lt_of_cell? w _ hx181_0)).trans hx181_0
          have HR181_0 := Aside0.mk hi181_0
          have HC181_0 := Aside0.mk hl181_0
          clear hi181_0 hl181_0
          replace p181 := eq_true p181
          replace q181 := eq_true q181
          go_wp2_with (first | (go_at_call 131; (with_reducible refine (spec_EqualInts.calls k1 _ _ (rd_L1 l0_8 x5_1) _ _ (rd_L1 l1_8 x5_1) false _ ?side1 ?side2 ?side3 ?side4 A12.out).mono ?_); (case side1 => repeat (first | exact (Kd.C_below HR180_0.out HB.out) | (with_reducible refine Kd.C_alloc ?_ _) | (with_reducible refine Kd.C_drewN ?_ _) | (with_reducible refine Kd.C_drew ?_))); (case side2 => exact HC180_0.out); (case side3 => repeat (first | exact (Kd.C_below HR181_0.out HB.out) | (with_reducible refine Kd.C_alloc ?_ _) | (with_reducible refine Kd.C_drewN ?_ _) | (with_reducible refine Kd.C_drew ?_))); (case side4 => exact HC181_0.out); rintro e w' ⟨rfl, ⟨nd, rfl⟩⟩; (try first | exact ⟨rfl, _, World.drewN_drewN _ _ _⟩ | exact ⟨rfl, _, Eq.trans (World.drewN_drewN _ _ _) (congrArg (World.drewN _) (Nat.add_assoc _ _ _))⟩)))
          repeat (go_quiet (first | (go_at_call 131; (with_reducible refine (spec_EqualInts.calls k1 _ _ (rd_L1 l0_8 x5_1) _ _ (rd_L1 l1_8 x5_1) false _ ?side1 ?side2 ?side3 ?side4 A12.out).mono ?_); (case side1 => repeat (first | exact (Kd.C_below HR180_0.out HB.out) | (with_reducible refine Kd.C_alloc ?_ _) | (with_reducible refine Kd.C_drewN ?_ _) | (with_reducible refine Kd.C_drew ?_))); (case side2 => exact HC180_0.out); (case side3 => repeat (first | exact (Kd.C_below HR181_0.out HB.out) | (with_reducible refine Kd.C_alloc ?_ _) | (with_reducible refine Kd.C_drewN ?_ _) | (with_reducible refine Kd.C_drew ?_))); (case side4 => exact HC181_0.out); rintro e w' ⟨rfl, ⟨nd, rfl⟩⟩; (try first | exact ⟨rfl, _, World.drewN_drewN _ _ _⟩ | exact ⟨rfl, _, Eq.trans (World.drewN_drewN _ _ _) (congrArg (World.drewN _) (Nat.add_assoc _ _ _))⟩))); try go_wp2_with (first | (go_at_call 131; (with_reducible refine (spec_EqualInts.calls k1 _ _ (rd_L1 l0_8 x5_1) _ _ (rd_L1 l1_8 x5_1) false _ ?side1 ?side2 ?side3 ?side4 A12.out).mono ?_); (case side1 => repeat (first | exact (Kd.C_below HR180_0.out HB.out) | (with_reducible refine Kd.C_alloc ?_ _) | (with_reducible refine Kd.C_drewN ?_ _) | (with_reducible refine Kd.C_drew ?_))); (case side2 => exact HC180_0.out); (case side3 => repeat (first | exact (Kd.C_below HR181_0.out HB.out) | (with_reducible refine Kd.C_alloc ?_ _) | (with_reducible refine Kd.C_drewN ?_ _) | (with_reducible refine Kd.C_drew ?_))); (case side4 => exact HC181_0.out); rintro e w' ⟨rfl, ⟨nd, rfl⟩⟩; (try first | exact ⟨rfl, _, World.drewN_drewN _ _ _⟩ | exact ⟨rfl, _, Eq.trans (World.drewN_drewN _ _ _) (congrArg (World.drewN _) (Nat.add_assoc _ _ _))⟩))))
          go_ret
          exact ⟨by first | rfl | (simp [errW_none, errW_some] <;> rfl) | (simp [*, errW_none, errW_some] <;> rfl), by repeat (first | (with_reducible first | exact HB.out | apply below_alloc | apply pw_below_drewN | apply below_drew1 | refine below_set ?_ GE178.out | refine below_set ?_ GE179.out) | exact HB.out)⟩
        rotate_right
        · subst c13
          rw [if_pos rfl] at H
          have H' := Aside0.mk H
          clear H
          have hnb14 := NB178_179.out
          have hnc14 := NB179_178.out
          have hcz15_0 : wr.cell? ⟨gb178, 0, none⟩ = some (.int .i64 a0_0) := (blk_cell BK178.out 0).trans rfl
          have hcz15_1 : wr.cell? ⟨gb178, 1, none⟩ = some (.int .i64 a0_1) := (blk_cell BK178.out 1).trans rfl
          have hcz15_2 : wr.cell? ⟨gb178, 2, none⟩ = some (.bool a0_2) := (blk_cell BK178.out 2).trans rfl
          have hcz15_3 : wr.cell? ⟨gb178, 3, none⟩ = some (.bool a0_3) := (blk_cell BK178.out 3).trans rfl
          have hcz15_4 : wr.cell? ⟨gb178, 4, none⟩ = some (.slice A0_4 l0_4.length c0_4) := (blk_cell BK178.out 4).trans rfl
          have hcz15_5 : wr.cell? ⟨gb178, 5, none⟩ = some (.slice A0_5 l0_5.length c0_5) := (blk_cell BK178.out 5).trans rfl
          have hcz15_6 : wr.cell? ⟨gb178, 6, none⟩ = some (.int .i64 a0_6) := (blk_cell BK178.out 6).trans rfl
          have hcz15_7 : wr.cell? ⟨gb178, 7, none⟩ = some (.int .i64 a0_7) := (blk_cell BK178.out 7).trans rfl
          have hcz15_8 : wr.cell? ⟨gb178, 8, none⟩ = some (.slice A0_8 l0_8.length c0_8) := (blk_cell BK178.out 8).trans rfl
          have hcz15_9 : wr.cell? ⟨gb178, 9, none⟩ = some (.slice A0_9 l0_9.length c0_9) := (blk_cell BK178.out 9).trans rfl
          have hcz15_10 : wr.cell? ⟨gb178, 10, none⟩ = some (.slice A0_10 l0_10.length c0_10) := (blk_cell BK178.out 10).trans rfl
          have hcz15_11 : wr.cell? ⟨gb178, 11, none⟩ = some (.int .i64 a0_11) := (blk_cell BK178.out 11).trans rfl
          have hcz15_12 : wr.cell? ⟨gb178, 12, none⟩ = some (.int .i64 a0_12) := (blk_cell BK178.out 12).trans rfl
          have hcz15_13 : wr.cell? ⟨gb178, 13, none⟩ = some (.int .i64 a0_13) := (blk_cell BK178.out 13).trans rfl
          have hfz15_0 := blk_frozen BK178.out 0
          have hfz15_1 := blk_frozen BK178.out 1
          have hfz15_2 := blk_frozen BK178.out 2
          have hfz15_3 := blk_frozen BK178.out 3
          have hfz15_4 := blk_frozen BK178.out 4
          have hfz15_5 := blk_frozen BK178.out 5
          have hfz15_6 := blk_frozen BK178.out 6
          have hfz15_7 := blk_frozen BK178.out 7
          have hfz15_8 := blk_frozen BK178.out 8
          have hfz15_9 := blk_frozen BK178.out 9
          have hfz15_10 := blk_frozen BK178.out 10
          have hfz15_11 := blk_frozen BK178.out 11
          have hfz15_12 := blk_frozen BK178.out 12
          have hfz15_13 := blk_frozen BK178.out 13
          have p180 : 0 ≤ (x5_1 : Int) := of_decide_eq_true (by first | (with_reducible assumption) | assumption)
          have q180 : x5_1 < (l0_8.length : Int) := of_decide_eq_true (by first | (with_reducible assumption) | assumption)
          obtain ⟨ad180, A180_0, c180_0, e180, hx180_0, hl180_0, hi180_0⟩ := at_L1 HR0_8.out x5_1 p180 q180
          cases e180
          replace hx180_0 := (HB.out.cell (World.block_lt_of_cell? w _ hx180_0)).trans hx180_0
          have HR180_0 := Aside0.mk hi180_0
          have HC180_0 := Aside0.mk hl180_0
          clear hi180_0 hl180_0
          replace p180 := eq_true p180
          replace q180 := eq_true q180
          have hcz16_0 : wr.cell? ⟨gb179, 0, none⟩ = some (.int .i64 a1_0) := (blk_cell BK179.out 0).trans rfl
          have hcz16_1 : wr.cell? ⟨gb179, 1, none⟩ = some (.int .i64 a1_1) := (blk_cell BK179.out 1).trans rfl
          have hcz16_2 : wr.cell? ⟨gb179, 2, none⟩ = some (.bool a1_2) := (blk_cell BK179.out 2).trans rfl
          have hcz16_3 : wr.cell? ⟨gb179, 3, none⟩ = some (.bool a1_3) := (blk_cell BK179.out 3).trans rfl
          have hcz16_4 : wr.cell? ⟨gb179, 4, none⟩ = some (.slice A1_4 l1_4.length c1_4) := (blk_cell BK179.out 4).trans rfl
          have hcz16_5 : wr.cell? ⟨gb179, 5, none⟩ = some (.slice A1_5 l1_5.length c1_5) := (blk_cell BK179.out 5).trans rfl
          have hcz16_6 : wr.cell? ⟨gb179, 6, none⟩ = some (.int .i64 a1_6) := (blk_cell BK179.out 6).trans rfl
          have hcz16_7 : wr.cell? ⟨gb179, 7, none⟩ = some (.int .i64 a1_7) := (blk_cell BK179.out 7).trans rfl
          have hcz16_8 : wr.cell? ⟨gb179, 8, none⟩ = some (.slice A1_8 l1_8.length c1_8) := (blk_cell BK179.out 8).trans rfl
          have hcz16_9 : wr.cell? ⟨gb179, 9, none⟩ = some (.slice A1_9 l1_9.length c1_9) := (blk_cell BK179.out 9).trans rfl
          have hcz16_10 : wr.cell? ⟨gb179, 10, none⟩ = some (.slice A1_10 l1_10.length c1_10) := (blk_cell BK179.out 10).trans rfl
          have hcz16_11 : wr.cell? ⟨gb179, 11, none⟩ = some (.int .i64 a1_11) := (blk_cell BK179.out 11).trans rfl
          have hcz16_12 : wr.cell? ⟨gb179, 12, none⟩ = some (.int .i64 a1_12) := (blk_cell BK179.out 12).trans rfl
          have hcz16_13 : wr.cell? ⟨gb179, 13, none⟩ = some (.int .i64 a1_13) := (blk_cell BK179.out 13).trans rfl
          have hfz16_0 := blk_frozen BK179.out 0
          have hfz16_1 := blk_frozen BK179.out 1
          have hfz16_2 := blk_frozen BK179.out 2
          have hfz16_3 := blk_frozen BK179.out 3
          have hfz16_4 := blk_frozen BK179.out 4
          have hfz16_5 := blk_frozen BK179.out 5
          have hfz16_6 := blk_frozen BK179.out 6
          have hfz16_7 := blk_frozen BK179.out 7
          have hfz16_8 := blk_frozen BK179.out 8
          have hfz16_9 := blk_frozen BK179.out 9
          have hfz16_10 := blk_frozen BK179.out 10
          have hfz16_11 := blk_frozen BK179.out 11
          have hfz16_12 := blk_frozen BK179.out 12
          have hfz16_13 := blk_frozen BK179.out 13
          have p181 : 0 ≤ (x5_1 : Int) := of_decide_eq_true (by first | (with_reducible assumption) | assumption)
          have q181 : x5_1 < (l1_8.length : Int) := of_decide_eq_true (by first | (with_reducible assumption) | assumption)
          obtain ⟨ad181, A181_0, c181_0, e181, hx181_0, hl181_0, hi181_0⟩ := at_L1 HR1_8.out x5_1 p181 q181
          cases e181
          replace hx181_0 := (HB.out.cell (World.block_lt_of_cell? w _ hx181_0)).trans hx181_0
          have HR181_0 := Aside0.mk hi181_0
          have HC181_0 := Aside0.mk hl181_0
          clear hi181_0 hl181_0
          replace p181 := eq_true p181
          replace q181 := eq_true q181
          go_wp2_with (first | (go_at_call 131; (with_reducible refine (spec_EqualInts.calls k1 _ _ (rd_L1 l0_8 x5_1) _ _ (rd_L1 l1_8 x5_1) true _ ?side1 ?side2 ?side3 ?side4 A12.out).mono ?_); (case side1 => repeat (first | exact (Kd.C_below HR180_0.out HB.out) | (with_reducible refine Kd.C_alloc ?_ _) | (with_reducible refine Kd.C_drewN ?_ _) | (with_reducible refine Kd.C_drew ?_))); (case side2 => exact HC180_0.out); (case side3 => repeat (first | exact (Kd.C_below HR181_0.out HB.out) | (with_reducible refine Kd.C_alloc ?_ _) | (with_reducible refine Kd.C_drewN ?_ _) | (with_reducible refine Kd.C_drew ?_))); (case side4 => exact HC181_0.out); rintro e w' ⟨rfl, ⟨nd, rfl⟩⟩; (try first | exact ⟨rfl, _, World.drewN_drewN _ _ _⟩ | exact ⟨rfl, _, Eq.trans (World.drewN_drewN _ _ _) (congrArg (World.drewN _) (Nat.add_assoc _ _ _))⟩)))
          repeat (go_quiet (first | (go_at_call 131; (with_reducible refine (spec_EqualInts.calls k1 _ _ (rd_L1 l0_8 x5_1) _ _ (rd_L1 l1_8 x5_1) true _ ?side1 ?side2 ?side3 ?side4 A12.out).mono ?_); (case side1 => repeat (first | exact (Kd.C_below HR180_0.out HB.out) | (with_reducible refine Kd.C_alloc ?_ _) | (with_reducible refine Kd.C_drewN ?_ _) | (with_reducible refine Kd.C_drew ?_))); (case side2 => exact HC180_0.out); (case side3 => repeat (first | exact (Kd.C_below HR181_0.out HB.out) | (with_reducible refine Kd.C_alloc ?_ _) | (with_reducible refine Kd.C_drewN ?_ _) | (with_reducible refine Kd.C_drew ?_))); (case side4 => exact HC181_0.out); rintro e w' ⟨rfl, ⟨nd, rfl⟩⟩; (try first | exact ⟨rfl, _, World.drewN_drewN _ _ _⟩ | exact ⟨rfl, _, Eq.trans (World.drewN_drewN _ _ _) (congrArg (World.drewN _) (Nat.add_assoc _ _ _))⟩))); try go_wp2_with (first | (go_at_call 131; (with_reducible refine (spec_EqualInts.calls k1 _ _ (rd_L1 l0_8 x5_1) _ _ (rd_L1 l1_8 x5_1) true _ ?side1 ?side2 ?side3 ?side4 A12.out).mono ?_); (case side1 => repeat (first | exact (Kd.C_below HR180_0.out HB.out) | (with_reducible refine Kd.C_alloc ?_ _) | (with_reducible refine Kd.C_drewN ?_ _) | (with_reducible refine Kd.C_drew ?_))); (case side2 => exact HC180_0.out); (case side3 => repeat (first | exact (Kd.C_below HR181_0.out HB.out) | (with_reducible refine Kd.C_alloc ?_ _) | (with_reducible refine Kd.C_drewN ?_ _) | (with_reducible refine Kd.C_drew ?_))); (case side4 => exact HC181_0.out); rintro e w' ⟨rfl, ⟨nd, rfl⟩⟩; (try first | exact ⟨rfl, _, World.drewN_drewN _ _ _⟩ | exact ⟨rfl, _, Eq.trans (World.drewN_drewN _ _ _) (congrArg (World.drewN _) (Nat.add_assoc _ _ _))⟩))))
          go_roundg k1
          case measure => have := HK1.out; omega
          case rel => exact ⟨(wrap64 (x5_1 + 1)), (by first | rfl | (simp; done) | (simp [*]; done)), H', ⟨by have := HK1.out; omega⟩, ⟨by (with_reducible repeat (first | refine blk_drewN ?_ _ | refine blk_drew ?_ | refine blk_alloc ?_ _)); exact BK178.out⟩, ⟨by (with_reducible repeat (first | refine blk_drewN ?_ _ | refine blk_drew ?_ | refine blk_alloc ?_ _)); exact BK179.out⟩, ⟨by repeat (first | (with_reducible first | exact HB.out | apply below_alloc | apply pw_below_drewN | apply below_drew1 | refine below_set ?_ GE178.out | refine below_set ?_ GE179.out) | exact HB.out)⟩⟩
        all_goals
          have hnb46 := NB178_179.out
          have hnc46 := NB179_178.out
          have hcz47_0 : wr.cell? ⟨gb178, 0, none⟩ = some (.int .i64 a0_0) := (blk_cell BK178.out 0).trans rfl
          have hcz47_1 : wr.cell? ⟨gb178, 1, none⟩ = some (.int .i64 a0_1) := (blk_cell BK178.out 1).trans rfl
          have hcz47_2 : wr.cell? ⟨gb178, 2, none⟩ = some (.bool a0_2) := (blk_cell BK178.out 2).trans rfl
          have hcz47_3 : wr.cell? ⟨gb178, 3, none⟩ = some (.bool a0_3) := (blk_cell BK178.out 3).trans rfl
          have hcz47_4 : wr.cell? ⟨gb178, 4, none⟩ = some (.slice A0_4 l0_4.length c0_4) := (blk_cell BK178.out 4).trans rfl
          have hcz47_5 : wr.cell? ⟨gb178, 5, none⟩ = some (.slice A0_5 l0_5.length c0_5) := (blk_cell BK178.out 5).trans rfl
          have hcz47_6 : wr.cell? ⟨gb178, 6, none⟩ = some (.int .i64 a0_6) := (blk_cell BK178.out 6).trans rfl
          have hcz47_7 : wr.cell? ⟨gb178, 7, none⟩ = some (.int .i64 a0_7) := (blk_cell BK178.out 7).trans rfl
          have hcz47_8 : wr.cell? ⟨gb178, 8, none⟩ = some (.slice A0_8 l0_8.length c0_8) := (blk_cell BK178.out 8).trans rfl
          have hcz47_9 : wr.cell? ⟨gb178, 9, none⟩ = some (.slice A0_9 l0_9.length c0_9) := (blk_cell BK178.out 9).trans rfl
          have hcz47_10 : wr.cell? ⟨gb178, 10, none⟩ = some (.slice A0_10 l0_10.length c0_10) := (blk_cell BK178.out 10).trans rfl
          have hcz47_11 : wr.cell? ⟨gb178, 11, none⟩ = some (.int .i64 a0_11) := (blk_cell BK178.out 11).trans rfl
          have hcz47_12 : wr.cell? ⟨gb178, 12, none⟩ = some (.int .i64 a0_12) := (blk_cell BK178.out 12).trans rfl
          have hcz47_13 : wr.cell? ⟨gb178, 13, none⟩ = some (.int .i64 a0_13) := (blk_cell BK178.out 13).trans rfl
          have hfz47_0 := blk_frozen BK178.out 0
          have hfz47_1 := blk_frozen BK178.out 1
          have hfz47_2 := blk_frozen BK178.out 2
          have hfz47_3 := blk_frozen BK178.out 3
          have hfz47_4 := blk_frozen BK178.out 4
          have hfz47_5 := blk_frozen BK178.out 5
          have hfz47_6 := blk_frozen BK178.out 6
          have hfz47_7 := blk_frozen BK178.out 7
          have hfz47_8 := blk_frozen BK178.out 8
          have hfz47_9 := blk_frozen BK178.out 9
          have hfz47_10 := blk_frozen BK178.out 10
          have hfz47_11 := blk_frozen BK178.out 11
          have hfz47_12 := blk_frozen BK178.out 12
          have hfz47_13 := blk_frozen BK178.out 13
          have hcz48_0 : wr.cell? ⟨gb179, 0, none⟩ = some (.int .i64 a1_0) := (blk_cell BK179.out 0).trans rfl
          have hcz48_1 : wr.cell? ⟨gb179, 1, none⟩ = some (.int .i64 a1_1) := (blk_cell BK179.out 1).trans rfl
          have hcz48_2 : wr.cell? ⟨gb179, 2, none⟩ = some (.bool a1_2) := (blk_cell BK179.out 2).trans rfl
          have hcz48_3 : wr.cell? ⟨gb179, 3, none⟩ = some (.bool a1_3) := (blk_cell BK179.out 3).trans rfl
          have hcz48_4 : wr.cell? ⟨gb179, 4, none⟩ = some (.slice A1_4 l1_4.length c1_4) := (blk_cell BK179.out 4).trans rfl
          have hcz48_5 : wr.cell? ⟨gb179, 5, none⟩ = some (.slice A1_5 l1_5.length c1_5) := (blk_cell BK179.out 5).trans rfl
          have hcz48_6 : wr.cell? ⟨gb179, 6, none⟩ = some (.int .i64 a1_6) := (blk_cell BK179.out 6).trans rfl
          have hcz48_7 : wr.cell? ⟨gb179, 7, none⟩ = some (.int .i64 a1_7) := (blk_cell BK179.out 7).trans rfl
          have hcz48_8 : wr.cell? ⟨gb179, 8, none⟩ = some (.slice A1_8 l1_8.length c1_8) := (blk_cell BK179.out 8).trans rfl
          have hcz48_9 : wr.cell? ⟨gb179, 9, none⟩ = some (.slice A1_9 l1_9.length c1_9) := (blk_cell BK179.out 9).trans rfl
          have hcz48_10 : wr.cell? ⟨gb179, 10, none⟩ = some (.slice A1_10 l1_10.length c1_10) := (blk_cell BK179.out 10).trans rfl
          have hcz48_11 : wr.cell? ⟨gb179, 11, none⟩ = some (.int .i64 a1_11) := (blk_cell BK179.out 11).trans rfl
          have hcz48_12 : wr.cell? ⟨gb179, 12, none⟩ = some (.int .i64 a1_12) := (blk_cell BK179.out 12).trans rfl
          have hcz48_13 : wr.cell? ⟨gb179, 13, none⟩ = some (.int .i64 a1_13) := (blk_cell BK179.out 13).trans rfl
          have hfz48_0 := blk_frozen BK179.out 0
          have hfz48_1 := blk_frozen BK179.out 1
          have hfz48_2 := blk_frozen BK179.out 2
          have hfz48_3 := blk_frozen BK179.out 3
          have hfz48_4 := blk_frozen BK179.out 4
          have hfz48_5 := blk_frozen BK179.out 5
          have hfz48_6 := blk_frozen BK179.out 6
          have hfz48_7 := blk_frozen BK179.out 7
          have hfz48_8 := blk_frozen BK179.out 8
          have hfz48_9 := blk_frozen BK179.out 9
          have hfz48_10 := blk_frozen BK179.out 10
          have hfz48_11 := blk_frozen BK179.out 11
          have hfz48_12 := blk_frozen BK179.out 12
          have hfz48_13 := blk_frozen BK179.out 13
          go_wp2_with (first | (go_at_call 132; (with_reducible refine (spec_EqualRules.calls k1 a0_0 a0_1 a0_2 a0_3 _ _ l0_4 _ _ l0_5 a0_6 a0_7 a1_0 a1_1 a1_2 a1_3 _ _ l1_4 _ _ l1_5 a1_6 a1_7 true _ ?side1 ?side2 ?side3 ?side4 ?side5 ?side6 ?side7 ?side8 A20.out).mono ?_); (case side1 => repeat (first | exact (Kd.C_below HR0_4.out HB.out) | (with_reducible refine Kd.C_alloc ?_ _) | (with_reducible refine Kd.C_drewN ?_ _) | (with_reducible refine Kd.C_drew ?_))); (case side2 => exact HC0_4.out); (case side3 => repeat (first | exact (Kd.C_below HR0_5.out HB.out) | (with_reducible refine Kd.C_alloc ?_ _) | (with_reducible refine Kd.C_drewN ?_ _) | (with_reducible refine Kd.C_drew ?_))); (case side4 => exact HC0_5.out); (case side5 => repeat (first | exact (Kd.C_below HR1_4.out HB.out) | (with_reducible refine Kd.C_alloc ?_ _) | (with_reducible refine Kd.C_drewN ?_ _) | (with_reducible refine Kd.C_drew ?_))); (case side6 => exact HC1_4.out); (case side7 => repeat (first | exact (Kd.C_below HR1_5.out HB.out) | (with_reducible refine Kd.C_alloc ?_ _) | (with_reducible refine Kd.C_drewN ?_ _) | (with_reducible refine Kd.C_drew ?_))); (case side8 => exact HC1_5.out); rintro e w49 ⟨rfl, hb⟩; have n0_ := Aside0.mk (blk_below (g := gb178) (o := _) (by (with_reducible repeat (first | refine blk_drewN ?_ _ | refine blk_drew ?_ | refine blk_alloc ?_ _)); exact BK178.out) hb); have n1_ := Aside0.mk (blk_below (g := gb179) (o := _) (by (with_reducible repeat (first | refine blk_drewN ?_ _ | refine blk_drew ?_ | refine blk_alloc ?_ _)); exact BK179.out) hb); have n2_ := Aside0.mk (below_step (by repeat (first | (with_reducible first | exact HB.out | apply below_alloc | apply pw_below_drewN | apply below_drew1 | refine below_set ?_ GE178.out | refine below_set ?_ GE179.out) | exact HB.out)) hb); clear BK178; clear BK179; clear HB; have BK178 := n0_; have BK179 := n1_; have HB := n2_; clear n0_ n1_ n2_; (try clear hb); (try clear hb2); (try clear hk); (try clear hi); have hcz50_0 : w49.cell? ⟨gb178, 0, none⟩ = some (.int .i64 a0_0) := (blk_cell BK178.out 0).trans rfl; have hcz50_1 : w49.cell? ⟨gb178, 1, none⟩ = some (.int .i64 a0_1) := (blk_cell BK178.out 1).trans rfl; have hcz50_2 : w49.cell? ⟨gb178, 2, none⟩ = some (.bool a0_2) := (blk_cell BK178.out 2).trans rfl; have hcz50_3 : w49.cell? ⟨gb178, 3, none⟩ = some (.bool a0_3) := (blk_cell BK178.out 3).trans rfl; have hcz50_4 : w49.cell? ⟨gb178, 4, none⟩ = some (.slice A0_4 l0_4.length c0_4) := (blk_cell BK178.out 4).trans rfl; have hcz50_5 : w49.cell? ⟨gb178, 5, none⟩ = some (.slice A0_5 l0_5.length c0_5) := (blk_cell BK178.out 5).trans rfl; have hcz50_6 : w49.cell? ⟨gb178, 6, none⟩ = some (.int .i64 a0_6) := (blk_cell BK178.out 6).trans rfl; have hcz50_7 : w49.cell? ⟨gb178, 7, none⟩ = some (.int .i64 a0_7) := (blk_cell BK178.out 7).trans rfl; have hcz50_8 : w49.cell? ⟨gb178, 8, none⟩ = some (.slice A0_8 l0_8.length c0_8) := (blk_cell BK178.out 8).trans rfl; have hcz50_9 : w49.cell? ⟨gb178, 9, none⟩ = some (.slice A0_9 l0_9.length c0_9) := (blk_cell BK178.out 9).trans rfl; have hcz50_10 : w49.cell? ⟨gb178, 10, none⟩ = some (.slice A0_10 l0_10.length c0_10) := (blk_cell BK178.out 10).trans rfl; have hcz50_11 : w49.cell? ⟨gb178, 11, none⟩ = some (.int .i64 a0_11) := (blk_cell BK178.out 11).trans rfl; have hcz50_12 : w49.cell? ⟨gb178, 12, none⟩ = some (.int .i64 a0_12) := (blk_cell BK178.out 12).trans rfl; have hcz50_13 : w49.cell? ⟨gb178, 13, none⟩ = some (.int .i64 a0_13) := (blk_cell BK178.out 13).trans rfl; have hfz50_0 := blk_frozen BK178.out 0; have hfz50_1 := blk_frozen BK178.out 1; have hfz50_2 := blk_frozen BK178.out 2; have hfz50_3 := blk_frozen BK178.out 3; have hfz50_4 := blk_frozen BK178.out 4; have hfz50_5 := blk_frozen BK178.out 5; have hfz50_6 := blk_frozen BK178.out 6; have hfz50_7 := blk_frozen BK178.out 7; have hfz50_8 := blk_frozen BK178.out 8; have hfz50_9 := blk_frozen BK178.out 9; have hfz50_10 := blk_frozen BK178.out 10; have hfz50_11 := blk_frozen BK178.out 11; have hfz50_12 := blk_frozen BK178.out 12; have hfz50_13 := blk_frozen BK178.out 13; have hcz51_0 : w49.cell? ⟨gb179, 0, none⟩ = some (.int .i64 a1_0) := (blk_cell BK179.out 0).trans rfl; have hcz51_1 : w49.cell? ⟨gb179, 1, none⟩ = some (.int .i64 a1_1) := (blk_cell BK179.out 1).trans rfl; have hcz51_2 : w49.cell? ⟨gb179, 2, none⟩ = some (.bool a1_2) := (blk_cell BK179.out 2).trans rfl; have hcz51_3 : w49.cell? ⟨gb179, 3, none⟩ = some (.bool a1_3) := (blk_cell BK179.out 3).trans rfl; have hcz51_4 : w49.cell? ⟨gb179, 4, none⟩ = some (.slice A1_4 l1_4.length c1_4) := (blk_cell BK179.out 4).trans rfl; have hcz51_5 : w49.cell? ⟨gb179, 5, none⟩ = some (.slice A1_5 l1_5.length c1_5) := (blk_cell BK179.out 5).trans rfl; have hcz51_6 : w49.cell? ⟨gb179, 6, none⟩ = some (.int .i64 a1_6) := (blk_cell BK179.out 6).trans rfl; have hcz51_7 : w49.cell? ⟨gb179, 7, none⟩ = some (.int .i64 a1_7) := (blk_cell BK179.out 7).trans rfl; have hcz51_8 : w49.cell? ⟨gb179, 8, none⟩ = some (.slice A1_8 l1_8.length c1_8) := (blk_cell BK179.out 8).trans rfl; have hcz51_9 : w49.cell? ⟨gb179, 9, none⟩ = some (.slice A1_9 l1_9.length c1_9) := (blk_cell BK179.out 9).trans rfl; have hcz51_10 : w49.cell? ⟨gb179, 10, none⟩ = some (.slice A1_10 l1_10.length c1_10) := (blk_cell BK179.out 10).trans rfl; have hcz51_11 : w49.cell? ⟨gb179, 11, none⟩ = some (.int .i64 a1_11) := (blk_cell BK179.out 11).trans rfl; have hcz51_12 : w49.cell? ⟨gb179, 12, none⟩ = some (.int .i64 a1_12) := (blk_cell BK179.out 12).trans rfl; have hcz51_13 : w49.cell? ⟨gb179, 13, none⟩ = some (.int .i64 a1_13) := (blk_cell BK179.out 13).trans rfl; have hfz51_0 := blk_frozen BK179.out 0; have hfz51_1 := blk_frozen BK179.out 1; have hfz51_2 := blk_frozen BK179.out 2; have hfz51_3 := blk_frozen BK179.out 3; have hfz51_4 := blk_frozen BK179.out 4; have hfz51_5 := blk_frozen BK179.out 5; have hfz51_6 := blk_frozen BK179.out 6; have hfz51_7 := blk_frozen BK179.out 7; have hfz51_8 := blk_frozen BK179.out 8; have hfz51_9 := blk_frozen BK179.out 9; have hfz51_10 := blk_frozen BK179.out 10; have hfz51_11 := blk_frozen BK179.out 11; have hfz51_12 := blk_frozen BK179.out 12; have hfz51_13 := blk_frozen BK179.out 13) | (go_at_call 131; (with_reducible refine (spec_EqualInts.calls k1 _ _ l0_9 _ _ l1_9 true _ ?side1 ?side2 ?side3 ?side4 A22.out).mono ?_); (case side1 => repeat (first | exact (Kd.C_below HR0_9.out HB.out) | (with_reducible refine Kd.C_alloc ?_ _) | (with_reducible refine Kd.C_drewN ?_ _) | (with_reducible refine Kd.C_drew ?_))); (case side2 => exact HC0_9.out); (case side3 => repeat (first | exact (Kd.C_below HR1_9.out HB.out) | (with_reducible refine Kd.C_alloc ?_ _) | (with_reducible refine Kd.C_drewN ?_ _) | (with_reducible refine Kd.C_drew ?_))); (case side4 => exact HC1_9.out); rintro e w' ⟨rfl, ⟨nd, rfl⟩⟩; (try first | exact ⟨rfl, _, World.drewN_drewN _ _ _⟩ | exact ⟨rfl, _, Eq.trans (World.drewN_drewN _ _ _) (congrArg (World.drewN _) (Nat.add_assoc _ _ _))⟩)) | (go_at_call 131; (with_reducible refine (spec_EqualInts.calls k1 _ _ l0_10 _ _ l1_10 _ _ ?side1 ?side2 ?side3 ?side4 A24.out).mono ?_); (case side1 => repeat (first | exact (Kd.C_below HR0_10.out (by repeat (first | (with_reducible first | exact HB.out | apply below_alloc | apply pw_below_drewN | apply below_drew1 | refine below_set ?_ GE178.out | refine below_set ?_ GE179.out) | exact HB.out))) | (with_reducible refine Kd.C_alloc ?_ _) | (with_reducible refine Kd.C_drewN ?_ _) | (with_reducible refine Kd.C_drew ?_))); (case side2 => exact HC0_10.out); (case side3 => repeat (first | exact (Kd.C_below HR1_10.out (by repeat (first | (with_reducible first | exact HB.out | apply below_alloc | apply pw_below_drewN | apply below_drew1 | refine below_set ?_ GE178.out | refine below_set ?_ GE179.out) | exact HB.out))) | (with_reducible refine Kd.C_alloc ?_ _) | (with_reducible refine Kd.C_drewN ?_ _) | (with_reducible refine Kd.C_drew ?_))); (case side4 => exact HC1_10.out); rintro e w' ⟨rfl, ⟨nd, rfl⟩⟩; (try first | exact ⟨rfl, _, World.drewN_drewN _ _ _⟩ | exact ⟨rfl, _, Eq.trans (World.drewN_drewN _ _ _) (congrArg (World.drewN _) (Nat.add_assoc _ _ _))⟩)))
          repeat (go_quiet (first | (go_at_call 132; (with_reducible refine (spec_EqualRules.calls k1 a0_0 a0_1 a0_2 a0_3 _ _ l0_4 _ _ l0_5 a0_6 a0_7 a1_0 a1_1 a1_2 a1_3 _ _ l1_4 _ _ l1_5 a1_6 a1_7 true _ ?side1 ?side2 ?side3 ?side4 ?side5 ?side6 ?side7 ?side8 A20.out).mono ?_); (case side1 => repeat (first | exact (Kd.C_below HR0_4.out HB.out) | (with_reducible refine Kd.C_alloc ?_ _) | (with_reducible refine Kd.C_drewN ?_ _) | (with_reducible refine Kd.C_drew ?_))); (case side2 => exact HC0_4.out); (case side3 => repeat (first | exact (Kd.C_below HR0_5.out HB.out) | (with_reducible refine Kd.C_alloc ?_ _) | (with_reducible refine Kd.C_drewN ?_ _) | (with_reducible refine Kd.C_drew ?_))); (case side4 => exact HC0_5.out); (case side5 => repeat (first | exact (Kd.C_below HR1_4.out HB.out) | (with_reducible refine Kd.C_alloc ?_ _) | (with_reducible refine Kd.C_drewN ?_ _) | (with_reducible refine Kd.C_drew ?_))); (case side6 => exact HC1_4.out); (case side7 => repeat (first | exact (Kd.C_below HR1_5.out HB.out) | (with_reducible refine Kd.C_alloc ?_ _) | (with_reducible refine Kd.C_drewN ?_ _) | (with_reducible refine Kd.C_drew ?_))); (case side8 => exact HC1_5.out); rintro e w49 ⟨rfl, hb⟩; have n0_ := Aside0.mk (blk_below (g := gb178) (o := _) (by (with_reducible repeat (first | refine blk_drewN ?_ _ | refine blk_drew ?_ | refine blk_alloc ?_ _)); exact BK178.out) hb); have n1_ := Aside0.mk (blk_below (g := gb179) (o := _) (by (with_reducible repeat (first | refine blk_drewN ?_ _ | refine blk_drew ?_ | refine blk_alloc ?_ _)); exact BK179.out) hb); have n2_ := Aside0.mk (below_step (by repeat (first | (with_reducible first | exact HB.out | apply below_alloc | apply pw_below_drewN | apply below_drew1 | refine below_set ?_ GE178.out | refine below_set ?_ GE179.out) | exact HB.out)) hb); clear BK178; clear BK179; clear HB; have BK178 := n0_; have BK179 := n1_; have HB := n2_; clear n0_ n1_ n2_; (try clear hb); (try clear hb2); (try clear hk); (try clear hi); have hcz50_0 : w49.cell? ⟨gb178, 0, none⟩ = some (.int .i64 a0_0) := (blk_cell BK178.out 0).trans rfl; have hcz50_1 : w49.cell? ⟨gb178, 1, none⟩ = some (.int .i64 a0_1) := (blk_cell BK178.out 1).trans rfl; have hcz50_2 : w49.cell? ⟨gb178, 2, none⟩ = some (.bool a0_2) := (blk_cell BK178.out 2).trans rfl; have hcz50_3 : w49.cell? ⟨gb178, 3, none⟩ = some (.bool a0_3) := (blk_cell BK178.out 3).trans rfl; have hcz50_4 : w49.cell? ⟨gb178, 4, none⟩ = some (.slice A0_4 l0_4.length c0_4) := (blk_cell BK178.out 4).trans rfl; have hcz50_5 : w49.cell? ⟨gb178, 5, none⟩ = some (.slice A0_5 l0_5.length c0_5) := (blk_cell BK178.out 5).trans rfl; have hcz50_6 : w49.cell? ⟨gb178, 6, none⟩ = some (.int .i64 a0_6) := (blk_cell BK178.out 6).trans rfl; have hcz50_7 : w49.cell? ⟨gb178, 7, none⟩ = some (.int .i64 a0_7) := (blk_cell BK178.out 7).trans rfl; have hcz50_8 : w49.cell? ⟨gb178, 8, none⟩ = some (.slice A0_8 l0_8.length c0_8) := (blk_cell BK178.out 8).trans rfl; have hcz50_9 : w49.cell? ⟨gb178, 9, none⟩ = some (.slice A0_9 l0_9.length c0_9) := (blk_cell BK178.out 9).trans rfl; have hcz50_10 : w49.cell? ⟨gb178, 10, none⟩ = some (.slice A0_10 l0_10.length c0_10) := (blk_cell BK178.out 10).trans rfl; have hcz50_11 : w49.cell? ⟨gb178, 11, none⟩ = some (.int .i64 a0_11) := (blk_cell BK178.out 11).trans rfl; have hcz50_12 : w49.cell? ⟨gb178, 12, none⟩ = some (.int .i64 a0_12) := (blk_cell BK178.out 12).trans rfl; have hcz50_13 : w49.cell? ⟨gb178, 13, none⟩ = some (.int .i64 a0_13) := (blk_cell BK178.out 13).trans rfl; have hfz50_0 := blk_frozen BK178.out 0; have hfz50_1 := blk_frozen BK178.out 1; have hfz50_2 := blk_frozen BK178.out 2; have hfz50_3 := blk_frozen BK178.out 3; have hfz50_4 := blk_frozen BK178.out 4; have hfz50_5 := blk_frozen BK178.out 5; have hfz50_6 := blk_frozen BK178.out 6; have hfz50_7 := blk_frozen BK178.out 7; have hfz50_8 := blk_frozen BK178.out 8; have hfz50_9 := blk_frozen BK178.out 9; have hfz50_10 := blk_frozen BK178.out 10; have hfz50_11 := blk_frozen BK178.out 11; have hfz50_12 := blk_frozen BK178.out 12; have hfz50_13 := blk_frozen BK178.out 13; have hcz51_0 : w49.cell? ⟨gb179, 0, none⟩ = some (.int .i64 a1_0) := (blk_cell BK179.out 0).trans rfl; have hcz51_1 : w49.cell? ⟨gb179, 1, none⟩ = some (.int .i64 a1_1) := (blk_cell BK179.out 1).trans rfl; have hcz51_2 : w49.cell? ⟨gb179, 2, none⟩ = some (.bool a1_2) := (blk_cell BK179.out 2).trans rfl; have hcz51_3 : w49.cell? ⟨gb179, 3, none⟩ = some (.bool a1_3) := (blk_cell BK179.out 3).trans rfl; have hcz51_4 : w49.cell? ⟨gb179, 4, none⟩ = some (.slice A1_4 l1_4.length c1_4) := (blk_cell BK179.out 4).trans rfl; have hcz51_5 : w49.cell? ⟨gb179, 5, none⟩ = some (.slice A1_5 l1_5.length c1_5) := (blk_cell BK179.out 5).trans rfl; have hcz51_6 : w49.cell? ⟨gb179, 6, none⟩ = some (.int .i64 a1_6) := (blk_cell BK179.out 6).trans rfl; have hcz51_7 : w49.cell? ⟨gb179, 7, none⟩ = some (.int .i64 a1_7) := (blk_cell BK179.out 7).trans rfl; have hcz51_8 : w49.cell? ⟨gb179, 8, none⟩ = some (.slice A1_8 l1_8.length c1_8) := (blk_cell BK179.out 8).trans rfl; have hcz51_9 : w49.cell? ⟨gb179, 9, none⟩ = some (.slice A1_9 l1_9.length c1_9) := (blk_cell BK179.out 9).trans rfl; have hcz51_10 : w49.cell? ⟨gb179, 10, none⟩ = some (.slice A1_10 l1_10.length c1_10) := (blk_cell BK179.out 10).trans rfl; have hcz51_11 : w49.cell? ⟨gb179, 11, none⟩ = some (.int .i64 a1_11) := (blk_cell BK179.out 11).trans rfl; have hcz51_12 : w49.cell? ⟨gb179, 12, none⟩ = some (.int .i64 a1_12) := (blk_cell BK179.out 12).trans rfl; have hcz51_13 : w49.cell? ⟨gb179, 13, none⟩ = some (.int .i64 a1_13) := (blk_cell BK179.out 13).trans rfl; have hfz51_0 := blk_frozen BK179.out 0; have hfz51_1 := blk_frozen BK179.out 1; have hfz51_2 := blk_frozen BK179.out 2; have hfz51_3 := blk_frozen BK179.out 3; have hfz51_4 := blk_frozen BK179.out 4; have hfz51_5 := blk_frozen BK179.out 5; have hfz51_6 := blk_frozen BK179.out 6; have hfz51_7 := blk_frozen BK179.out 7; have hfz51_8 := blk_frozen BK179.out 8; have hfz51_9 := blk_frozen BK179.out 9; have hfz51_10 := blk_frozen BK179.out 10; have hfz51_11 := blk_frozen BK179.out 11; have hfz51_12 := blk_frozen BK179.out 12; have hfz51_13 := blk_frozen BK179.out 13) | (go_at_call 131; (with_reducible refine (spec_EqualInts.calls k1 _ _ l0_9 _ _ l1_9 true _ ?side1 ?side2 ?side3 ?side4 A22.out).mono ?_); (case side1 => repeat (first | exact (Kd.C_below HR0_9.out HB.out) | (with_reducible refine Kd.C_alloc ?_ _) | (with_reducible refine Kd.C_drewN ?_ _) | (with_reducible refine Kd.C_drew ?_))); (case side2 => exact HC0_9.out); (case side3 => repeat (first | exact (Kd.C_below HR1_9.out HB.out) | (with_reducible refine Kd.C_alloc ?_ _) | (with_reducible refine Kd.C_drewN ?_ _) | (with_reducible refine Kd.C_drew ?_))); (case side4 => exact HC1_9.out); rintro e w' ⟨rfl, ⟨nd, rfl⟩⟩; (try first | exact ⟨rfl, _, World.drewN_drewN _ _ _⟩ | exact ⟨rfl, _, Eq.trans (World.drewN_drewN _ _ _) (congrArg (World.drewN _) (Nat.add_assoc _ _ _))⟩)) | (go_at_call 131; (with_reducible refine (spec_EqualInts.calls k1 _ _ l0_10 _ _ l1_10 _ _ ?side1 ?side2 ?side3 ?side4 A24.out).mono ?_); (case side1 => repeat (first | exact (Kd.C_below HR0_10.out (by repeat (first | (with_reducible first | exact HB.out | apply below_alloc | apply pw_below_drewN | apply below_drew1 | refine below_set ?_ GE178.out | refine below_set ?_ GE179.out) | exact HB.out))) | (with_reducible refine Kd.C_alloc ?_ _) | (with_reducible refine Kd.C_drewN ?_ _) | (with_reducible refine Kd.C_drew ?_))); (case side2 => exact HC0_10.out); (case side3 => repeat (first | exact (Kd.C_below HR1_10.out (by repeat (first | (with_reducible first | exact HB.out | apply below_alloc | apply pw_below_drewN | apply below_drew1 | refine below_set ?_ GE178.out | refine below_set ?_ GE179.out) | exact HB.out))) | (with_reducible refine Kd.C_alloc ?_ _) | (with_reducible refine Kd.C_drewN ?_ _) | (with_reducible refine Kd.C_drew ?_))); (case side4 => exact HC1_10.out); rintro e w' ⟨rfl, ⟨nd, rfl⟩⟩; (try first | exact ⟨rfl, _, World.drewN_drewN _ _ _⟩ | exact ⟨rfl, _, Eq.trans (World.drewN_drewN _ _ _) (congrArg (World.drewN _) (Nat.add_assoc _ _ _))⟩))); try go_wp2_with (first | (go_at_call 132; (with_reducible refine (spec_EqualRules.calls k1 a0_0 a0_1 a0_2 a0_3 _ _ l0_4 _ _ l0_5 a0_6 a0_7 a1_0 a1_1 a1_2 a1_3 _ _ l1_4 _ _ l1_5 a1_6 a1_7 true _ ?side1 ?side2 ?side3 ?side4 ?side5 ?side6 ?side7 ?side8 A20.out).mono ?_); (case side1 => repeat (first | exact (Kd.C_below HR0_4.out HB.out) | (with_reducible refine Kd.C_alloc ?_ _) | (with_reducible refine Kd.C_drewN ?_ _) | (with_reducible refine Kd.C_drew ?_))); (case side2 => exact HC0_4.out); (case side3 => repeat (first | exact (Kd.C_below HR0_5.out HB.out) | (with_reducible refine Kd.C_alloc ?_ _) | (with_reducible refine Kd.C_drewN ?_ _) | (with_reducible refine Kd.C_drew ?_))); (case side4 => exact HC0_5.out); (case side5 => repeat (first | exact (Kd.C_below HR1_4.out HB.out) | (with_reducible refine Kd.C_alloc ?_ _) | (with_reducible refine Kd.C_drewN ?_ _) | (with_reducible refine Kd.C_drew ?_))); (case side6 => exact HC1_4.out); (case side7 => repeat (first | exact (Kd.C_below HR1_5.out HB.out) | (with_reducible refine Kd.C_alloc ?_ _) | (with_reducible refine Kd.C_drewN ?_ _) | (with_reducible refine Kd.C_drew ?_))); (case side8 => exact HC1_5.out); rintro e w49 ⟨rfl, hb⟩; have n0_ := Aside0.mk (blk_below (g := gb178) (o := _) (by (with_reducible repeat (first | refine blk_drewN ?_ _ | refine blk_drew ?_ | refine blk_alloc ?_ _)); exact BK178.out) hb); have n1_ := Aside0.mk (blk_below (g := gb179) (o := _) (by (with_reducible repeat (first | refine blk_drewN ?_ _ | refine blk_drew ?_ | refine blk_alloc ?_ _)); exact BK179.out) hb); have n2_ := Aside0.mk (below_step (by repeat (first | (with_reducible first | exact HB.out | apply below_alloc | apply pw_below_drewN | apply below_drew1 | refine below_set ?_ GE178.out | refine below_set ?_ GE179.out) | exact HB.out)) hb); clear BK178; clear BK179; clear HB; have BK178 := n0_; have BK179 := n1_; have HB := n2_; clear n0_ n1_ n2_; (try clear hb); (try clear hb2); (try clear hk); (try clear hi); have hcz50_0 : w49.cell? ⟨gb178, 0, none⟩ = some (.int .i64 a0_0) := (blk_cell BK178.out 0).trans rfl; have hcz50_1 : w49.cell? ⟨gb178, 1, none⟩ = some (.int .i64 a0_1) := (blk_cell BK178.out 1).trans rfl; have hcz50_2 : w49.cell? ⟨gb178, 2, none⟩ = some (.bool a0_2) := (blk_cell BK178.out 2).trans rfl; have hcz50_3 : w49.cell? ⟨gb178, 3, none⟩ = some (.bool a0_3) := (blk_cell BK178.out 3).trans rfl; have hcz50_4 : w49.cell? ⟨gb178, 4, none⟩ = some (.slice A0_4 l0_4.length c0_4) := (blk_cell BK178.out 4).trans rfl; have hcz50_5 : w49.cell? ⟨gb178, 5, none⟩ = some (.slice A0_5 l0_5.length c0_5) := (blk_cell BK178.out 5).trans rfl; have hcz50_6 : w49.cell? ⟨gb178, 6, none⟩ = some (.int .i64 a0_6) := (blk_cell BK178.out 6).trans rfl; have hcz50_7 : w49.cell? ⟨gb178, 7, none⟩ = some (.int .i64 a0_7) := (blk_cell BK178.out 7).trans rfl; have hcz50_8 : w49.cell? ⟨gb178, 8, none⟩ = some (.slice A0_8 l0_8.length c0_8) := (blk_cell BK178.out 8).trans rfl; have hcz50_9 : w49.cell? ⟨gb178, 9, none⟩ = some (.slice A0_9 l0_9.length c0_9) := (blk_cell BK178.out 9).trans rfl; have hcz50_10 : w49.cell? ⟨gb178, 10, none⟩ = some (.slice A0_10 l0_10.length c0_10) := (blk_cell BK178.out 10).trans rfl; have hcz50_11 : w49.cell? ⟨gb178, 11, none⟩ = some (.int .i64 a0_11) := (blk_cell BK178.out 11).trans rfl; have hcz50_12 : w49.cell? ⟨gb178, 12, none⟩ = some (.int .i64 a0_12) := (blk_cell BK178.out 12).trans rfl; have hcz50_13 : w49.cell? ⟨gb178, 13, none⟩ = some (.int .i64 a0_13) := (blk_cell BK178.out 13).trans rfl; have hfz50_0 := blk_frozen BK178.out 0; have hfz50_1 := blk_frozen BK178.out 1; have hfz50_2 := blk_frozen BK178.out 2; have hfz50_3 := blk_frozen BK178.out 3; have hfz50_4 := blk_frozen BK178.out 4; have hfz50_5 := blk_frozen BK178.out 5; have hfz50_6 := blk_frozen BK178.out 6; have hfz50_7 := blk_frozen BK178.out 7; have hfz50_8 := blk_frozen BK178.out 8; have hfz50_9 := blk_frozen BK178.out 9; have hfz50_10 := blk_frozen BK178.out 10; have hfz50_11 := blk_frozen BK178.out 11; have hfz50_12 := blk_frozen BK178.out 12; have hfz50_13 := blk_frozen BK178.out 13; have hcz51_0 : w49.cell? ⟨gb179, 0, none⟩ = some (.int .i64 a1_0) := (blk_cell BK179.out 0).trans rfl; have hcz51_1 : w49.cell? ⟨gb179, 1, none⟩ = some (.int .i64 a1_1) := (blk_cell BK179.out 1).trans rfl; have hcz51_2 : w49.cell? ⟨gb179, 2, none⟩ = some (.bool a1_2) := (blk_cell BK179.out 2).trans rfl; have hcz51_3 : w49.cell? ⟨gb179, 3, none⟩ = some (.bool a1_3) := (blk_cell BK179.out 3).trans rfl; have hcz51_4 : w49.cell? ⟨gb179, 4, none⟩ = some (.slice A1_4 l1_4.length c1_4) := (blk_cell BK179.out 4).trans rfl; have hcz51_5 : w49.cell? ⟨gb179, 5, none⟩ = some (.slice A1_5 l1_5.length c1_5) := (blk_cell BK179.out 5).trans rfl; have hcz51_6 : w49.cell? ⟨gb179, 6, none⟩ = some (.int .i64 a1_6) := (blk_cell BK179.out 6).trans rfl; have hcz51_7 : w49.cell? ⟨gb179, 7, none⟩ = some (.int .i64 a1_7) := (blk_cell BK179.out 7).trans rfl; have hcz51_8 : w49.cell? ⟨gb179, 8, none⟩ = some (.slice A1_8 l1_8.length c1_8) := (blk_cell BK179.out 8).trans rfl; have hcz51_9 : w49.cell? ⟨gb179, 9, none⟩ = some (.slice A1_9 l1_9.length c1_9) := (blk_cell BK179.out 9).trans rfl; have hcz51_10 : w49.cell? ⟨gb179, 10, none⟩ = some (.slice A1_10 l1_10.length c1_10) := (blk_cell BK179.out 10).trans rfl; have hcz51_11 : w49.cell? ⟨gb179, 11, none⟩ = some (.int .i64 a1_11) := (blk_cell BK179.out 11).trans rfl; have hcz51_12 : w49.cell? ⟨gb179, 12, none⟩ = some (.int .i64 a1_12) := (blk_cell BK179.out 12).trans rfl; have hcz51_13 : w49.cell? ⟨gb179, 13, none⟩ = some (.int .i64 a1_13) := (blk_cell BK179.out 13).trans rfl; have hfz51_0 := blk_frozen BK179.out 0; have hfz51_1 := blk_frozen BK179.out 1; have hfz51_2 := blk_frozen BK179.out 2; have hfz51_3 := blk_frozen BK179.out 3; have hfz51_4 := blk_frozen BK179.out 4; have hfz51_5 := blk_frozen BK179.out 5; have hfz51_6 := blk_frozen BK179.out 6; have hfz51_7 := blk_frozen BK179.out 7; have hfz51_8 := blk_frozen BK179.out 8; have hfz51_9 := blk_frozen BK179.out 9; have hfz51_10 := blk_frozen BK179.out 10; have hfz51_11 := blk_frozen BK179.out 11; have hfz51_12 := blk_frozen BK179.out 12; have hfz51_13 := blk_frozen BK179.out 13) | (go_at_call 131; (with_reducible refine (spec_EqualInts.calls k1 _ _ l0_9 _ _ l1_9 true _ ?side1 ?side2 ?side3 ?side4 A22.out).mono ?_); (case side1 => repeat (first | exact (Kd.C_below HR0_9.out HB.out) | (with_reducible refine Kd.C_alloc ?_ _) | (with_reducible refine Kd.C_drewN ?_ _) | (with_reducible refine Kd.C_drew ?_))); (case side2 => exact HC0_9.out); (case side3 => repeat (first | exact (Kd.C_below HR1_9.out HB.out) | (with_reducible refine Kd.C_alloc ?_ _) | (with_reducible refine Kd.C_drewN ?_ _) | (with_reducible refine Kd.C_drew ?_))); (case side4 => exact HC1_9.out); rintro e w' ⟨rfl, ⟨nd, rfl⟩⟩; (try first | exact ⟨rfl, _, World.drewN_drewN _ _ _⟩ | exact ⟨rfl, _, Eq.trans (World.drewN_drewN _ _ _) (congrArg (World.drewN _) (Nat.add_assoc _ _ _))⟩)) | (go_at_call 131; (with_reducible refine (spec_EqualInts.calls k1 _ _ l0_10 _ _ l1_10 _ _ ?side1 ?side2 ?side3 ?side4 A24.out).mono ?_); (case side1 => repeat (first | exact (Kd.C_below HR0_10.out (by repeat (first | (with_reducible first | exact HB.out | apply below_alloc | apply pw_below_drewN | apply below_drew1 | refine below_set ?_ GE178.out | refine below_set ?_ GE179.out) | exact HB.out))) | (with_reducible refine Kd.C_alloc ?_ _) | (with_reducible refine Kd.C_drewN ?_ _) | (with_reducible refine Kd.C_drew ?_))); (case side2 => exact HC0_10.out); (case side3 => repeat (first | exact (Kd.C_below HR1_10.out (by repeat (first | (with_reducible first | exact HB.out | apply below_alloc | apply pw_below_drewN | apply below_drew1 | refine below_set ?_ GE178.out | refine below_set ?_ GE179.out) | exact HB.out))) | (with_reducible refine Kd.C_alloc ?_ _) | (with_reducible refine Kd.C_drewN ?_ _) | (with_reducible refine Kd.C_drew ?_))); (case side4 => exact HC1_10.out); rintro e w' ⟨rfl, ⟨nd, rfl⟩⟩; (try first | exact ⟨rfl, _, World.drewN_drewN _ _ _⟩ | exact ⟨rfl, _, Eq.trans (World.drewN_drewN _ _ _) (congrArg (World.drewN _) (Nat.add_assoc _ _ _))⟩))))
          go_ret
          exact ⟨by first | rfl | (simp [errW_none, errW_some] <;> rfl) | (simp [*, errW_none, errW_some] <;> rfl), by repeat (first | (with_reducible first | exact HB.out | apply below_alloc | apply pw_below_drewN | apply below_drew1 | refine below_set ?_ GE178.out | refine below_set ?_ GE179.out) | exact HB.out)⟩
  · rw [if_neg c3] at H
    have c3b0 : ((l0_8.length : Int) == (l1_8.length : Int)) = false := beq_eq_false_iff_ne.mpr c3
    have c3b1 : ((l0_8.length : Int) != (l1_8.length : Int)) = true := bne_iff_ne.mpr c3
    have c3b2 : (l0_8.length == l1_8.length) = false := by first | simpa using c3 | (simp at c3 ⊢; omega)
    obtain rfl := Option.some.inj H
    go_enter Try.func72, Try.ntmps72
    go_wp2_with (first | ((with_reducible refine gate_dst (N := 2) rfl ?_); refine box_event ?hg (N := 2) ?hd (cs := #[.int .i64 a0_0, .int .i64 a0_1, .bool a0_2, .bool a0_3, .slice A0_4 l0_4.length c0_4, .slice A0_5 l0_5.length c0_5, .int .i64 a0_6, .int .i64 a0_7, .slice A0_8 l0_8.length c0_8, .slice A0_9 l0_9.length c0_9, .slice A0_10 l0_10.length c0_10, .int .i64 a0_11, .int .i64 a0_12, .int .i64 a0_13]) (t := 76) ?hr ?_; (case hd => rfl); (case hg => rfl); (case hr => first | (go_simp; done) | (go_simp; rfl)); intro gb178 hg w62 hbox hb; have n0_ := Aside0.mk (below_step (by repeat (first | (with_reducible first | exact HB.out | apply below_alloc | apply pw_below_drewN | apply below_drew1) | exact HB.out)) hb); have n1_ := Aside0.mk (hbox); have n2_ := Aside0.mk ((by rw [hg]; exact (below_size (by repeat (first | (with_reducible first | exact HB.out | apply below_alloc | apply pw_below_drewN | apply below_drew1) | exact HB.out))) : w.heap.size ≤ gb178)); have n3_ := Aside0.mk ((by rw [hg]; exact (below_size (by repeat (first | (with_reducible first | exact HB.out | apply below_alloc | apply pw_below_drewN | apply below_drew1) | exact HB.out))) : w.heap.size ≤ gb178)); clear HB; have HB := n0_; have BK178 := n1_; have GW178 := n2_; have GE178 := n3_; clear n0_ n1_ n2_ n3_; clear hb hbox hg) | ((with_reducible refine gate_dst (N := 3) rfl ?_); refine box_event ?hg (N := 3) ?hd (cs := #[.int .i64 a1_0, .int .i64 a1_1, .bool a1_2, .bool a1_3, .slice A1_4 l1_4.length c1_4, .slice A1_5 l1_5.length c1_5, .int .i64 a1_6, .int .i64 a1_7, .slice A1_8 l1_8.length c1_8, .slice A1_9 l1_9.length c1_9, .slice A1_10 l1_10.length c1_10, .int .i64 a1_11, .int .i64 a1_12, .int .i64 a1_13]) (t := 76) ?hr ?_; (case hd => rfl); (case hg => rfl); (case hr => first | (go_simp; done) | (go_simp; rfl)); intro gb179 hg w63 hbox hb; have n0_ := Aside0.mk (blk_below (g := gb178) (o := _) (by (with_reducible repeat (first | refine blk_drewN ?_ _ | refine blk_drew ?_ | refine blk_alloc ?_ _)); exact BK178.out) hb); have n1_ := Aside0.mk (below_step (by repeat (first | (with_reducible first | exact HB.out | apply below_alloc | apply pw_below_drewN | apply below_drew1 | refine below_set ?_ GE178.out) | exact HB.out)) hb); have n2_ := Aside0.mk (hbox); have n3_ := Aside0.mk ((by rw [hg]; exact (below_size (by repeat (first | (with_reducible first | exact HB.out | apply below_alloc | apply pw_below_drewN | apply below_drew1 | refine below_set ?_ GE178.out) | exact HB.out))) : w.heap.size ≤ gb179)); have n4_ := Aside0.mk ((by rw [hg]; exact (below_size (by repeat (first | (with_reducible first | exact HB.out | apply below_alloc | apply pw_below_drewN | apply below_drew1 | refine below_set ?_ GE178.out) | exact HB.out))) : w.heap.size ≤ gb179)); have n5_ := Aside0.mk ((by rw [hg]; exact Nat.ne_of_lt (blk_lt (g := gb178) (o := _) (by (with_reducible repeat (first | refine blk_drewN ?_ _ | refine blk_drew ?_ | refine blk_alloc ?_ _)); exact BK178.out)) : gb178 ≠ gb179)); have n6_ := Aside0.mk ((by rw [hg]; exact Nat.ne_of_gt (blk_lt (g := gb178) (o := _) (by (with_reducible repeat (first | refine blk_drewN ?_ _ | refine blk_drew ?_ | refine blk_alloc ?_ _)); exact BK178.out)) : gb179 ≠ gb178)); clear BK178; clear HB; have BK178 := n0_; have HB := n1_; have BK179 := n2_; have GW179 := n3_; have GE179 := n4_; have NB178_179 := n5_; have NB179_178 := n6_; clear n0_ n1_ n2_ n3_ n4_ n5_ n6_; clear hb hbox hg; have hnb64 := NB178_179.out; have hnc64 := NB179_178.out; have hcz65_0 : w63.cell? ⟨gb178, 0, none⟩ = some (.int .i64 a0_0) := (blk_cell BK178.out 0).trans rfl; have hcz65_1 : w63.cell? ⟨gb178, 1, none⟩ = some (.int .i64 a0_1) := (blk_cell BK178.out 1).trans rfl; have hcz65_2 : w63.cell? ⟨gb178, 2, none⟩ = some (.bool a0_2) := (blk_cell BK178.out 2).trans rfl; have hcz65_3 : w63.cell? ⟨gb178, 3, none⟩ = some (.bool a0_3) := (blk_cell BK178.out 3).trans rfl; have hcz65_4 : w63.cell? ⟨gb178, 4, none⟩ = some (.slice A0_4 l0_4.length c0_4) := (blk_cell BK178.out 4).trans rfl; have hcz65_5 : w63.cell? ⟨gb178, 5, none⟩ = some (.slice A0_5 l0_5.length c0_5) := (blk_cell BK178.out 5).trans rfl; have hcz65_6 : w63.cell? ⟨gb178, 6, none⟩ = some (.int .i64 a0_6) := (blk_cell BK178.out 6).trans rfl; have hcz65_7 : w63.cell? ⟨gb178, 7, none⟩ = some (.int .i64 a0_7) := (blk_cell BK178.out 7).trans rfl; have hcz65_8 : w63.cell? ⟨gb178, 8, none⟩ = some (.slice A0_8 l0_8.length c0_8) := (blk_cell BK178.out 8).trans rfl; have hcz65_9 : w63.cell? ⟨gb178, 9, none⟩ = some (.slice A0_9 l0_9.length c0_9) := (blk_cell BK178.out 9).trans rfl; have hcz65_10 : w63.cell? ⟨gb178, 10, none⟩ = some (.slice A0_10 l0_10.length c0_10) := (blk_cell BK178.out 10).trans rfl; have hcz65_11 : w63.cell? ⟨gb178, 11, none⟩ = some (.int .i64 a0_11) := (blk_cell BK178.out 11).trans rfl; have hcz65_12 : w63.cell? ⟨gb178, 12, none⟩ = some (.int .i64 a0_12) := (blk_cell BK178.out 12).trans rfl; have hcz65_13 : w63.cell? ⟨gb178, 13, none⟩ = some (.int .i64 a0_13) := (blk_cell BK178.out 13).trans rfl; have hfz65_0 := blk_frozen BK178.out 0; have hfz65_1 := blk_frozen BK178.out 1; have hfz65_2 := blk_frozen BK178.out 2; have hfz65_3 := blk_frozen BK178.out 3; have hfz65_4 := blk_frozen BK178.out 4; have hfz65_5 := blk_frozen BK178.out 5; have hfz65_6 := blk_frozen BK178.out 6; have hfz65_7 := blk_frozen BK178.out 7; have hfz65_8 := blk_frozen BK178.out 8; have hfz65_9 := blk_frozen BK178.out 9; have hfz65_10 := blk_frozen BK178.out 10; have hfz65_11 := blk_frozen BK178.out 11; have hfz65_12 := blk_frozen BK178.out 12; have hfz65_13 := blk_frozen BK178.out 13; have hcz66_0 : w63.cell? ⟨gb179, 0, none⟩ = some (.int .i64 a1_0) := (blk_cell BK179.out 0).trans rfl; have hcz66_1 : w63.cell? ⟨gb179, 1, none⟩ = some (.int .i64 a1_1) := (blk_cell BK179.out 1).trans rfl; have hcz66_2 : w63.cell? ⟨gb179, 2, none⟩ = some (.bool a1_2) := (blk_cell BK179.out 2).trans rfl; have hcz66_3 : w63.cell? ⟨gb179, 3, none⟩ = some (.bool a1_3) := (blk_cell BK179.out 3).trans rfl; have hcz66_4 : w63.cell? ⟨gb179, 4, none⟩ = some (.slice A1_4 l1_4.length c1_4) := (blk_cell BK179.out 4).trans rfl; have hcz66_5 : w63.cell? ⟨gb179, 5, none⟩ = some (.slice A1_5 l1_5.length c1_5) := (blk_cell BK179.out 5).trans rfl; have hcz66_6 : w63.cell? ⟨gb179, 6, none⟩ = some (.int .i64 a1_6) := (blk_cell BK179.out 6).trans rfl; have hcz66_7 : w63.cell? ⟨gb179, 7, none⟩ = some (.int .i64 a1_7) := (blk_cell BK179.out 7).trans rfl; have hcz66_8 : w63.cell? ⟨gb179, 8, none⟩ = some (.slice A1_8 l1_8.length c1_8) := (blk_cell BK179.out 8).trans rfl; have hcz66_9 : w63.cell? ⟨gb179, 9, none⟩ = some (.slice A1_9 l1_9.length c1_9) := (blk_cell BK179.out 9).trans rfl; have hcz66_10 : w63.cell? ⟨gb179, 10, none⟩ = some (.slice A1_10 l1_10.length c1_10) := (blk_cell BK179.out 10).trans rfl; have hcz66_11 : w63.cell? ⟨gb179, 11, none⟩ = some (.int .i64 a1_11) := (blk_cell BK179.out 11).trans rfl; have hcz66_12 : w63.cell? ⟨gb179, 12, none⟩ = some (.int .i64 a1_12) := (blk_cell BK179.out 12).trans rfl; have hcz66_13 : w63.cell? ⟨gb179, 13, none⟩ = some (.int .i64 a1_13) := (blk_cell BK179.out 13).trans rfl; have hfz66_0 := blk_frozen BK179.out 0; have hfz66_1 := blk_frozen BK179.out 1; have hfz66_2 := blk_frozen BK179.out 2; have hfz66_3 := blk_frozen BK179.out 3; have hfz66_4 := blk_frozen BK179.out 4; have hfz66_5 := blk_frozen BK179.out 5; have hfz66_6 := blk_frozen BK179.out 6; have hfz66_7 := blk_frozen BK179.out 7; have hfz66_8 := blk_frozen BK179.out 8; have hfz66_9 := blk_frozen BK179.out 9; have hfz66_10 := blk_frozen BK179.out 10; have hfz66_11 := blk_frozen BK179.out 11; have hfz66_12 := blk_frozen BK179.out 12; have hfz66_13 := blk_frozen BK179.out 13))
    repeat (go_quiet (first | ((with_reducible refine gate_dst (N := 2) rfl ?_); refine box_event ?hg (N := 2) ?hd (cs := #[.int .i64 a0_0, .int .i64 a0_1, .bool a0_2, .bool a0_3, .slice A0_4 l0_4.length c0_4, .slice A0_5 l0_5.length c0_5, .int .i64 a0_6, .int .i64 a0_7, .slice A0_8 l0_8.length c0_8, .slice A0_9 l0_9.length c0_9, .slice A0_10 l0_10.length c0_10, .int .i64 a0_11, .int .i64 a0_12, .int .i64 a0_13]) (t := 76) ?hr ?_; (case hd => rfl); (case hg => rfl); (case hr => first | (go_simp; done) | (go_simp; rfl)); intro gb178 hg w62 hbox hb; have n0_ := Aside0.mk (below_step (by repeat (first | (with_reducible first | exact HB.out | apply below_alloc | apply pw_below_drewN | apply below_drew1) | exact HB.out)) hb); have n1_ := Aside0.mk (hbox); have n2_ := Aside0.mk ((by rw [hg]; exact (below_size (by repeat (first | (with_reducible first | exact HB.out | apply below_alloc | apply pw_below_drewN | apply below_drew1) | exact HB.out))) : w.heap.size ≤ gb178)); have n3_ := Aside0.mk ((by rw [hg]; exact (below_size (by repeat (first | (with_reducible first | exact HB.out | apply below_alloc | apply pw_below_drewN | apply below_drew1) | exact HB.out))) : w.heap.size ≤ gb178)); clear HB; have HB := n0_; have BK178 := n1_; have GW178 := n2_; have GE178 := n3_; clear n0_ n1_ n2_ n3_; clear hb hbox hg) | ((with_reducible refine gate_dst (N := 3) rfl ?_); refine box_event ?hg (N := 3) ?hd (cs := #[.int .i64 a1_0, .int .i64 a1_1, .bool a1_2, .bool a1_3, .slice A1_4 l1_4.length c1_4, .slice A1_5 l1_5.length c1_5, .int .i64 a1_6, .int .i64 a1_7, .slice A1_8 l1_8.length c1_8, .slice A1_9 l1_9.length c1_9, .slice A1_10 l1_10.length c1_10, .int .i64 a1_11, .int .i64 a1_12, .int .i64 a1_13]) (t := 76) ?hr ?_; (case hd => rfl); (case hg => rfl); (case hr => first | (go_simp; done) | (go_simp; rfl)); intro gb179 hg w63 hbox hb; have n0_ := Aside0.mk (blk_below (g := gb178) (o := _) (by (with_reducible repeat (first | refine blk_drewN ?_ _ | refine blk_drew ?_ | refine blk_alloc ?_ _)); exact BK178.out) hb); have n1_ := Aside0.mk (below_step (by repeat (first | (with_reducible first | exact HB.out | apply below_alloc | apply pw_below_drewN | apply below_drew1 | refine below_set ?_ GE178.out) | exact HB.out)) hb); have n2_ := Aside0.mk (hbox); have n3_ := Aside0.mk ((by rw [hg]; exact (below_size (by repeat (first | (with_reducible first | exact HB.out | apply below_alloc | apply pw_below_drewN | apply below_drew1 | refine below_set ?_ GE178.out) | exact HB.out))) : w.heap.size ≤ gb179)); have n4_ := Aside0.mk ((by rw [hg]; exact (below_size (by repeat (first | (with_reducible first | exact HB.out | apply below_alloc | apply pw_below_drewN | apply below_drew1 | refine below_set ?_ GE178.out) | exact HB.out))) : w.heap.size ≤ gb179)); have n5_ := Aside0.mk ((by rw [hg]; exact Nat.ne_of_lt (blk_lt (g := gb178) (o := _) (by (with_reducible repeat (first | refine blk_drewN ?_ _ | refine blk_drew ?_ | refine blk_alloc ?_ _)); exact BK178.out)) : gb178 ≠ gb179)); have n6_ := Aside0.mk ((by rw [hg]; exact Nat.ne_of_gt (blk_lt (g := gb178) (o := _) (by (with_reducible repeat (first | refine blk_drewN ?_ _ | refine blk_drew ?_ | refine blk_alloc ?_ _)); exact BK178.out)) : gb179 ≠ gb178)); clear BK178; clear HB; have BK178 := n0_; have HB := n1_; have BK179 := n2_; have GW179 := n3_; have GE179 := n4_; have NB178_179 := n5_; have NB179_178 := n6_; clear n0_ n1_ n2_ n3_ n4_ n5_ n6_; clear hb hbox hg; have hnb64 := NB178_179.out; have hnc64 := NB179_178.out; have hcz65_0 : w63.cell? ⟨gb178, 0, none⟩ = some (.int .i64 a0_0) := (blk_cell BK178.out 0).trans rfl; have hcz65_1 : w63.cell? ⟨gb178, 1, none⟩ = some (.int .i64 a0_1) := (blk_cell BK178.out 1).trans rfl; have hcz65_2 : w63.cell? ⟨gb178, 2, none⟩ = some (.bool a0_2) := (blk_cell BK178.out 2).trans rfl; have hcz65_3 : w63.cell? ⟨gb178, 3, none⟩ = some (.bool a0_3) := (blk_cell BK178.out 3).trans rfl; have hcz65_4 : w63.cell? ⟨gb178, 4, none⟩ = some (.slice A0_4 l0_4.length c0_4) := (blk_cell BK178.out 4).trans rfl; have hcz65_5 : w63.cell? ⟨gb178, 5, none⟩ = some (.slice A0_5 l0_5.length c0_5) := (blk_cell BK178.out 5).trans rfl; have hcz65_6 : w63.cell? ⟨gb178, 6, none⟩ = some (.int .i64 a0_6) := (blk_cell BK178.out 6).trans rfl; have hcz65_7 : w63.cell? ⟨gb178, 7, none⟩ = some (.int .i64 a0_7) := (blk_cell BK178.out 7).trans rfl; have hcz65_8 : w63.cell? ⟨gb178, 8, none⟩ = some (.slice A0_8 l0_8.length c0_8) := (blk_cell BK178.out 8).trans rfl; have hcz65_9 : w63.cell? ⟨gb178, 9, none⟩ = some (.slice A0_9 l0_9.length c0_9) := (blk_cell BK178.out 9).trans rfl; have hcz65_10 : w63.cell? ⟨gb178, 10, none⟩ = some (.slice A0_10 l0_10.length c0_10) := (blk_cell BK178.out 10).trans rfl; have hcz65_11 : w63.cell? ⟨gb178, 11, none⟩ = some (.int .i64 a0_11) := (blk_cell BK178.out 11).trans rfl; have hcz65_12 : w63.cell? ⟨gb178, 12, none⟩ = some (.int .i64 a0_12) := (blk_cell BK178.out 12).trans rfl; have hcz65_13 : w63.cell? ⟨gb178, 13, none⟩ = some (.int .i64 a0_13) := (blk_cell BK178.out 13).trans rfl; have hfz65_0 := blk_frozen BK178.out 0; have hfz65_1 := blk_frozen BK178.out 1; have hfz65_2 := blk_frozen BK178.out 2; have hfz65_3 := blk_frozen BK178.out 3; have hfz65_4 := blk_frozen BK178.out 4; have hfz65_5 := blk_frozen BK178.out 5; have hfz65_6 := blk_frozen BK178.out 6; have hfz65_7 := blk_frozen BK178.out 7; have hfz65_8 := blk_frozen BK178.out 8; have hfz65_9 := blk_frozen BK178.out 9; have hfz65_10 := blk_frozen BK178.out 10; have hfz65_11 := blk_frozen BK178.out 11; have hfz65_12 := blk_frozen BK178.out 12; have hfz65_13 := blk_frozen BK178.out 13; have hcz66_0 : w63.cell? ⟨gb179, 0, none⟩ = some (.int .i64 a1_0) := (blk_cell BK179.out 0).trans rfl; have hcz66_1 : w63.cell? ⟨gb179, 1, none⟩ = some (.int .i64 a1_1) := (blk_cell BK179.out 1).trans rfl; have hcz66_2 : w63.cell? ⟨gb179, 2, none⟩ = some (.bool a1_2) := (blk_cell BK179.out 2).trans rfl; have hcz66_3 : w63.cell? ⟨gb179, 3, none⟩ = some (.bool a1_3) := (blk_cell BK179.out 3).trans rfl; have hcz66_4 : w63.cell? ⟨gb179, 4, none⟩ = some (.slice A1_4 l1_4.length c1_4) := (blk_cell BK179.out 4).trans rfl; have hcz66_5 : w63.cell? ⟨gb179, 5, none⟩ = some (.slice A1_5 l1_5.length c1_5) := (blk_cell BK179.out 5).trans rfl; have hcz66_6 : w63.cell? ⟨gb179, 6, none⟩ = some (.int .i64 a1_6) := (blk_cell BK179.out 6).trans rfl; have hcz66_7 : w63.cell? ⟨gb179, 7, none⟩ = some (.int .i64 a1_7) := (blk_cell BK179.out 7).trans rfl; have hcz66_8 : w63.cell? ⟨gb179, 8, none⟩ = some (.slice A1_8 l1_8.length c1_8) := (blk_cell BK179.out 8).trans rfl; have hcz66_9 : w63.cell? ⟨gb179, 9, none⟩ = some (.slice A1_9 l1_9.length c1_9) := (blk_cell BK179.out 9).trans rfl; have hcz66_10 : w63.cell? ⟨gb179, 10, none⟩ = some (.slice A1_10 l1_10.length c1_10) := (blk_cell BK179.out 10).trans rfl; have hcz66_11 : w63.cell? ⟨gb179, 11, none⟩ = some (.int .i64 a1_11) := (blk_cell BK179.out 11).trans rfl; have hcz66_12 : w63.cell? ⟨gb179, 12, none⟩ = some (.int .i64 a1_12) := (blk_cell BK179.out 12).trans rfl; have hcz66_13 : w63.cell? ⟨gb179, 13, none⟩ = some (.int .i64 a1_13) := (blk_cell BK179.out 13).trans rfl; have hfz66_0 := blk_frozen BK179.out 0; have hfz66_1 := blk_frozen BK179.out 1; have hfz66_2 := blk_frozen BK179.out 2; have hfz66_3 := blk_frozen BK179.out 3; have hfz66_4 := blk_frozen BK179.out 4; have hfz66_5 := blk_frozen BK179.out 5; have hfz66_6 := blk_frozen BK179.out 6; have hfz66_7 := blk_frozen BK179.out 7; have hfz66_8 := blk_frozen BK179.out 8; have hfz66_9 := blk_frozen BK179.out 9; have hfz66_10 := blk_frozen BK179.out 10; have hfz66_11 := blk_frozen BK179.out 11; have hfz66_12 := blk_frozen BK179.out 12; have hfz66_13 := blk_frozen BK179.out 13)); try go_wp2_with (first | ((with_reducible refine gate_dst (N := 2) rfl ?_); refine box_event ?hg (N := 2) ?hd (cs := #[.int .i64 a0_0, .int .i64 a0_1, .bool a0_2, .bool a0_3, .slice A0_4 l0_4.length c0_4, .slice A0_5 l0_5.length c0_5, .int .i64 a0_6, .int .i64 a0_7, .slice A0_8 l0_8.length c0_8, .slice A0_9 l0_9.length c0_9, .slice A0_10 l0_10.length c0_10, .int .i64 a0_11, .int .i64 a0_12, .int .i64 a0_13]) (t := 76) ?hr ?_; (case hd => rfl); (case hg => rfl); (case hr => first | (go_simp; done) | (go_simp; rfl)); intro gb178 hg w62 hbox hb; have n0_ := Aside0.mk (below_step (by repeat (first | (with_reducible first | exact HB.out | apply below_alloc | apply pw_below_drewN | apply below_drew1) | exact HB.out)) hb); have n1_ := Aside0.mk (hbox); have n2_ := Aside0.mk ((by rw [hg]; exact (below_size (by repeat (first | (with_reducible first | exact HB.out | apply below_alloc | apply pw_below_drewN | apply below_drew1) | exact HB.out))) : w.heap.size ≤ gb178)); have n3_ := Aside0.mk ((by rw [hg]; exact (below_size (by repeat (first | (with_reducible first | exact HB.out | apply below_alloc | apply pw_below_drewN | apply below_drew1) | exact HB.out))) : w.heap.size ≤ gb178)); clear HB; have HB := n0_; have BK178 := n1_; have GW178 := n2_; have GE178 := n3_; clear n0_ n1_ n2_ n3_; clear hb hbox hg) | ((with_reducible refine gate_dst (N := 3) rfl ?_); refine box_event ?hg (N := 3) ?hd (cs := #[.int .i64 a1_0, .int .i64 a1_1, .bool a1_2, .bool a1_3, .slice A1_4 l1_4.length c1_4, .slice A1_5 l1_5.length c1_5, .int .i64 a1_6, .int .i64 a1_7, .slice A1_8 l1_8.length c1_8, .slice A1_9 l1_9.length c1_9, .slice A1_10 l1_10.length c1_10, .int .i64 a1_11, .int .i64 a1_12, .int .i64 a1_13]) (t := 76) ?hr ?_; (case hd => rfl); (case hg => rfl); (case hr => first | (go_simp; done) | (go_simp; rfl)); intro gb179 hg w63 hbox hb; have n0_ := Aside0.mk (blk_below (g := gb178) (o := _) (by (with_reducible repeat (first | refine blk_drewN ?_ _ | refine blk_drew ?_ | refine blk_alloc ?_ _)); exact BK178.out) hb); have n1_ := Aside0.mk (below_step (by repeat (first | (with_reducible first | exact HB.out | apply below_alloc | apply pw_below_drewN | apply below_drew1 | refine below_set ?_ GE178.out) | exact HB.out)) hb); have n2_ := Aside0.mk (hbox); have n3_ := Aside0.mk ((by rw [hg]; exact (below_size (by repeat (first | (with_reducible first | exact HB.out | apply below_alloc | apply pw_below_drewN | apply below_drew1 | refine below_set ?_ GE178.out) | exact HB.out))) : w.heap.size ≤ gb179)); have n4_ := Aside0.mk ((by rw [hg]; exact (below_size (by repeat (first | (with_reducible first | exact HB.out | apply below_alloc | apply pw_below_drewN | apply below_drew1 | refine below_set ?_ GE178.out) | exact HB.out))) : w.heap.size ≤ gb179)); have n5_ := Aside0.mk ((by rw [hg]; exact Nat.ne_of_lt (blk_lt (g := gb178) (o := _) (by (with_reducible repeat (first | refine blk_drewN ?_ _ | refine blk_drew ?_ | refine blk_alloc ?_ _)); exact BK178.out)) : gb178 ≠ gb179)); have n6_ := Aside0.mk ((by rw [hg]; exact Nat.ne_of_gt (blk_lt (g := gb178) (o := _) (by (with_reducible repeat (first | refine blk_drewN ?_ _ | refine blk_drew ?_ | refine blk_alloc ?_ _)); exact BK178.out)) : gb179 ≠ gb178)); clear BK178; clear HB; have BK178 := n0_; have HB := n1_; have BK179 := n2_; have GW179 := n3_; have GE179 := n4_; have NB178_179 := n5_; have NB179_178 := n6_; clear n0_ n1_ n2_ n3_ n4_ n5_ n6_; clear hb hbox hg; have hnb64 := NB178_179.out; have hnc64 := NB179_178.out; have hcz65_0 : w63.cell? ⟨gb178, 0, none⟩ = some (.int .i64 a0_0) := (blk_cell BK178.out 0).trans rfl; have hcz65_1 : w63.cell? ⟨gb178, 1, none⟩ = some (.int .i64 a0_1) := (blk_cell BK178.out 1).trans rfl; have hcz65_2 : w63.cell? ⟨gb178, 2, none⟩ = some (.bool a0_2) := (blk_cell BK178.out 2).trans rfl; have hcz65_3 : w63.cell? ⟨gb178, 3, none⟩ = some (.bool a0_3) := (blk_cell BK178.out 3).trans rfl; have hcz65_4 : w63.cell? ⟨gb178, 4, none⟩ = some (.slice A0_4 l0_4.length c0_4) := (blk_cell BK178.out 4).trans rfl; have hcz65_5 : w63.cell? ⟨gb178, 5, none⟩ = some (.slice A0_5 l0_5.length c0_5) := (blk_cell BK178.out 5).trans rfl; have hcz65_6 : w63.cell? ⟨gb178, 6, none⟩ = some (.int .i64 a0_6) := (blk_cell BK178.out 6).trans rfl; have hcz65_7 : w63.cell? ⟨gb178, 7, none⟩ = some (.int .i64 a0_7) := (blk_cell BK178.out 7).trans rfl; have hcz65_8 : w63.cell? ⟨gb178, 8, none⟩ = some (.slice A0_8 l0_8.length c0_8) := (blk_cell BK178.out 8).trans rfl; have hcz65_9 : w63.cell? ⟨gb178, 9, none⟩ = some (.slice A0_9 l0_9.length c0_9) := (blk_cell BK178.out 9).trans rfl; have hcz65_10 : w63.cell? ⟨gb178, 10, none⟩ = some (.slice A0_10 l0_10.length c0_10) := (blk_cell BK178.out 10).trans rfl; have hcz65_11 : w63.cell? ⟨gb178, 11, none⟩ = some (.int .i64 a0_11) := (blk_cell BK178.out 11).trans rfl; have hcz65_12 : w63.cell? ⟨gb178, 12, none⟩ = some (.int .i64 a0_12) := (blk_cell BK178.out 12).trans rfl; have hcz65_13 : w63.cell? ⟨gb178, 13, none⟩ = some (.int .i64 a0_13) := (blk_cell BK178.out 13).trans rfl; have hfz65_0 := blk_frozen BK178.out 0; have hfz65_1 := blk_frozen BK178.out 1; have hfz65_2 := blk_frozen BK178.out 2; have hfz65_3 := blk_frozen BK178.out 3; have hfz65_4 := blk_frozen BK178.out 4; have hfz65_5 := blk_frozen BK178.out 5; have hfz65_6 := blk_frozen BK178.out 6; have hfz65_7 := blk_frozen BK178.out 7; have hfz65_8 := blk_frozen BK178.out 8; have hfz65_9 := blk_frozen BK178.out 9; have hfz65_10 := blk_frozen BK178.out 10; have hfz65_11 := blk_frozen BK178.out 11; have hfz65_12 := blk_frozen BK178.out 12; have hfz65_13 := blk_frozen BK178.out 13; have hcz66_0 : w63.cell? ⟨gb179, 0, none⟩ = some (.int .i64 a1_0) := (blk_cell BK179.out 0).trans rfl; have hcz66_1 : w63.cell? ⟨gb179, 1, none⟩ = some (.int .i64 a1_1) := (blk_cell BK179.out 1).trans rfl; have hcz66_2 : w63.cell? ⟨gb179, 2, none⟩ = some (.bool a1_2) := (blk_cell BK179.out 2).trans rfl; have hcz66_3 : w63.cell? ⟨gb179, 3, none⟩ = some (.bool a1_3) := (blk_cell BK179.out 3).trans rfl; have hcz66_4 : w63.cell? ⟨gb179, 4, none⟩ = some (.slice A1_4 l1_4.length c1_4) := (blk_cell BK179.out 4).trans rfl; have hcz66_5 : w63.cell? ⟨gb179, 5, none⟩ = some (.slice A1_5 l1_5.length c1_5) := (blk_cell BK179.out 5).trans rfl; have hcz66_6 : w63.cell? ⟨gb179, 6, none⟩ = some (.int .i64 a1_6) := (blk_cell BK179.out 6).trans rfl; have hcz66_7 : w63.cell? ⟨gb179, 7, none⟩ = some (.int .i64 a1_7) := (blk_cell BK179.out 7).trans rfl; have hcz66_8 : w63.cell? ⟨gb179, 8, none⟩ = some (.slice A1_8 l1_8.length c1_8) := (blk_cell BK179.out 8).trans rfl; have hcz66_9 : w63.cell? ⟨gb179, 9, none⟩ = some (.slice A1_9 l1_9.length c1_9) := (blk_cell BK179.out 9).trans rfl; have hcz66_10 : w63.cell? ⟨gb179, 10, none⟩ = some (.slice A1_10 l1_10.length c1_10) := (blk_cell BK179.out 10).trans rfl; have hcz66_11 : w63.cell? ⟨gb179, 11, none⟩ = some (.int .i64 a1_11) := (blk_cell BK179.out 11).trans rfl; have hcz66_12 : w63.cell? ⟨gb179, 12, none⟩ = some (.int .i64 a1_12) := (blk_cell BK179.out 12).trans rfl; have hcz66_13 : w63.cell? ⟨gb179, 13, none⟩ = some (.int .i64 a1_13) := (blk_cell BK179.out 13).trans rfl; have hfz66_0 := blk_frozen BK179.out 0; have hfz66_1 := blk_frozen BK179.out 1; have hfz66_2 := blk_frozen BK179.out 2; have hfz66_3 := blk_frozen BK179.out 3; have hfz66_4 := blk_frozen BK179.out 4; have hfz66_5 := blk_frozen BK179.out 5; have hfz66_6 := blk_frozen BK179.out 6; have hfz66_7 := blk_frozen BK179.out 7; have hfz66_8 := blk_frozen BK179.out 8; have hfz66_9 := blk_frozen BK179.out 9; have hfz66_10 := blk_frozen BK179.out 10; have hfz66_11 := blk_frozen BK179.out 11; have hfz66_12 := blk_frozen BK179.out 12; have hfz66_13 := blk_frozen BK179.out 13)))
    go_ret
    exact ⟨by first | rfl | (simp [errW_none, errW_some] <;> rfl) | (simp [*, errW_none, errW_some] <;> rfl), by repeat (first | (with_reducible first | exact HB.out | apply below_alloc | apply pw_below_drewN | apply below_drew1 | refine below_set ?_ GE178.out | refine below_set ?_ GE179.out) | exact HB.out)⟩

/-! ### impl_EqualInts: function 130 -/
def impl_EqualInts.l0 : Nat → List Int → List Int → Int → Int → Option (Bool)
  | 0, _, _, _, _ => none
  | k + 1, x0, x1, x12, x13 => if x13 < x12 then (if 0 ≤ x13 then (if x13 < (x0.length : Int) then (if x13 < (x1.length : Int) then (if (rd x0 x13) = (rd x1 x13) then (impl_EqualInts.l0 k x0 x1 x12 (wrap64 (x13 + 1))) else (some false)) else (none)) else (none)) else (none)) else (some true)
def impl_EqualInts.f (k : Nat) (l0 : List Int) (l1 : List Int) : Option (Bool) := if (l0.length : Int) = (l1.length : Int) then (impl_EqualInts.l0 k l0 l1 (l0.length : Int) 0) else (some false)
theorem impl_EqualInts.mono_l : ∀ k, (∀ y0 y1 y2 y3, LeO (impl_EqualInts.l0 k y0 y1 y2 y3) (impl_EqualInts.l0 (k + 1) y0 y1 y2 y3))
  | 0 => fun _ _ _ _ r h => by simp [impl_EqualInts.l0] at h
  | k + 1 => by
    have ih0 := impl_EqualInts.mono_l k
    · intro y0 y1 y2 y3
      unfold impl_EqualInts.l0
      repeat' first
      | (with_reducible exact ih0 _ _ _ _)
      | (with_reducible exact LeO.refl _)
      | (with_reducible exact LeO.none _)
      | (with_reducible refine LeO.ite ?_ ?_)
      | (with_reducible refine LeO.bind ?_ (fun _ => ?_))
      | exact ih0 _ _ _ _
      | exact LeO.none _
      | refine LeO.ite ?_ ?_
      | refine LeO.bind ?_ (fun _ => ?_)
theorem impl_EqualInts.mono : ∀ a0 a1 k, LeO (impl_EqualInts.f k a0 a1) (impl_EqualInts.f (k + 1) a0 a1) := by
  intro a0 a1 k
  have ih0 := impl_EqualInts.mono_l k
  unfold impl_EqualInts.f
  repeat' first
      | (with_reducible exact ih0 _ _ _ _)
      | (with_reducible exact LeO.refl _)
      | (with_reducible exact LeO.none _)
      | (with_reducible refine LeO.ite ?_ ?_)
      | (with_reducible refine LeO.bind ?_ (fun _ => ?_))
      | exact ih0 _ _ _ _
      | exact LeO.none _
      | refine LeO.ite ?_ ?_
      | refine LeO.bind ?_ (fun _ => ?_)
set_option maxHeartbeats 8000000 in
set_option maxRecDepth 100000 in
theorem impl_EqualInts.calls (k : Nat) (A0 : Option Addr) (c0 : Nat) (l0 : List Int) (A1 : Option Addr) (c1 : Nat) (l1 : List Int) (r : Bool) (w : World) (hr0 : Kd.C (Kd.int .i64) w A0 l0.length l0) (hc0 : l0.length ≤ c0) (hr1 : Kd.C (Kd.int .i64) w A1 l1.length l1) (hc1 : l1.length ≤ c1) (h : impl_EqualInts.f k l0 l1 = some r) :
    Calls Try.prog 130 #[.slice A0 l0.length c0, .slice A1 l1.length c1] w fun e w' => e = .returned (.bool r) ∧ Drawn0 w w' := by
  have HR0 := Aside0.mk hr0
  have HC0 := Aside0.mk hc0
  clear hr0 hc0
  have HR1 := Aside0.mk hr1
  have HC1 := Aside0.mk hc1
  clear hr1 hc1
  have H : (if (l0.length : Int) = (l1.length : Int) then (impl_EqualInts.l0 k l0 l1 (l0.length : Int) 0) else (some false)) = some r := h
  clear h
  by_cases c3 : (l0.length : Int) = (l1.length : Int)
  · rw [if_pos c3] at H
    have c3b0 : ((l0.length : Int) == (l1.length : Int)) = true := beq_iff_eq.mpr c3
    have c3b1 : ((l0.length : Int) != (l1.length : Int)) = false := bne_eq_false_iff_eq.mpr c3
    have c3b2 : (l0.length == l1.length) = true := by first | simpa using c3 | (simp at c3 ⊢; omega)
    clear c3
    have H' := Aside0.mk H
    clear H
    go_enter Try.func130, Try.ntmps130
    go_wp2
    repeat (go_quiet (fail); try go_wp2)
    go_loopg [13] k (fun kq v13 w' => ∃ (x13_1 : Int), v13 = .int .i64 x13_1 ∧ Aside0 (impl_EqualInts.l0 kq l0 l1 (l0.length : Int) x13_1 = some r) ∧ Aside0 (kq ≤ k) ∧ Drawn0 w w')
    case atStart => exact ⟨(0), (by first | rfl | (simp; done) | (simp [*]; done)), H', ⟨Nat.le_refl _⟩, by repeat (first | exact Drawn0.refl _ | apply Drawn0.step)⟩
    case round =>
      clear H'
      try clear c1
      try clear p2
      try clear c3
      try clear c3b0
      try clear c3b1
      try clear c3b2
      obtain ⟨x13_1, rfl, HA, HK1, ⟨m1, rfl⟩⟩ := hrel
      cases gk with
      | zero => exact absurd HA.out (by simp [impl_EqualInts.l0])
      | succ k1 =>
        have H := HA.out
        clear HA
        simp only [impl_EqualInts.l0] at H
        by_cases c4 : x13_1 < (l0.length : Int)
        · rw [if_pos c4] at H
          have c4b0 : decide (x13_1 < (l0.length : Int)) = true := decide_eq_true c4
          clear c4
          by_cases c5 : 0 ≤ x13_1
          · rw [if_pos c5] at H
            have c5b0 : decide (0 ≤ x13_1) = true := decide_eq_true c5
            clear c5
            by_cases c6 : x13_1 < (l0.length : Int)
            · rw [if_pos c6] at H
              have c6b0 : decide (x13_1 < (l0.length : Int)) = true := decide_eq_true c6
              clear c6
              by_cases c7 : x13_1 < (l1.length : Int)
              · rw [if_pos c7] at H
                have c7b0 : decide (x13_1 < (l1.length : Int)) = true := decide_eq_true c7
                clear c7
                by_cases c8 : (rd l0 x13_1) = (rd l1 x13_1)
                · rw [if_pos c8] at H
                  have c8b0 : ((rd l0 x13_1) == (rd l1 x13_1)) = true := beq_iff_eq.mpr c8
                  have c8b1 : ((rd l0 x13_1) != (rd l1 x13_1)) = false := bne_eq_false_iff_eq.mpr c8
                  clear c8
                  have H' := Aside0.mk H
                  clear H
                  have p186 : 0 ≤ (x13_1 : Int) := of_decide_eq_true (by first | (with_reducible assumption) | assumption)
                  have q186 : x13_1 < (l0.length : Int) := of_decide_eq_true (by first | (with_reducible assumption) | assumption)
                  obtain ⟨ad186, e186, hx186_0⟩ := Kd.at_int HR0.out x13_1 p186 q186
                  cases e186
                  replace p186 := eq_true p186
                  replace q186 := eq_true q186
                  have p187 : 0 ≤ (x13_1 : Int) := of_decide_eq_true (by first | (with_reducible assumption) | assumption)
                  have q187 : x13_1 < (l1.length : Int) := of_decide_eq_true (by first | (with_reducible assumption) | assumption)
                  obtain ⟨ad187, e187, hx187_0⟩ := Kd.at_int HR1.out x13_1 p187 q187
                  cases e187
                  replace p187 := eq_true p187
                  replace q187 := eq_true q187
                  go_wp2
                  repeat (go_quiet (fail); try go_wp2)
                  go_roundg k1
                  case measure => have := HK1.out; omega
                  case rel => exact ⟨(wrap64 (x13_1 + 1)), (by first | rfl | (simp; done) | (simp [*]; done)), H', ⟨by have := HK1.out; omega⟩, by repeat (first | exact Drawn0.refl _ | apply Drawn0.step)⟩
                · rw [if_neg c8] at H
                  have c8b0 : ((rd l0 x13_1) == (rd l1 x13_1)) = false := beq_eq_false_iff_ne.mpr c8
                  have c8b1 : ((rd l0 x13_1) != (rd l1 x13_1)) = true := bne_iff_ne.mpr c8
                  obtain rfl := Option.some.inj H
                  have p186 : 0 ≤ (x13_1 : Int) := of_decide_eq_true (by first | (with_reducible assumption) | assumption)
                  have q186 : x13_1 < (l0.length : Int) := of_decide_eq_true (by first | (with_reducible assumption) | assumption)
                  obtain ⟨ad186, e186, hx186_0⟩ := Kd.at_int HR0.out x13_1 p186 q186
                  cases e186
                  replace p186 := eq_true p186
                  replace q186 := eq_true q186
                  have p187 : 0 ≤ (x13_1 : Int) := of_decide_eq_true (by first | (with_reducible assumption) | assumption)
                  have q187 : x13_1 < (l1.length : Int) := of_decide_eq_true (by first | (with_reducible assumption) | assumption)
                  obtain ⟨ad187, e187, hx187_0⟩ := Kd.at_int HR1.out x13_1 p187 q187
                  cases e187
                  replace p187 := eq_true p187
                  replace q187 := eq_true q187
                  go_wp2
                  repeat (go_quiet (fail); try go_wp2)
                  go_ret
                  exact ⟨by first | rfl | (simp; done) | (simp [*]; done), by repeat (first | exact Drawn0.refl _ | apply Drawn0.step)⟩
              · rw [if_neg c7] at H
                exact absurd H (by simp)
            · rw [if_neg c6] at H
              exact absurd H (by simp)
          · rw [if_neg c5] at H
            exact absurd H (by simp)
        · rw [if_neg c4] at H
          have c4b0 : decide (x13_1 < (l0.length : Int)) = false := decide_eq_false c4
          clear c4
          obtain rfl := Option.some.inj H
          go_wp2
          repeat (go_quiet (fail); try go_wp2)
          go_ret
          exact ⟨by first | rfl | (simp; done) | (simp [*]; done), by repeat (first | exact Drawn0.refl _ | apply Drawn0.step)⟩
  · rw [if_neg c3] at H
    have c3b0 : ((l0.length : Int) == (l1.length : Int)) = false := beq_eq_false_iff_ne.mpr c3
    have c3b1 : ((l0.length : Int) != (l1.length : Int)) = true := bne_iff_ne.mpr c3
    have c3b2 : (l0.length == l1.length) = false := by first | simpa using c3 | (simp at c3 ⊢; omega)
    obtain rfl := Option.some.inj H
    go_enter Try.func130, Try.ntmps130
    go_wp2
    repeat (go_quiet (fail); try go_wp2)
    go_ret
    exact ⟨by first | rfl | (simp; done) | (simp [*]; done), by repeat (first | exact Drawn0.refl _ | apply Drawn0.step)⟩

/-! ### impl_EqualRules: function 70 -/
def impl_EqualRules.f (k : Nat) (a0_0 : Int) (a0_1 : Int) (a0_2 : Bool) (a0_3 : Bool) (l0_4 : List Int) (l0_5 : List Int) (a0_6 : Int) (a0_7 : Int) (a1_0 : Int) (a1_1 : Int) (a1_2 : Bool) (a1_3 : Bool) (l1_4 : List Int) (l1_5 : List Int) (a1_6 : Int) (a1_7 : Int) : Option (Bool) := if a0_0 = a1_0 then (if a0_1 = a1_1 then (if (a0_2 == a1_2) = true then (if (a0_3 == a1_3) = true then (if a0_6 = a1_6 then (if a0_7 = a1_7 then ((impl_EqualInts.f k l0_4 l1_4).bind fun t190 => (if t190 = true then ((impl_EqualInts.f k l0_5 l1_5).bind fun t191 => (some t191)) else (some false))) else (some false)) else (some false)) else (some false)) else (some false)) else (some false)) else (some false)
theorem impl_EqualRules.mono : ∀ a0 a1 a2 a3 a4 a5 a6 a7 a8 a9 a10 a11 a12 a13 a14 a15 k, LeO (impl_EqualRules.f k a0 a1 a2 a3 a4 a5 a6 a7 a8 a9 a10 a11 a12 a13 a14 a15) (impl_EqualRules.f (k + 1) a0 a1 a2 a3 a4 a5 a6 a7 a8 a9 a10 a11 a12 a13 a14 a15) := by
  intro a0 a1 a2 a3 a4 a5 a6 a7 a8 a9 a10 a11 a12 a13 a14 a15 k
  unfold impl_EqualRules.f
  repeat' first
      | (with_reducible exact impl_EqualInts.mono _ _ _)
      | (with_reducible exact LeO.refl _)
      | (with_reducible exact LeO.none _)
      | (with_reducible refine LeO.ite ?_ ?_)
      | (with_reducible refine LeO.bind ?_ (fun _ => ?_))
      | exact impl_EqualInts.mono _ _ _
      | exact LeO.none _
      | refine LeO.ite ?_ ?_
      | refine LeO.bind ?_ (fun _ => ?_)
set_option maxHeartbeats 8000000 in
set_option maxRecDepth 100000 in
theorem impl_EqualRules.calls (k : Nat) (a0_0 : Int) (a0_1 : Int) (a0_2 : Bool) (a0_3 : Bool) (A0_4 : Option Addr) (c0_4 : Nat) (l0_4 : List Int) (A0_5 : Option Addr) (c0_5 : Nat) (l0_5 : List Int) (a0_6 : Int) (a0_7 : Int) (a1_0 : Int) (a1_1 : Int) (a1_2 : Bool) (a1_3 : Bool) (A1_4 : Option Addr) (c1_4 : Nat) (l1_4 : List Int) (A1_5 : Option Addr) (c1_5 : Nat) (l1_5 : List Int) (a1_6 : Int) (a1_7 : Int) (r : Bool) (w : World) (hr0_4 : Kd.C (Kd.int .i64) w A0_4 l0_4.length l0_4) (hc0_4 : l0_4.length ≤ c0_4) (hr0_5 : Kd.C (Kd.int .i64) w A0_5 l0_5.length l0_5) (hc0_5 : l0_5.length ≤ c0_5) (hr1_4 : Kd.C (Kd.int .i64) w A1_4 l1_4.length l1_4) (hc1_4 : l1_4.length ≤ c1_4) (hr1_5 : Kd.C (Kd.int .i64) w A1_5 l1_5.length l1_5) (hc1_5 : l1_5.length ≤ c1_5) (h : impl_EqualRules.f k a0_0 a0_1 a0_2 a0_3 l0_4 l0_5 a0_6 a0_7 a1_0 a1_1 a1_2 a1_3 l1_4 l1_5 a1_6 a1_7 = some r) :
    Calls Try.prog 70 #[.agg #[.int .i64 a0_0, .int .i64 a0_1, .bool a0_2, .bool a0_3, .slice A0_4 l0_4.length c0_4, .slice A0_5 l0_5.length c0_5, .int .i64 a0_6, .int .i64 a0_7], .agg #[.int .i64 a1_0, .int .i64 a1_1, .bool a1_2, .bool a1_3, .slice A1_4 l1_4.length c1_4, .slice A1_5 l1_5.length c1_5, .int .i64 a1_6, .int .i64 a1_7]] w fun e w' => e = .returned (.bool r) ∧ Below w.heap.size w w' := by
  have hu74 := Try.underlying74
  have HR0_4 := Aside0.mk hr0_4
  have HC0_4 := Aside0.mk hc0_4
  clear hr0_4 hc0_4
  have HR0_5 := Aside0.mk hr0_5
  have HC0_5 := Aside0.mk hc0_5
  clear hr0_5 hc0_5
  have HR1_4 := Aside0.mk hr1_4
  have HC1_4 := Aside0.mk hc1_4
  clear hr1_4 hc1_4
  have HR1_5 := Aside0.mk hr1_5
  have HC1_5 := Aside0.mk hc1_5
  clear hr1_5 hc1_5
  have HB := Aside0.mk (Below.refl w.heap.size w)
  have H : (if a0_0 = a1_0 then (if a0_1 = a1_1 then (if (a0_2 == a1_2) = true then (if (a0_3 == a1_3) = true then (if a0_6 = a1_6 then (if a0_7 = a1_7 then ((impl_EqualInts.f k l0_4 l1_4).bind fun t190 => (if t190 = true then ((impl_EqualInts.f k l0_5 l1_5).bind fun t191 => (some t191)) else (some false))) else (some false)) else (some false)) else (some false)) else (some false)) else (some false)) else (some false)) = some r := h
  clear h
  by_cases c3 : a0_0 = a1_0
  rotate_left
  rw [if_neg c3] at H
  have c3b0 : (a0_0 == a1_0) = false := beq_eq_false_iff_ne.mpr c3
  have c3b1 : (a0_0 != a1_0) = true := bne_iff_ne.mpr c3
  obtain rfl := Option.some.inj H
  rotate_right
  rw [if_pos c3] at H
  have c3b0 : (a0_0 == a1_0) = true := beq_iff_eq.mpr c3
  have c3b1 : (a0_0 != a1_0) = false := bne_eq_false_iff_eq.mpr c3
  clear c3
  by_cases c4 : a0_1 = a1_1
  rotate_left
  rw [if_neg c4] at H
  have c4b0 : (a0_1 == a1_1) = false := beq_eq_false_iff_ne.mpr c4
  have c4b1 : (a0_1 != a1_1) = true := bne_iff_ne.mpr c4
  obtain rfl := Option.some.inj H
  rotate_right
  rw [if_pos c4] at H
  have c4b0 : (a0_1 == a1_1) = true := beq_iff_eq.mpr c4
  have c4b1 : (a0_1 != a1_1) = false := bne_eq_false_iff_eq.mpr c4
  clear c4
  by_cases c5 : (a0_2 == a1_2) = true
  rotate_left
  rw [if_neg c5] at H
  have c5b0 : (a0_2 == a1_2) = false := by simpa using c5
  (try (have c5b1 : decide (a0_2 = a1_2) = false := by simpa using c5))
  (try (have c5b2 : (a0_2 == a1_2) = false := by simpa using c5))
  (try (have c5b3 : ¬ (a0_2 = a1_2) := by simpa using c5))
  clear c5
  obtain rfl := Option.some.inj H
  rotate_right
  rw [if_pos c5] at H
  have c5b0 : (a0_2 == a1_2) = true := c5
  (try (have c5b1 : decide (a0_2 = a1_2) = true := by simpa using c5))
  (try (have c5b2 : (a0_2 == a1_2) = true := by simpa using c5))
  clear c5
  by_cases c6 : (a0_3 == a1_3) = true
  rotate_left
  rw [if_neg c6] at H
  have c6b0 : (a0_3 == a1_3) = false := by simpa using c6
  (try (have c6b1 : decide (a0_3 = a1_3) = false := by simpa using c6))
  (try (have c6b2 : (a0_3 == a1_3) = false := by simpa using c6))
  (try (have c6b3 : ¬ (a0_3 = a1_3) := by simpa using c6))
  clear c6
  obtain rfl := Option.some.inj H
  rotate_right
  rw [if_pos c6] at H
  have c6b0 : (a0_3 == a1_3) = true := c6
  (try (have c6b1 : decide (a0_3 = a1_3) = true := by simpa using c6))
  (try (have c6b2 : (a0_3 == a1_3) = true := by simpa using c6))
  clear c6
  by_cases c7 : a0_6 = a1_6
  rotate_left
  rw [if_neg c7] at H
  have c7b0 : (a0_6 == a1_6) = false := beq_eq_false_iff_ne.mpr c7
  have c7b1 : (a0_6 != a1_6) = true := bne_iff_ne.mpr c7
  obtain rfl := Option.some.inj H
  rotate_right
  rw [if_pos c7] at H
  have c7b0 : (a0_6 == a1_6) = true := beq_iff_eq.mpr c7
  have c7b1 : (a0_6 != a1_6) = false := bne_eq_false_iff_eq.mpr c7
  clear c7
  by_cases c8 : a0_7 = a1_7
  rotate_left
  rw [if_neg c8] at H
  have c8b0 : (a0_7 == a1_7) = false := beq_eq_false_iff_ne.mpr c8
  have c8b1 : (a0_7 != a1_7) = true := bne_iff_ne.mpr c8
  obtain rfl := Option.some.inj H
  rotate_right
  rw [if_pos c8] at H
  have c8b0 : (a0_7 == a1_7) = true := beq_iff_eq.mpr c8
  have c8b1 : (a0_7 != a1_7) = false := bne_eq_false_iff_eq.mpr c8
  clear c8
  replace H := Option.bind_eq_some_iff.mp H
  obtain ⟨t190, A90, H⟩ := H
  have A9 := Aside0.mk A90
  clear A90
  by_cases c10 : t190 = true
  rotate_left
  replace c10 := Bool.eq_false_iff.mpr c10
  subst c10
  rw [if_neg (show ¬ (false = true) by decide)] at H
  obtain rfl := Option.some.inj H
  rotate_right
  subst c10
  rw [if_pos rfl] at H
  replace H := Option.bind_eq_some_iff.mp H
  obtain ⟨t191, A110, H⟩ := H
  have A11 := Aside0.mk A110
  clear A110
  obtain rfl := Option.some.inj H
  all_goals
    go_enter Try.func70, Try.ntmps70
    go_wp2_with (first | ((with_reducible refine gate_dst (N := 2) rfl ?_); refine box_event ?hg (N := 2) ?hd (cs := #[.int .i64 a0_0, .int .i64 a0_1, .bool a0_2, .bool a0_3, .slice A0_4 l0_4.length c0_4, .slice A0_5 l0_5.length c0_5, .int .i64 a0_6, .int .i64 a0_7]) (t := 74) ?hr ?_; (case hd => rfl); (case hg => rfl); (case hr => first | (go_simp; done) | (go_simp; rfl)); intro gb188 hg w12 hbox hb; have n0_ := Aside0.mk (below_step (by repeat (first | (with_reducible first | exact HB.out | apply below_alloc | apply pw_below_drewN | apply below_drew1) | exact HB.out)) hb); have n1_ := Aside0.mk (hbox); have n2_ := Aside0.mk ((by rw [hg]; exact (below_size (by repeat (first | (with_reducible first | exact HB.out | apply below_alloc | apply pw_below_drewN | apply below_drew1) | exact HB.out))) : w.heap.size ≤ gb188)); have n3_ := Aside0.mk ((by rw [hg]; exact (below_size (by repeat (first | (with_reducible first | exact HB.out | apply below_alloc | apply pw_below_drewN | apply below_drew1) | exact HB.out))) : w.heap.size ≤ gb188)); clear HB; have HB := n0_; have BK188 := n1_; have GW188 := n2_; have GE188 := n3_; clear n0_ n1_ n2_ n3_; clear hb hbox hg) | ((with_reducible refine gate_dst (N := 3) rfl ?_); refine box_event ?hg (N := 3) ?hd (cs := #[.int .i64 a1_0, .int .i64 a1_1, .bool a1_2, .bool a1_3, .slice A1_4 l1_4.length c1_4, .slice A1_5 l1_5.length c1_5, .int .i64 a1_6, .int .i64 a1_7]) (t := 74) ?hr ?_; (case hd => rfl); (case hg => rfl); (case hr => first | (go_simp; done) | (go_simp; rfl)); intro gb189 hg w13 hbox hb; have n0_ := Aside0.mk (blk_below (g := gb188) (o := _) (by (with_reducible repeat (first | refine blk_drewN ?_ _ | refine blk_drew ?_ | refine blk_alloc ?_ _)); exact BK188.out) hb); have n1_ := Aside0.mk (below_step (by repeat (first | (with_reducible first | exact HB.out | apply below_alloc | apply pw_below_drewN | apply below_drew1 | refine below_set ?_ GE188.out) | exact HB.out)) hb); have n2_ := Aside0.mk (hbox); have n3_ := Aside0.mk ((by rw [hg]; exact (below_size (by repeat (first | (with_reducible first | exact HB.out | apply below_alloc | apply pw_below_drewN | apply below_drew1 | refine below_set ?_ GE188.out) | exact HB.out))) : w.heap.size ≤ gb189)); have n4_ := Aside0.mk ((by rw [hg]; exact (below_size (by repeat (first | (with_reducible first | exact HB.out | apply below_alloc | apply pw_below_drewN | apply below_drew1 | refine below_set ?_ GE188.out) | exact HB.out))) : w.heap.size ≤ gb189)); have n5_ := Aside0.mk ((by rw [hg]; exact Nat.ne_of_lt (blk_lt (g := gb188) (o := _) (by (with_reducible repeat (first | refine blk_drewN ?_ _ | refine blk_drew ?_ | refine blk_alloc ?_ _)); exact BK188.out)) : gb188 ≠ gb189)); have n6_ := Aside0.mk ((by rw [hg]; exact Nat.ne_of_gt (blk_lt (g := gb188) (o := _) (by (with_reducible repeat (first | refine blk_drewN ?_ _ | refine blk_drew ?_ | refine blk_alloc ?_ _)); exact BK188.out)) : gb189 ≠ gb188)); clear BK188; clear HB; have BK188 := n0_; have HB := n1_; have BK189 := n2_; have GW189 := n3_; have GE189 := n4_; have NB188_189 := n5_; have NB189_188 := n6_; clear n0_ n1_ n2_ n3_ n4_ n5_ n6_; clear hb hbox hg; have hnb14 := NB188_189.out; have hnc14 := NB189_188.out; have hcz15_0 : w13.cell? ⟨gb188, 0, none⟩ = some (.int .i64 a0_0) := (blk_cell BK188.out 0).trans rfl; have hcz15_1 : w13.cell? ⟨gb188, 1, none⟩ = some (.int .i64 a0_1) := (blk_cell BK188.out 1).trans rfl; have hcz15_2 : w13.cell? ⟨gb188, 2, none⟩ = some (.bool a0_2) := (blk_cell BK188.out 2).trans rfl; have hcz15_3 : w13.cell? ⟨gb188, 3, none⟩ = some (.bool a0_3) := (blk_cell BK188.out 3).trans rfl; have hcz15_4 : w13.cell? ⟨gb188, 4, none⟩ = some (.slice A0_4 l0_4.length c0_4) := (blk_cell BK188.out 4).trans rfl; have hcz15_5 : w13.cell? ⟨gb188, 5, none⟩ = some (.slice A0_5 l0_5.length c0_5) := (blk_cell BK188.out 5).trans rfl; have hcz15_6 : w13.cell? ⟨gb188, 6, none⟩ = some (.int .i64 a0_6) := (blk_cell BK188.out 6).trans rfl; have hcz15_7 : w13.cell? ⟨gb188, 7, none⟩ = some (.int .i64 a0_7) := (blk_cell BK188.out 7).trans rfl; have hfz15_0 := blk_frozen BK188.out 0; have hfz15_1 := blk_frozen BK188.out 1; have hfz15_2 := blk_frozen BK188.out 2; have hfz15_3 := blk_frozen BK188.out 3; have hfz15_4 := blk_frozen BK188.out 4; have hfz15_5 := blk_frozen BK188.out 5; have hfz15_6 := blk_frozen BK188.out 6; have hfz15_7 := blk_frozen BK188.out 7; have hcz16_0 : w13.cell? ⟨gb189, 0, none⟩ = some (.int .i64 a1_0) := (blk_cell BK189.out 0).trans rfl; have hcz16_1 : w13.cell? ⟨gb189, 1, none⟩ = some (.int .i64 a1_1) := (blk_cell BK189.out 1).trans rfl; have hcz16_2 : w13.cell? ⟨gb189, 2, none⟩ = some (.bool a1_2) := (blk_cell BK189.out 2).trans rfl; have hcz16_3 : w13.cell? ⟨gb189, 3, none⟩ = some (.bool a1_3) := (blk_cell BK189.out 3).trans rfl; have hcz16_4 : w13.cell? ⟨gb189, 4, none⟩ = some (.slice A1_4 l1_4.length c1_4) := (blk_cell BK189.out 4).trans rfl; have hcz16_5 : w13.cell? ⟨gb189, 5, none⟩ = some (.slice A1_5 l1_5.length c1_5) := (blk_cell BK189.out 5).trans rfl; have hcz16_6 : w13.cell? ⟨gb189, 6, none⟩ = some (.int .i64 a1_6) := (blk_cell BK189.out 6).trans rfl; have hcz16_7 : w13.cell? ⟨gb189, 7, none⟩ = some (.int .i64 a1_7) := (blk_cell BK189.out 7).trans rfl; have hfz16_0 := blk_frozen BK189.out 0; have hfz16_1 := blk_frozen BK189.out 1; have hfz16_2 := blk_frozen BK189.out 2; have hfz16_3 := blk_frozen BK189.out 3; have hfz16_4 := blk_frozen BK189.out 4; have hfz16_5 := blk_frozen BK189.out 5; have hfz16_6 := blk_frozen BK189.out 6; have hfz16_7 := blk_frozen BK189.out 7) | (go_at_call 130; (with_reducible refine (impl_EqualInts.calls k _ _ l0_4 _ _ l1_4 _ _ ?side1 ?side2 ?side3 ?side4 A9.out).mono ?_); (case side1 => repeat (first | exact (Kd.C_below HR0_4.out HB.out) | (with_reducible refine Kd.C_alloc ?_ _) | (with_reducible refine Kd.C_drewN ?_ _) | (with_reducible refine Kd.C_drew ?_))); (case side2 => exact HC0_4.out); (case side3 => repeat (first | exact (Kd.C_below HR1_4.out HB.out) | (with_reducible refine Kd.C_alloc ?_ _) | (with_reducible refine Kd.C_drewN ?_ _) | (with_reducible refine Kd.C_drew ?_))); (case side4 => exact HC1_4.out); rintro e w' ⟨rfl, ⟨nd, rfl⟩⟩) | (go_at_call 130; (with_reducible refine (impl_EqualInts.calls k _ _ l0_5 _ _ l1_5 t191 _ ?side1 ?side2 ?side3 ?side4 A11.out).mono ?_); (case side1 => repeat (first | exact (Kd.C_below HR0_5.out (by repeat (first | (with_reducible first | exact HB.out | apply below_alloc | apply pw_below_drewN | apply below_drew1 | refine below_set ?_ GE188.out | refine below_set ?_ GE189.out) | exact HB.out))) | (with_reducible refine Kd.C_alloc ?_ _) | (with_reducible refine Kd.C_drewN ?_ _) | (with_reducible refine Kd.C_drew ?_))); (case side2 => exact HC0_5.out); (case side3 => repeat (first | exact (Kd.C_below HR1_5.out (by repeat (first | (with_reducible first | exact HB.out | apply below_alloc | apply pw_below_drewN | apply below_drew1 | refine below_set ?_ GE188.out | refine below_set ?_ GE189.out) | exact HB.out))) | (with_reducible refine Kd.C_alloc ?_ _) | (with_reducible refine Kd.C_drewN ?_ _) | (with_reducible refine Kd.C_drew ?_))); (case side4 => exact HC1_5.out); rintro e w' ⟨rfl, ⟨nd, rfl⟩⟩))
    go_ret
    exact ⟨by first | rfl | (simp [errW_none, errW_some] <;> rfl) | (simp [*, errW_none, errW_some] <;> rfl), by repeat (first | (with_reducible first | exact HB.out | apply below_alloc | apply pw_below_drewN | apply below_drew1 | refine below_set ?_ GE188.out | refine below_set ?_ GE189.out) | exact HB.out)⟩

/-! ### impl_sameRows: function 133 -/
def impl_sameRows.l0 : Nat → List (List Int) → List (List Int) → Int → Int → Option (Bool)
  | 0, _, _, _, _ => none
  | k + 1, x0, x1, x12, x13 => if x13 < x12 then (if 0 ≤ x13 then (if x13 < (x0.length : Int) then (if x13 < (x1.length : Int) then ((impl_EqualInts.f k (rd_L1 x0 x13) (rd_L1 x1 x13)).bind fun t194 => (if t194 = true then (impl_sameRows.l0 k x0 x1 x12 (wrap64 (x13 + 1))) else (some false))) else (none)) else (none)) else (none)) else (some true)
def impl_sameRows.f (k : Nat) (l0 : List (List Int)) (l1 : List (List Int)) : Option (Bool) := if (l0.length : Int) = (l1.length : Int) then (impl_sameRows.l0 k l0 l1 (l0.length : Int) 0) else (some false)
theorem impl_sameRows.mono_l : ∀ k, (∀ y0 y1 y2 y3, LeO (impl_sameRows.l0 k y0 y1 y2 y3) (impl_sameRows.l0 (k + 1) y0 y1 y2 y3))
  | 0 => fun _ _ _ _ r h => by simp [impl_sameRows.l0] at h
  | k + 1 => by
    have ih0 := impl_sameRows.mono_l k
    · intro y0 y1 y2 y3
      unfold impl_sameRows.l0
      repeat' first
      | (with_reducible exact ih0 _ _ _ _)
      | (with_reducible exact impl_EqualInts.mono _ _ _)
      | (with_reducible exact LeO.refl _)
      | (with_reducible exact LeO.none _)
      | (with_reducible refine LeO.ite ?_ ?_)
      | (with_reducible refine LeO.bind ?_ (fun _ => ?_))
      | exact ih0 _ _ _ _
      | exact impl_EqualInts.mono _ _ _
      | exact LeO.none _
      | refine LeO.ite ?_ ?_
      | refine LeO.bind ?_ (fun _ => ?_)
theorem impl_sameRows.mono : ∀ a0 a1 k, LeO (impl_sameRows.f k a0 a1) (impl_sameRows.f (k + 1) a0 a1) := by
  intro a0 a1 k
  have ih0 := impl_sameRows.mono_l k
  unfold impl_sameRows.f
  repeat' first
      | (with_reducible exact ih0 _ _ _ _)
      | (with_reducible exact impl_EqualInts.mono _ _ _)
      | (with_reducible exact LeO.refl _)
      | (with_reducible exact LeO.none _)
      | (with_reducible refine LeO.ite ?_ ?_)
      | (with_reducible refine LeO.bind ?_ (fun _ => ?_))
      | exact ih0 _ _ _ _
      | exact impl_EqualInts.mono _ _ _
      | exact LeO.none _
      | refine LeO.ite ?_ ?_
      | refine LeO.bind ?_ (fun _ => ?_)
set_option maxHeartbeats 8000000 in
set_option maxRecDepth 100000 in
theorem impl_sameRows.calls (k : Nat) (A0 : Option Addr) (c0 : Nat) (l0 : List (List Int)) (A1 : Option Addr) (c1 : Nat) (l1 : List (List Int)) (r : Bool) (w : World) (hr0 : Kd.C (Kd.slice 3 (Kd.int .i64)) w A0 l0.length l0) (hc0 : l0.length ≤ c0) (hr1 : Kd.C (Kd.slice 3 (Kd.int .i64)) w A1 l1.length l1) (hc1 : l1.length ≤ c1) (h : impl_sameRows.f k l0 l1 = some r) :
    Calls Try.prog 133 #[.slice A0 l0.length c0, .slice A1 l1.length c1] w fun e w' => e = .returned (.bool r) ∧ Drawn0 w w' := by
  have HR0 := Aside0.mk hr0
  have HC0 := Aside0.mk hc0
  clear hr0 hc0
  have HR1 := Aside0.mk hr1
  have HC1 := Aside0.mk hc1
  clear hr1 hc1
  have H : (if (l0.length : Int) = (l1.length : Int) then (impl_sameRows.l0 k l0 l1 (l0.length : Int) 0) else (some false)) = some r := h
  clear h
  by_cases c3 : (l0.length : Int) = (l1.length : Int)
  · rw [if_pos c3] at H
    have c3b0 : ((l0.length : Int) == (l1.length : Int)) = true := beq_iff_eq.mpr c3
    have c3b1 : ((l0.length : Int) != (l1.length : Int)) = false := bne_eq_false_iff_eq.mpr c3
    have c3b2 : (l0.length == l1.length) = true := by first | simpa using c3 | (simp at c3 ⊢; omega)
    clear c3
    have H' := Aside0.mk H
    clear H
    go_enter Try.func133, Try.ntmps133
    go_wp2
    repeat (go_quiet (fail); try go_wp2)
    go_loopg [13] k (fun kq v13 w' => ∃ (x13_1 : Int), v13 = .int .i64 x13_1 ∧ Aside0 (impl_sameRows.l0 kq l0 l1 (l0.length : Int) x13_1 = some r) ∧ Aside0 (kq ≤ k) ∧ Drawn0 w w')
    case atStart => exact ⟨(0), (by first | rfl | (simp; done) | (simp [*]; done)), H', ⟨Nat.le_refl _⟩, by repeat (first | exact Drawn0.refl _ | apply Drawn0.step)⟩
    case round =>
      clear H'
      try clear c1
      try clear p2
      try clear c3
      try clear c3b0
      try clear c3b1
      try clear c3b2
      obtain ⟨x13_1, rfl, HA, HK1, ⟨m1, rfl⟩⟩ := hrel
      cases gk with
      | zero => exact absurd HA.out (by simp [impl_sameRows.l0])
      | succ k1 =>
        have H := HA.out
        clear HA
        simp only [impl_sameRows.l0] at H
        by_cases c4 : x13_1 < (l0.length : Int)
        · rw [if_pos c4] at H
          have c4b0 : decide (x13_1 < (l0.length : Int)) = true := decide_eq_true c4
          clear c4
          by_cases c5 : 0 ≤ x13_1
          · rw [if_pos c5] at H
            have c5b0 : decide (0 ≤ x13_1) = true := decide_eq_true c5
            clear c5
            by_cases c6 : x13_1 < (l0.length : Int)
            · rw [if_pos c6] at H
              have c6b0 : decide (x13_1 < (l0.length : Int)) = true := decide_eq_true c6
              clear c6
              by_cases c7 : x13_1 < (l1.length : Int)
              · rw [if_pos c7] at H
                have c7b0 : decide (x13_1 < (l1.length : Int)) = true := decide_eq_true c7
                clear c7
                replace H := Option.bind_eq_some_iff.mp H
                obtain ⟨t194, A80, H⟩ := H
                have A8 := Aside0.mk A80
                clear A80
                by_cases c9 : t194 = true
                · subst c9
                  rw [if_pos rfl] at H
                  have H' := Aside0.mk H
                  clear H
                  have p192 : 0 ≤ (x13_1 : Int) := of_decide_eq_true (by first | (with_reducible assumption) | assumption)
                  have q192 : x13_1 < (l0.length : Int) := of_decide_eq_true (by first | (with_reducible assumption) | assumption)
                  obtain ⟨ad192, A192_0, c192_0, e192, hx192_0, hl192_0, hi192_0⟩ := at_L1 HR0.out x13_1 p192 q192
                  cases e192
                  have HR192_0 := Aside0.mk hi192_0
                  have HC192_0 := Aside0.mk hl192_0
                  clear hi192_0 hl192_0
                  replace p192 := eq_true p192
                  replace q192 := eq_true q192
                  have p193 : 0 ≤ (x13_1 : Int) := of_decide_eq_true (by first | (with_reducible assumption) | assumption)
                  have q193 : x13_1 < (l1.length : Int) := of_decide_eq_true (by first | (with_reducible assumption) | assumption)
                  obtain ⟨ad193, A193_0, c193_0, e193, hx193_0, hl193_0, hi193_0⟩ := at_L1 HR1.out x13_1 p193 q193
                  cases e193
                  have HR193_0 := Aside0.mk hi193_0
                  have HC193_0 := Aside0.mk hl193_0
                  clear hi193_0 hl193_0
                  replace p193 := eq_true p193
                  replace q193 := eq_true q193
                  go_wp2_with (first | (go_at_call 130; (with_reducible refine (impl_EqualInts.calls k1 _ _ (rd_L1 l0 x13_1) _ _ (rd_L1 l1 x13_1) true _ ?side1 ?side2 ?side3 ?side4 A8.out).mono ?_); (case side1 => repeat (first | exact HR192_0.out | (with_reducible refine Kd.C_alloc ?_ _) | (with_reducible refine Kd.C_drewN ?_ _) | (with_reducible refine Kd.C_drew ?_))); (case side2 => exact HC192_0.out); (case side3 => repeat (first | exact HR193_0.out | (with_reducible refine Kd.C_alloc ?_ _) | (with_reducible refine Kd.C_drewN ?_ _) | (with_reducible refine Kd.C_drew ?_))); (case side4 => exact HC193_0.out); rintro e w' ⟨rfl, ⟨nd, rfl⟩⟩; (try first | exact ⟨rfl, _, World.drewN_drewN _ _ _⟩ | exact ⟨rfl, _, Eq.trans (World.drewN_drewN _ _ _) (congrArg (World.drewN _) (Nat.add_assoc _ _ _))⟩)))
                  repeat (go_quiet (first | (go_at_call 130; (with_reducible refine (impl_EqualInts.calls k1 _ _ (rd_L1 l0 x13_1) _ _ (rd_L1 l1 x13_1) true _ ?side1 ?side2 ?side3 ?side4 A8.out).mono ?_); (case side1 => repeat (first | exact HR192_0.out | (with_reducible refine Kd.C_alloc ?_ _) | (with_reducible refine Kd.C_drewN ?_ _) | (with_reducible refine Kd.C_drew ?_))); (case side2 => exact HC192_0.out); (case side3 => repeat (first | exact HR193_0.out | (with_reducible refine Kd.C_alloc ?_ _) | (with_reducible refine Kd.C_drewN ?_ _) | (with_reducible refine Kd.C_drew ?_))); (case side4 => exact HC193_0.out); rintro e w' ⟨rfl, ⟨nd, rfl⟩⟩; (try first | exact ⟨rfl, _, World.drewN_drewN _ _ _⟩ | exact ⟨rfl, _, Eq.trans (World.drewN_drewN _ _ _) (congrArg (World.drewN _) (Nat.add_assoc _ _ _))⟩))); try go_wp2_with (first | (go_at_call 130; (with_reducible refine (impl_EqualInts.calls k1 _ _ (rd_L1 l0 x13_1) _ _ (rd_L1 l1 x13_1) true _ ?side1 ?side2 ?side3 ?side4 A8.out).mono ?_); (case side1 => repeat (first | exact HR192_0.out | (with_reducible refine Kd.C_alloc ?_ _) | (with_reducible refine Kd.C_drewN ?_ _) | (with_reducible refine Kd.C_drew ?_))); (case side2 => exact HC192_0.out); (case side3 => repeat (first | exact HR193_0.out | (with_reducible refine Kd.C_alloc ?_ _) | (with_reducible refine Kd.C_drewN ?_ _) | (with_reducible refine Kd.C_drew ?_))); (case side4 => exact HC193_0.out); rintro e w' ⟨rfl, ⟨nd, rfl⟩⟩; (try first | exact ⟨rfl, _, World.drewN_drewN _ _ _⟩ | exact ⟨rfl, _, Eq.trans (World.drewN_drewN _ _ _) (congrArg (World.drewN _) (Nat.add_assoc _ _ _))⟩))))
                  go_roundg k1
                  case measure => have := HK1.out; omega
                  case rel => exact ⟨(wrap64 (x13_1 + 1)), (by first | rfl | (simp; done) | (simp [*]; done)), H', ⟨by have := HK1.out; omega⟩, by repeat (first | exact Drawn0.refl _ | apply Drawn0.step)⟩
                · replace c9 := Bool.eq_false_iff.mpr c9
                  subst c9
                  rw [if_neg (show ¬ (false = true) by decide)] at H
                  obtain rfl := Option.some.inj H
                  have p192 : 0 ≤ (x13_1 : Int) := of_decide_eq_true (by first | (with_reducible assumption) | assumption)
                  have q192 : x13_1 < (l0.length : Int) := of_decide_eq_true (by first | (with_reducible assumption) | assumption)
                  obtain ⟨ad192, A192_0, c192_0, e192, hx192_0, hl192_0, hi192_0⟩ := at_L1 HR0.out x13_1 p192 q192
                  cases e192
                  have HR192_0 := Aside0.mk hi192_0
                  have HC192_0 := Aside0.mk hl192_0
                  clear hi192_0 hl192_0
                  replace p192 := eq_true p192
                  replace q192 := eq_true q192
                  have p193 : 0 ≤ (x13_1 : Int) := of_decide_eq_true (by first | (with_reducible assumption) | assumption)
                  have q193 : x13_1 < (l1.length : Int) := of_decide_eq_true (by first | (with_reducible assumption) | assumption)
                  obtain ⟨ad193, A193_0, c193_0, e193, hx193_0, hl193_0, hi193_0⟩ := at_L1 HR1.out x13_1 p193 q193
                  cases e193
                  have HR193_0 := Aside0.mk hi193_0
                  have HC193_0 := Aside0.mk hl193_0
                  clear hi193_0 hl193_0
                  replace p193 := eq_true p193
                  replace q193 := eq_true q193
                  go_wp2_with (first | (go_at_call 130; (with_reducible refine (impl_EqualInts.calls k1 _ _ (rd_L1 l0 x13_1) _ _ (rd_L1 l1 x13_1) false _ ?side1 ?side2 ?side3 ?side4 A8.out).mono ?_); (case side1 => repeat (first | exact HR192_0.out | (with_reducible refine Kd.C_alloc ?_ _) | (with_reducible refine Kd.C_drewN ?_ _) | (with_reducible refine Kd.C_drew ?_))); (case side2 => exact HC192_0.out); (case side3 => repeat (first | exact HR193_0.out | (with_reducible refine Kd.C_alloc ?_ _) | (with_reducible refine Kd.C_drewN ?_ _) | (with_reducible refine Kd.C_drew ?_))); (case side4 => exact HC193_0.out); rintro e w' ⟨rfl, ⟨nd, rfl⟩⟩; (try first | exact ⟨rfl, _, World.drewN_drewN _ _ _⟩ | exact ⟨rfl, _, Eq.trans (World.drewN_drewN _ _ _) (congrArg (World.drewN _) (Nat.add_assoc _ _ _))⟩)))
                  repeat (go_quiet (first | (go_at_call 130; (with_reducible refine (impl_EqualInts.calls k1 _ _ (rd_L1 l0 x13_1) _ _ (rd_L1 l1 x13_1) false _ ?side1 ?side2 ?side3 ?side4 A8.out).mono ?_); (case side1 => repeat (first | exact HR192_0.out | (with_reducible refine Kd.C_alloc ?_ _) | (with_reducible refine Kd.C_drewN ?_ _) | (with_reducible refine Kd.C_drew ?_))); (case side2 => exact HC192_0.out); (case side3 => repeat (first | exact HR193_0.out | (with_reducible refine Kd.C_alloc ?_ _) | (with_reducible refine Kd.C_drewN ?_ _) | (with_reducible refine Kd.C_drew ?_))); (case side4 => exact HC193_0.out); rintro e w' ⟨rfl, ⟨nd, rfl⟩⟩; (try first | exact ⟨rfl, _, World.drewN_drewN _ _ _⟩ | exact ⟨rfl, _, Eq.trans (World.drewN_drewN _ _ _) (congrArg (World.drewN _) (Nat.add_assoc _ _ _))⟩))); try go_wp2_with (first | (go_at_call 130; (with_reducible refine (impl_EqualInts.calls k1 _ _ (rd_L1 l0 x13_1) _ _ (rd_L1 l1 x13_1) false _ ?side1 ?side2 ?side3 ?side4 A8.out).mono ?_); (case side1 => repeat (first | exact HR192_0.out | (with_reducible refine Kd.C_alloc ?_ _) | (with_reducible refine Kd.C_drewN ?_ _) | (with_reducible refine Kd.C_drew ?_))); (case side2 => exact HC192_0.out); (case side3 => repeat (first | exact HR193_0.out | (with_reducible refine Kd.C_alloc ?_ _) | (with_reducible refine Kd.C_drewN ?_ _) | (with_reducible refine Kd.C_drew ?_))); (case side4 => exact HC193_0.out); rintro e w' ⟨rfl, ⟨nd, rfl⟩⟩; (try first | exact ⟨rfl, _, World.drewN_drewN _ _ _⟩ | exact ⟨rfl, _, Eq.trans (World.drewN_drewN _ _ _) (congrArg (World.drewN _) (Nat.add_assoc _ _ _))⟩))))
                  go_ret
                  exact ⟨by first | rfl | (simp; done) | (simp [*]; done), by repeat (first | exact Drawn0.refl _ | apply Drawn0.step)⟩
              · rw [if_neg c7] at H
                exact absurd H (by simp)
            · rw [if_neg c6] at H
              exact absurd H (by simp)
          · rw [if_neg c5] at H
            exact absurd H (by simp)
        · rw [if_neg c4] at H
          have c4b0 : decide (x13_1 < (l0.length : Int)) = false := decide_eq_false c4
          clear c4
          obtain rfl := Option.some.inj H
          go_wp2
          repeat (go_quiet (fail); try go_wp2)
          go_ret
          exact ⟨by first | rfl | (simp; done) | (simp [*]; done), by repeat (first | exact Drawn0.refl _ | apply Drawn0.step)⟩
  · rw [if_neg c3] at H
    have c3b0 : ((l0.length : Int) == (l1.length : Int)) = false := beq_eq_false_iff_ne.mpr c3
    have c3b1 : ((l0.length : Int) != (l1.length : Int)) = true := bne_iff_ne.mpr c3
    have c3b2 : (l0.length == l1.length) = false := by first | simpa using c3 | (simp at c3 ⊢; omega)
    obtain rfl := Option.some.inj H
    go_enter Try.func133, Try.ntmps133
    go_wp2
    repeat (go_quiet (fail); try go_wp2)
    go_ret
    exact ⟨by first | rfl | (simp; done) | (simp [*]; done), by repeat (first | exact Drawn0.refl _ | apply Drawn0.step)⟩

/-! ### impl_EqualGames: function 73 -/
def impl_EqualGames.f (k : Nat) (a0_0 : Int) (a0_1 : Int) (a0_2 : Bool) (a0_3 : Bool) (l0_4 : List Int) (l0_5 : List Int) (a0_6 : Int) (a0_7 : Int) (l0_8 : List (List Int)) (l0_9 : List Int) (l0_10 : List Int) (a0_11 : Int) (a0_12 : Int) (a0_13 : Int) (a1_0 : Int) (a1_1 : Int) (a1_2 : Bool) (a1_3 : Bool) (l1_4 : List Int) (l1_5 : List Int) (a1_6 : Int) (a1_7 : Int) (l1_8 : List (List Int)) (l1_9 : List Int) (l1_10 : List Int) (a1_11 : Int) (a1_12 : Int) (a1_13 : Int) : Option (Bool) := (impl_EqualRules.f k a0_0 a0_1 a0_2 a0_3 l0_4 l0_5 a0_6 a0_7 a1_0 a1_1 a1_2 a1_3 l1_4 l1_5 a1_6 a1_7).bind fun t197 => (if t197 = true then ((impl_sameRows.f k l0_8 l1_8).bind fun t198 => (if t198 = true then ((impl_EqualInts.f k l0_9 l1_9).bind fun t199 => (if t199 = true then ((impl_EqualInts.f k l0_10 l1_10).bind fun t200 => (if t200 = true then (if a0_11 = a1_11 then (if a0_12 = a1_12 then (some (a0_13 == a1_13)) else (some false)) else (some false)) else (some false))) else (some false))) else (some false))) else (some false))
theorem impl_EqualGames.mono : ∀ a0 a1 a2 a3 a4 a5 a6 a7 a8 a9 a10 a11 a12 a13 a14 a15 a16 a17 a18 a19 a20 a21 a22 a23 a24 a25 a26 a27 k, LeO (impl_EqualGames.f k a0 a1 a2 a3 a4 a5 a6 a7 a8 a9 a10 a11 a12 a13 a14 a15 a16 a17 a18 a19 a20 a21 a22 a23 a24 a25 a26 a27) (impl_EqualGames.f (k + 1) a0 a1 a2 a3 a4 a5 a6 a7 a8 a9 a10 a11 a12 a13 a14 a15 a16 a17 a18 a19 a20 a21 a22 a23 a24 a25 a26 a27) := by
  intro a0 a1 a2 a3 a4 a5 a6 a7 a8 a9 a10 a11 a12 a13 a14 a15 a16 a17 a18 a19 a20 a21 a22 a23 a24 a25 a26 a27 k
  unfold impl_EqualGames.f
  repeat' first
      | (with_reducible exact impl_EqualInts.mono _ _ _)
      | (with_reducible exact impl_EqualRules.mono _ _ _ _ _ _ _ _ _ _ _ _ _ _ _ _ _)
      | (with_reducible exact impl_sameRows.mono _ _ _)
      | (with_reducible exact LeO.refl _)
      | (with_reducible exact LeO.none _)
      | (with_reducible refine LeO.ite ?_ ?_)
      | (with_reducible refine LeO.bind ?_ (fun _ => ?_))
      | exact impl_EqualInts.mono _ _ _
      | exact impl_EqualRules.mono _ _ _ _ _ _ _ _ _ _ _ _ _ _ _ _ _
      | exact impl_sameRows.mono _ _ _
      | exact LeO.none _
      | refine LeO.ite ?_ ?_
      | refine LeO.bind ?_ (fun _ => ?_)
set_option maxHeartbeats 8000000 in
set_option maxRecDepth 100000 in
theorem impl_EqualGames.calls (k : Nat) (a0_0 : Int) (a0_1 : Int) (a0_2 : Bool) (a0_3 : Bool) (A0_4 : Option Addr) (c0_4 : Nat) (l0_4 : List Int) (A0_5 : Option Addr) (c0_5 : Nat) (l0_5 : List Int) (a0_6 : Int) (a0_7 : Int) (A0_8 : Option Addr) (c0_8 : Nat) (l0_8 : List (List Int)) (A0_9 : Option Addr) (c0_9 : Nat) (l0_9 : List Int) (A0_10 : Option Addr) (c0_10 : Nat) (l0_10 : List Int) (a0_11 : Int) (a0_12 : Int) (a0_13 : Int) (a1_0 : Int) (a1_1 : Int) (a1_2 : Bool) (a1_3 : Bool) (A1_4 : Option Addr) (c1_4 : Nat) (l1_4 : List Int) (A1_5 : Option Addr) (c1_5 : Nat) (l1_5 : List Int) (a1_6 : Int) (a1_7 : Int) (A1_8 : Option Addr) (c1_8 : Nat) (l1_8 : List (List Int)) (A1_9 : Option Addr) (c1_9 : Nat) (l1_9 : List Int) (A1_10 : Option Addr) (c1_10 : Nat) (l1_10 : List Int) (a1_11 : Int) (a1_12 : Int) (a1_13 : Int) (r : Bool) (w : World) (hr0_4 : Kd.C (Kd.int .i64) w A0_4 l0_4.length l0_4) (hc0_4 : l0_4.length ≤ c0_4) (hr0_5 : Kd.C (Kd.int .i64) w A0_5 l0_5.length l0_5) (hc0_5 : l0_5.length ≤ c0_5) (hr0_8 : Kd.C (Kd.slice 3 (Kd.int .i64)) w A0_8 l0_8.length l0_8) (hc0_8 : l0_8.length ≤ c0_8) (hr0_9 : Kd.C (Kd.int .i64) w A0_9 l0_9.length l0_9) (hc0_9 : l0_9.length ≤ c0_9) (hr0_10 : Kd.C (Kd.int .i64) w A0_10 l0_10.length l0_10) (hc0_10 : l0_10.length ≤ c0_10) (hr1_4 : Kd.C (Kd.int .i64) w A1_4 l1_4.length l1_4) (hc1_4 : l1_4.length ≤ c1_4) (hr1_5 : Kd.C (Kd.int .i64) w A1_5 l1_5.length l1_5) (hc1_5 : l1_5.length ≤ c1_5) (hr1_8 : Kd.C (Kd.slice 3 (Kd.int .i64)) w A1_8 l1_8.length l1_8) (hc1_8 : l1_8.length ≤ c1_8) (hr1_9 : Kd.C (Kd.int .i64) w A1_9 l1_9.length l1_9) (hc1_9 : l1_9.length ≤ c1_9) (hr1_10 : Kd.C (Kd.int .i64) w A1_10 l1_10.length l1_10) (hc1_10 : l1_10.length ≤ c1_10) (h : impl_EqualGames.f k a0_0 a0_1 a0_2 a0_3 l0_4 l0_5 a0_6 a0_7 l0_8 l0_9 l0_10 a0_11 a0_12 a0_13 a1_0 a1_1 a1_2 a1_3 l1_4 l1_5 a1_6 a1_7 l1_8 l1_9 l1_10 a1_11 a1_12 a1_13 = some r) :
    Calls Try.prog 73 #[.agg #[.int .i64 a0_0, .int .i64 a0_1, .bool a0_2, .bool a0_3, .slice A0_4 l0_4.length c0_4, .slice A0_5 l0_5.length c0_5, .int .i64 a0_6, .int .i64 a0_7, .slice A0_8 l0_8.length c0_8, .slice A0_9 l0_9.length c0_9, .slice A0_10 l0_10.length c0_10, .int .i64 a0_11, .int .i64 a0_12, .int .i64 a0_13], .agg #[.int .i64 a1_0, .int .i64 a1_1, .bool a1_2, .bool a1_3, .slice A1_4 l1_4.length c1_4, .slice A1_5 l1_5.length c1_5, .int .i64 a1_6, .int .i64 a1_7, .slice A1_8 l1_8.length c1_8, .slice A1_9 l1_9.length c1_9, .slice A1_10 l1_10.length c1_10, .int .i64 a1_11, .int .i64 a1_12, .int .i64 a1_13]] w fun e w' => e = .returned (.bool r) ∧ Below w.heap.size w w' := by
  have hu76 := Try.underlying76
  have hu74 := Try.underlying74
  have HR0_4 := Aside0.mk hr0_4
  have HC0_4 := Aside0.mk hc0_4
  clear hr0_4 hc0_4
  have HR0_5 := Aside0.mk hr0_5
  have HC0_5 := Aside0.mk hc0_5
  clear hr0_5 hc0_5
  have HR0_8 := Aside0.mk hr0_8
  have HC0_8 := Aside0.mk hc0_8
  clear hr0_8 hc0_8
  have HR0_9 := Aside0.mk hr0_9
  have HC0_9 := Aside0.mk hc0_9
  clear hr0_9 hc0_9
  have HR0_10 := Aside0.mk hr0_10
  have HC0_10 := Aside0.mk hc0_10
  clear hr0_10 hc0_10
  have HR1_4 := Aside0.mk hr1_4
  have HC1_4 := Aside0.mk hc1_4
  clear hr1_4 hc1_4
  have HR1_5 := Aside0.mk hr1_5
  have HC1_5 := Aside0.mk hc1_5
  clear hr1_5 hc1_5
  have HR1_8 := Aside0.mk hr1_8
  have HC1_8 := Aside0.mk hc1_8
  clear hr1_8 hc1_8
  have HR1_9 := Aside0.mk hr1_9
  have HC1_9 := Aside0.mk hc1_9
  clear hr1_9 hc1_9
  have HR1_10 := Aside0.mk hr1_10
  have HC1_10 := Aside0.mk hc1_10
  clear hr1_10 hc1_10
  have HB := Aside0.mk (Below.refl w.heap.size w)
  have H : ((impl_EqualRules.f k a0_0 a0_1 a0_2 a0_3 l0_4 l0_5 a0_6 a0_7 a1_0 a1_1 a1_2 a1_3 l1_4 l1_5 a1_6 a1_7).bind fun t197 => (if t197 = true then ((impl_sameRows.f k l0_8 l1_8).bind fun t198 => (if t198 = true then ((impl_EqualInts.f k l0_9 l1_9).bind fun t199 => (if t199 = true then ((impl_EqualInts.f k l0_10 l1_10).bind fun t200 => (if t200 = true then (if a0_11 = a1_11 then (if a0_12 = a1_12 then (some (a0_13 == a1_13)) else (some false)) else (some false)) else (some false))) else (some false))) else (some false))) else (some false))) = some r := h
  clear h
  replace H := Option.bind_eq_some_iff.mp H
  obtain ⟨t197, A30, H⟩ := H
  have A3 := Aside0.mk A30
  clear A30
  by_cases c4 : t197 = true
  rotate_left
  replace c4 := Bool.eq_false_iff.mpr c4
  subst c4
  rw [if_neg (show ¬ (false = true) by decide)] at H
  obtain rfl := Option.some.inj H
  rotate_right
  subst c4
  rw [if_pos rfl] at H
  replace H := Option.bind_eq_some_iff.mp H
  obtain ⟨t198, A50, H⟩ := H
  have A5 := Aside0.mk A50
  clear A50
  by_cases c6 : t198 = true
  rotate_left
  replace c6 := Bool.eq_false_iff.mpr c6
  subst c6
  rw [if_neg (show ¬ (false = true) by decide)] at H
  obtain rfl := Option.some.inj H
  rotate_right
  subst c6
  rw [if_pos rfl] at H
  replace H := Option.bind_eq_some_iff.mp H
  obtain ⟨t199, A70, H⟩ := H
  have A7 := Aside0.mk A70
  clear A70
  by_cases c8 : t199 = true
  rotate_left
  replace c8 := Bool.eq_false_iff.mpr c8
  subst c8
  rw [if_neg (show ¬ (false = true) by decide)] at H
  obtain rfl := Option.some.inj H
  rotate_right
  subst c8
  rw [if_pos rfl] at H
  replace H := Option.bind_eq_some_iff.mp H
  obtain ⟨t200, A90, H⟩ := H
  have A9 := Aside0.mk A90
  clear A90
  by_cases c10 : t200 = true
  rotate_left
  replace c10 := Bool.eq_false_iff.mpr c10
  subst c10
  rw [if_neg (show ¬ (false = true) by decide)] at H
  obtain rfl := Option.some.inj H
  rotate_right
  subst c10
  rw [if_pos rfl] at H
  by_cases c11 : a0_11 = a1_11
  rotate_left
  rw [if_neg c11] at H
  have c11b0 : (a0_11 == a1_11) = false := beq_eq_false_iff_ne.mpr c11
  have c11b1 : (a0_11 != a1_11) = true := bne_iff_ne.mpr c11
  obtain rfl := Option.some.inj H
  rotate_right
  rw [if_pos c11] at H
  have c11b0 : (a0_11 == a1_11) = true := beq_iff_eq.mpr c11
  have c11b1 : (a0_11 != a1_11) = false := bne_eq_false_iff_eq.mpr c11
  clear c11
  by_cases c12 : a0_12 = a1_12
  rotate_left
  rw [if_neg c12] at H
  have c12b0 : (a0_12 == a1_12) = false := beq_eq_false_iff_ne.mpr c12
  have c12b1 : (a0_12 != a1_12) = true := bne_iff_ne.mpr c12
  obtain rfl := Option.some.inj H
  rotate_right
  rw [if_pos c12] at H
  have c12b0 : (a0_12 == a1_12) = true := beq_iff_eq.mpr c12
  have c12b1 : (a0_12 != a1_12) = false := bne_eq_false_iff_eq.mpr c12
  clear c12
  obtain rfl := Option.some.inj H
  all_goals
    go_enter Try.func73, Try.ntmps73
    go_wp2_with (first | ((with_reducible refine gate_dst (N := 2) rfl ?_); refine box_event ?hg (N := 2) ?hd (cs := #[.int .i64 a0_0, .int .i64 a0_1, .bool a0_2, .bool a0_3, .slice A0_4 l0_4.length c0_4, .slice A0_5 l0_5.length c0_5, .int .i64 a0_6, .int .i64 a0_7, .slice A0_8 l0_8.length c0_8, .slice A0_9 l0_9.length c0_9, .slice A0_10 l0_10.length c0_10, .int .i64 a0_11, .int .i64 a0_12, .int .i64 a0_13]) (t := 76) ?hr ?_; (case hd => rfl); (case hg => rfl); (case hr => first | (go_simp; done) | (go_simp; rfl)); intro gb195 hg w37 hbox hb; have n0_ := Aside0.mk (below_step (by repeat (first | (with_reducible first | exact HB.out | apply below_alloc | apply pw_below_drewN | apply below_drew1) | exact HB.out)) hb); have n1_ := Aside0.mk (hbox); have n2_ := Aside0.mk ((by rw [hg]; exact (below_size (by repeat (first | (with_reducible first | exact HB.out | apply below_alloc | apply pw_below_drewN | apply below_drew1) | exact HB.out))) : w.heap.size ≤ gb195)); have n3_ := Aside0.mk ((by rw [hg]; exact (below_size (by repeat (first | (with_reducible first | exact HB.out | apply below_alloc | apply pw_below_drewN | apply below_drew1) | exact HB.out))) : w.heap.size ≤ gb195)); clear HB; have HB := n0_; have BK195 := n1_; have GW195 := n2_; have GE195 := n3_; clear n0_ n1_ n2_ n3_; clear hb hbox hg) | ((with_reducible refine gate_dst (N := 3) rfl ?_); refine box_event ?hg (N := 3) ?hd (cs := #[.int .i64 a1_0, .int .i64 a1_1, .bool a1_2, .bool a1_3, .slice A1_4 l1_4.length c1_4, .slice A1_5 l1_5.length c1_5, .int .i64 a1_6, .int .i64 a1_7, .slice A1_8 l1_8.length c1_8, .slice A1_9 l1_9.length c1_9, .slice A1_10 l1_10.length c1_10, .int .i64 a1_11, .int .i64 a1_12, .int .i64 a1_13]) (t := 76) ?hr ?_; (case hd => rfl); (case hg => rfl); (case hr => first | (go_simp; done) | (go_simp; rfl)); intro gb196 hg w38 hbox hb; have n0_ := Aside0.mk (blk_below (g := gb195) (o := _) (by (with_reducible repeat (first | refine blk_drewN ?_ _ | refine blk_drew ?_ | refine blk_alloc ?_ _)); exact BK195.out) hb); have n1_ := Aside0.mk (below_step (by repeat (first | (with_reducible first | exact HB.out | apply below_alloc | apply pw_below_drewN | apply below_drew1 | refine below_set ?_ GE195.out) | exact HB.out)) hb); have n2_ := Aside0.mk (hbox); have n3_ := Aside0.mk ((by rw [hg]; exact (below_size (by repeat (first | (with_reducible first | exact HB.out | apply below_alloc | apply pw_below_drewN | apply below_drew1 | refine below_set ?_ GE195.out) | exact HB.out))) : w.heap.size ≤ gb196)); have n4_ := Aside0.mk ((by rw [hg]; exact (below_size (by repeat (first | (with_reducible first | exact HB.out | apply below_alloc | apply pw_below_drewN | apply below_drew1 | refine below_set ?_ GE195.out) | exact HB.out))) : w.heap.size ≤ gb196)); have n5_ := Aside0.mk ((by rw [hg]; exact Nat.ne_of_lt (blk_lt (g := gb195) (o := _) (by (with_reducible repeat (first | refine blk_drewN ?_ _ | refine blk_drew ?_ | refine blk_alloc ?_ _)); exact BK195.out)) : gb195 ≠ gb196)); have n6_ := Aside0.mk ((by rw [hg]; exact Nat.ne_of_gt (blk_lt (g := gb195) (o := _) (by (with_reducible repeat (first | refine blk_drewN ?_ _ | refine blk_drew ?_ | refine blk_alloc ?_ _)); exact BK195.out)) : gb196 ≠ gb195)); clear BK195; clear HB; have BK195 := n0_; have HB := n1_; have BK196 := n2_; have GW196 := n3_; have GE196 := n4_; have NB195_196 := n5_; have NB196_195 := n6_; clear n0_ n1_ n2_ n3_ n4_ n5_ n6_; clear hb hbox hg; have hnb39 := NB195_196.out; have hnc39 := NB196_195.out; have hcz40_0 : w38.cell? ⟨gb195, 0, none⟩ = some (.int .i64 a0_0) := (blk_cell BK195.out 0).trans rfl; have hcz40_1 : w38.cell? ⟨gb195, 1, none⟩ = some (.int .i64 a0_1) := (blk_cell BK195.out 1).trans rfl; have hcz40_2 : w38.cell? ⟨gb195, 2, none⟩ = some (.bool a0_2) := (blk_cell BK195.out 2).trans rfl; have hcz40_3 : w38.cell? ⟨gb195, 3, none⟩ = some (.bool a0_3) := (blk_cell BK195.out 3).trans rfl; have hcz40_4 : w38.cell? ⟨gb195, 4, none⟩ = some (.slice A0_4 l0_4.length c0_4) := (blk_cell BK195.out 4).trans rfl; have hcz40_5 : w38.cell? ⟨gb195, 5, none⟩ = some (.slice A0_5 l0_5.length c0_5) := (blk_cell BK195.out 5).trans rfl; have hcz40_6 : w38.cell? ⟨gb195, 6, none⟩ = some (.int .i64 a0_6) := (blk_cell BK195.out 6).trans rfl; have hcz40_7 : w38.cell? ⟨gb195, 7, none⟩ = some (.int .i64 a0_7) := (blk_cell BK195.out 7).trans rfl; have hcz40_8 : w38.cell? ⟨gb195, 8, none⟩ = some (.slice A0_8 l0_8.length c0_8) := (blk_cell BK195.out 8).trans rfl; have hcz40_9 : w38.cell? ⟨gb195, 9, none⟩ = some (.slice A0_9 l0_9.length c0_9) := (blk_cell BK195.out 9).trans rfl; have hcz40_10 : w38.cell? ⟨gb195, 10, none⟩ = some (.slice A0_10 l0_10.length c0_10) := (blk_cell BK195.out 10).trans rfl; have hcz40_11 : w38.cell? ⟨gb195, 11, none⟩ = some (.int .i64 a0_11) := (blk_cell BK195.out 11).trans rfl; have hcz40_12 : w38.cell? ⟨gb195, 12, none⟩ = some (.int .i64 a0_12) := (blk_cell BK195.out 12).trans rfl; have hcz40_13 : w38.cell? ⟨gb195, 13, none⟩ = some (.int .i64 a0_13) := (blk_cell BK195.out 13).trans rfl; have hfz40_0 := blk_frozen BK195.out 0; have hfz40_1 := blk_frozen BK195.out 1; have hfz40_2 := blk_frozen BK195.out 2; have hfz40_3 := blk_frozen BK195.out 3; have hfz40_4 := blk_frozen BK195.out 4; have hfz40_5 := blk_frozen BK195.out 5; have hfz40_6 := blk_frozen BK195.out 6; have hfz40_7 := blk_frozen BK195.out 7; have hfz40_8 := blk_frozen BK195.out 8; have hfz40_9 := blk_frozen BK195.out 9; have hfz40_10 := blk_frozen BK195.out 10; have hfz40_11 := blk_frozen BK195.out 11; have hfz40_12 := blk_frozen BK195.out 12; have hfz40_13 := blk_frozen BK195.out 13; have hcz41_0 : w38.cell? ⟨gb196, 0, none⟩ = some (.int .i64 a1_0) := (blk_cell BK196.out 0).trans rfl; have hcz41_1 : w38.cell? ⟨gb196, 1, none⟩ = some (.int .i64 a1_1) := (blk_cell BK196.out 1).trans rfl; have hcz41_2 : w38.cell? ⟨gb196, 2, none⟩ = some (.bool a1_2) := (blk_cell BK196.out 2).trans rfl; have hcz41_3 : w38.cell? ⟨gb196, 3, none⟩ = some (.bool a1_3) := (blk_cell BK196.out 3).trans rfl; have hcz41_4 : w38.cell? ⟨gb196, 4, none⟩ = some (.slice A1_4 l1_4.length c1_4) := (blk_cell BK196.out 4).trans rfl; have hcz41_5 : w38.cell? ⟨gb196, 5, none⟩ = some (.slice A1_5 l1_5.length c1_5) := (blk_cell BK196.out 5).trans rfl; have hcz41_6 : w38.cell? ⟨gb196, 6, none⟩ = some (.int .i64 a1_6) := (blk_cell BK196.out 6).trans rfl; have hcz41_7 : w38.cell? ⟨gb196, 7, none⟩ = some (.int .i64 a1_7) := (blk_cell BK196.out 7).trans rfl; have hcz41_8 : w38.cell? ⟨gb196, 8, none⟩ = some (.slice A1_8 l1_8.length c1_8) := (blk_cell BK196.out 8).trans rfl; have hcz41_9 : w38.cell? ⟨gb196, 9, none⟩ = some (.slice A1_9 l1_9.length c1_9) := (blk_cell BK196.out 9).trans rfl; have hcz41_10 : w38.cell? ⟨gb196, 10, none⟩ = some (.slice A1_10 l1_10.length c1_10) := (blk_cell BK196.out 10).trans rfl; have hcz41_11 : w38.cell? ⟨gb196, 11, none⟩ = some (.int .i64 a1_11) := (blk_cell BK196.out 11).trans rfl; have hcz41_12 : w38.cell? ⟨gb196, 12, none⟩ = some (.int .i64 a1_12) := (blk_cell BK196.out 12).trans rfl; have hcz41_13 : w38.cell? ⟨gb196, 13, none⟩ = some (.int .i64 a1_13) := (blk_cell BK196.out 13).trans rfl; have hfz41_0 := blk_frozen BK196.out 0; have hfz41_1 := blk_frozen BK196.out 1; have hfz41_2 := blk_frozen BK196.out 2; have hfz41_3 := blk_frozen BK196.out 3; have hfz41_4 := blk_frozen BK196.out 4; have hfz41_5 := blk_frozen BK196.out 5; have hfz41_6 := blk_frozen BK196.out 6; have hfz41_7 := blk_frozen BK196.out 7; have hfz41_8 := blk_frozen BK196.out 8; have hfz41_9 := blk_frozen BK196.out 9; have hfz41_10 := blk_frozen BK196.out 10; have hfz41_11 := blk_frozen BK196.out 11; have hfz41_12 := blk_frozen BK196.out 12; have hfz41_13 := blk_frozen BK196.out 13) | ((with_reducible refine gate_callee (f := 70) rfl ?_); refine goesL_ (some 9) rfl rfl Try.func70 (by kernel_rfl) rfl #[.agg #[.int .i64 a0_0, .int .i64 a0_1, .bool a0_2, .bool a0_3, .slice A0_4 l0_4.length c0_4, .slice A0_5 l0_5.length c0_5, .int .i64 a0_6, .int .i64 a0_7], .agg #[.int .i64 a1_0, .int .i64 a1_1, .bool a1_2, .bool a1_3, .slice A1_4 l1_4.length c1_4, .slice A1_5 l1_5.length c1_5, .int .i64 a1_6, .int .i64 a1_7]] rfl (by (try simp only [List.map_toArray, List.map_cons, List.map_nil]); first | done | rfl | (simp only [List.length_drop, List.length_take]; rfl)) ?_; (with_reducible refine (impl_EqualRules.calls k a0_0 a0_1 a0_2 a0_3 _ _ l0_4 _ _ l0_5 a0_6 a0_7 a1_0 a1_1 a1_2 a1_3 _ _ l1_4 _ _ l1_5 a1_6 a1_7 _ _ ?side1 ?side2 ?side3 ?side4 ?side5 ?side6 ?side7 ?side8 A3.out).mono ?_); (case side1 => repeat (first | exact (Kd.C_below HR0_4.out HB.out) | (with_reducible refine Kd.C_alloc ?_ _) | (with_reducible refine Kd.C_drewN ?_ _) | (with_reducible refine Kd.C_drew ?_))); (case side2 => exact HC0_4.out); (case side3 => repeat (first | exact (Kd.C_below HR0_5.out HB.out) | (with_reducible refine Kd.C_alloc ?_ _) | (with_reducible refine Kd.C_drewN ?_ _) | (with_reducible refine Kd.C_drew ?_))); (case side4 => exact HC0_5.out); (case side5 => repeat (first | exact (Kd.C_below HR1_4.out HB.out) | (with_reducible refine Kd.C_alloc ?_ _) | (with_reducible refine Kd.C_drewN ?_ _) | (with_reducible refine Kd.C_drew ?_))); (case side6 => exact HC1_4.out); (case side7 => repeat (first | exact (Kd.C_below HR1_5.out HB.out) | (with_reducible refine Kd.C_alloc ?_ _) | (with_reducible refine Kd.C_drewN ?_ _) | (with_reducible refine Kd.C_drew ?_))); (case side8 => exact HC1_5.out); rintro e w42 ⟨rfl, hb⟩; refine ⟨_, rfl, ?_⟩; have n0_ := Aside0.mk (blk_below (g := gb195) (o := _) (by (with_reducible repeat (first | refine blk_drewN ?_ _ | refine blk_drew ?_ | refine blk_alloc ?_ _)); exact BK195.out) hb); have n1_ := Aside0.mk (blk_below (g := gb196) (o := _) (by (with_reducible repeat (first | refine blk_drewN ?_ _ | refine blk_drew ?_ | refine blk_alloc ?_ _)); exact BK196.out) hb); have n2_ := Aside0.mk (below_step (by repeat (first | (with_reducible first | exact HB.out | apply below_alloc | apply pw_below_drewN | apply below_drew1 | refine below_set ?_ GE195.out | refine below_set ?_ GE196.out) | exact HB.out)) hb); clear BK195; clear BK196; clear HB; have BK195 := n0_; have BK196 := n1_; have HB := n2_; clear n0_ n1_ n2_; (try clear hb); (try clear hb2); (try clear hk); (try clear hi); have hcz43_0 : w42.cell? ⟨gb195, 0, none⟩ = some (.int .i64 a0_0) := (blk_cell BK195.out 0).trans rfl; have hcz43_1 : w42.cell? ⟨gb195, 1, none⟩ = some (.int .i64 a0_1) := (blk_cell BK195.out 1).trans rfl; have hcz43_2 : w42.cell? ⟨gb195, 2, none⟩ = some (.bool a0_2) := (blk_cell BK195.out 2).trans rfl; have hcz43_3 : w42.cell? ⟨gb195, 3, none⟩ = some (.bool a0_3) := (blk_cell BK195.out 3).trans rfl; have hcz43_4 : w42.cell? ⟨gb195, 4, none⟩ = some (.slice A0_4 l0_4.length c0_4) := (blk_cell BK195.out 4).trans rfl; have hcz43_5 : w42.cell? ⟨gb195, 5, none⟩ = some (.slice A0_5 l0_5.length c0_5) := (blk_cell BK195.out 5).trans rfl; have hcz43_6 : w42.cell? ⟨gb195, 6, none⟩ = some (.int .i64 a0_6) := (blk_cell BK195.out 6).trans rfl; have hcz43_7 : w42.cell? ⟨gb195, 7, none⟩ = some (.int .i64 a0_7) := (blk_cell BK195.out 7).trans rfl; have hcz43_8 : w42.cell? ⟨gb195, 8, none⟩ = some (.slice A0_8 l0_8.length c0_8) := (blk_cell BK195.out 8).trans rfl; have hcz43_9 : w42.cell? ⟨gb195, 9, none⟩ = some (.slice A0_9 l0_9.length c0_9) := (blk_cell BK195.out 9).trans rfl; have hcz43_10 : w42.cell? ⟨gb195, 10, none⟩ = some (.slice A0_10 l0_10.length c0_10) := (blk_cell BK195.out 10).trans rfl; have hcz43_11 : w42.cell? ⟨gb195, 11, none⟩ = some (.int .i64 a0_11) := (blk_cell BK195.out 11).trans rfl; have hcz43_12 : w42.cell? ⟨gb195, 12, none⟩ = some (.int .i64 a0_12) := (blk_cell BK195.out 12).trans rfl; have hcz43_13 : w42.cell? ⟨gb195, 13, none⟩ = some (.int .i64 a0_13) := (blk_cell BK195.out 13).trans rfl; have hfz43_0 := blk_frozen BK195.out 0; have hfz43_1 := blk_frozen BK195.out 1; have hfz43_2 := blk_frozen BK195.out 2; have hfz43_3 := blk_frozen BK195.out 3; have hfz43_4 := blk_frozen BK195.out 4; have hfz43_5 := blk_frozen BK195.out 5; have hfz43_6 := blk_frozen BK195.out 6; have hfz43_7 := blk_frozen BK195.out 7; have hfz43_8 := blk_frozen BK195.out 8; have hfz43_9 := blk_frozen BK195.out 9; have hfz43_10 := blk_frozen BK195.out 10; have hfz43_11 := blk_frozen BK195.out 11; have hfz43_12 := blk_frozen BK195.out 12; have hfz43_13 := blk_frozen BK195.out 13; have hcz44_0 : w42.cell? ⟨gb196, 0, none⟩ = some (.int .i64 a1_0) := (blk_cell BK196.out 0).trans rfl; have hcz44_1 : w42.cell? ⟨gb196, 1, none⟩ = some (.int .i64 a1_1) := (blk_cell BK196.out 1).trans rfl; have hcz44_2 : w42.cell? ⟨gb196, 2, none⟩ = some (.bool a1_2) := (blk_cell BK196.out 2).trans rfl; have hcz44_3 : w42.cell? ⟨gb196, 3, none⟩ = some (.bool a1_3) := (blk_cell BK196.out 3).trans rfl; have hcz44_4 : w42.cell? ⟨gb196, 4, none⟩ = some (.slice A1_4 l1_4.length c1_4) := (blk_cell BK196.out 4).trans rfl; have hcz44_5 : w42.cell? ⟨gb196, 5, none⟩ = some (.slice A1_5 l1_5.length c1_5) := (blk_cell BK196.out 5).trans rfl; have hcz44_6 : w42.cell? ⟨gb196, 6, none⟩ = some (.int .i64 a1_6) := (blk_cell BK196.out 6).trans rfl; have hcz44_7 : w42.cell? ⟨gb196, 7, none⟩ = some (.int .i64 a1_7) := (blk_cell BK196.out 7).trans rfl; have hcz44_8 : w42.cell? ⟨gb196, 8, none⟩ = some (.slice A1_8 l1_8.length c1_8) := (blk_cell BK196.out 8).trans rfl; have hcz44_9 : w42.cell? ⟨gb196, 9, none⟩ = some (.slice A1_9 l1_9.length c1_9) := (blk_cell BK196.out 9).trans rfl; have hcz44_10 : w42.cell? ⟨gb196, 10, none⟩ = some (.slice A1_10 l1_10.length c1_10) := (blk_cell BK196.out 10).trans rfl; have hcz44_11 : w42.cell? ⟨gb196, 11, none⟩ = some (.int .i64 a1_11) := (blk_cell BK196.out 11).trans rfl; have hcz44_12 : w42.cell? ⟨gb196, 12, none⟩ = some (.int .i64 a1_12) := (blk_cell BK196.out 12).trans rfl; have hcz44_13 : w42.cell? ⟨gb196, 13, none⟩ = some (.int .i64 a1_13) := (blk_cell BK196.out 13).trans rfl; have hfz44_0 := blk_frozen BK196.out 0; have hfz44_1 := blk_frozen BK196.out 1; have hfz44_2 := blk_frozen BK196.out 2; have hfz44_3 := blk_frozen BK196.out 3; have hfz44_4 := blk_frozen BK196.out 4; have hfz44_5 := blk_frozen BK196.out 5; have hfz44_6 := blk_frozen BK196.out 6; have hfz44_7 := blk_frozen BK196.out 7; have hfz44_8 := blk_frozen BK196.out 8; have hfz44_9 := blk_frozen BK196.out 9; have hfz44_10 := blk_frozen BK196.out 10; have hfz44_11 := blk_frozen BK196.out 11; have hfz44_12 := blk_frozen BK196.out 12; have hfz44_13 := blk_frozen BK196.out 13) | (go_at_call 133; (with_reducible refine (impl_sameRows.calls k _ _ l0_8 _ _ l1_8 _ _ ?side1 ?side2 ?side3 ?side4 A5.out).mono ?_); (case side1 => repeat (first | exact (Kd.C_below HR0_8.out HB.out) | (with_reducible refine Kd.C_alloc ?_ _) | (with_reducible refine Kd.C_drewN ?_ _) | (with_reducible refine Kd.C_drew ?_))); (case side2 => exact HC0_8.out); (case side3 => repeat (first | exact (Kd.C_below HR1_8.out HB.out) | (with_reducible refine Kd.C_alloc ?_ _) | (with_reducible refine Kd.C_drewN ?_ _) | (with_reducible refine Kd.C_drew ?_))); (case side4 => exact HC1_8.out); rintro e w' ⟨rfl, ⟨nd, rfl⟩⟩) | (go_at_call 130; (with_reducible refine (impl_EqualInts.calls k _ _ l0_9 _ _ l1_9 _ _ ?side1 ?side2 ?side3 ?side4 A7.out).mono ?_); (case side1 => repeat (first | exact (Kd.C_below HR0_9.out (by repeat (first | (with_reducible first | exact HB.out | apply below_alloc | apply pw_below_drewN | apply below_drew1 | refine below_set ?_ GE195.out | refine below_set ?_ GE196.out) | exact HB.out))) | (with_reducible refine Kd.C_alloc ?_ _) | (with_reducible refine Kd.C_drewN ?_ _) | (with_reducible refine Kd.C_drew ?_))); (case side2 => exact HC0_9.out); (case side3 => repeat (first | exact (Kd.C_below HR1_9.out (by repeat (first | (with_reducible first | exact HB.out | apply below_alloc | apply pw_below_drewN | apply below_drew1 | refine below_set ?_ GE195.out | refine below_set ?_ GE196.out) | exact HB.out))) | (with_reducible refine Kd.C_alloc ?_ _) | (with_reducible refine Kd.C_drewN ?_ _) | (with_reducible refine Kd.C_drew ?_))); (case side4 => exact HC1_9.out); rintro e w' ⟨rfl, ⟨nd, rfl⟩⟩) | (go_at_call 130; (with_reducible refine (impl_EqualInts.calls k _ _ l0_10 _ _ l1_10 _ _ ?side1 ?side2 ?side3 ?side4 A9.out).mono ?_); (case side1 => repeat (first | exact (Kd.C_below HR0_10.out (by repeat (first | (with_reducible first | exact HB.out | apply below_alloc | apply pw_below_drewN | apply below_drew1 | refine below_set ?_ GE195.out | refine below_set ?_ GE196.out) | exact HB.out))) | (with_reducible refine Kd.C_alloc ?_ _) | (with_reducible refine Kd.C_drewN ?_ _) | (with_reducible refine Kd.C_drew ?_))); (case side2 => exact HC0_10.out); (case side3 => repeat (first | exact (Kd.C_below HR1_10.out (by repeat (first | (with_reducible first | exact HB.out | apply below_alloc | apply pw_below_drewN | apply below_drew1 | refine below_set ?_ GE195.out | refine below_set ?_ GE196.out) | exact HB.out))) | (with_reducible refine Kd.C_alloc ?_ _) | (with_reducible refine Kd.C_drewN ?_ _) | (with_reducible refine Kd.C_drew ?_))); (case side4 => exact HC1_10.out); rintro e w' ⟨rfl, ⟨nd, rfl⟩⟩))
    go_ret
    exact ⟨by first | rfl | (simp [errW_none, errW_some] <;> rfl) | (simp [*, errW_none, errW_some] <;> rfl), by repeat (first | (with_reducible first | exact HB.out | apply below_alloc | apply pw_below_drewN | apply below_drew1 | refine below_set ?_ GE195.out | refine below_set ?_ GE196.out) | exact HB.out)⟩

end Go.Proofs.Ytdakhelapeojgaa.QFnExactEqualGames
