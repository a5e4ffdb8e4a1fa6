/- What a call of each Go function that FnExactRulesText reaches comes to, as a Lean function: texts of the kit's print, turned by wip/remake.py. No condition beyond what each names. -/
import Derived.Test.YtdfmobcocaijpaaDoorQFnExactRulesTextx2
namespace Go.Proofs.YtdfmobcocaijpaaDoor.QFnExactRulesText
open Go.RowKit Go.Proofs.YtdfmobcocaijpaaDoorW.PrintWords Go.Proofs.YtdfmobcocaijpaaDoorW.PrintLast Go.Proofs.YtdfmobcocaijpaaDoorW.PrintMore
open Go.Proofs.YtdfmobcocaijpaaDoorW.PrintWords renaming blk_cell → QB, blk_frozen → QC, pw_below_drewN → QD, blk_drewN → QE, blk_alloc → QF, below_drew1 → QG, below_alloc → QH, blk_drew → QI, below_set → QJ
open List renaming setIfInBounds_toArray → QK, set_cons_zero → QL, set_cons_succ → QM
open Go.Proofs.YtdfmobcocaijpaaDoorW.PrintWords.Aside0 renaming mk → QN
open Bool renaming true → Y1, false → Y0
attribute [local go_sem] max2_int min2_int max_two min_two max_three min_three max_four min_four   -- for this text's walks alone
set_option linter.unusedVariables false
set_option linter.unusedSimpArgs false

/-! ### spec_RulesText: function 23 -/
def spec_RulesText.f (k : Nat) (a0_0 : Int) (a0_1 : Int) (a0_2 : Bool) (a0_3 : Bool) (l0_4 : List Int) (l0_5 : List Int) (a0_6 : Int) (a0_7 : Int) : Option (ByteArray) := (spec_IsRules.f k a0_0 a0_1 a0_2 a0_3 l0_4 l0_5 a0_6 a0_7).bind fun t256 => (if t256 = true then ((spec_FormatInt.f k a0_0).bind fun t257 => (if 8 + t257.size ≤ 9223372036854775807 then (if ((⟨#[112, 108, 97, 121, 101, 114, 115, 61]⟩ : ByteArray) ++ t257).size + 6 ≤ 9223372036854775807 then ((spec_FormatInt.f k a0_1).bind fun t258 => (if (((⟨#[112, 108, 97, 121, 101, 114, 115, 61]⟩ : ByteArray) ++ t257) ++ (⟨#[32, 101, 97, 99, 104, 61]⟩ : ByteArray)).size + t258.size ≤ 9223372036854775807 then (if ((((⟨#[112, 108, 97, 121, 101, 114, 115, 61]⟩ : ByteArray) ++ t257) ++ (⟨#[32, 101, 97, 99, 104, 61]⟩ : ByteArray)) ++ t258).size + 7 ≤ 9223372036854775807 then ((spec_RulesWord.f k a0_0 a0_1 a0_2 a0_3 l0_4 l0_5 a0_6 a0_7).bind fun t259 => (if (((((⟨#[112, 108, 97, 121, 101, 114, 115, 61]⟩ : ByteArray) ++ t257) ++ (⟨#[32, 101, 97, 99, 104, 61]⟩ : ByteArray)) ++ t258) ++ (⟨#[32, 109, 97, 116, 99, 104, 61]⟩ : ByteArray)).size + t259.size ≤ 9223372036854775807 then (if ((((((⟨#[112, 108, 97, 121, 101, 114, 115, 61]⟩ : ByteArray) ++ t257) ++ (⟨#[32, 101, 97, 99, 104, 61]⟩ : ByteArray)) ++ t258) ++ (⟨#[32, 109, 97, 116, 99, 104, 61]⟩ : ByteArray)) ++ t259).size + 6 ≤ 9223372036854775807 then ((spec_l23Pattern.f k l0_4).bind fun t260 => (if (((((((⟨#[112, 108, 97, 121, 101, 114, 115, 61]⟩ : ByteArray) ++ t257) ++ (⟨#[32, 101, 97, 99, 104, 61]⟩ : ByteArray)) ++ t258) ++ (⟨#[32, 109, 97, 116, 99, 104, 61]⟩ : ByteArray)) ++ t259) ++ (⟨#[32, 119, 105, 108, 100, 61]⟩ : ByteArray)).size + t260.size ≤ 9223372036854775807 then (if ((((((((⟨#[112, 108, 97, 121, 101, 114, 115, 61]⟩ : ByteArray) ++ t257) ++ (⟨#[32, 101, 97, 99, 104, 61]⟩ : ByteArray)) ++ t258) ++ (⟨#[32, 109, 97, 116, 99, 104, 61]⟩ : ByteArray)) ++ t259) ++ (⟨#[32, 119, 105, 108, 100, 61]⟩ : ByteArray)) ++ t260).size + 6 ≤ 9223372036854775807 then ((spec_l23Pattern.f k l0_5).bind fun t261 => (if (((((((((⟨#[112, 108, 97, 121, 101, 114, 115, 61]⟩ : ByteArray) ++ t257) ++ (⟨#[32, 101, 97, 99, 104, 61]⟩ : ByteArray)) ++ t258) ++ (⟨#[32, 109, 97, 116, 99, 104, 61]⟩ : ByteArray)) ++ t259) ++ (⟨#[32, 119, 105, 108, 100, 61]⟩ : ByteArray)) ++ t260) ++ (⟨#[32, 115, 107, 105, 112, 61]⟩ : ByteArray)).size + t261.size ≤ 9223372036854775807 then (if ((((((((((⟨#[112, 108, 97, 121, 101, 114, 115, 61]⟩ : ByteArray) ++ t257) ++ (⟨#[32, 101, 97, 99, 104, 61]⟩ : ByteArray)) ++ t258) ++ (⟨#[32, 109, 97, 116, 99, 104, 61]⟩ : ByteArray)) ++ t259) ++ (⟨#[32, 119, 105, 108, 100, 61]⟩ : ByteArray)) ++ t260) ++ (⟨#[32, 115, 107, 105, 112, 61]⟩ : ByteArray)) ++ t261).size + 6 ≤ 9223372036854775807 then ((spec_FormatInt.f k a0_6).bind fun t262 => (if (((((((((((⟨#[112, 108, 97, 121, 101, 114, 115, 61]⟩ : ByteArray) ++ t257) ++ (⟨#[32, 101, 97, 99, 104, 61]⟩ : ByteArray)) ++ t258) ++ (⟨#[32, 109, 97, 116, 99, 104, 61]⟩ : ByteArray)) ++ t259) ++ (⟨#[32, 119, 105, 108, 100, 61]⟩ : ByteArray)) ++ t260) ++ (⟨#[32, 115, 107, 105, 112, 61]⟩ : ByteArray)) ++ t261) ++ (⟨#[32, 116, 97, 107, 101, 61]⟩ : ByteArray)).size + t262.size ≤ 9223372036854775807 then (if ((((((((((((⟨#[112, 108, 97, 121, 101, 114, 115, 61]⟩ : ByteArray) ++ t257) ++ (⟨#[32, 101, 97, 99, 104, 61]⟩ : ByteArray)) ++ t258) ++ (⟨#[32, 109, 97, 116, 99, 104, 61]⟩ : ByteArray)) ++ t259) ++ (⟨#[32, 119, 105, 108, 100, 61]⟩ : ByteArray)) ++ t260) ++ (⟨#[32, 115, 107, 105, 112, 61]⟩ : ByteArray)) ++ t261) ++ (⟨#[32, 116, 97, 107, 101, 61]⟩ : ByteArray)) ++ t262).size + 7 ≤ 9223372036854775807 then ((spec_FormatInt.f k a0_7).bind fun t263 => (if (((((((((((((⟨#[112, 108, 97, 121, 101, 114, 115, 61]⟩ : ByteArray) ++ t257) ++ (⟨#[32, 101, 97, 99, 104, 61]⟩ : ByteArray)) ++ t258) ++ (⟨#[32, 109, 97, 116, 99, 104, 61]⟩ : ByteArray)) ++ t259) ++ (⟨#[32, 119, 105, 108, 100, 61]⟩ : ByteArray)) ++ t260) ++ (⟨#[32, 115, 107, 105, 112, 61]⟩ : ByteArray)) ++ t261) ++ (⟨#[32, 116, 97, 107, 101, 61]⟩ : ByteArray)) ++ t262) ++ (⟨#[32, 108, 105, 109, 105, 116, 61]⟩ : ByteArray)).size + t263.size ≤ 9223372036854775807 then (some ((((((((((((((⟨#[112, 108, 97, 121, 101, 114, 115, 61]⟩ : ByteArray) ++ t257) ++ (⟨#[32, 101, 97, 99, 104, 61]⟩ : ByteArray)) ++ t258) ++ (⟨#[32, 109, 97, 116, 99, 104, 61]⟩ : ByteArray)) ++ t259) ++ (⟨#[32, 119, 105, 108, 100, 61]⟩ : ByteArray)) ++ t260) ++ (⟨#[32, 115, 107, 105, 112, 61]⟩ : ByteArray)) ++ t261) ++ (⟨#[32, 116, 97, 107, 101, 61]⟩ : ByteArray)) ++ t262) ++ (⟨#[32, 108, 105, 109, 105, 116, 61]⟩ : ByteArray)) ++ t263)) else (none))) else (none)) else (none))) else (none)) else (none))) else (none)) else (none))) else (none)) else (none))) else (none)) else (none))) else (none)) else (none))) else (some (⟨#[]⟩ : ByteArray)))
theorem spec_RulesText.mono : ∀ a0 a1 a2 a3 a4 a5 a6 a7 k, LeO (spec_RulesText.f k a0 a1 a2 a3 a4 a5 a6 a7) (spec_RulesText.f (k + 1) a0 a1 a2 a3 a4 a5 a6 a7) := by
 intro a0 a1 a2 a3 a4 a5 a6 a7 k
 unfold spec_RulesText.f
 repeat' first
   | (with_reducible exact spec_FormatInt.mono _ _)
   | (with_reducible exact spec_IsRules.mono _ _ _ _ _ _ _ _ _)
   | (with_reducible exact spec_RulesWord.mono _ _ _ _ _ _ _ _ _)
   | (with_reducible exact spec_l23Pattern.mono _ _)
   | (with_reducible exact LeO.refl _)
   | (with_reducible exact LeO.none _)
   | (with_reducible refine LeO.ite ?_ ?_)
   | (with_reducible refine LeO.bind ?_ (fun _ => ?_))
   | exact spec_FormatInt.mono _ _
   | exact spec_IsRules.mono _ _ _ _ _ _ _ _ _
   | exact spec_RulesWord.mono _ _ _ _ _ _ _ _ _
   | exact spec_l23Pattern.mono _ _
   | exact LeO.none _
   | refine LeO.ite ?_ ?_
   | refine LeO.bind ?_ (fun _ => ?_)
def spec_RulesText.T3 : Bool × List (List Nat × List Nat) := (true, [([], []), ([0], [0]), ([1], [1]), ([2], [2]), ([3], [3]), ([], []), ([5], [5]), ([6, 2], [6]), ([4, 7], [4, 7]), ([8], [8]), ([], []), ([10, 7], [10]), ([9, 11], [9, 11]), ([12], [12]), ([], []), ([14], [14]), ([15, 11], [15]), ([13, 16], [13, 16]), ([17], [17]), ([], []), ([19], [19]), ([20, 16], [20]), ([18, 21], [18, 21]), ([22], [22]), ([], []), ([24], [24]), ([25, 21], [25]), ([23, 26], [23, 26]), ([27], [27]), ([], []), ([29], [29]), ([30, 26], [30]), ([28, 31], [28, 31]), ([32, 31, 0, 1, 2, 3, 4, 5, 6, 7, 8, 9, 10, 11, 12, 13, 14, 15, 16, 17, 18, 19, 20, 21, 22, 23, 24, 25, 26, 27, 28, 29, 30, 31, 32], [32])])
def spec_RulesText.B3 : List Nat := [0, 1, 3, 7, 15, 0, 32, 103, 255, 511, 0, 1255, 4095, 8191, 0, 16384, 52455, 131071, 262143, 0, 524288, 1690855, 4194303, 8388607, 0, 16777216, 54119655, 134217727, 268435455, 0, 536870912, 1731841255, 4294967295, 8589934591]
theorem spec_RulesText.tab3 : rtab .any (opsOf Tryd.f23 3) = spec_RulesText.T3 := by kernel_rfl
theorem spec_RulesText.bits3 : waitsOk spec_RulesText.T3.2 spec_RulesText.B3 = true := by kernel_rfl
set_option maxHeartbeats 8000000 in
set_option maxRecDepth 100000 in
theorem spec_RulesText.calls (k : Nat) (a0_0 : Int) (a0_1 : Int) (a0_2 : Bool) (a0_3 : Bool) (A0_4 : Option Addr) (c0_4 : Nat) (l0_4 : List Int) (A0_5 : Option Addr) (c0_5 : Nat) (l0_5 : List Int) (a0_6 : Int) (a0_7 : Int) (r : ByteArray) (w : World) (hr0_4 : Kd.C (Kd.int .i64) w A0_4 l0_4.length l0_4) (hc0_4 : l0_4.length ≤ c0_4) (hr0_5 : Kd.C (Kd.int .i64) w A0_5 l0_5.length l0_5) (hc0_5 : l0_5.length ≤ c0_5) (h : spec_RulesText.f k a0_0 a0_1 a0_2 a0_3 l0_4 l0_5 a0_6 a0_7 = some r) :
  Calls Tryd.prog 23 #[.agg #[.int .i64 a0_0, .int .i64 a0_1, .bool a0_2, .bool a0_3, .slice A0_4 l0_4.length c0_4, .slice A0_5 l0_5.length c0_5, .int .i64 a0_6, .int .i64 a0_7]] w fun e w' => e = .returned (.string r) ∧ Below w.heap.size w w' := by
 have hu26 := Tryd.underlying26
 have HR0_4 := QN hr0_4
 have HC0_4 := QN hc0_4
 clear hr0_4 hc0_4
 have HR0_5 := QN hr0_5
 have HC0_5 := QN hc0_5
 clear hr0_5 hc0_5
 have HB := QN (Below.refl w.heap.size w)
 have H : ((spec_IsRules.f k a0_0 a0_1 a0_2 a0_3 l0_4 l0_5 a0_6 a0_7).bind fun t256 => (if t256 = true then ((spec_FormatInt.f k a0_0).bind fun t257 => (if 8 + t257.size ≤ 9223372036854775807 then (if ((⟨#[112, 108, 97, 121, 101, 114, 115, 61]⟩ : ByteArray) ++ t257).size + 6 ≤ 9223372036854775807 then ((spec_FormatInt.f k a0_1).bind fun t258 => (if (((⟨#[112, 108, 97, 121, 101, 114, 115, 61]⟩ : ByteArray) ++ t257) ++ (⟨#[32, 101, 97, 99, 104, 61]⟩ : ByteArray)).size + t258.size ≤ 9223372036854775807 then (if ((((⟨#[112, 108, 97, 121, 101, 114, 115, 61]⟩ : ByteArray) ++ t257) ++ (⟨#[32, 101, 97, 99, 104, 61]⟩ : ByteArray)) ++ t258).size + 7 ≤ 9223372036854775807 then ((spec_RulesWord.f k a0_0 a0_1 a0_2 a0_3 l0_4 l0_5 a0_6 a0_7).bind fun t259 => (if (((((⟨#[112, 108, 97, 121, 101, 114, 115, 61]⟩ : ByteArray) ++ t257) ++ (⟨#[32, 101, 97, 99, 104, 61]⟩ : ByteArray)) ++ t258) ++ (⟨#[32, 109, 97, 116, 99, 104, 61]⟩ : ByteArray)).size + t259.size ≤ 9223372036854775807 then (if ((((((⟨#[112, 108, 97, 121, 101, 114, 115, 61]⟩ : ByteArray) ++ t257) ++ (⟨#[32, 101, 97, 99, 104, 61]⟩ : ByteArray)) ++ t258) ++ (⟨#[32, 109, 97, 116, 99, 104, 61]⟩ : ByteArray)) ++ t259).size + 6 ≤ 9223372036854775807 then ((spec_l23Pattern.f k l0_4).bind fun t260 => (if (((((((⟨#[112, 108, 97, 121, 101, 114, 115, 61]⟩ : ByteArray) ++ t257) ++ (⟨#[32, 101, 97, 99, 104, 61]⟩ : ByteArray)) ++ t258) ++ (⟨#[32, 109, 97, 116, 99, 104, 61]⟩ : ByteArray)) ++ t259) ++ (⟨#[32, 119, 105, 108, 100, 61]⟩ : ByteArray)).size + t260.size ≤ 9223372036854775807 then (if ((((((((⟨#[112, 108, 97, 121, 101, 114, 115, 61]⟩ : ByteArray) ++ t257) ++ (⟨#[32, 101, 97, 99, 104, 61]⟩ : ByteArray)) ++ t258) ++ (⟨#[32, 109, 97, 116, 99, 104, 61]⟩ : ByteArray)) ++ t259) ++ (⟨#[32, 119, 105, 108, 100, 61]⟩ : ByteArray)) ++ t260).size + 6 ≤ 9223372036854775807 then ((spec_l23Pattern.f k l0_5).bind fun t261 => (if (((((((((⟨#[112, 108, 97, 121, 101, 114, 115, 61]⟩ : ByteArray) ++ t257) ++ (⟨#[32, 101, 97, 99, 104, 61]⟩ : ByteArray)) ++ t258) ++ (⟨#[32, 109, 97, 116, 99, 104, 61]⟩ : ByteArray)) ++ t259) ++ (⟨#[32, 119, 105, 108, 100, 61]⟩ : ByteArray)) ++ t260) ++ (⟨#[32, 115, 107, 105, 112, 61]⟩ : ByteArray)).size + t261.size ≤ 9223372036854775807 then (if ((((((((((⟨#[112, 108, 97, 121, 101, 114, 115, 61]⟩ : ByteArray) ++ t257) ++ (⟨#[32, 101, 97, 99, 104, 61]⟩ : ByteArray)) ++ t258) ++ (⟨#[32, 109, 97, 116, 99, 104, 61]⟩ : ByteArray)) ++ t259) ++ (⟨#[32, 119, 105, 108, 100, 61]⟩ : ByteArray)) ++ t260) ++ (⟨#[32, 115, 107, 105, 112, 61]⟩ : ByteArray)) ++ t261).size + 6 ≤ 9223372036854775807 then ((spec_FormatInt.f k a0_6).bind fun t262 => (if (((((((((((⟨#[112, 108, 97, 121, 101, 114, 115, 61]⟩ : ByteArray) ++ t257) ++ (⟨#[32, 101, 97, 99, 104, 61]⟩ : ByteArray)) ++ t258) ++ (⟨#[32, 109, 97, 116, 99, 104, 61]⟩ : ByteArray)) ++ t259) ++ (⟨#[32, 119, 105, 108, 100, 61]⟩ : ByteArray)) ++ t260) ++ (⟨#[32, 115, 107, 105, 112, 61]⟩ : ByteArray)) ++ t261) ++ (⟨#[32, 116, 97, 107, 101, 61]⟩ : ByteArray)).size + t262.size ≤ 9223372036854775807 then (if ((((((((((((⟨#[112, 108, 97, 121, 101, 114, 115, 61]⟩ : ByteArray) ++ t257) ++ (⟨#[32, 101, 97, 99, 104, 61]⟩ : ByteArray)) ++ t258) ++ (⟨#[32, 109, 97, 116, 99, 104, 61]⟩ : ByteArray)) ++ t259) ++ (⟨#[32, 119, 105, 108, 100, 61]⟩ : ByteArray)) ++ t260) ++ (⟨#[32, 115, 107, 105, 112, 61]⟩ : ByteArray)) ++ t261) ++ (⟨#[32, 116, 97, 107, 101, 61]⟩ : ByteArray)) ++ t262).size + 7 ≤ 9223372036854775807 then ((spec_FormatInt.f k a0_7).bind fun t263 => (if (((((((((((((⟨#[112, 108, 97, 121, 101, 114, 115, 61]⟩ : ByteArray) ++ t257) ++ (⟨#[32, 101, 97, 99, 104, 61]⟩ : ByteArray)) ++ t258) ++ (⟨#[32, 109, 97, 116, 99, 104, 61]⟩ : ByteArray)) ++ t259) ++ (⟨#[32, 119, 105, 108, 100, 61]⟩ : ByteArray)) ++ t260) ++ (⟨#[32, 115, 107, 105, 112, 61]⟩ : ByteArray)) ++ t261) ++ (⟨#[32, 116, 97, 107, 101, 61]⟩ : ByteArray)) ++ t262) ++ (⟨#[32, 108, 105, 109, 105, 116, 61]⟩ : ByteArray)).size + t263.size ≤ 9223372036854775807 then (some ((((((((((((((⟨#[112, 108, 97, 121, 101, 114, 115, 61]⟩ : ByteArray) ++ t257) ++ (⟨#[32, 101, 97, 99, 104, 61]⟩ : ByteArray)) ++ t258) ++ (⟨#[32, 109, 97, 116, 99, 104, 61]⟩ : ByteArray)) ++ t259) ++ (⟨#[32, 119, 105, 108, 100, 61]⟩ : ByteArray)) ++ t260) ++ (⟨#[32, 115, 107, 105, 112, 61]⟩ : ByteArray)) ++ t261) ++ (⟨#[32, 116, 97, 107, 101, 61]⟩ : ByteArray)) ++ t262) ++ (⟨#[32, 108, 105, 109, 105, 116, 61]⟩ : ByteArray)) ++ t263)) else (none))) else (none)) else (none))) else (none)) else (none))) else (none)) else (none))) else (none)) else (none))) else (none)) else (none))) else (none)) else (none))) else (some (⟨#[]⟩ : ByteArray)))) = some r := h
 clear h
 replace H := Option.bind_eq_some_iff.mp H
 obtain ⟨t256, A20, H⟩ := H
 have A2 := QN A20
 clear A20
 by_cases c3 : t256 = true
 ·subst c3
  rw [if_pos rfl] at H
  replace H := Option.bind_eq_some_iff.mp H
  obtain ⟨t257, A40, H⟩ := H
  have A4 := QN A40
  clear A40
  by_cases c5 : 8 + t257.size ≤ 9223372036854775807
  ·rw [if_pos c5] at H
   have c5b0 := eq_true c5
   have c5b1 : decide (8 + t257.size ≤ 9223372036854775807) = true := decide_eq_true c5
   try have c5b2 : (9223372036854775807 < 8 + t257.size) = False := eq_false (Nat.not_lt.2 c5)
   by_cases c6 : ((⟨#[112, 108, 97, 121, 101, 114, 115, 61]⟩ : ByteArray) ++ t257).size + 6 ≤ 9223372036854775807
   ·rw [if_pos c6] at H
    have c6b0 := eq_true c6
    have c6b1 : decide (((⟨#[112, 108, 97, 121, 101, 114, 115, 61]⟩ : ByteArray) ++ t257).size + 6 ≤ 9223372036854775807) = true := decide_eq_true c6
    try have c6b2 : (9223372036854775807 < ((⟨#[112, 108, 97, 121, 101, 114, 115, 61]⟩ : ByteArray) ++ t257).size + 6) = False := eq_false (Nat.not_lt.2 c6)
    have c6b3 := c6b2
    (try simp only [ByteArray.size_append, ba_size, List.size_toArray, List.length_cons, List.length_nil, Nat.reduceAdd, Nat.zero_add] at c6b3)
    replace H := Option.bind_eq_some_iff.mp H
    obtain ⟨t258, A70, H⟩ := H
    have A7 := QN A70
    clear A70
    by_cases c8 : (((⟨#[112, 108, 97, 121, 101, 114, 115, 61]⟩ : ByteArray) ++ t257) ++ (⟨#[32, 101, 97, 99, 104, 61]⟩ : ByteArray)).size + t258.size ≤ 9223372036854775807
    ·rw [if_pos c8] at H
     have c8b0 := eq_true c8
     have c8b1 : decide ((((⟨#[112, 108, 97, 121, 101, 114, 115, 61]⟩ : ByteArray) ++ t257) ++ (⟨#[32, 101, 97, 99, 104, 61]⟩ : ByteArray)).size + t258.size ≤ 9223372036854775807) = true := decide_eq_true c8
     try have c8b2 : (9223372036854775807 < (((⟨#[112, 108, 97, 121, 101, 114, 115, 61]⟩ : ByteArray) ++ t257) ++ (⟨#[32, 101, 97, 99, 104, 61]⟩ : ByteArray)).size + t258.size) = False := eq_false (Nat.not_lt.2 c8)
     have c8b3 := c8b2
     (try simp only [ByteArray.size_append, ba_size, List.size_toArray, List.length_cons, List.length_nil, Nat.reduceAdd, Nat.zero_add] at c8b3)
     by_cases c9 : ((((⟨#[112, 108, 97, 121, 101, 114, 115, 61]⟩ : ByteArray) ++ t257) ++ (⟨#[32, 101, 97, 99, 104, 61]⟩ : ByteArray)) ++ t258).size + 7 ≤ 9223372036854775807
     ·rw [if_pos c9] at H
      have c9b0 := eq_true c9
      have c9b1 : decide (((((⟨#[112, 108, 97, 121, 101, 114, 115, 61]⟩ : ByteArray) ++ t257) ++ (⟨#[32, 101, 97, 99, 104, 61]⟩ : ByteArray)) ++ t258).size + 7 ≤ 9223372036854775807) = true := decide_eq_true c9
      try have c9b2 : (9223372036854775807 < ((((⟨#[112, 108, 97, 121, 101, 114, 115, 61]⟩ : ByteArray) ++ t257) ++ (⟨#[32, 101, 97, 99, 104, 61]⟩ : ByteArray)) ++ t258).size + 7) = False := eq_false (Nat.not_lt.2 c9)
      have c9b3 := c9b2
      (try simp only [ByteArray.size_append, ba_size, List.size_toArray, List.length_cons, List.length_nil, Nat.reduceAdd, Nat.zero_add] at c9b3)
      replace H := Option.bind_eq_some_iff.mp H
      obtain ⟨t259, A100, H⟩ := H
      have A10 := QN A100
      clear A100
      by_cases c11 : (((((⟨#[112, 108, 97, 121, 101, 114, 115, 61]⟩ : ByteArray) ++ t257) ++ (⟨#[32, 101, 97, 99, 104, 61]⟩ : ByteArray)) ++ t258) ++ (⟨#[32, 109, 97, 116, 99, 104, 61]⟩ : ByteArray)).size + t259.size ≤ 9223372036854775807
      ·rw [if_pos c11] at H
       have c11b0 := eq_true c11
       have c11b1 : decide ((((((⟨#[112, 108, 97, 121, 101, 114, 115, 61]⟩ : ByteArray) ++ t257) ++ (⟨#[32, 101, 97, 99, 104, 61]⟩ : ByteArray)) ++ t258) ++ (⟨#[32, 109, 97, 116, 99, 104, 61]⟩ : ByteArray)).size + t259.size ≤ 9223372036854775807) = true := decide_eq_true c11
       try have c11b2 : (9223372036854775807 < (((((⟨#[112, 108, 97, 121, 101, 114, 115, 61]⟩ : ByteArray) ++ t257) ++ (⟨#[32, 101, 97, 99, 104, 61]⟩ : ByteArray)) ++ t258) ++ (⟨#[32, 109, 97, 116, 99, 104, 61]⟩ : ByteArray)).size + t259.size) = False := eq_false (Nat.not_lt.2 c11)
       have c11b3 := c11b2
       (try simp only [ByteArray.size_append, ba_size, List.size_toArray, List.length_cons, List.length_nil, Nat.reduceAdd, Nat.zero_add] at c11b3)
       by_cases c12 : ((((((⟨#[112, 108, 97, 121, 101, 114, 115, 61]⟩ : ByteArray) ++ t257) ++ (⟨#[32, 101, 97, 99, 104, 61]⟩ : ByteArray)) ++ t258) ++ (⟨#[32, 109, 97, 116, 99, 104, 61]⟩ : ByteArray)) ++ t259).size + 6 ≤ 9223372036854775807
       ·rw [if_pos c12] at H
        have c12b0 := eq_true c12
        have c12b1 : decide (((((((⟨#[112, 108, 97, 121, 101, 114, 115, 61]⟩ : ByteArray) ++ t257) ++ (⟨#[32, 101, 97, 99, 104, 61]⟩ : ByteArray)) ++ t258) ++ (⟨#[32, 109, 97, 116, 99, 104, 61]⟩ : ByteArray)) ++ t259).size + 6 ≤ 9223372036854775807) = true := decide_eq_true c12
        try have c12b2 : (9223372036854775807 < ((((((⟨#[112, 108, 97, 121, 101, 114, 115, 61]⟩ : ByteArray) ++ t257) ++ (⟨#[32, 101, 97, 99, 104, 61]⟩ : ByteArray)) ++ t258) ++ (⟨#[32, 109, 97, 116, 99, 104, 61]⟩ : ByteArray)) ++ t259).size + 6) = False := eq_false (Nat.not_lt.2 c12)
        have c12b3 := c12b2
        (try simp only [ByteArray.size_append, ba_size, List.size_toArray, List.length_cons, List.length_nil, Nat.reduceAdd, Nat.zero_add] at c12b3)
        replace H := Option.bind_eq_some_iff.mp H
        obtain ⟨t260, A130, H⟩ := H
        have A13 := QN A130
        clear A130
        by_cases c14 : (((((((⟨#[112, 108, 97, 121, 101, 114, 115, 61]⟩ : ByteArray) ++ t257) ++ (⟨#[32, 101, 97, 99, 104, 61]⟩ : ByteArray)) ++ t258) ++ (⟨#[32, 109, 97, 116, 99, 104, 61]⟩ : ByteArray)) ++ t259) ++ (⟨#[32, 119, 105, 108, 100, 61]⟩ : ByteArray)).size + t260.size ≤ 9223372036854775807
        ·rw [if_pos c14] at H
         have c14b0 := eq_true c14
         have c14b1 : decide ((((((((⟨#[112, 108, 97, 121, 101, 114, 115, 61]⟩ : ByteArray) ++ t257) ++ (⟨#[32, 101, 97, 99, 104, 61]⟩ : ByteArray)) ++ t258) ++ (⟨#[32, 109, 97, 116, 99, 104, 61]⟩ : ByteArray)) ++ t259) ++ (⟨#[32, 119, 105, 108, 100, 61]⟩ : ByteArray)).size + t260.size ≤ 9223372036854775807) = true := decide_eq_true c14
         try have c14b2 : (9223372036854775807 < (((((((⟨#[112, 108, 97, 121, 101, 114, 115, 61]⟩ : ByteArray) ++ t257) ++ (⟨#[32, 101, 97, 99, 104, 61]⟩ : ByteArray)) ++ t258) ++ (⟨#[32, 109, 97, 116, 99, 104, 61]⟩ : ByteArray)) ++ t259) ++ (⟨#[32, 119, 105, 108, 100, 61]⟩ : ByteArray)).size + t260.size) = False := eq_false (Nat.not_lt.2 c14)
         have c14b3 := c14b2
         (try simp only [ByteArray.size_append, ba_size, List.size_toArray, List.length_cons, List.length_nil, Nat.reduceAdd, Nat.zero_add] at c14b3)
         by_cases c15 : ((((((((⟨#[112, 108, 97, 121, 101, 114, 115, 61]⟩ : ByteArray) ++ t257) ++ (⟨#[32, 101, 97, 99, 104, 61]⟩ : ByteArray)) ++ t258) ++ (⟨#[32, 109, 97, 116, 99, 104, 61]⟩ : ByteArray)) ++ t259) ++ (⟨#[32, 119, 105, 108, 100, 61]⟩ : ByteArray)) ++ t260).size + 6 ≤ 9223372036854775807
         ·rw [if_pos c15] at H
          have c15b0 := eq_true c15
          have c15b1 : decide (((((((((⟨#[112, 108, 97, 121, 101, 114, 115, 61]⟩ : ByteArray) ++ t257) ++ (⟨#[32, 101, 97, 99, 104, 61]⟩ : ByteArray)) ++ t258) ++ (⟨#[32, 109, 97, 116, 99, 104, 61]⟩ : ByteArray)) ++ t259) ++ (⟨#[32, 119, 105, 108, 100, 61]⟩ : ByteArray)) ++ t260).size + 6 ≤ 9223372036854775807) = true := decide_eq_true c15
          try have c15b2 : (9223372036854775807 < ((((((((⟨#[112, 108, 97, 121, 101, 114, 115, 61]⟩ : ByteArray) ++ t257) ++ (⟨#[32, 101, 97, 99, 104, 61]⟩ : ByteArray)) ++ t258) ++ (⟨#[32, 109, 97, 116, 99, 104, 61]⟩ : ByteArray)) ++ t259) ++ (⟨#[32, 119, 105, 108, 100, 61]⟩ : ByteArray)) ++ t260).size + 6) = False := eq_false (Nat.not_lt.2 c15)
          have c15b3 := c15b2
          (try simp only [ByteArray.size_append, ba_size, List.size_toArray, List.length_cons, List.length_nil, Nat.reduceAdd, Nat.zero_add] at c15b3)
          replace H := Option.bind_eq_some_iff.mp H
          obtain ⟨t261, A160, H⟩ := H
          have A16 := QN A160
          clear A160
          by_cases c17 : (((((((((⟨#[112, 108, 97, 121, 101, 114, 115, 61]⟩ : ByteArray) ++ t257) ++ (⟨#[32, 101, 97, 99, 104, 61]⟩ : ByteArray)) ++ t258) ++ (⟨#[32, 109, 97, 116, 99, 104, 61]⟩ : ByteArray)) ++ t259) ++ (⟨#[32, 119, 105, 108, 100, 61]⟩ : ByteArray)) ++ t260) ++ (⟨#[32, 115, 107, 105, 112, 61]⟩ : ByteArray)).size + t261.size ≤ 9223372036854775807
          ·rw [if_pos c17] at H
           have c17b0 := eq_true c17
           have c17b1 : decide ((((((((((⟨#[112, 108, 97, 121, 101, 114, 115, 61]⟩ : ByteArray) ++ t257) ++ (⟨#[32, 101, 97, 99, 104, 61]⟩ : ByteArray)) ++ t258) ++ (⟨#[32, 109, 97, 116, 99, 104, 61]⟩ : ByteArray)) ++ t259) ++ (⟨#[32, 119, 105, 108, 100, 61]⟩ : ByteArray)) ++ t260) ++ (⟨#[32, 115, 107, 105, 112, 61]⟩ : ByteArray)).size + t261.size ≤ 9223372036854775807) = true := decide_eq_true c17
           try have c17b2 : (9223372036854775807 < (((((((((⟨#[112, 108, 97, 121, 101, 114, 115, 61]⟩ : ByteArray) ++ t257) ++ (⟨#[32, 101, 97, 99, 104, 61]⟩ : ByteArray)) ++ t258) ++ (⟨#[32, 109, 97, 116, 99, 104, 61]⟩ : ByteArray)) ++ t259) ++ (⟨#[32, 119, 105, 108, 100, 61]⟩ : ByteArray)) ++ t260) ++ (⟨#[32, 115, 107, 105, 112, 61]⟩ : ByteArray)).size + t261.size) = False := eq_false (Nat.not_lt.2 c17)
           have c17b3 := c17b2
           (try simp only [ByteArray.size_append, ba_size, List.size_toArray, List.length_cons, List.length_nil, Nat.reduceAdd, Nat.zero_add] at c17b3)
           by_cases c18 : ((((((((((⟨#[112, 108, 97, 121, 101, 114, 115, 61]⟩ : ByteArray) ++ t257) ++ (⟨#[32, 101, 97, 99, 104, 61]⟩ : ByteArray)) ++ t258) ++ (⟨#[32, 109, 97, 116, 99, 104, 61]⟩ : ByteArray)) ++ t259) ++ (⟨#[32, 119, 105, 108, 100, 61]⟩ : ByteArray)) ++ t260) ++ (⟨#[32, 115, 107, 105, 112, 61]⟩ : ByteArray)) ++ t261).size + 6 ≤ 9223372036854775807
           ·rw [if_pos c18] at H
            have c18b0 := eq_true c18
            have c18b1 : decide (((((((((((⟨#[112, 108, 97, 121, 101, 114, 115, 61]⟩ : ByteArray) ++ t257) ++ (⟨#[32, 101, 97, 99, 104, 61]⟩ : ByteArray)) ++ t258) ++ (⟨#[32, 109, 97, 116, 99, 104, 61]⟩ : ByteArray)) ++ t259) ++ (⟨#[32, 119, 105, 108, 100, 61]⟩ : ByteArray)) ++ t260) ++ (⟨#[32, 115, 107, 105, 112, 61]⟩ : ByteArray)) ++ t261).size + 6 ≤ 9223372036854775807) = true := decide_eq_true c18
            try have c18b2 : (9223372036854775807 < ((((((((((⟨#[112, 108, 97, 121, 101, 114, 115, 61]⟩ : ByteArray) ++ t257) ++ (⟨#[32, 101, 97, 99, 104, 61]⟩ : ByteArray)) ++ t258) ++ (⟨#[32, 109, 97, 116, 99, 104, 61]⟩ : ByteArray)) ++ t259) ++ (⟨#[32, 119, 105, 108, 100, 61]⟩ : ByteArray)) ++ t260) ++ (⟨#[32, 115, 107, 105, 112, 61]⟩ : ByteArray)) ++ t261).size + 6) = False := eq_false (Nat.not_lt.2 c18)
            have c18b3 := c18b2
            (try simp only [ByteArray.size_append, ba_size, List.size_toArray, List.length_cons, List.length_nil, Nat.reduceAdd, Nat.zero_add] at c18b3)
            replace H := Option.bind_eq_some_iff.mp H
            obtain ⟨t262, A190, H⟩ := H
            have A19 := QN A190
            clear A190
            by_cases c20 : (((((((((((⟨#[112, 108, 97, 121, 101, 114, 115, 61]⟩ : ByteArray) ++ t257) ++ (⟨#[32, 101, 97, 99, 104, 61]⟩ : ByteArray)) ++ t258) ++ (⟨#[32, 109, 97, 116, 99, 104, 61]⟩ : ByteArray)) ++ t259) ++ (⟨#[32, 119, 105, 108, 100, 61]⟩ : ByteArray)) ++ t260) ++ (⟨#[32, 115, 107, 105, 112, 61]⟩ : ByteArray)) ++ t261) ++ (⟨#[32, 116, 97, 107, 101, 61]⟩ : ByteArray)).size + t262.size ≤ 9223372036854775807
            ·rw [if_pos c20] at H
             have c20b0 := eq_true c20
             have c20b1 : decide ((((((((((((⟨#[112, 108, 97, 121, 101, 114, 115, 61]⟩ : ByteArray) ++ t257) ++ (⟨#[32, 101, 97, 99, 104, 61]⟩ : ByteArray)) ++ t258) ++ (⟨#[32, 109, 97, 116, 99, 104, 61]⟩ : ByteArray)) ++ t259) ++ (⟨#[32, 119, 105, 108, 100, 61]⟩ : ByteArray)) ++ t260) ++ (⟨#[32, 115, 107, 105, 112, 61]⟩ : ByteArray)) ++ t261) ++ (⟨#[32, 116, 97, 107, 101, 61]⟩ : ByteArray)).size + t262.size ≤ 9223372036854775807) = true := decide_eq_true c20
             try have c20b2 : (9223372036854775807 < (((((((((((⟨#[112, 108, 97, 121, 101, 114, 115, 61]⟩ : ByteArray) ++ t257) ++ (⟨#[32, 101, 97, 99, 104, 61]⟩ : ByteArray)) ++ t258) ++ (⟨#[32, 109, 97, 116, 99, 104, 61]⟩ : ByteArray)) ++ t259) ++ (⟨#[32, 119, 105, 108, 100, 61]⟩ : ByteArray)) ++ t260) ++ (⟨#[32, 115, 107, 105, 112, 61]⟩ : ByteArray)) ++ t261) ++ (⟨#[32, 116, 97, 107, 101, 61]⟩ : ByteArray)).size + t262.size) = False := eq_false (Nat.not_lt.2 c20)
             have c20b3 := c20b2
             (try simp only [ByteArray.size_append, ba_size, List.size_toArray, List.length_cons, List.length_nil, Nat.reduceAdd, Nat.zero_add] at c20b3)
             by_cases c21 : ((((((((((((⟨#[112, 108, 97, 121, 101, 114, 115, 61]⟩ : ByteArray) ++ t257) ++ (⟨#[32, 101, 97, 99, 104, 61]⟩ : ByteArray)) ++ t258) ++ (⟨#[32, 109, 97, 116, 99, 104, 61]⟩ : ByteArray)) ++ t259) ++ (⟨#[32, 119, 105, 108, 100, 61]⟩ : ByteArray)) ++ t260) ++ (⟨#[32, 115, 107, 105, 112, 61]⟩ : ByteArray)) ++ t261) ++ (⟨#[32, 116, 97, 107, 101, 61]⟩ : ByteArray)) ++ t262).size + 7 ≤ 9223372036854775807
             ·rw [if_pos c21] at H
              have c21b0 := eq_true c21
              have c21b1 : decide (((((((((((((⟨#[112, 108, 97, 121, 101, 114, 115, 61]⟩ : ByteArray) ++ t257) ++ (⟨#[32, 101, 97, 99, 104, 61]⟩ : ByteArray)) ++ t258) ++ (⟨#[32, 109, 97, 116, 99, 104, 61]⟩ : ByteArray)) ++ t259) ++ (⟨#[32, 119, 105, 108, 100, 61]⟩ : ByteArray)) ++ t260) ++ (⟨#[32, 115, 107, 105, 112, 61]⟩ : ByteArray)) ++ t261) ++ (⟨#[32, 116, 97, 107, 101, 61]⟩ : ByteArray)) ++ t262).size + 7 ≤ 9223372036854775807) = true := decide_eq_true c21
              try have c21b2 : (9223372036854775807 < ((((((((((((⟨#[112, 108, 97, 121, 101, 114, 115, 61]⟩ : ByteArray) ++ t257) ++ (⟨#[32, 101, 97, 99, 104, 61]⟩ : ByteArray)) ++ t258) ++ (⟨#[32, 109, 97, 116, 99, 104, 61]⟩ : ByteArray)) ++ t259) ++ (⟨#[32, 119, 105, 108, 100, 61]⟩ : ByteArray)) ++ t260) ++ (⟨#[32, 115, 107, 105, 112, 61]⟩ : ByteArray)) ++ t261) ++ (⟨#[32, 116, 97, 107, 101, 61]⟩ : ByteArray)) ++ t262).size + 7) = False := eq_false (Nat.not_lt.2 c21)
              have c21b3 := c21b2
              (try simp only [ByteArray.size_append, ba_size, List.size_toArray, List.length_cons, List.length_nil, Nat.reduceAdd, Nat.zero_add] at c21b3)
              replace H := Option.bind_eq_some_iff.mp H
              obtain ⟨t263, A220, H⟩ := H
              have A22 := QN A220
              clear A220
              by_cases c23 : (((((((((((((⟨#[112, 108, 97, 121, 101, 114, 115, 61]⟩ : ByteArray) ++ t257) ++ (⟨#[32, 101, 97, 99, 104, 61]⟩ : ByteArray)) ++ t258) ++ (⟨#[32, 109, 97, 116, 99, 104, 61]⟩ : ByteArray)) ++ t259) ++ (⟨#[32, 119, 105, 108, 100, 61]⟩ : ByteArray)) ++ t260) ++ (⟨#[32, 115, 107, 105, 112, 61]⟩ : ByteArray)) ++ t261) ++ (⟨#[32, 116, 97, 107, 101, 61]⟩ : ByteArray)) ++ t262) ++ (⟨#[32, 108, 105, 109, 105, 116, 61]⟩ : ByteArray)).size + t263.size ≤ 9223372036854775807
              ·rw [if_pos c23] at H
               have c23b0 := eq_true c23
               have c23b1 : decide ((((((((((((((⟨#[112, 108, 97, 121, 101, 114, 115, 61]⟩ : ByteArray) ++ t257) ++ (⟨#[32, 101, 97, 99, 104, 61]⟩ : ByteArray)) ++ t258) ++ (⟨#[32, 109, 97, 116, 99, 104, 61]⟩ : ByteArray)) ++ t259) ++ (⟨#[32, 119, 105, 108, 100, 61]⟩ : ByteArray)) ++ t260) ++ (⟨#[32, 115, 107, 105, 112, 61]⟩ : ByteArray)) ++ t261) ++ (⟨#[32, 116, 97, 107, 101, 61]⟩ : ByteArray)) ++ t262) ++ (⟨#[32, 108, 105, 109, 105, 116, 61]⟩ : ByteArray)).size + t263.size ≤ 9223372036854775807) = true := decide_eq_true c23
               try have c23b2 : (9223372036854775807 < (((((((((((((⟨#[112, 108, 97, 121, 101, 114, 115, 61]⟩ : ByteArray) ++ t257) ++ (⟨#[32, 101, 97, 99, 104, 61]⟩ : ByteArray)) ++ t258) ++ (⟨#[32, 109, 97, 116, 99, 104, 61]⟩ : ByteArray)) ++ t259) ++ (⟨#[32, 119, 105, 108, 100, 61]⟩ : ByteArray)) ++ t260) ++ (⟨#[32, 115, 107, 105, 112, 61]⟩ : ByteArray)) ++ t261) ++ (⟨#[32, 116, 97, 107, 101, 61]⟩ : ByteArray)) ++ t262) ++ (⟨#[32, 108, 105, 109, 105, 116, 61]⟩ : ByteArray)).size + t263.size) = False := eq_false (Nat.not_lt.2 c23)
               have c23b3 := c23b2
               (try simp only [ByteArray.size_append, ba_size, List.size_toArray, List.length_cons, List.length_nil, Nat.reduceAdd, Nat.zero_add] at c23b3)
               obtain rfl := Option.some.inj H
               go_enter Tryd.func23, Tryd.ntmps23
               try go_wp2_with (first | ((with_reducible refine gate_dst (N := 1) rfl ?_); refine box_event ?hg (N := 1) ?hd (cs := #[.int .i64 a0_0, .int .i64 a0_1, .bool a0_2, .bool a0_3, .slice A0_4 l0_4.length c0_4, .slice A0_5 l0_5.length c0_5, .int .i64 a0_6, .int .i64 a0_7]) (t := 26) ?hr ?_; (case hd => rfl); (case hg => rfl); (case hr => first | (go_simp; done) | (go_simp; rfl)); intro gb255 hg w24 hbox hb; have n0_ := QN (below_step (by repeat (first | (with_reducible first | exact HB.out | apply QH | apply QD | apply QG) | exact HB.out)) hb); have n1_ := QN (hbox); have n2_ := QN ((by rw [hg]; exact (below_size (by repeat (first | (with_reducible first | exact HB.out | apply QH | apply QD | apply QG) | exact HB.out))) : w.heap.size ≤ gb255)); have n3_ := QN ((by rw [hg]; exact (below_size (by repeat (first | (with_reducible first | exact HB.out | apply QH | apply QD | apply QG) | exact HB.out))) : w.heap.size ≤ gb255)); clear HB; have HB := n0_; have BK255 := n1_; have GW255 := n2_; have GE255 := n3_; clear n0_ n1_ n2_ n3_; clear hb hbox hg; have hcz25_0 : w24.cell? ⟨gb255, 0, none⟩ = some (.int .i64 a0_0) := (QB BK255.out 0).trans rfl; have hcz25_1 : w24.cell? ⟨gb255, 1, none⟩ = some (.int .i64 a0_1) := (QB BK255.out 1).trans rfl; have hcz25_2 : w24.cell? ⟨gb255, 2, none⟩ = some (.bool a0_2) := (QB BK255.out 2).trans rfl; have hcz25_3 : w24.cell? ⟨gb255, 3, none⟩ = some (.bool a0_3) := (QB BK255.out 3).trans rfl; have hcz25_4 : w24.cell? ⟨gb255, 4, none⟩ = some (.slice A0_4 l0_4.length c0_4) := (QB BK255.out 4).trans rfl; have hcz25_5 : w24.cell? ⟨gb255, 5, none⟩ = some (.slice A0_5 l0_5.length c0_5) := (QB BK255.out 5).trans rfl; have hcz25_6 : w24.cell? ⟨gb255, 6, none⟩ = some (.int .i64 a0_6) := (QB BK255.out 6).trans rfl; have hcz25_7 : w24.cell? ⟨gb255, 7, none⟩ = some (.int .i64 a0_7) := (QB BK255.out 7).trans rfl; have hfz25_0 := QC BK255.out 0; have hfz25_1 := QC BK255.out 1; have hfz25_2 := QC BK255.out 2; have hfz25_3 := QC BK255.out 3; have hfz25_4 := QC BK255.out 4; have hfz25_5 := QC BK255.out 5; have hfz25_6 := QC BK255.out 6; have hfz25_7 := QC BK255.out 7) | ((with_reducible refine gate_callee (f := 48) rfl ?_); refine goesL_ (some 4) rfl rfl Tryd.func48 (by kernel_rfl) rfl #[.agg #[.int .i64 a0_0, .int .i64 a0_1, .bool a0_2, .bool a0_3, .slice A0_4 l0_4.length c0_4, .slice A0_5 l0_5.length c0_5, .int .i64 a0_6, .int .i64 a0_7]] rfl (by (try simp only [List.map_toArray, List.map_cons, List.map_nil]); first | done | rfl | (simp only [List.length_drop, List.length_take]; rfl)) ?_; (with_reducible refine (spec_IsRules.calls k a0_0 a0_1 a0_2 a0_3 _ _ l0_4 _ _ l0_5 a0_6 a0_7 true _ ?side1 ?side2 ?side3 ?side4 A2.out).mono ?_); (case side1 => repeat (first | exact (Kd.C_below HR0_4.out HB.out) | (with_reducible refine Kd.C_alloc ?_ _) | (with_reducible refine Kd.C_drewN ?_ _) | (with_reducible refine Kd.C_drew ?_))); (case side2 => exact HC0_4.out); (case side3 => repeat (first | exact (Kd.C_below HR0_5.out HB.out) | (with_reducible refine Kd.C_alloc ?_ _) | (with_reducible refine Kd.C_drewN ?_ _) | (with_reducible refine Kd.C_drew ?_))); (case side4 => exact HC0_5.out); rintro e w26 ⟨rfl, hb⟩; refine ⟨_, rfl, ?_⟩; have n0_ := QN (blk_below (g := gb255) (o := _) (by (with_reducible repeat (first | refine QE ?_ _ | refine QI ?_ | refine QF ?_ _)); exact BK255.out) hb); have n1_ := QN (below_step (by repeat (first | (with_reducible first | exact HB.out | apply QH | apply QD | apply QG | refine QJ ?_ GE255.out) | exact HB.out)) hb); clear BK255; clear HB; have BK255 := n0_; have HB := n1_; clear n0_ n1_; (try clear hb); (try clear hb2); (try clear hk); (try clear hi)))
               have n0_ := QN (QI BK255.out)
               have n1_ := QN (QG HB.out)
               clear BK255
               clear HB
               have BK255 := n0_
               have HB := n1_
               clear n0_ n1_
               refine start_ (n := 34) (S := fun w' => w'.cell? ⟨gb255, 0, none⟩ = some (.int .i64 a0_0) ∧ w'.cell? ⟨gb255, 1, none⟩ = some (.int .i64 a0_1) ∧ w'.cell? ⟨gb255, 2, none⟩ = some (.bool a0_2) ∧ w'.cell? ⟨gb255, 3, none⟩ = some (.bool a0_3) ∧ w'.cell? ⟨gb255, 4, none⟩ = some (.slice A0_4 l0_4.length c0_4) ∧ w'.cell? ⟨gb255, 5, none⟩ = some (.slice A0_5 l0_5.length c0_5) ∧ w'.cell? ⟨gb255, 6, none⟩ = some (.int .i64 a0_6) ∧ w'.cell? ⟨gb255, 7, none⟩ = some (.int .i64 a0_7)) (ds := []) #[Y0,Y0,Y0,Y0,Y0,Y0,Y0,Y0,Y0,Y0,Y0,Y0,Y0,Y0,Y0,Y0,Y0,Y0,Y0,Y0,Y0,Y0,Y0,Y0,Y0,Y0,Y0,Y0,Y0,Y0,Y0,Y0,Y0,Y0] (by kernel_rfl) rfl rfl ⟨(QB BK255.out 0).trans rfl, (QB BK255.out 1).trans rfl, (QB BK255.out 2).trans rfl, (QB BK255.out 3).trans rfl, (QB BK255.out 4).trans rfl, (QB BK255.out 5).trans rfl, (QB BK255.out 6).trans rfl, (QB BK255.out 7).trans rfl⟩ (fun hHeld => ?_); refine with_tabW spec_RulesText.tab3 spec_RulesText.bits3 (fun HT_ HW_ => ?_)
               generalize w26.drew = w27 at BK255 HB hHeld ⊢
               refine pure_ (i := 0) (N := some 6) (v := ?_) (a' := ?_) #[Y1,Y0,Y0,Y0,Y0,Y0,Y0,Y0,Y0,Y0,Y0,Y0,Y0,Y0,Y0,Y0,Y0,Y0,Y0,Y0,Y0,Y0,Y0,Y0,Y0,Y0,Y0,Y0,Y0,Y0,Y0,Y0,Y0,Y0] rfl rfl (any_of HT_.out (by kernel_rfl)) (fun _ _ _ h => h) (Or.inl ⟨by rfl, ?_⟩) ?_ ?_
               rotate_left
               ·intro w'
                go_simp
                with_reducible rfl
               rotate_left
               ·simp only [Act.put, QK, QL, QM, i64_w, i32_w]
                rfl
               refine pure_ (i := 5) (N := some 11) (v := ?_) (a' := ?_) #[Y1,Y0,Y0,Y0,Y0,Y1,Y0,Y0,Y0,Y0,Y0,Y0,Y0,Y0,Y0,Y0,Y0,Y0,Y0,Y0,Y0,Y0,Y0,Y0,Y0,Y0,Y0,Y0,Y0,Y0,Y0,Y0,Y0,Y0] rfl rfl (any_of HT_.out (by kernel_rfl)) (fun _ _ _ h => h) (Or.inl ⟨by rfl, ?_⟩) ?_ ?_
               rotate_left
               ·intro w'
                go_simp
                with_reducible rfl
               rotate_left
               ·simp only [Act.put, QK, QL, QM, i64_w, i32_w]
                rfl
               refine pure_ (i := 14) (N := some 20) (v := ?_) (a' := ?_) #[Y1,Y0,Y0,Y0,Y0,Y1,Y0,Y0,Y0,Y0,Y0,Y0,Y0,Y0,Y1,Y0,Y0,Y0,Y0,Y0,Y0,Y0,Y0,Y0,Y0,Y0,Y0,Y0,Y0,Y0,Y0,Y0,Y0,Y0] rfl rfl (any_of HT_.out (by kernel_rfl)) (fun _ _ _ h => h) (Or.inl ⟨by rfl, ?_⟩) ?_ ?_
               rotate_left
               ·intro w'
                go_simp
                with_reducible rfl
               rotate_left
               ·simp only [Act.put, QK, QL, QM, i64_w, i32_w]
                rfl
               refine pure_ (i := 19) (N := some 25) (v := ?_) (a' := ?_) #[Y1,Y0,Y0,Y0,Y0,Y1,Y0,Y0,Y0,Y0,Y0,Y0,Y0,Y0,Y1,Y0,Y0,Y0,Y0,Y1,Y0,Y0,Y0,Y0,Y0,Y0,Y0,Y0,Y0,Y0,Y0,Y0,Y0,Y0] rfl rfl (any_of HT_.out (by kernel_rfl)) (fun _ _ _ h => h) (Or.inl ⟨by rfl, ?_⟩) ?_ ?_
               rotate_left
               ·intro w'
                go_simp
                with_reducible rfl
               rotate_left
               ·simp only [Act.put, QK, QL, QM, i64_w, i32_w]
                rfl
               refine pure_ (i := 24) (N := some 30) (v := ?_) (a' := ?_) #[Y1,Y0,Y0,Y0,Y0,Y1,Y0,Y0,Y0,Y0,Y0,Y0,Y0,Y0,Y1,Y0,Y0,Y0,Y0,Y1,Y0,Y0,Y0,Y0,Y1,Y0,Y0,Y0,Y0,Y0,Y0,Y0,Y0,Y0] rfl rfl (any_of HT_.out (by kernel_rfl)) (fun _ _ _ h => h) (Or.inl ⟨by rfl, ?_⟩) ?_ ?_
               rotate_left
               ·intro w'
                go_simp
                with_reducible rfl
               rotate_left
               ·simp only [Act.put, QK, QL, QM, i64_w, i32_w]
                rfl
               refine pure_ (i := 29) (N := some 35) (v := ?_) (a' := ?_) #[Y1,Y0,Y0,Y0,Y0,Y1,Y0,Y0,Y0,Y0,Y0,Y0,Y0,Y0,Y1,Y0,Y0,Y0,Y0,Y1,Y0,Y0,Y0,Y0,Y1,Y0,Y0,Y0,Y0,Y1,Y0,Y0,Y0,Y0] rfl rfl (any_of HT_.out (by kernel_rfl)) (fun _ _ _ h => h) (Or.inl ⟨by rfl, ?_⟩) ?_ ?_
               rotate_left
               ·intro w'
                go_simp
                with_reducible rfl
               rotate_left
               ·simp only [Act.put, QK, QL, QM, i64_w, i32_w]
                rfl
               refine take_ (i := 1) (N := some 7) (v := ?_) (a' := ?_) #[Y1,Y1,Y0,Y0,Y0,Y1,Y0,Y0,Y0,Y0,Y0,Y0,Y0,Y0,Y1,Y0,Y0,Y0,Y0,Y1,Y0,Y0,Y0,Y0,Y1,Y0,Y0,Y0,Y0,Y1,Y0,Y0,Y0,Y0] rfl rfl (take_ofW HT_.out HW_.out (by kernel_rfl)) (fun _ _ _ h => h) (Or.inl ⟨by rfl, ?_⟩) hHeld ?_ ?_
               rotate_left
               ·rintro w' ⟨s0, s1, s2, s3, s4, s5, s6, s7⟩
                go_simp
                with_reducible rfl
               rotate_left
               ·simp only [Act.put, QK, QL, QM, i64_w, i32_w]
                rfl
               refine take_ (i := 6) (N := some 12) (v := ?_) (a' := ?_) #[Y1,Y1,Y0,Y0,Y0,Y1,Y1,Y0,Y0,Y0,Y0,Y0,Y0,Y0,Y1,Y0,Y0,Y0,Y0,Y1,Y0,Y0,Y0,Y0,Y1,Y0,Y0,Y0,Y0,Y1,Y0,Y0,Y0,Y0] rfl rfl (take_ofW HT_.out HW_.out (by kernel_rfl)) (fun _ _ _ h => h) (Or.inl ⟨by rfl, ?_⟩) hHeld ?_ ?_
               rotate_left
               ·rintro w' ⟨s0, s1, s2, s3, s4, s5, s6, s7⟩
                go_simp
                with_reducible rfl
               rotate_left
               ·simp only [Act.put, QK, QL, QM, i64_w, i32_w]
                rfl
               refine take_ (i := 10) (N := some 16) (v := ?_) (a' := ?_) #[Y1,Y1,Y0,Y0,Y0,Y1,Y1,Y0,Y0,Y0,Y1,Y0,Y0,Y0,Y1,Y0,Y0,Y0,Y0,Y1,Y0,Y0,Y0,Y0,Y1,Y0,Y0,Y0,Y0,Y1,Y0,Y0,Y0,Y0] rfl rfl (take_ofW HT_.out HW_.out (by kernel_rfl)) (fun _ _ _ h => h) (Or.inl ⟨by rfl, ?_⟩) hHeld ?_ ?_
               rotate_left
               ·rintro w' ⟨s0, s1, s2, s3, s4, s5, s6, s7⟩
                go_simp
                with_reducible rfl
               rotate_left
               ·simp only [Act.put, QK, QL, QM, i64_w, i32_w]
                rfl
               refine take_ (i := 15) (N := some 21) (v := ?_) (a' := ?_) #[Y1,Y1,Y0,Y0,Y0,Y1,Y1,Y0,Y0,Y0,Y1,Y0,Y0,Y0,Y1,Y1,Y0,Y0,Y0,Y1,Y0,Y0,Y0,Y0,Y1,Y0,Y0,Y0,Y0,Y1,Y0,Y0,Y0,Y0] rfl rfl (take_ofW HT_.out HW_.out (by kernel_rfl)) (fun _ _ _ h => h) (Or.inl ⟨by rfl, ?_⟩) hHeld ?_ ?_
               rotate_left
               ·rintro w' ⟨s0, s1, s2, s3, s4, s5, s6, s7⟩
                go_simp
                with_reducible rfl
               rotate_left
               ·simp only [Act.put, QK, QL, QM, i64_w, i32_w]
                rfl
               refine take_ (i := 20) (N := some 26) (v := ?_) (a' := ?_) #[Y1,Y1,Y0,Y0,Y0,Y1,Y1,Y0,Y0,Y0,Y1,Y0,Y0,Y0,Y1,Y1,Y0,Y0,Y0,Y1,Y1,Y0,Y0,Y0,Y1,Y0,Y0,Y0,Y0,Y1,Y0,Y0,Y0,Y0] rfl rfl (take_ofW HT_.out HW_.out (by kernel_rfl)) (fun _ _ _ h => h) (Or.inl ⟨by rfl, ?_⟩) hHeld ?_ ?_
               rotate_left
               ·rintro w' ⟨s0, s1, s2, s3, s4, s5, s6, s7⟩
                go_simp
                with_reducible rfl
               rotate_left
               ·simp only [Act.put, QK, QL, QM, i64_w, i32_w]
                rfl
               refine take_ (i := 25) (N := some 31) (v := ?_) (a' := ?_) #[Y1,Y1,Y0,Y0,Y0,Y1,Y1,Y0,Y0,Y0,Y1,Y0,Y0,Y0,Y1,Y1,Y0,Y0,Y0,Y1,Y1,Y0,Y0,Y0,Y1,Y1,Y0,Y0,Y0,Y1,Y0,Y0,Y0,Y0] rfl rfl (take_ofW HT_.out HW_.out (by kernel_rfl)) (fun _ _ _ h => h) (Or.inl ⟨by rfl, ?_⟩) hHeld ?_ ?_
               rotate_left
               ·rintro w' ⟨s0, s1, s2, s3, s4, s5, s6, s7⟩
                go_simp
                with_reducible rfl
               rotate_left
               ·simp only [Act.put, QK, QL, QM, i64_w, i32_w]
                rfl
               refine take_ (i := 30) (N := some 36) (v := ?_) (a' := ?_) #[Y1,Y1,Y0,Y0,Y0,Y1,Y1,Y0,Y0,Y0,Y1,Y0,Y0,Y0,Y1,Y1,Y0,Y0,Y0,Y1,Y1,Y0,Y0,Y0,Y1,Y1,Y0,Y0,Y0,Y1,Y1,Y0,Y0,Y0] rfl rfl (take_ofW HT_.out HW_.out (by kernel_rfl)) (fun _ _ _ h => h) (Or.inl ⟨by rfl, ?_⟩) hHeld ?_ ?_
               rotate_left
               ·rintro w' ⟨s0, s1, s2, s3, s4, s5, s6, s7⟩
                go_simp
                with_reducible rfl
               rotate_left
               ·simp only [Act.put, QK, QL, QM, i64_w, i32_w]
                rfl
               refine one_ (i := 2) (N := some 8) #[Y1,Y1,Y1,Y0,Y0,Y1,Y1,Y0,Y0,Y0,Y1,Y0,Y0,Y0,Y1,Y1,Y0,Y0,Y0,Y1,Y1,Y0,Y0,Y0,Y1,Y1,Y0,Y0,Y0,Y1,Y1,Y0,Y0,Y0] rfl rfl (one_of HT_.out (by kernel_rfl)) (by decide) (fun K hK => ?_)
               refine goes_ Tryd.func49 (by kernel_rfl) rfl #[.int .i64 a0_0] (by rfl) rfl rfl (by (try simp only [List.map_toArray, List.map_cons, List.map_nil]); first | done | rfl | (simp only [List.length_drop, List.length_take]; rfl)) ?_
               with_reducible refine (spec_FormatInt.calls k a0_0 t257 _ A4.out).mono ?_
               rintro e w28 ⟨rfl, hb⟩
               refine ⟨_, rfl, ?_⟩
               have n0_ := QN (blk_below (g := gb255) (o := _) (by (with_reducible repeat (first | refine QE ?_ _ | refine QI ?_ | refine QF ?_ _)); exact BK255.out) hb)
               have n1_ := QN (below_step (by repeat (first | (with_reducible first | exact HB.out | apply QH | apply QD | apply QG | refine QJ ?_ GE255.out) | exact HB.out)) hb)
               clear BK255
               clear HB
               have BK255 := n0_
               have HB := n1_
               clear n0_ n1_
               (try clear hb)
               (try clear hb2)
               (try clear hk)
               (try clear hi)
               refine hK.out _ _ ⟨(QB BK255.out 0).trans rfl, (QB BK255.out 1).trans rfl, (QB BK255.out 2).trans rfl, (QB BK255.out 3).trans rfl, (QB BK255.out 4).trans rfl, (QB BK255.out 5).trans rfl, (QB BK255.out 6).trans rfl, (QB BK255.out 7).trans rfl⟩ (fun hHeld => ?_)
               clear hK K
               refine norm_ (a' := ?_) ?_ ?_
               rotate_left
               ·show Act.put _ (some 8) _ = _
                simp only [Act.put, QK, QL, QM, i64_w, i32_w]
                rfl
               refine pure_ (i := 3) (N := some 9) (v := ?_) (a' := ?_) #[Y1,Y1,Y1,Y1,Y0,Y1,Y1,Y0,Y0,Y0,Y1,Y0,Y0,Y0,Y1,Y1,Y0,Y0,Y0,Y1,Y1,Y0,Y0,Y0,Y1,Y1,Y0,Y0,Y0,Y1,Y1,Y0,Y0,Y0] rfl rfl (any_of HT_.out (by kernel_rfl)) (fun _ _ _ h => h) (Or.inl ⟨by rfl, ?_⟩) ?_ ?_
               rotate_left
               ·intro w'
                go_simp
                with_reducible rfl
               rotate_left
               ·simp only [Act.put, QK, QL, QM, i64_w, i32_w]
                rfl
               refine pure_ (i := 4) (N := some 10) (v := ?_) (a' := ?_) #[Y1,Y1,Y1,Y1,Y1,Y1,Y1,Y0,Y0,Y0,Y1,Y0,Y0,Y0,Y1,Y1,Y0,Y0,Y0,Y1,Y1,Y0,Y0,Y0,Y1,Y1,Y0,Y0,Y0,Y1,Y1,Y0,Y0,Y0] rfl rfl (any_of HT_.out (by kernel_rfl)) (fun _ _ _ h => h) (Or.inl ⟨by rfl, ?_⟩) ?_ ?_
               rotate_left
               ·intro w'
                go_simp
                with_reducible rfl
               rotate_left
               ·simp only [Act.put, QK, QL, QM, i64_w, i32_w]
                rfl
               refine one_ (i := 7) (N := some 13) #[Y1,Y1,Y1,Y1,Y1,Y1,Y1,Y1,Y0,Y0,Y1,Y0,Y0,Y0,Y1,Y1,Y0,Y0,Y0,Y1,Y1,Y0,Y0,Y0,Y1,Y1,Y0,Y0,Y0,Y1,Y1,Y0,Y0,Y0] rfl rfl (one_of HT_.out (by kernel_rfl)) (by decide) (fun K hK => ?_)
               refine goes_ Tryd.func49 (by kernel_rfl) rfl #[.int .i64 a0_1] (by rfl) rfl rfl (by (try simp only [List.map_toArray, List.map_cons, List.map_nil]); first | done | rfl | (simp only [List.length_drop, List.length_take]; rfl)) ?_
               with_reducible refine (spec_FormatInt.calls k a0_1 t258 _ A7.out).mono ?_
               rintro e w29 ⟨rfl, hb⟩
               refine ⟨_, rfl, ?_⟩
               have n0_ := QN (blk_below (g := gb255) (o := _) (by (with_reducible repeat (first | refine QE ?_ _ | refine QI ?_ | refine QF ?_ _)); exact BK255.out) hb)
               have n1_ := QN (below_step (by repeat (first | (with_reducible first | exact HB.out | apply QH | apply QD | apply QG | refine QJ ?_ GE255.out) | exact HB.out)) hb)
               clear BK255
               clear HB
               have BK255 := n0_
               have HB := n1_
               clear n0_ n1_
               (try clear hb)
               (try clear hb2)
               (try clear hk)
               (try clear hi)
               refine hK.out _ _ ⟨(QB BK255.out 0).trans rfl, (QB BK255.out 1).trans rfl, (QB BK255.out 2).trans rfl, (QB BK255.out 3).trans rfl, (QB BK255.out 4).trans rfl, (QB BK255.out 5).trans rfl, (QB BK255.out 6).trans rfl, (QB BK255.out 7).trans rfl⟩ (fun hHeld => ?_)
               clear hK K
               refine norm_ (a' := ?_) ?_ ?_
               rotate_left
               ·show Act.put _ (some 13) _ = _
                simp only [Act.put, QK, QL, QM, i64_w, i32_w]
                rfl
               refine pure_ (i := 8) (N := some 14) (v := ?_) (a' := ?_) #[Y1,Y1,Y1,Y1,Y1,Y1,Y1,Y1,Y1,Y0,Y1,Y0,Y0,Y0,Y1,Y1,Y0,Y0,Y0,Y1,Y1,Y0,Y0,Y0,Y1,Y1,Y0,Y0,Y0,Y1,Y1,Y0,Y0,Y0] rfl rfl (any_of HT_.out (by kernel_rfl)) (fun _ _ _ h => h) (Or.inl ⟨by rfl, ?_⟩) ?_ ?_
               rotate_left
               ·intro w'
                go_simp
                with_reducible rfl
               rotate_left
               ·simp only [Act.put, QK, QL, QM, i64_w, i32_w]
                rfl
               refine pure_ (i := 9) (N := some 15) (v := ?_) (a' := ?_) #[Y1,Y1,Y1,Y1,Y1,Y1,Y1,Y1,Y1,Y1,Y1,Y0,Y0,Y0,Y1,Y1,Y0,Y0,Y0,Y1,Y1,Y0,Y0,Y0,Y1,Y1,Y0,Y0,Y0,Y1,Y1,Y0,Y0,Y0] rfl rfl (any_of HT_.out (by kernel_rfl)) (fun _ _ _ h => h) (Or.inl ⟨by rfl, ?_⟩) ?_ ?_
               rotate_left
               ·intro w'
                go_simp
                with_reducible rfl
               rotate_left
               ·simp only [Act.put, QK, QL, QM, i64_w, i32_w]
                rfl
               refine one_ (i := 11) (N := some 17) #[Y1,Y1,Y1,Y1,Y1,Y1,Y1,Y1,Y1,Y1,Y1,Y1,Y0,Y0,Y1,Y1,Y0,Y0,Y0,Y1,Y1,Y0,Y0,Y0,Y1,Y1,Y0,Y0,Y0,Y1,Y1,Y0,Y0,Y0] rfl rfl (one_of HT_.out (by kernel_rfl)) (by decide) (fun K hK => ?_)
               refine goes_ Tryd.func50 (by kernel_rfl) rfl #[.agg #[.int .i64 a0_0, .int .i64 a0_1, .bool a0_2, .bool a0_3, .slice A0_4 l0_4.length c0_4, .slice A0_5 l0_5.length c0_5, .int .i64 a0_6, .int .i64 a0_7]] (by rfl) rfl rfl (by (try simp only [List.map_toArray, List.map_cons, List.map_nil]); first | done | rfl | (simp only [List.length_drop, List.length_take]; rfl)) ?_
               with_reducible refine (spec_RulesWord.calls k a0_0 a0_1 a0_2 a0_3 _ _ l0_4 _ _ l0_5 a0_6 a0_7 t259 _ ?side1 ?side2 ?side3 ?side4 A10.out).mono ?_
               (case side1 => repeat (first | exact (Kd.C_below HR0_4.out HB.out) | (with_reducible refine Kd.C_alloc ?_ _) | (with_reducible refine Kd.C_drewN ?_ _) | (with_reducible refine Kd.C_drew ?_)))
               (case side2 => exact HC0_4.out)
               (case side3 => repeat (first | exact (Kd.C_below HR0_5.out HB.out) | (with_reducible refine Kd.C_alloc ?_ _) | (with_reducible refine Kd.C_drewN ?_ _) | (with_reducible refine Kd.C_drew ?_)))
               (case side4 => exact HC0_5.out)
               rintro e w30 ⟨rfl, hb⟩
               refine ⟨_, rfl, ?_⟩
               have n0_ := QN (blk_below (g := gb255) (o := _) (by (with_reducible repeat (first | refine QE ?_ _ | refine QI ?_ | refine QF ?_ _)); exact BK255.out) hb)
               have n1_ := QN (below_step (by repeat (first | (with_reducible first | exact HB.out | apply QH | apply QD | apply QG | refine QJ ?_ GE255.out) | exact HB.out)) hb)
               clear BK255
               clear HB
               have BK255 := n0_
               have HB := n1_
               clear n0_ n1_
               (try clear hb)
               (try clear hb2)
               (try clear hk)
               (try clear hi)
               refine hK.out _ _ ⟨(QB BK255.out 0).trans rfl, (QB BK255.out 1).trans rfl, (QB BK255.out 2).trans rfl, (QB BK255.out 3).trans rfl, (QB BK255.out 4).trans rfl, (QB BK255.out 5).trans rfl, (QB BK255.out 6).trans rfl, (QB BK255.out 7).trans rfl⟩ (fun hHeld => ?_)
               clear hK K
               refine norm_ (a' := ?_) ?_ ?_
               rotate_left
               ·show Act.put _ (some 17) _ = _
                simp only [Act.put, QK, QL, QM, i64_w, i32_w]
                rfl
               refine pure_ (i := 12) (N := some 18) (v := ?_) (a' := ?_) #[Y1,Y1,Y1,Y1,Y1,Y1,Y1,Y1,Y1,Y1,Y1,Y1,Y1,Y0,Y1,Y1,Y0,Y0,Y0,Y1,Y1,Y0,Y0,Y0,Y1,Y1,Y0,Y0,Y0,Y1,Y1,Y0,Y0,Y0] rfl rfl (any_of HT_.out (by kernel_rfl)) (fun _ _ _ h => h) (Or.inl ⟨by rfl, ?_⟩) ?_ ?_
               rotate_left
               ·intro w'
                go_simp
                with_reducible rfl
               rotate_left
               ·simp only [Act.put, QK, QL, QM, i64_w, i32_w]
                rfl
               refine pure_ (i := 13) (N := some 19) (v := ?_) (a' := ?_) #[Y1,Y1,Y1,Y1,Y1,Y1,Y1,Y1,Y1,Y1,Y1,Y1,Y1,Y1,Y1,Y1,Y0,Y0,Y0,Y1,Y1,Y0,Y0,Y0,Y1,Y1,Y0,Y0,Y0,Y1,Y1,Y0,Y0,Y0] rfl rfl (any_of HT_.out (by kernel_rfl)) (fun _ _ _ h => h) (Or.inl ⟨by rfl, ?_⟩) ?_ ?_
               rotate_left
               ·intro w'
                go_simp
                with_reducible rfl
               rotate_left
               ·simp only [Act.put, QK, QL, QM, i64_w, i32_w]
                rfl
               refine one_ (i := 16) (N := some 22) #[Y1,Y1,Y1,Y1,Y1,Y1,Y1,Y1,Y1,Y1,Y1,Y1,Y1,Y1,Y1,Y1,Y1,Y0,Y0,Y1,Y1,Y0,Y0,Y0,Y1,Y1,Y0,Y0,Y0,Y1,Y1,Y0,Y0,Y0] rfl rfl (one_of HT_.out (by kernel_rfl)) (by decide) (fun K hK => ?_)
               refine goes_ Tryd.func51 (by kernel_rfl) rfl #[.slice A0_4 l0_4.length c0_4] (by rfl) rfl rfl (by (try simp only [List.map_toArray, List.map_cons, List.map_nil]); first | done | rfl | (simp only [List.length_drop, List.length_take]; rfl)) ?_
               with_reducible refine (spec_l23Pattern.calls k _ _ l0_4 t260 _ ?side1 ?side2 A13.out).mono ?_
               (case side1 => repeat (first | exact (Kd.C_below HR0_4.out HB.out) | (with_reducible refine Kd.C_alloc ?_ _) | (with_reducible refine Kd.C_drewN ?_ _) | (with_reducible refine Kd.C_drew ?_)))
               (case side2 => exact HC0_4.out)
               rintro e w31 ⟨rfl, hb⟩
               refine ⟨_, rfl, ?_⟩
               have n0_ := QN (blk_below (g := gb255) (o := _) (by (with_reducible repeat (first | refine QE ?_ _ | refine QI ?_ | refine QF ?_ _)); exact BK255.out) hb)
               have n1_ := QN (below_step (by repeat (first | (with_reducible first | exact HB.out | apply QH | apply QD | apply QG | refine QJ ?_ GE255.out) | exact HB.out)) hb)
               clear BK255
               clear HB
               have BK255 := n0_
               have HB := n1_
               clear n0_ n1_
               (try clear hb)
               (try clear hb2)
               (try clear hk)
               (try clear hi)
               refine hK.out _ _ ⟨(QB BK255.out 0).trans rfl, (QB BK255.out 1).trans rfl, (QB BK255.out 2).trans rfl, (QB BK255.out 3).trans rfl, (QB BK255.out 4).trans rfl, (QB BK255.out 5).trans rfl, (QB BK255.out 6).trans rfl, (QB BK255.out 7).trans rfl⟩ (fun hHeld => ?_)
               clear hK K
               refine norm_ (a' := ?_) ?_ ?_
               rotate_left
               ·show Act.put _ (some 22) _ = _
                simp only [Act.put, QK, QL, QM, i64_w, i32_w]
                rfl
               refine pure_ (i := 17) (N := some 23) (v := ?_) (a' := ?_) #[Y1,Y1,Y1,Y1,Y1,Y1,Y1,Y1,Y1,Y1,Y1,Y1,Y1,Y1,Y1,Y1,Y1,Y1,Y0,Y1,Y1,Y0,Y0,Y0,Y1,Y1,Y0,Y0,Y0,Y1,Y1,Y0,Y0,Y0] rfl rfl (any_of HT_.out (by kernel_rfl)) (fun _ _ _ h => h) (Or.inl ⟨by rfl, ?_⟩) ?_ ?_
               rotate_left
               ·intro w'
                go_simp
                with_reducible rfl
               rotate_left
               ·simp only [Act.put, QK, QL, QM, i64_w, i32_w]
                rfl
               refine pure_ (i := 18) (N := some 24) (v := ?_) (a' := ?_) #[Y1,Y1,Y1,Y1,Y1,Y1,Y1,Y1,Y1,Y1,Y1,Y1,Y1,Y1,Y1,Y1,Y1,Y1,Y1,Y1,Y1,Y0,Y0,Y0,Y1,Y1,Y0,Y0,Y0,Y1,Y1,Y0,Y0,Y0] rfl rfl (any_of HT_.out (by kernel_rfl)) (fun _ _ _ h => h) (Or.inl ⟨by rfl, ?_⟩) ?_ ?_
               rotate_left
               ·intro w'
                go_simp
                with_reducible rfl
               rotate_left
               ·simp only [Act.put, QK, QL, QM, i64_w, i32_w]
                rfl
               refine one_ (i := 21) (N := some 27) #[Y1,Y1,Y1,Y1,Y1,Y1,Y1,Y1,Y1,Y1,Y1,Y1,Y1,Y1,Y1,Y1,Y1,Y1,Y1,Y1,Y1,Y1,Y0,Y0,Y1,Y1,Y0,Y0,Y0,Y1,Y1,Y0,Y0,Y0] rfl rfl (one_of HT_.out (by kernel_rfl)) (by decide) (fun K hK => ?_)
               refine goes_ Tryd.func51 (by kernel_rfl) rfl #[.slice A0_5 l0_5.length c0_5] (by rfl) rfl rfl (by (try simp only [List.map_toArray, List.map_cons, List.map_nil]); first | done | rfl | (simp only [List.length_drop, List.length_take]; rfl)) ?_
               with_reducible refine (spec_l23Pattern.calls k _ _ l0_5 t261 _ ?side1 ?side2 A16.out).mono ?_
               (case side1 => repeat (first | exact (Kd.C_below HR0_5.out HB.out) | (with_reducible refine Kd.C_alloc ?_ _) | (with_reducible refine Kd.C_drewN ?_ _) | (with_reducible refine Kd.C_drew ?_)))
               (case side2 => exact HC0_5.out)
               rintro e w32 ⟨rfl, hb⟩
               refine ⟨_, rfl, ?_⟩
               have n0_ := QN (blk_below (g := gb255) (o := _) (by (with_reducible repeat (first | refine QE ?_ _ | refine QI ?_ | refine QF ?_ _)); exact BK255.out) hb)
               have n1_ := QN (below_step (by repeat (first | (with_reducible first | exact HB.out | apply QH | apply QD | apply QG | refine QJ ?_ GE255.out) | exact HB.out)) hb)
               clear BK255
               clear HB
               have BK255 := n0_
               have HB := n1_
               clear n0_ n1_
               (try clear hb)
               (try clear hb2)
               (try clear hk)
               (try clear hi)
               refine hK.out _ _ ⟨(QB BK255.out 0).trans rfl, (QB BK255.out 1).trans rfl, (QB BK255.out 2).trans rfl, (QB BK255.out 3).trans rfl, (QB BK255.out 4).trans rfl, (QB BK255.out 5).trans rfl, (QB BK255.out 6).trans rfl, (QB BK255.out 7).trans rfl⟩ (fun hHeld => ?_)
               clear hK K
               refine norm_ (a' := ?_) ?_ ?_
               rotate_left
               ·show Act.put _ (some 27) _ = _
                simp only [Act.put, QK, QL, QM, i64_w, i32_w]
                rfl
               refine pure_ (i := 22) (N := some 28) (v := ?_) (a' := ?_) #[Y1,Y1,Y1,Y1,Y1,Y1,Y1,Y1,Y1,Y1,Y1,Y1,Y1,Y1,Y1,Y1,Y1,Y1,Y1,Y1,Y1,Y1,Y1,Y0,Y1,Y1,Y0,Y0,Y0,Y1,Y1,Y0,Y0,Y0] rfl rfl (any_of HT_.out (by kernel_rfl)) (fun _ _ _ h => h) (Or.inl ⟨by rfl, ?_⟩) ?_ ?_
               rotate_left
               ·intro w'
                go_simp
                with_reducible rfl
               rotate_left
               ·simp only [Act.put, QK, QL, QM, i64_w, i32_w]
                rfl
               refine pure_ (i := 23) (N := some 29) (v := ?_) (a' := ?_) #[Y1,Y1,Y1,Y1,Y1,Y1,Y1,Y1,Y1,Y1,Y1,Y1,Y1,Y1,Y1,Y1,Y1,Y1,Y1,Y1,Y1,Y1,Y1,Y1,Y1,Y1,Y0,Y0,Y0,Y1,Y1,Y0,Y0,Y0] rfl rfl (any_of HT_.out (by kernel_rfl)) (fun _ _ _ h => h) (Or.inl ⟨by rfl, ?_⟩) ?_ ?_
               rotate_left
               ·intro w'
                go_simp
                with_reducible rfl
               rotate_left
               ·simp only [Act.put, QK, QL, QM, i64_w, i32_w]
                rfl
               refine one_ (i := 26) (N := some 32) #[Y1,Y1,Y1,Y1,Y1,Y1,Y1,Y1,Y1,Y1,Y1,Y1,Y1,Y1,Y1,Y1,Y1,Y1,Y1,Y1,Y1,Y1,Y1,Y1,Y1,Y1,Y1,Y0,Y0,Y1,Y1,Y0,Y0,Y0] rfl rfl (one_of HT_.out (by kernel_rfl)) (by decide) (fun K hK => ?_)
               refine goes_ Tryd.func49 (by kernel_rfl) rfl #[.int .i64 a0_6] (by rfl) rfl rfl (by (try simp only [List.map_toArray, List.map_cons, List.map_nil]); first | done | rfl | (simp only [List.length_drop, List.length_take]; rfl)) ?_
               with_reducible refine (spec_FormatInt.calls k a0_6 t262 _ A19.out).mono ?_
               rintro e w33 ⟨rfl, hb⟩
               refine ⟨_, rfl, ?_⟩
               have n0_ := QN (blk_below (g := gb255) (o := _) (by (with_reducible repeat (first | refine QE ?_ _ | refine QI ?_ | refine QF ?_ _)); exact BK255.out) hb)
               have n1_ := QN (below_step (by repeat (first | (with_reducible first | exact HB.out | apply QH | apply QD | apply QG | refine QJ ?_ GE255.out) | exact HB.out)) hb)
               clear BK255
               clear HB
               have BK255 := n0_
               have HB := n1_
               clear n0_ n1_
               (try clear hb)
               (try clear hb2)
               (try clear hk)
               (try clear hi)
               refine hK.out _ _ ⟨(QB BK255.out 0).trans rfl, (QB BK255.out 1).trans rfl, (QB BK255.out 2).trans rfl, (QB BK255.out 3).trans rfl, (QB BK255.out 4).trans rfl, (QB BK255.out 5).trans rfl, (QB BK255.out 6).trans rfl, (QB BK255.out 7).trans rfl⟩ (fun hHeld => ?_)
               clear hK K
               refine norm_ (a' := ?_) ?_ ?_
               rotate_left
               ·show Act.put _ (some 32) _ = _
                simp only [Act.put, QK, QL, QM, i64_w, i32_w]
                rfl
               refine pure_ (i := 27) (N := some 33) (v := ?_) (a' := ?_) #[Y1,Y1,Y1,Y1,Y1,Y1,Y1,Y1,Y1,Y1,Y1,Y1,Y1,Y1,Y1,Y1,Y1,Y1,Y1,Y1,Y1,Y1,Y1,Y1,Y1,Y1,Y1,Y1,Y0,Y1,Y1,Y0,Y0,Y0] rfl rfl (any_of HT_.out (by kernel_rfl)) (fun _ _ _ h => h) (Or.inl ⟨by rfl, ?_⟩) ?_ ?_
               rotate_left
               ·intro w'
                go_simp
                with_reducible rfl
               rotate_left
               ·simp only [Act.put, QK, QL, QM, i64_w, i32_w]
                rfl
               refine pure_ (i := 28) (N := some 34) (v := ?_) (a' := ?_) #[Y1,Y1,Y1,Y1,Y1,Y1,Y1,Y1,Y1,Y1,Y1,Y1,Y1,Y1,Y1,Y1,Y1,Y1,Y1,Y1,Y1,Y1,Y1,Y1,Y1,Y1,Y1,Y1,Y1,Y1,Y1,Y0,Y0,Y0] rfl rfl (any_of HT_.out (by kernel_rfl)) (fun _ _ _ h => h) (Or.inl ⟨by rfl, ?_⟩) ?_ ?_
               rotate_left
               ·intro w'
                go_simp
                with_reducible rfl
               rotate_left
               ·simp only [Act.put, QK, QL, QM, i64_w, i32_w]
                rfl
               refine one_ (i := 31) (N := some 37) #[Y1,Y1,Y1,Y1,Y1,Y1,Y1,Y1,Y1,Y1,Y1,Y1,Y1,Y1,Y1,Y1,Y1,Y1,Y1,Y1,Y1,Y1,Y1,Y1,Y1,Y1,Y1,Y1,Y1,Y1,Y1,Y1,Y0,Y0] rfl rfl (one_of HT_.out (by kernel_rfl)) (by decide) (fun K hK => ?_)
               refine goes_ Tryd.func49 (by kernel_rfl) rfl #[.int .i64 a0_7] (by rfl) rfl rfl (by (try simp only [List.map_toArray, List.map_cons, List.map_nil]); first | done | rfl | (simp only [List.length_drop, List.length_take]; rfl)) ?_
               with_reducible refine (spec_FormatInt.calls k a0_7 t263 _ A22.out).mono ?_
               rintro e w34 ⟨rfl, hb⟩
               refine ⟨_, rfl, ?_⟩
               have n0_ := QN (blk_below (g := gb255) (o := _) (by (with_reducible repeat (first | refine QE ?_ _ | refine QI ?_ | refine QF ?_ _)); exact BK255.out) hb)
               have n1_ := QN (below_step (by repeat (first | (with_reducible first | exact HB.out | apply QH | apply QD | apply QG | refine QJ ?_ GE255.out) | exact HB.out)) hb)
               clear BK255
               clear HB
               have BK255 := n0_
               have HB := n1_
               clear n0_ n1_
               (try clear hb)
               (try clear hb2)
               (try clear hk)
               (try clear hi)
               refine hK.out _ _ ⟨(QB BK255.out 0).trans rfl, (QB BK255.out 1).trans rfl, (QB BK255.out 2).trans rfl, (QB BK255.out 3).trans rfl, (QB BK255.out 4).trans rfl, (QB BK255.out 5).trans rfl, (QB BK255.out 6).trans rfl, (QB BK255.out 7).trans rfl⟩ (fun hHeld => ?_)
               clear hK K
               refine norm_ (a' := ?_) ?_ ?_
               rotate_left
               ·show Act.put _ (some 37) _ = _
                simp only [Act.put, QK, QL, QM, i64_w, i32_w]
                rfl
               refine pure_ (i := 32) (N := some 38) (v := ?_) (a' := ?_) #[Y1,Y1,Y1,Y1,Y1,Y1,Y1,Y1,Y1,Y1,Y1,Y1,Y1,Y1,Y1,Y1,Y1,Y1,Y1,Y1,Y1,Y1,Y1,Y1,Y1,Y1,Y1,Y1,Y1,Y1,Y1,Y1,Y1,Y0] rfl rfl (any_of HT_.out (by kernel_rfl)) (fun _ _ _ h => h) (Or.inl ⟨by rfl, ?_⟩) ?_ ?_
               rotate_left
               ·intro w'
                go_simp
                with_reducible rfl
               rotate_left
               ·simp only [Act.put, QK, QL, QM, i64_w, i32_w]
                rfl
               refine pure_ (i := 33) (N := some 2) (v := ?_) (a' := ?_) #[Y1,Y1,Y1,Y1,Y1,Y1,Y1,Y1,Y1,Y1,Y1,Y1,Y1,Y1,Y1,Y1,Y1,Y1,Y1,Y1,Y1,Y1,Y1,Y1,Y1,Y1,Y1,Y1,Y1,Y1,Y1,Y1,Y1,Y1] rfl rfl (any_of HT_.out (by kernel_rfl)) (fun _ _ _ h => h) (Or.inl ⟨by rfl, ?_⟩) ?_ ?_
               rotate_left
               ·intro w'
                go_simp
                with_reducible rfl
               rotate_left
               ·simp only [Act.put, QK, QL, QM, i64_w, i32_w]
                rfl
               refine done_ (done_of HT_.out (by kernel_rfl)) ?_
               try go_wp2
               go_ret
               exact ⟨by first | rfl | (simp [errW_none, errW_some] <;> rfl) | (simp [*, errW_none, errW_some] <;> rfl), by repeat (first | (with_reducible first | exact HB.out | apply QH | apply QD | apply QG | refine QJ ?_ GE255.out) | exact HB.out)⟩
              ·rw [if_neg c23] at H
               exact absurd H (by simp)
             ·rw [if_neg c21] at H
              exact absurd H (by simp)
            ·rw [if_neg c20] at H
             exact absurd H (by simp)
           ·rw [if_neg c18] at H
            exact absurd H (by simp)
          ·rw [if_neg c17] at H
           exact absurd H (by simp)
         ·rw [if_neg c15] at H
          exact absurd H (by simp)
        ·rw [if_neg c14] at H
         exact absurd H (by simp)
       ·rw [if_neg c12] at H
        exact absurd H (by simp)
      ·rw [if_neg c11] at H
       exact absurd H (by simp)
     ·rw [if_neg c9] at H
      exact absurd H (by simp)
    ·rw [if_neg c8] at H
     exact absurd H (by simp)
   ·rw [if_neg c6] at H
    exact absurd H (by simp)
  ·rw [if_neg c5] at H
   exact absurd H (by simp)
 ·replace c3 := Bool.eq_false_iff.mpr c3
  subst c3
  rw [if_neg (show ¬ (false = true) by decide)] at H
  obtain rfl := Option.some.inj H
  go_enter Tryd.func23, Tryd.ntmps23
  go_wp2_with (first | ((with_reducible refine gate_dst (N := 1) rfl ?_); refine box_event ?hg (N := 1) ?hd (cs := #[.int .i64 a0_0, .int .i64 a0_1, .bool a0_2, .bool a0_3, .slice A0_4 l0_4.length c0_4, .slice A0_5 l0_5.length c0_5, .int .i64 a0_6, .int .i64 a0_7]) (t := 26) ?hr ?_; (case hd => rfl); (case hg => rfl); (case hr => first | (go_simp; done) | (go_simp; rfl)); intro gb255 hg w35 hbox hb; have n0_ := QN (below_step (by repeat (first | (with_reducible first | exact HB.out | apply QH | apply QD | apply QG) | exact HB.out)) hb); have n1_ := QN (hbox); have n2_ := QN ((by rw [hg]; exact (below_size (by repeat (first | (with_reducible first | exact HB.out | apply QH | apply QD | apply QG) | exact HB.out))) : w.heap.size ≤ gb255)); have n3_ := QN ((by rw [hg]; exact (below_size (by repeat (first | (with_reducible first | exact HB.out | apply QH | apply QD | apply QG) | exact HB.out))) : w.heap.size ≤ gb255)); clear HB; have HB := n0_; have BK255 := n1_; have GW255 := n2_; have GE255 := n3_; clear n0_ n1_ n2_ n3_; clear hb hbox hg; have hcz36_0 : w35.cell? ⟨gb255, 0, none⟩ = some (.int .i64 a0_0) := (QB BK255.out 0).trans rfl; have hcz36_1 : w35.cell? ⟨gb255, 1, none⟩ = some (.int .i64 a0_1) := (QB BK255.out 1).trans rfl; have hcz36_2 : w35.cell? ⟨gb255, 2, none⟩ = some (.bool a0_2) := (QB BK255.out 2).trans rfl; have hcz36_3 : w35.cell? ⟨gb255, 3, none⟩ = some (.bool a0_3) := (QB BK255.out 3).trans rfl; have hcz36_4 : w35.cell? ⟨gb255, 4, none⟩ = some (.slice A0_4 l0_4.length c0_4) := (QB BK255.out 4).trans rfl; have hcz36_5 : w35.cell? ⟨gb255, 5, none⟩ = some (.slice A0_5 l0_5.length c0_5) := (QB BK255.out 5).trans rfl; have hcz36_6 : w35.cell? ⟨gb255, 6, none⟩ = some (.int .i64 a0_6) := (QB BK255.out 6).trans rfl; have hcz36_7 : w35.cell? ⟨gb255, 7, none⟩ = some (.int .i64 a0_7) := (QB BK255.out 7).trans rfl; have hfz36_0 := QC BK255.out 0; have hfz36_1 := QC BK255.out 1; have hfz36_2 := QC BK255.out 2; have hfz36_3 := QC BK255.out 3; have hfz36_4 := QC BK255.out 4; have hfz36_5 := QC BK255.out 5; have hfz36_6 := QC BK255.out 6; have hfz36_7 := QC BK255.out 7) | ((with_reducible refine gate_callee (f := 48) rfl ?_); refine goesL_ (some 4) rfl rfl Tryd.func48 (by kernel_rfl) rfl #[.agg #[.int .i64 a0_0, .int .i64 a0_1, .bool a0_2, .bool a0_3, .slice A0_4 l0_4.length c0_4, .slice A0_5 l0_5.length c0_5, .int .i64 a0_6, .int .i64 a0_7]] rfl (by (try simp only [List.map_toArray, List.map_cons, List.map_nil]); first | done | rfl | (simp only [List.length_drop, List.length_take]; rfl)) ?_; (with_reducible refine (spec_IsRules.calls k a0_0 a0_1 a0_2 a0_3 _ _ l0_4 _ _ l0_5 a0_6 a0_7 false _ ?side1 ?side2 ?side3 ?side4 A2.out).mono ?_); (case side1 => repeat (first | exact (Kd.C_below HR0_4.out HB.out) | (with_reducible refine Kd.C_alloc ?_ _) | (with_reducible refine Kd.C_drewN ?_ _) | (with_reducible refine Kd.C_drew ?_))); (case side2 => exact HC0_4.out); (case side3 => repeat (first | exact (Kd.C_below HR0_5.out HB.out) | (with_reducible refine Kd.C_alloc ?_ _) | (with_reducible refine Kd.C_drewN ?_ _) | (with_reducible refine Kd.C_drew ?_))); (case side4 => exact HC0_5.out); rintro e w37 ⟨rfl, hb⟩; refine ⟨_, rfl, ?_⟩; have n0_ := QN (blk_below (g := gb255) (o := _) (by (with_reducible repeat (first | refine QE ?_ _ | refine QI ?_ | refine QF ?_ _)); exact BK255.out) hb); have n1_ := QN (below_step (by repeat (first | (with_reducible first | exact HB.out | apply QH | apply QD | apply QG | refine QJ ?_ GE255.out) | exact HB.out)) hb); clear BK255; clear HB; have BK255 := n0_; have HB := n1_; clear n0_ n1_; (try clear hb); (try clear hb2); (try clear hk); (try clear hi)))
  go_ret
  exact ⟨by first | rfl | (simp [errW_none, errW_some] <;> rfl) | (simp [*, errW_none, errW_some] <;> rfl), by repeat (first | (with_reducible first | exact HB.out | apply QH | apply QD | apply QG | refine QJ ?_ GE255.out) | exact HB.out)⟩

/-! ### laws_toIntS: function 52 -/
def laws_toIntS.l0 : Nat → List Int → List Int → Int → Option (List Int)
 | 0, _, _, _ => none
 | k + 1, x0, x3, x4 => if x4 < (x0.length : Int) then (if 0 ≤ x4 then (if x4 < (x3.length : Int) then (laws_toIntS.l0 k x0 (x3.set (x4 : Int).toNat (rd x0 x4)) (wrap64 (x4 + 1))) else (none)) else (none)) else (some x3)
def laws_toIntS.f (k : Nat) (l0 : List Int) : Option (List Int) := if 0 ≤ (l0.length : Int) then (if ((l0.length : Int) : Int).toNat ≤ 35184372088832 then (laws_toIntS.l0 k l0 (List.replicate ((l0.length : Int) : Int).toNat 0) 0) else (none)) else (none)
theorem laws_toIntS.mono_l : ∀ k, (∀ y0 y1 y2, LeO (laws_toIntS.l0 k y0 y1 y2) (laws_toIntS.l0 (k + 1) y0 y1 y2))
 | 0 => fun _ _ _ r h => by simp [laws_toIntS.l0] at h
 | k + 1 => by
  have ih0 := laws_toIntS.mono_l k
  ·intro y0 y1 y2
   unfold laws_toIntS.l0
   repeat' first
   | (with_reducible exact ih0 _ _ _)
   | (with_reducible exact LeO.refl _)
   | (with_reducible exact LeO.none _)
   | (with_reducible refine LeO.ite ?_ ?_)
   | (with_reducible refine LeO.bind ?_ (fun _ => ?_))
   | exact ih0 _ _ _
   | exact LeO.none _
   | refine LeO.ite ?_ ?_
   | refine LeO.bind ?_ (fun _ => ?_)
theorem laws_toIntS.mono : ∀ a0 k, LeO (laws_toIntS.f k a0) (laws_toIntS.f (k + 1) a0) := by
 intro a0 k
 have ih0 := laws_toIntS.mono_l k
 unfold laws_toIntS.f
 repeat' first
   | (with_reducible exact ih0 _ _ _)
   | (with_reducible exact LeO.refl _)
   | (with_reducible exact LeO.none _)
   | (with_reducible refine LeO.ite ?_ ?_)
   | (with_reducible refine LeO.bind ?_ (fun _ => ?_))
   | exact ih0 _ _ _
   | exact LeO.none _
   | refine LeO.ite ?_ ?_
   | refine LeO.bind ?_ (fun _ => ?_)
set_option maxHeartbeats 8000000 in
set_option maxRecDepth 100000 in
theorem laws_toIntS.calls (k : Nat) (A0 : Option Addr) (c0 : Nat) (l0 : List Int) (r : List Int) (w : World) (hr0 : Kd.C (Kd.int .i64) w A0 l0.length l0) (hc0 : l0.length ≤ c0) (h : laws_toIntS.f k l0 = some r) :
  Calls Tryd.prog 52 #[.slice A0 l0.length c0] w fun e w' => ∃ v0_ : Value, e = .returned (v0_) ∧ Kd.R (Kd.int .i64) 3 w' w.heap.size (fun _ => True) v0_ r ∧ Below w.heap.size w w' := by
 have HR0 := QN hr0
 have HC0 := QN hc0
 clear hr0 hc0
 have HB := QN (Below.refl w.heap.size w)
 have H : (if 0 ≤ (l0.length : Int) then (if ((l0.length : Int) : Int).toNat ≤ 35184372088832 then (laws_toIntS.l0 k l0 (List.replicate ((l0.length : Int) : Int).toNat 0) 0) else (none)) else (none)) = some r := h
 clear h
 by_cases c2 : 0 ≤ (l0.length : Int)
 ·rw [if_pos c2] at H
  have c2b0 := eq_true c2
  have c2b1 : decide (0 ≤ (l0.length : Int)) = true := decide_eq_true c2
  clear c2
  by_cases c3 : ((l0.length : Int) : Int).toNat ≤ 35184372088832
  ·rw [if_pos c3] at H
   have c3b0 := eq_true c3
   have c3b1 : decide (((l0.length : Int) : Int).toNat ≤ 35184372088832) = true := decide_eq_true c3
   clear c3
   obtain ⟨y264, hy264⟩ : ∃ y_ : List Int, y_ = (List.replicate ((l0.length : Int) : Int).toNat 0) := ⟨_, rfl⟩
   replace H : (laws_toIntS.l0 k l0 y264 0) = some r := by first | (rw [hy264]; with_reducible exact H) | (have H2_ := (Option.bind_some _ _).symm.trans H; rw [hy264]; with_reducible exact H2_) | (have H2_ := (Option.bind_some _ _).symm.trans H; with_reducible exact H2_) | with_reducible exact H | (rw [hy264]; exact H) | exact H
   have Ny264 := QN hy264
   clear hy264
   have H' := QN H
   clear H
   go_enter Tryd.func52, Tryd.ntmps52
   go_wp2_with (first | ((with_reducible refine gate_dst (N := 7) rfl ?_); refine Kd.R_make (Kd.int .i64) _ 3 rfl (N := 7) rfl 24 _ _ rfl (l0.length : Int) rfl rfl Tryd.underlying24 (.int .i64 0) 8 info3 rfl (by decide) (by omega) 0 (ok := fun _ => True) (okp := fun _ => True) rfl (fun _ hk => hk) trivial (of_decide_eq_true (by first | (with_reducible assumption) | assumption)) (Nat.le_trans (Nat.mul_le_mul_right _ (of_decide_eq_true (by first | (with_reducible assumption) | assumption) : (l0.length : Int).toNat ≤ 35184372088832)) (by omega)) (Below.refl _ _) (Nat.le_refl _) ?_; intro v265 w4 ho5 hb hg_ hnew_; clear hg_ hnew_; (first | rw [← Ny264.out] at ho5 | (simp only [Int.reduceToNat] at ho5; rw [← Ny264.out] at ho5)); have n0_ := QN (Kd.R_lower ho5 (below_size (by repeat (first | (with_reducible first | exact HB.out | apply QH | apply QD | apply QG) | exact HB.out)))); have n1_ := QN (below_step (by repeat (first | (with_reducible first | exact HB.out | apply QH | apply QD | apply QG) | exact HB.out)) hb); clear HB; have HO266 := n0_; have HB := n1_; clear n0_ n1_; clear hb ho5))
   go_loopg [4] k (fun kq v4 w' => ∃ (x3_1 : List Int) (x4_1 : Int), v4 = .int .i64 x4_1 ∧ Aside0 (laws_toIntS.l0 kq l0 x3_1 x4_1 = some r) ∧ Aside0 (kq ≤ k) ∧ Aside0 (Kd.R (Kd.int .i64) 3 w' w.heap.size (fun _ => True) v265 x3_1) ∧ Aside0 (Below w.heap.size w w'))
   case atStart => exact ⟨(y264), (0), (by first | rfl | (simp; done) | (simp [*]; done)), H', ⟨Nat.le_refl _⟩, ⟨by (with_reducible repeat (first | apply Kd.R_alloc | apply Kd.R_drewN | apply Kd.R_drew)); exact HO266.out⟩, ⟨by repeat (first | (with_reducible first | exact HB.out | apply QH | apply QD | apply QG) | exact HB.out)⟩⟩
   case round =>
    clear H'
    try clear c2
    try clear c2b0
    try clear c2b1
    try clear p2
    try clear c3
    try clear c3b0
    try clear c3b1
    try clear c5
    obtain ⟨x3_1, x4_1, rfl, HA, HK1, HO_3, HB⟩ := hrel
    cases gk with
    | zero => exact absurd HA.out (by simp [laws_toIntS.l0])
    | succ k1 =>
     have H := HA.out
     clear HA
     simp only [laws_toIntS.l0] at H
     by_cases c6 : x4_1 < (l0.length : Int)
     ·rw [if_pos c6] at H
      have c6b0 : decide (x4_1 < (l0.length : Int)) = true := decide_eq_true c6
      clear c6
      by_cases c7 : 0 ≤ x4_1
      ·rw [if_pos c7] at H
       have c7b0 : decide (0 ≤ x4_1) = true := decide_eq_true c7
       clear c7
       by_cases c8 : x4_1 < (x3_1.length : Int)
       ·rw [if_pos c8] at H
        have c8b0 : decide (x4_1 < (x3_1.length : Int)) = true := decide_eq_true c8
        clear c8
        obtain ⟨y268, hy268⟩ : ∃ y_ : List Int, y_ = (x3_1.set (x4_1 : Int).toNat (rd l0 x4_1)) := ⟨_, rfl⟩
        replace H : (laws_toIntS.l0 k1 l0 y268 (wrap64 (x4_1 + 1))) = some r := by first | (rw [hy268]; with_reducible exact H) | (have H2_ := (Option.bind_some _ _).symm.trans H; rw [hy268]; with_reducible exact H2_) | (have H2_ := (Option.bind_some _ _).symm.trans H; with_reducible exact H2_) | with_reducible exact H | (rw [hy268]; exact H) | exact H
        have Ny268 := QN hy268
        clear hy268
        have H' := QN H
        clear H
        have p267 : 0 ≤ (x4_1 : Int) := of_decide_eq_true (by first | (with_reducible assumption) | assumption)
        have q267 : x4_1 < (l0.length : Int) := of_decide_eq_true (by first | (with_reducible assumption) | assumption)
        obtain ⟨ad267, e267, hx267_0⟩ := Kd.at_int HR0.out x4_1 p267 q267
        cases e267
        replace hx267_0 := (HB.out.cell (World.block_lt_of_cell? w _ hx267_0)).trans hx267_0
        replace p267 := eq_true p267
        replace q267 := eq_true q267
        have p9 : 0 ≤ (x4_1 : Int) := of_decide_eq_true (by first | (with_reducible assumption) | assumption)
        have q9 : (x4_1 : Int) < ((x3_1.length : Int) : Int) := of_decide_eq_true (by first | (with_reducible assumption) | assumption)
        obtain ⟨go9, co9, eo9, gb9, gl9, cl9, HG9⟩ := Kd.R_form HO_3.out (by omega)
        (first | cases eo9 | (injection eo9 with ea_ en_ ec_; (first | subst ea_ | (injection ea_ with ea_; subst ea_)); subst ec_; clear en_))
        have GB9 := QN gb9
        have GG9 := QN HG9
        clear gb9 gl9 HG9
        obtain ⟨hx9_0, hf9_0⟩ := Kd.R_celln 0 HO_3.out (x4_1 : Int) p9 q9
        replace p9 := eq_true p9
        replace q9 := eq_true q9
        have HP10 := Kd.R_putg HO_3.out (x4_1 : Int) (rd l0 x4_1)
        go_wp2_with (first | ((with_reducible refine gate_store (t := 3) (p := 20) rfl ?_); refine store_event (t := 3) (p := 20) (v := ?vo_w11) (w1 := (wr.setCell ⟨go9, (x4_1 : Int).toNat, none⟩ (.int .i64 (rd l0 x4_1)))) ?hg ?ho ?hn ?hr ?_; (case ho => rfl); (case hg => rfl); (case hn => rfl); (case hr => first | (go_simp; done) | (go_simp; rfl)); intro w11 hw; have hg : wr.grownBy w11 (some go9) := (by rw [hw]; exact HP10.2); have hp_ : Kd.R (Kd.int .i64) 3 w11 w.heap.size (fun _ => True) (.slice (some ⟨go9, 0, none⟩) x3_1.length co9) y268 := (by rw [hw, Ny268.out]; exact HP10.1); clear HP10; have n0_ := QN (hp_); have n1_ := QN ((by rw [hw]; exact QJ (HB.out) GB9.out : Below w.heap.size w w11)); clear HO_3; clear HB; have HO_3 := n0_; have HB := n1_; clear n0_ n1_; clear hg hw hp_))
        go_roundg k1
        case measure => have := HK1.out; omega
        case rel => exact ⟨(y268), (wrap64 (x4_1 + 1)), (by first | rfl | (simp; done) | (simp [*]; done)), H', ⟨by have := HK1.out; omega⟩, ⟨by (with_reducible repeat (first | apply Kd.R_alloc | apply Kd.R_drewN | apply Kd.R_drew)); exact HO_3.out⟩, ⟨by repeat (first | (with_reducible first | exact HB.out | apply QH | apply QD | apply QG) | exact HB.out)⟩⟩
       ·rw [if_neg c8] at H
        exact absurd H (by simp)
      ·rw [if_neg c7] at H
       exact absurd H (by simp)
     ·rw [if_neg c6] at H
      have c6b0 : decide (x4_1 < (l0.length : Int)) = false := decide_eq_false c6
      clear c6
      obtain rfl := Option.some.inj H
      go_wp2
      go_ret
      exact ⟨_, by first | rfl | (simp [errW_none, errW_some] <;> rfl) | (simp [*, errW_none, errW_some] <;> rfl), by (with_reducible repeat (first | apply Kd.R_alloc | apply Kd.R_drewN | apply Kd.R_drew)); exact HO_3.out, by repeat (first | (with_reducible first | exact HB.out | apply QH | apply QD | apply QG) | exact HB.out)⟩
  ·rw [if_neg c3] at H
   exact absurd H (by simp)
 ·rw [if_neg c2] at H
  exact absurd H (by simp)

/-! ### laws_toRules: function 24 -/
def laws_toRules.f (k : Nat) (a0_0 : Int) (a0_1 : Int) (a0_2 : Bool) (a0_3 : Bool) (l0_4 : List Int) (l0_5 : List Int) (a0_6 : Int) (a0_7 : Int) : Option (Int × Int × Bool × Bool × List Int × List Int × Int × Int) := (laws_toIntS.f k l0_4).bind fun t272 => ((laws_toIntS.f k l0_5).bind fun t275 => (some (a0_0, a0_1, a0_2, a0_3, t272, t275, a0_6, a0_7)))
theorem laws_toRules.mono : ∀ a0 a1 a2 a3 a4 a5 a6 a7 k, LeO (laws_toRules.f k a0 a1 a2 a3 a4 a5 a6 a7) (laws_toRules.f (k + 1) a0 a1 a2 a3 a4 a5 a6 a7) := by
 intro a0 a1 a2 a3 a4 a5 a6 a7 k
 unfold laws_toRules.f
 repeat' first
   | (with_reducible exact laws_toIntS.mono _ _)
   | (with_reducible exact LeO.refl _)
   | (with_reducible exact LeO.none _)
   | (with_reducible refine LeO.ite ?_ ?_)
   | (with_reducible refine LeO.bind ?_ (fun _ => ?_))
   | exact laws_toIntS.mono _ _
   | exact LeO.none _
   | refine LeO.ite ?_ ?_
   | refine LeO.bind ?_ (fun _ => ?_)
set_option maxHeartbeats 8000000 in
set_option maxRecDepth 100000 in
theorem laws_toRules.calls (k : Nat) (a0_0 : Int) (a0_1 : Int) (a0_2 : Bool) (a0_3 : Bool) (A0_4 : Option Addr) (c0_4 : Nat) (l0_4 : List Int) (A0_5 : Option Addr) (c0_5 : Nat) (l0_5 : List Int) (a0_6 : Int) (a0_7 : Int) (r1 : Int) (r2 : Int) (r3 : Bool) (r4 : Bool) (r5 : List Int) (r6 : List Int) (r7 : Int) (r8 : Int) (w : World) (hr0_4 : Kd.C (Kd.int .i64) w A0_4 l0_4.length l0_4) (hc0_4 : l0_4.length ≤ c0_4) (hr0_5 : Kd.C (Kd.int .i64) w A0_5 l0_5.length l0_5) (hc0_5 : l0_5.length ≤ c0_5) (h : laws_toRules.f k a0_0 a0_1 a0_2 a0_3 l0_4 l0_5 a0_6 a0_7 = some (r1, r2, r3, r4, r5, r6, r7, r8)) :
  Calls Tryd.prog 24 #[.agg #[.int .i64 a0_0, .int .i64 a0_1, .bool a0_2, .bool a0_3, .slice A0_4 l0_4.length c0_4, .slice A0_5 l0_5.length c0_5, .int .i64 a0_6, .int .i64 a0_7]] w fun e w' => ∃ v4_ v5_ : Value, e = .returned (.agg #[.int .i64 r1, .int .i64 r2, .bool r3, .bool r4, v4_, v5_, .int .i64 r7, .int .i64 r8]) ∧ Kd.R (Kd.int .i64) 3 w' w.heap.size (fun k_ => some k_ ≠ (v5_ : Value).ownBlock) v4_ r5 ∧ Kd.R (Kd.int .i64) 3 w' w.heap.size (fun k_ => some k_ ≠ (v4_ : Value).ownBlock) v5_ r6 ∧ Below w.heap.size w w' := by
 have hu44 := Tryd.underlying44
 have hu26 := Tryd.underlying26
 have HR0_4 := QN hr0_4
 have HC0_4 := QN hc0_4
 clear hr0_4 hc0_4
 have HR0_5 := QN hr0_5
 have HC0_5 := QN hc0_5
 clear hr0_5 hc0_5
 have HB := QN (Below.refl w.heap.size w)
 have H : ((laws_toIntS.f k l0_4).bind fun t272 => ((laws_toIntS.f k l0_5).bind fun t275 => (some (a0_0, a0_1, a0_2, a0_3, t272, t275, a0_6, a0_7)))) = some (r1, r2, r3, r4, r5, r6, r7, r8) := h
 clear h
 replace H := Option.bind_eq_some_iff.mp H
 obtain ⟨t272, A20, H⟩ := H
 replace H : ((laws_toIntS.f k l0_5).bind fun t275 => (some (a0_0, a0_1, a0_2, a0_3, t272, t275, a0_6, a0_7))) = some (r1, r2, r3, r4, r5, r6, r7, r8) := H
 have A2 := QN A20
 clear A20
 replace H := Option.bind_eq_some_iff.mp H
 obtain ⟨t275, A30, H⟩ := H
 replace H : (some (a0_0, a0_1, a0_2, a0_3, t272, t275, a0_6, a0_7)) = some (r1, r2, r3, r4, r5, r6, r7, r8) := H
 have A3 := QN A30
 clear A30
 simp only [Option.some.injEq, Prod.mk.injEq] at H
 obtain ⟨rfl, rfl, rfl, rfl, rfl, rfl, rfl, rfl⟩ := H
 go_enter Tryd.func24, Tryd.ntmps24
 go_wp2_with (first | ((with_reducible refine gate_dst (N := 1) rfl ?_); refine box_event ?hg (N := 1) ?hd (cs := #[.int .i64 a0_0, .int .i64 a0_1, .bool a0_2, .bool a0_3, .slice A0_4 l0_4.length c0_4, .slice A0_5 l0_5.length c0_5, .int .i64 a0_6, .int .i64 a0_7]) (t := 44) ?hr ?_; (case hd => rfl); (case hg => rfl); (case hr => first | (go_simp; done) | (go_simp; rfl)); intro gb269 hg w4 hbox hb; have n0_ := QN (below_step (by repeat (first | (with_reducible first | exact HB.out | apply QH | apply QD | apply QG) | exact HB.out)) hb); have n1_ := QN (hbox); have n2_ := QN ((by rw [hg]; exact (below_size (by repeat (first | (with_reducible first | exact HB.out | apply QH | apply QD | apply QG) | exact HB.out))) : w.heap.size ≤ gb269)); have n3_ := QN ((by rw [hg]; exact (below_size (by repeat (first | (with_reducible first | exact HB.out | apply QH | apply QD | apply QG) | exact HB.out))) : w.heap.size ≤ gb269)); clear HB; have HB := n0_; have BK269 := n1_; have GW269 := n2_; have GE269 := n3_; clear n0_ n1_ n2_ n3_; clear hb hbox hg) | ((with_reducible refine gate_dst (N := 2) rfl ?_); refine box_event ?hg (N := 2) ?hd (cs := #[.int .i64 0, .int .i64 0, .bool false, .bool false, .slice none 0 0, .slice none 0 0, .int .i64 0, .int .i64 0]) (t := 26) ?hr ?_; (case hd => rfl); (case hg => rfl); (case hr => first | (go_simp; done) | (go_simp; rfl)); intro gb270 hg w5 hbox hb; have n0_ := QN (blk_below (g := gb269) (o := .cells #[.int .i64 a0_0, .int .i64 a0_1, .bool a0_2, .bool a0_3, .slice A0_4 l0_4.length c0_4, .slice A0_5 l0_5.length c0_5, .int .i64 a0_6, .int .i64 a0_7] 44 (0, 0)) (by (with_reducible repeat (first | refine QE ?_ _ | refine QI ?_ | refine QF ?_ _)); exact BK269.out) hb); have n1_ := QN (below_step (by repeat (first | (with_reducible first | exact HB.out | apply QH | apply QD | apply QG | refine QJ ?_ GE269.out) | exact HB.out)) hb); have n2_ := QN (hbox); have n3_ := QN ((by rw [hg]; exact (below_size (by repeat (first | (with_reducible first | exact HB.out | apply QH | apply QD | apply QG | refine QJ ?_ GE269.out) | exact HB.out))) : w.heap.size ≤ gb270)); have n4_ := QN ((by rw [hg]; exact (below_size (by repeat (first | (with_reducible first | exact HB.out | apply QH | apply QD | apply QG | refine QJ ?_ GE269.out) | exact HB.out))) : w.heap.size ≤ gb270)); have n5_ := QN ((by rw [hg]; exact Nat.ne_of_lt (blk_lt (g := gb269) (o := .cells #[.int .i64 a0_0, .int .i64 a0_1, .bool a0_2, .bool a0_3, .slice A0_4 l0_4.length c0_4, .slice A0_5 l0_5.length c0_5, .int .i64 a0_6, .int .i64 a0_7] 44 (0, 0)) (by (with_reducible repeat (first | refine QE ?_ _ | refine QI ?_ | refine QF ?_ _)); exact BK269.out)) : gb269 ≠ gb270)); have n6_ := QN ((by rw [hg]; exact Nat.ne_of_gt (blk_lt (g := gb269) (o := .cells #[.int .i64 a0_0, .int .i64 a0_1, .bool a0_2, .bool a0_3, .slice A0_4 l0_4.length c0_4, .slice A0_5 l0_5.length c0_5, .int .i64 a0_6, .int .i64 a0_7] 44 (0, 0)) (by (with_reducible repeat (first | refine QE ?_ _ | refine QI ?_ | refine QF ?_ _)); exact BK269.out)) : gb270 ≠ gb269)); clear BK269; clear HB; have BK269 := n0_; have HB := n1_; have BK270 := n2_; have GW270 := n3_; have GE270 := n4_; have NB269_270 := n5_; have NB270_269 := n6_; clear n0_ n1_ n2_ n3_ n4_ n5_ n6_; clear hb hbox hg) | ((with_reducible refine gate_dst (N := 3) rfl ?_); refine box_event ?hg (N := 3) ?hd (cs := #[.int .i64 0, .int .i64 0, .bool false, .bool false, .slice none 0 0, .slice none 0 0, .int .i64 0, .int .i64 0]) (t := 26) ?hr ?_; (case hd => rfl); (case hg => rfl); (case hr => first | (go_simp; done) | (go_simp; rfl)); intro gb271 hg w6 hbox hb; have n0_ := QN (blk_below (g := gb269) (o := .cells #[.int .i64 a0_0, .int .i64 a0_1, .bool a0_2, .bool a0_3, .slice A0_4 l0_4.length c0_4, .slice A0_5 l0_5.length c0_5, .int .i64 a0_6, .int .i64 a0_7] 44 (0, 0)) (by (with_reducible repeat (first | refine QE ?_ _ | refine QI ?_ | refine QF ?_ _)); exact BK269.out) hb); have n1_ := QN (blk_below (g := gb270) (o := .cells #[.int .i64 0, .int .i64 0, .bool false, .bool false, .slice none 0 0, .slice none 0 0, .int .i64 0, .int .i64 0] 26 (0, 0)) (by (with_reducible repeat (first | refine QE ?_ _ | refine QI ?_ | refine QF ?_ _)); exact BK270.out) hb); have n2_ := QN (below_step (by repeat (first | (with_reducible first | exact HB.out | apply QH | apply QD | apply QG | refine QJ ?_ GE269.out | refine QJ ?_ GE270.out) | exact HB.out)) hb); have n3_ := QN (hbox); have n4_ := QN ((by rw [hg]; exact (below_size (by repeat (first | (with_reducible first | exact HB.out | apply QH | apply QD | apply QG | refine QJ ?_ GE269.out | refine QJ ?_ GE270.out) | exact HB.out))) : w.heap.size ≤ gb271)); have n5_ := QN ((by rw [hg]; exact (below_size (by repeat (first | (with_reducible first | exact HB.out | apply QH | apply QD | apply QG | refine QJ ?_ GE269.out | refine QJ ?_ GE270.out) | exact HB.out))) : w.heap.size ≤ gb271)); have n6_ := QN ((by rw [hg]; exact Nat.ne_of_lt (blk_lt (g := gb269) (o := .cells #[.int .i64 a0_0, .int .i64 a0_1, .bool a0_2, .bool a0_3, .slice A0_4 l0_4.length c0_4, .slice A0_5 l0_5.length c0_5, .int .i64 a0_6, .int .i64 a0_7] 44 (0, 0)) (by (with_reducible repeat (first | refine QE ?_ _ | refine QI ?_ | refine QF ?_ _)); exact BK269.out)) : gb269 ≠ gb271)); have n7_ := QN ((by rw [hg]; exact Nat.ne_of_gt (blk_lt (g := gb269) (o := .cells #[.int .i64 a0_0, .int .i64 a0_1, .bool a0_2, .bool a0_3, .slice A0_4 l0_4.length c0_4, .slice A0_5 l0_5.length c0_5, .int .i64 a0_6, .int .i64 a0_7] 44 (0, 0)) (by (with_reducible repeat (first | refine QE ?_ _ | refine QI ?_ | refine QF ?_ _)); exact BK269.out)) : gb271 ≠ gb269)); have n8_ := QN ((by rw [hg]; exact Nat.ne_of_lt (blk_lt (g := gb270) (o := .cells #[.int .i64 0, .int .i64 0, .bool false, .bool false, .slice none 0 0, .slice none 0 0, .int .i64 0, .int .i64 0] 26 (0, 0)) (by (with_reducible repeat (first | refine QE ?_ _ | refine QI ?_ | refine QF ?_ _)); exact BK270.out)) : gb270 ≠ gb271)); have n9_ := QN ((by rw [hg]; exact Nat.ne_of_gt (blk_lt (g := gb270) (o := .cells #[.int .i64 0, .int .i64 0, .bool false, .bool false, .slice none 0 0, .slice none 0 0, .int .i64 0, .int .i64 0] 26 (0, 0)) (by (with_reducible repeat (first | refine QE ?_ _ | refine QI ?_ | refine QF ?_ _)); exact BK270.out)) : gb271 ≠ gb270)); clear BK269; clear BK270; clear HB; have BK269 := n0_; have BK270 := n1_; have HB := n2_; have BK271 := n3_; have GW271 := n4_; have GE271 := n5_; have NB269_271 := n6_; have NB271_269 := n7_; have NB270_271 := n8_; have NB271_270 := n9_; clear n0_ n1_ n2_ n3_ n4_ n5_ n6_ n7_ n8_ n9_; clear hb hbox hg; have hnb7 := NB269_270.out; have hnc7 := NB270_269.out; have hnb8 := NB269_271.out; have hnc8 := NB271_269.out; have hcz9_0 : w6.cell? ⟨gb269, 0, none⟩ = some (.int .i64 a0_0) := (QB BK269.out 0).trans rfl; have hcz9_1 : w6.cell? ⟨gb269, 1, none⟩ = some (.int .i64 a0_1) := (QB BK269.out 1).trans rfl; have hcz9_2 : w6.cell? ⟨gb269, 2, none⟩ = some (.bool a0_2) := (QB BK269.out 2).trans rfl; have hcz9_3 : w6.cell? ⟨gb269, 3, none⟩ = some (.bool a0_3) := (QB BK269.out 3).trans rfl; have hcz9_4 : w6.cell? ⟨gb269, 4, none⟩ = some (.slice A0_4 l0_4.length c0_4) := (QB BK269.out 4).trans rfl; have hcz9_5 : w6.cell? ⟨gb269, 5, none⟩ = some (.slice A0_5 l0_5.length c0_5) := (QB BK269.out 5).trans rfl; have hcz9_6 : w6.cell? ⟨gb269, 6, none⟩ = some (.int .i64 a0_6) := (QB BK269.out 6).trans rfl; have hcz9_7 : w6.cell? ⟨gb269, 7, none⟩ = some (.int .i64 a0_7) := (QB BK269.out 7).trans rfl; have hfz9_0 := QC BK269.out 0; have hfz9_1 := QC BK269.out 1; have hfz9_2 := QC BK269.out 2; have hfz9_3 := QC BK269.out 3; have hfz9_4 := QC BK269.out 4; have hfz9_5 := QC BK269.out 5; have hfz9_6 := QC BK269.out 6; have hfz9_7 := QC BK269.out 7; have hnb10 := NB271_270.out; have hnc10 := NB270_271.out; have hcz11_0 : w6.cell? ⟨gb271, 0, none⟩ = some (.int .i64 0) := (QB BK271.out 0).trans rfl; have hcz11_1 : w6.cell? ⟨gb271, 1, none⟩ = some (.int .i64 0) := (QB BK271.out 1).trans rfl; have hcz11_2 : w6.cell? ⟨gb271, 2, none⟩ = some (.bool false) := (QB BK271.out 2).trans rfl; have hcz11_3 : w6.cell? ⟨gb271, 3, none⟩ = some (.bool false) := (QB BK271.out 3).trans rfl; have hcz11_4 : w6.cell? ⟨gb271, 4, none⟩ = some (.slice none 0 0) := (QB BK271.out 4).trans rfl; have hcz11_5 : w6.cell? ⟨gb271, 5, none⟩ = some (.slice none 0 0) := (QB BK271.out 5).trans rfl; have hcz11_6 : w6.cell? ⟨gb271, 6, none⟩ = some (.int .i64 0) := (QB BK271.out 6).trans rfl; have hcz11_7 : w6.cell? ⟨gb271, 7, none⟩ = some (.int .i64 0) := (QB BK271.out 7).trans rfl; have hfz11_0 := QC BK271.out 0; have hfz11_1 := QC BK271.out 1; have hfz11_2 := QC BK271.out 2; have hfz11_3 := QC BK271.out 3; have hfz11_4 := QC BK271.out 4; have hfz11_5 := QC BK271.out 5; have hfz11_6 := QC BK271.out 6; have hfz11_7 := QC BK271.out 7) | ((with_reducible refine gate_callee (f := 52) rfl ?_); refine goesL_ (some 18) rfl rfl Tryd.func52 (by kernel_rfl) rfl #[.slice A0_4 l0_4.length c0_4] rfl (by (try simp only [List.map_toArray, List.map_cons, List.map_nil]); first | done | rfl | (simp only [List.length_drop, List.length_take]; rfl)) ?_; (with_reducible refine (laws_toIntS.calls k _ _ l0_4 t272 _ ?side1 ?side2 A2.out).mono ?_); (case side1 => exact Kd.C_below HR0_4.out (by repeat (first | (with_reducible first | exact HB.out | apply QH | apply QD | apply QG | refine QJ ?_ GE269.out | refine QJ ?_ GE270.out | refine QJ ?_ GE271.out) | exact HB.out))); (case side2 => exact HC0_4.out); rintro e w12 ⟨v273, rfl, ho0, hb⟩; refine ⟨_, rfl, ?_⟩; have n0_ := QN (Kd.R_lower ho0 (below_size (by repeat (first | (with_reducible first | exact HB.out | apply QH | apply QD | apply QG | refine QJ ?_ GE269.out | refine QJ ?_ GE270.out | refine QJ ?_ GE271.out) | exact HB.out)))); have n1_ := QN (blk_below (g := gb269) (o := .cells #[.int .i64 a0_0, .int .i64 a0_1, .bool a0_2, .bool a0_3, .slice A0_4 l0_4.length c0_4, .slice A0_5 l0_5.length c0_5, .int .i64 a0_6, .int .i64 a0_7] 44 (0, 0)) (by (with_reducible repeat (first | refine QE ?_ _ | refine QI ?_ | refine QF ?_ _)); refine blk_far ?_ NB269_271.out _; (with_reducible repeat (first | refine QE ?_ _ | refine QI ?_ | refine QF ?_ _)); refine blk_far ?_ NB269_271.out _; (with_reducible repeat (first | refine QE ?_ _ | refine QI ?_ | refine QF ?_ _)); refine blk_far ?_ NB269_271.out _; (with_reducible repeat (first | refine QE ?_ _ | refine QI ?_ | refine QF ?_ _)); refine blk_far ?_ NB269_271.out _; (with_reducible repeat (first | refine QE ?_ _ | refine QI ?_ | refine QF ?_ _)); exact BK269.out) hb); have n2_ := QN (blk_below (g := gb270) (o := .cells #[.int .i64 0, .int .i64 0, .bool false, .bool false, .slice none 0 0, .slice none 0 0, .int .i64 0, .int .i64 0] 26 (0, 0)) (by (with_reducible repeat (first | refine QE ?_ _ | refine QI ?_ | refine QF ?_ _)); refine blk_far ?_ NB270_271.out _; (with_reducible repeat (first | refine QE ?_ _ | refine QI ?_ | refine QF ?_ _)); refine blk_far ?_ NB270_271.out _; (with_reducible repeat (first | refine QE ?_ _ | refine QI ?_ | refine QF ?_ _)); refine blk_far ?_ NB270_271.out _; (with_reducible repeat (first | refine QE ?_ _ | refine QI ?_ | refine QF ?_ _)); refine blk_far ?_ NB270_271.out _; (with_reducible repeat (first | refine QE ?_ _ | refine QI ?_ | refine QF ?_ _)); exact BK270.out) hb); have n3_ := QN (blk_below (g := gb271) (o := .cells #[.int .i64 a0_0, .int .i64 a0_1, .bool a0_2, .bool a0_3, .slice none 0 0, .slice none 0 0, .int .i64 0, .int .i64 0] 26 (0, 0)) (by (with_reducible repeat (first | refine QE ?_ _ | refine QI ?_ | refine QF ?_ _)); refine blk_put (cs := #[.int .i64 a0_0, .int .i64 a0_1, .bool a0_2, .bool false, .slice none 0 0, .slice none 0 0, .int .i64 0, .int .i64 0]) ?_ 3 _ rfl; (with_reducible repeat (first | refine QE ?_ _ | refine QI ?_ | refine QF ?_ _)); refine blk_put (cs := #[.int .i64 a0_0, .int .i64 a0_1, .bool false, .bool false, .slice none 0 0, .slice none 0 0, .int .i64 0, .int .i64 0]) ?_ 2 _ rfl; (with_reducible repeat (first | refine QE ?_ _ | refine QI ?_ | refine QF ?_ _)); refine blk_put (cs := #[.int .i64 a0_0, .int .i64 0, .bool false, .bool false, .slice none 0 0, .slice none 0 0, .int .i64 0, .int .i64 0]) ?_ 1 _ rfl; (with_reducible repeat (first | refine QE ?_ _ | refine QI ?_ | refine QF ?_ _)); refine blk_put (cs := #[.int .i64 0, .int .i64 0, .bool false, .bool false, .slice none 0 0, .slice none 0 0, .int .i64 0, .int .i64 0]) ?_ 0 _ rfl; (with_reducible repeat (first | refine QE ?_ _ | refine QI ?_ | refine QF ?_ _)); exact BK271.out) hb); have n4_ := QN (below_step (by repeat (first | (with_reducible first | exact HB.out | apply QH | apply QD | apply QG | refine QJ ?_ GE269.out | refine QJ ?_ GE270.out | refine QJ ?_ GE271.out) | exact HB.out)) hb); clear BK269; clear BK270; clear BK271; clear HB; have HO274 := n0_; have BK269 := n1_; have BK270 := n2_; have BK271 := n3_; have HB := n4_; clear n0_ n1_ n2_ n3_ n4_; (try clear hb); (try clear hb2); (try clear hk); (try clear hi); (try clear ho0); obtain ⟨Ao13, co13, eo13⟩ := Kd.R_slice HO274.out; subst eo13; have hcz14_0 : w12.cell? ⟨gb271, 0, none⟩ = some (.int .i64 a0_0) := (QB BK271.out 0).trans rfl; have hcz14_1 : w12.cell? ⟨gb271, 1, none⟩ = some (.int .i64 a0_1) := (QB BK271.out 1).trans rfl; have hcz14_2 : w12.cell? ⟨gb271, 2, none⟩ = some (.bool a0_2) := (QB BK271.out 2).trans rfl; have hcz14_3 : w12.cell? ⟨gb271, 3, none⟩ = some (.bool a0_3) := (QB BK271.out 3).trans rfl; have hcz14_4 : w12.cell? ⟨gb271, 4, none⟩ = some (.slice none 0 0) := (QB BK271.out 4).trans rfl; have hcz14_5 : w12.cell? ⟨gb271, 5, none⟩ = some (.slice none 0 0) := (QB BK271.out 5).trans rfl; have hcz14_6 : w12.cell? ⟨gb271, 6, none⟩ = some (.int .i64 0) := (QB BK271.out 6).trans rfl; have hcz14_7 : w12.cell? ⟨gb271, 7, none⟩ = some (.int .i64 0) := (QB BK271.out 7).trans rfl; have hfz14_0 := QC BK271.out 0; have hfz14_1 := QC BK271.out 1; have hfz14_2 := QC BK271.out 2; have hfz14_3 := QC BK271.out 3; have hfz14_4 := QC BK271.out 4; have hfz14_5 := QC BK271.out 5; have hfz14_6 := QC BK271.out 6; have hfz14_7 := QC BK271.out 7; have hcz15_0 : w12.cell? ⟨gb269, 0, none⟩ = some (.int .i64 a0_0) := (QB BK269.out 0).trans rfl; have hcz15_1 : w12.cell? ⟨gb269, 1, none⟩ = some (.int .i64 a0_1) := (QB BK269.out 1).trans rfl; have hcz15_2 : w12.cell? ⟨gb269, 2, none⟩ = some (.bool a0_2) := (QB BK269.out 2).trans rfl; have hcz15_3 : w12.cell? ⟨gb269, 3, none⟩ = some (.bool a0_3) := (QB BK269.out 3).trans rfl; have hcz15_4 : w12.cell? ⟨gb269, 4, none⟩ = some (.slice A0_4 l0_4.length c0_4) := (QB BK269.out 4).trans rfl; have hcz15_5 : w12.cell? ⟨gb269, 5, none⟩ = some (.slice A0_5 l0_5.length c0_5) := (QB BK269.out 5).trans rfl; have hcz15_6 : w12.cell? ⟨gb269, 6, none⟩ = some (.int .i64 a0_6) := (QB BK269.out 6).trans rfl; have hcz15_7 : w12.cell? ⟨gb269, 7, none⟩ = some (.int .i64 a0_7) := (QB BK269.out 7).trans rfl; have hfz15_0 := QC BK269.out 0; have hfz15_1 := QC BK269.out 1; have hfz15_2 := QC BK269.out 2; have hfz15_3 := QC BK269.out 3; have hfz15_4 := QC BK269.out 4; have hfz15_5 := QC BK269.out 5; have hfz15_6 := QC BK269.out 6; have hfz15_7 := QC BK269.out 7) | ((with_reducible refine gate_callee (f := 52) rfl ?_); refine goesL_ (some 22) rfl rfl Tryd.func52 (by kernel_rfl) rfl #[.slice A0_5 l0_5.length c0_5] rfl (by (try simp only [List.map_toArray, List.map_cons, List.map_nil]); first | done | rfl | (simp only [List.length_drop, List.length_take]; rfl)) ?_; (with_reducible refine (laws_toIntS.calls k _ _ l0_5 t275 _ ?side1 ?side2 A3.out).mono ?_); (case side1 => exact Kd.C_below HR0_5.out (by repeat (first | (with_reducible first | exact HB.out | apply QH | apply QD | apply QG | refine QJ ?_ GE269.out | refine QJ ?_ GE270.out | refine QJ ?_ GE271.out) | exact HB.out))); (case side2 => exact HC0_5.out); rintro e w16 ⟨v276, rfl, ho0, hb⟩; refine ⟨_, rfl, ?_⟩; have n0_ := QN (Kd.R_elder' (by (with_reducible repeat (first | apply Kd.R_alloc | apply Kd.R_drewN | apply Kd.R_drew)); exact (Kd.R_mono (far_r (Kd.R_types HO274.out BK271.out (by decide))) (fun _ h_ => h_.1))) (Kd.R_base ho0) hb); have n1_ := QN (Kd.R_lower (Kd.R_new' ho0 (Kd.R_lt (by (with_reducible repeat (first | apply Kd.R_alloc | apply Kd.R_drewN | apply Kd.R_drew)); exact (Kd.R_mono (far_r (Kd.R_types HO274.out BK271.out (by decide))) (fun _ h_ => h_.1))))) (below_size (by repeat (first | (with_reducible first | exact HB.out | apply QH | apply QD | apply QG | refine QJ ?_ GE269.out | refine QJ ?_ GE270.out | refine QJ ?_ GE271.out) | exact HB.out)))); have n2_ := QN (blk_below (g := gb269) (o := .cells #[.int .i64 a0_0, .int .i64 a0_1, .bool a0_2, .bool a0_3, .slice A0_4 l0_4.length c0_4, .slice A0_5 l0_5.length c0_5, .int .i64 a0_6, .int .i64 a0_7] 44 (0, 0)) (by (with_reducible repeat (first | refine QE ?_ _ | refine QI ?_ | refine QF ?_ _)); refine blk_far ?_ NB269_271.out _; (with_reducible repeat (first | refine QE ?_ _ | refine QI ?_ | refine QF ?_ _)); exact BK269.out) hb); have n3_ := QN (blk_below (g := gb270) (o := .cells #[.int .i64 0, .int .i64 0, .bool false, .bool false, .slice none 0 0, .slice none 0 0, .int .i64 0, .int .i64 0] 26 (0, 0)) (by (with_reducible repeat (first | refine QE ?_ _ | refine QI ?_ | refine QF ?_ _)); refine blk_far ?_ NB270_271.out _; (with_reducible repeat (first | refine QE ?_ _ | refine QI ?_ | refine QF ?_ _)); exact BK270.out) hb); have n4_ := QN (blk_below (g := gb271) (o := .cells #[.int .i64 a0_0, .int .i64 a0_1, .bool a0_2, .bool a0_3, .slice Ao13 t272.length co13, .slice none 0 0, .int .i64 0, .int .i64 0] 26 (0, 0)) (by (with_reducible repeat (first | refine QE ?_ _ | refine QI ?_ | refine QF ?_ _)); refine blk_put (cs := #[.int .i64 a0_0, .int .i64 a0_1, .bool a0_2, .bool a0_3, .slice none 0 0, .slice none 0 0, .int .i64 0, .int .i64 0]) ?_ 4 _ rfl; (with_reducible repeat (first | refine QE ?_ _ | refine QI ?_ | refine QF ?_ _)); exact BK271.out) hb); have n5_ := QN (below_step (by repeat (first | (with_reducible first | exact HB.out | apply QH | apply QD | apply QG | refine QJ ?_ GE269.out | refine QJ ?_ GE270.out | refine QJ ?_ GE271.out) | exact HB.out)) hb); clear HO274; clear BK269; clear BK270; clear BK271; clear HB; have HO274 := n0_; have HO277 := n1_; have BK269 := n2_; have BK270 := n3_; have BK271 := n4_; have HB := n5_; clear n0_ n1_ n2_ n3_ n4_ n5_; (try clear hb); (try clear hb2); (try clear hk); (try clear hi); (try clear ho0); obtain ⟨Ao17, co17, eo17⟩ := Kd.R_slice HO277.out; subst eo17; have hcz18_0 : w16.cell? ⟨gb271, 0, none⟩ = some (.int .i64 a0_0) := (QB BK271.out 0).trans rfl; have hcz18_1 : w16.cell? ⟨gb271, 1, none⟩ = some (.int .i64 a0_1) := (QB BK271.out 1).trans rfl; have hcz18_2 : w16.cell? ⟨gb271, 2, none⟩ = some (.bool a0_2) := (QB BK271.out 2).trans rfl; have hcz18_3 : w16.cell? ⟨gb271, 3, none⟩ = some (.bool a0_3) := (QB BK271.out 3).trans rfl; have hcz18_4 : w16.cell? ⟨gb271, 4, none⟩ = some (.slice Ao13 t272.length co13) := (QB BK271.out 4).trans rfl; have hcz18_5 : w16.cell? ⟨gb271, 5, none⟩ = some (.slice none 0 0) := (QB BK271.out 5).trans rfl; have hcz18_6 : w16.cell? ⟨gb271, 6, none⟩ = some (.int .i64 0) := (QB BK271.out 6).trans rfl; have hcz18_7 : w16.cell? ⟨gb271, 7, none⟩ = some (.int .i64 0) := (QB BK271.out 7).trans rfl; have hfz18_0 := QC BK271.out 0; have hfz18_1 := QC BK271.out 1; have hfz18_2 := QC BK271.out 2; have hfz18_3 := QC BK271.out 3; have hfz18_4 := QC BK271.out 4; have hfz18_5 := QC BK271.out 5; have hfz18_6 := QC BK271.out 6; have hfz18_7 := QC BK271.out 7; have hcz19_0 : w16.cell? ⟨gb269, 0, none⟩ = some (.int .i64 a0_0) := (QB BK269.out 0).trans rfl; have hcz19_1 : w16.cell? ⟨gb269, 1, none⟩ = some (.int .i64 a0_1) := (QB BK269.out 1).trans rfl; have hcz19_2 : w16.cell? ⟨gb269, 2, none⟩ = some (.bool a0_2) := (QB BK269.out 2).trans rfl; have hcz19_3 : w16.cell? ⟨gb269, 3, none⟩ = some (.bool a0_3) := (QB BK269.out 3).trans rfl; have hcz19_4 : w16.cell? ⟨gb269, 4, none⟩ = some (.slice A0_4 l0_4.length c0_4) := (QB BK269.out 4).trans rfl; have hcz19_5 : w16.cell? ⟨gb269, 5, none⟩ = some (.slice A0_5 l0_5.length c0_5) := (QB BK269.out 5).trans rfl; have hcz19_6 : w16.cell? ⟨gb269, 6, none⟩ = some (.int .i64 a0_6) := (QB BK269.out 6).trans rfl; have hcz19_7 : w16.cell? ⟨gb269, 7, none⟩ = some (.int .i64 a0_7) := (QB BK269.out 7).trans rfl; have hfz19_0 := QC BK269.out 0; have hfz19_1 := QC BK269.out 1; have hfz19_2 := QC BK269.out 2; have hfz19_3 := QC BK269.out 3; have hfz19_4 := QC BK269.out 4; have hfz19_5 := QC BK269.out 5; have hfz19_6 := QC BK269.out 6; have hfz19_7 := QC BK269.out 7; have hcz20_0 : w16.cell? ⟨gb270, 0, none⟩ = some (.int .i64 0) := (QB BK270.out 0).trans rfl; have hcz20_1 : w16.cell? ⟨gb270, 1, none⟩ = some (.int .i64 0) := (QB BK270.out 1).trans rfl; have hcz20_2 : w16.cell? ⟨gb270, 2, none⟩ = some (.bool false) := (QB BK270.out 2).trans rfl; have hcz20_3 : w16.cell? ⟨gb270, 3, none⟩ = some (.bool false) := (QB BK270.out 3).trans rfl; have hcz20_4 : w16.cell? ⟨gb270, 4, none⟩ = some (.slice none 0 0) := (QB BK270.out 4).trans rfl; have hcz20_5 : w16.cell? ⟨gb270, 5, none⟩ = some (.slice none 0 0) := (QB BK270.out 5).trans rfl; have hcz20_6 : w16.cell? ⟨gb270, 6, none⟩ = some (.int .i64 0) := (QB BK270.out 6).trans rfl; have hcz20_7 : w16.cell? ⟨gb270, 7, none⟩ = some (.int .i64 0) := (QB BK270.out 7).trans rfl; have hfz20_0 := QC BK270.out 0; have hfz20_1 := QC BK270.out 1; have hfz20_2 := QC BK270.out 2; have hfz20_3 := QC BK270.out 3; have hfz20_4 := QC BK270.out 4; have hfz20_5 := QC BK270.out 5; have hfz20_6 := QC BK270.out 6; have hfz20_7 := QC BK270.out 7))
 refine bodyPost_ret (results_cell_row rfl _ _ gb270 26 #[.int .i64 a0_0, .int .i64 a0_1, .bool a0_2, .bool a0_3, .slice Ao13 t272.length co13, .slice Ao17 t275.length co17, .int .i64 a0_6, .int .i64 a0_7] (0, 0) _ rfl (by (with_reducible repeat (first | refine QE ?_ _ | refine QI ?_ | refine QF ?_ _)); refine blk_put (cs := #[.int .i64 a0_0, .int .i64 a0_1, .bool a0_2, .bool a0_3, .slice Ao13 t272.length co13, .slice Ao17 t275.length co17, .int .i64 a0_6, .int .i64 0]) ?_ 7 _ rfl; (with_reducible repeat (first | refine QE ?_ _ | refine QI ?_ | refine QF ?_ _)); refine blk_put (cs := #[.int .i64 a0_0, .int .i64 a0_1, .bool a0_2, .bool a0_3, .slice Ao13 t272.length co13, .slice Ao17 t275.length co17, .int .i64 0, .int .i64 0]) ?_ 6 _ rfl; (with_reducible repeat (first | refine QE ?_ _ | refine QI ?_ | refine QF ?_ _)); refine blk_put (cs := #[.int .i64 a0_0, .int .i64 a0_1, .bool a0_2, .bool a0_3, .slice Ao13 t272.length co13, .slice none 0 0, .int .i64 0, .int .i64 0]) ?_ 5 _ rfl; (with_reducible repeat (first | refine QE ?_ _ | refine QI ?_ | refine QF ?_ _)); refine blk_put (cs := #[.int .i64 a0_0, .int .i64 a0_1, .bool a0_2, .bool a0_3, .slice none 0 0, .slice none 0 0, .int .i64 0, .int .i64 0]) ?_ 4 _ rfl; (with_reducible repeat (first | refine QE ?_ _ | refine QI ?_ | refine QF ?_ _)); refine blk_put (cs := #[.int .i64 a0_0, .int .i64 a0_1, .bool a0_2, .bool false, .slice none 0 0, .slice none 0 0, .int .i64 0, .int .i64 0]) ?_ 3 _ rfl; (with_reducible repeat (first | refine QE ?_ _ | refine QI ?_ | refine QF ?_ _)); refine blk_put (cs := #[.int .i64 a0_0, .int .i64 a0_1, .bool false, .bool false, .slice none 0 0, .slice none 0 0, .int .i64 0, .int .i64 0]) ?_ 2 _ rfl; (with_reducible repeat (first | refine QE ?_ _ | refine QI ?_ | refine QF ?_ _)); refine blk_put (cs := #[.int .i64 a0_0, .int .i64 0, .bool false, .bool false, .slice none 0 0, .slice none 0 0, .int .i64 0, .int .i64 0]) ?_ 1 _ rfl; (with_reducible repeat (first | refine QE ?_ _ | refine QI ?_ | refine QF ?_ _)); refine blk_put (cs := #[.int .i64 0, .int .i64 0, .bool false, .bool false, .slice none 0 0, .slice none 0 0, .int .i64 0, .int .i64 0]) ?_ 0 _ rfl; (with_reducible repeat (first | refine QE ?_ _ | refine QI ?_ | refine QF ?_ _)); refine blk_far ?_ NB270_271.out _; (with_reducible repeat (first | refine QE ?_ _ | refine QI ?_ | refine QF ?_ _)); refine blk_far ?_ NB270_271.out _; (with_reducible repeat (first | refine QE ?_ _ | refine QI ?_ | refine QF ?_ _)); refine blk_far ?_ NB270_271.out _; (with_reducible repeat (first | refine QE ?_ _ | refine QI ?_ | refine QF ?_ _)); exact BK270.out) Tryd.underlying26 rfl (by kernel_rfl)) rfl ?_
 exact ⟨_, _, by first | rfl | (simp [errW_none, errW_some] <;> rfl) | (simp [*, errW_none, errW_some] <;> rfl), by (with_reducible repeat (first | apply Kd.R_alloc | apply Kd.R_drewN | apply Kd.R_drew)); exact Kd.R_mono (far_r (far_r (far_r (far_r (far_r (far_r (far_r (far_r (Kd.R_far (p := ⟨gb271, 7, none⟩) (Kd.R_far (p := ⟨gb271, 6, none⟩) (Kd.R_far (p := ⟨gb271, 5, none⟩) (Kd.R_types (Kd.R_types HO274.out BK271.out (by decide)) BK270.out (by decide)) (fun _ hk => hk.1.2) (.slice Ao17 t275.length co17)) (fun _ hk => hk.1.2) (.int .i64 a0_6)) (fun _ hk => hk.1.2) (.int .i64 a0_7)))))))))) (fun _ hk => hk.1.1.2), by (with_reducible repeat (first | apply Kd.R_alloc | apply Kd.R_drewN | apply Kd.R_drew)); exact Kd.R_mono (far_r (far_r (far_r (far_r (far_r (far_r (far_r (far_r (Kd.R_far (p := ⟨gb271, 7, none⟩) (Kd.R_far (p := ⟨gb271, 6, none⟩) (Kd.R_far (p := ⟨gb271, 5, none⟩) (Kd.R_types (Kd.R_types HO277.out BK271.out (by decide)) BK270.out (by decide)) (fun _ hk => hk.1.2) (.slice Ao17 t275.length co17)) (fun _ hk => hk.1.2) (.int .i64 a0_6)) (fun _ hk => hk.1.2) (.int .i64 a0_7)))))))))) (fun _ hk => hk.1.1.2), by repeat (first | (with_reducible first | exact HB.out | apply QH | apply QD | apply QG | refine QJ ?_ GE269.out | refine QJ ?_ GE270.out | refine QJ ?_ GE271.out) | exact HB.out)⟩

end Go.Proofs.YtdfmobcocaijpaaDoor.QFnExactRulesText
