/- What a call of each Go function that FnRules reaches comes to, as a Lean function: texts of the kit's print, turned by wip/remake.py. No condition beyond what each names. -/
import Derived.Test.YtdakhelapeojgaaQFnRulesx5
namespace Go.Proofs.Ytdakhelapeojgaa.QFnRules
open Go.RowKit Go.Proofs.YtdakhelapeojgaaW.PrintWords Go.Proofs.YtdakhelapeojgaaW.PrintLast Go.Proofs.YtdakhelapeojgaaW.PrintMore
open Go.Proofs.YtdakhelapeojgaaW.PrintWords renaming blk_cell → QB, blk_drewN → QC, blk_alloc → QD, blk_drew → QG, blk_frozen → QI, below_set → QJ, pw_below_drewN → QO, below_drew1 → QS, below_alloc → QT, blk_below → QV, below_step → Qc, blk_far → Qd, below_size → Qm, blk_put → Qn
open Go.Proofs.YtdakhelapeojgaaW.PrintWords.Kd renaming R_alloc → QE, R_drewN → QF, R_drew → QH, Q_alloc → QK, Q_drewN → QL, Q_drew → QM, R_below → QN, Q_below → QP, Q_far → QR, R_reads' → QU, Q_reads' → QW, C_alloc → QX, C_drewN → QY, C_drew → QZ, R_base → Qa, R_new' → Qb, R_far → Qi, Q_told → Qj
open Go.Proofs.YtdakhelapeojgaaW.PrintLast renaming i64_w → Qe, i32_w → Qf, any_of → Qg, pure_ → Ql
open Go.Proofs.YtdakhelapeojgaaW.PrintMore renaming far_r → Qh
open Go.Proofs.YtdakhelapeojgaaW.PrintMore.Kd renaming R_told → Qk
open List renaming setIfInBounds_toArray → Qo, set_cons_zero → Qp, set_cons_succ → Qq
open Go.Proofs.YtdakhelapeojgaaW.PrintWords.Aside0 renaming mk → Qr
open Option renaming bind_eq_some_iff → Qs
open Bool renaming true → Y1, false → Y0
attribute [local go_sem] max2_int min2_int max_two min_two max_three min_three max_four min_four   -- for this text's walks alone
set_option linter.unusedVariables false
set_option linter.unusedSimpArgs false

/-! ### laws_FnRules: function 11 -/
def laws_FnRules.j0 : Nat → List Int → Int → Bool → Int → Int → Bool → Bool → List Int → List Int → Int → Int → Option (Bool)
 | 0,_,_,_,_,_,_,_,_,_,_,_ => none
 | k + 1,x0,x4,x61,x524000,x524001,x524002,x524003,x524004,x524005,x524006,x524007 => if x61 = true then (some false) else ((spec_DrawFitCount.f k x0).bind fun bt540 => ((impl_FitCount.f k bt540.1 bt540.2.1 bt540.2.2.1 bt540.2.2.2.1 bt540.2.2.2.2.1 bt540.2.2.2.2.2.1 bt540.2.2.2.2.2.2.1 bt540.2.2.2.2.2.2.2.1 bt540.2.2.2.2.2.2.2.2).bind fun t554 => ((spec_DrawEqualRules.f k x0).bind fun bt555 => (if t554 ≥ 0 then (if t554 < 52 then ((impl_IsRules.f k bt540.1 bt540.2.1 bt540.2.2.1 bt540.2.2.2.1 bt540.2.2.2.2.1 bt540.2.2.2.2.2.1 bt540.2.2.2.2.2.2.1 bt540.2.2.2.2.2.2.2.1).bind fun t581 => (if t581 = true then ((impl_IsCard.f bt540.2.2.2.2.2.2.2.2).bind fun t582 => (if ((decide (t554 > 0)) == t582) = true then ((impl_EasyRules.f).bind fun bt583 => ((impl_IsRules.f k bt583.1 bt583.2.1 bt583.2.2.1 bt583.2.2.2.1 bt583.2.2.2.2.1 bt583.2.2.2.2.2.1 bt583.2.2.2.2.2.2.1 bt583.2.2.2.2.2.2.2).bind fun t595 => (if t595 = true then ((impl_EqualRules.f k bt555.1 bt555.2.1 bt555.2.2.1 bt555.2.2.2.1 bt555.2.2.2.2.1 bt555.2.2.2.2.2.1 bt555.2.2.2.2.2.2.1 bt555.2.2.2.2.2.2.2.1 bt555.2.2.2.2.2.2.2.2.1 bt555.2.2.2.2.2.2.2.2.2.1 bt555.2.2.2.2.2.2.2.2.2.2.1 bt555.2.2.2.2.2.2.2.2.2.2.2.1 bt555.2.2.2.2.2.2.2.2.2.2.2.2.1 bt555.2.2.2.2.2.2.2.2.2.2.2.2.2.1 bt555.2.2.2.2.2.2.2.2.2.2.2.2.2.2.1 bt555.2.2.2.2.2.2.2.2.2.2.2.2.2.2.2).bind fun t596 => ((impl_EqualRules.f k bt555.2.2.2.2.2.2.2.2.1 bt555.2.2.2.2.2.2.2.2.2.1 bt555.2.2.2.2.2.2.2.2.2.2.1 bt555.2.2.2.2.2.2.2.2.2.2.2.1 bt555.2.2.2.2.2.2.2.2.2.2.2.2.1 bt555.2.2.2.2.2.2.2.2.2.2.2.2.2.1 bt555.2.2.2.2.2.2.2.2.2.2.2.2.2.2.1 bt555.2.2.2.2.2.2.2.2.2.2.2.2.2.2.2 bt555.1 bt555.2.1 bt555.2.2.1 bt555.2.2.2.1 bt555.2.2.2.2.1 bt555.2.2.2.2.2.1 bt555.2.2.2.2.2.2.1 bt555.2.2.2.2.2.2.2.1).bind fun t597 => (if (t596 == t597) = true then ((impl_EqualRules.f k bt555.1 bt555.2.1 bt555.2.2.1 bt555.2.2.2.1 bt555.2.2.2.2.1 bt555.2.2.2.2.2.1 bt555.2.2.2.2.2.2.1 bt555.2.2.2.2.2.2.2.1 bt555.1 bt555.2.1 bt555.2.2.1 bt555.2.2.2.1 bt555.2.2.2.2.1 bt555.2.2.2.2.2.1 bt555.2.2.2.2.2.2.1 bt555.2.2.2.2.2.2.2.1).bind fun t598 => (if t598 = true then ((impl_DoesSkip.f k x524000 x524001 x524002 x524003 x524004 x524005 x524006 x524007 x4).bind fun t599 => (if t599 = true then ((impl_IsRules.f k x524000 x524001 x524002 x524003 x524004 x524005 x524006 x524007).bind fun t600 => (some t600)) else (some true))) else (some false))) else (some false)))) else (some false)))) else (some false))) else (if ((decide (t554 > 0)) == false) = true then ((impl_EasyRules.f).bind fun bt601 => ((impl_IsRules.f k bt601.1 bt601.2.1 bt601.2.2.1 bt601.2.2.2.1 bt601.2.2.2.2.1 bt601.2.2.2.2.2.1 bt601.2.2.2.2.2.2.1 bt601.2.2.2.2.2.2.2).bind fun t613 => (if t613 = true then ((impl_EqualRules.f k bt555.1 bt555.2.1 bt555.2.2.1 bt555.2.2.2.1 bt555.2.2.2.2.1 bt555.2.2.2.2.2.1 bt555.2.2.2.2.2.2.1 bt555.2.2.2.2.2.2.2.1 bt555.2.2.2.2.2.2.2.2.1 bt555.2.2.2.2.2.2.2.2.2.1 bt555.2.2.2.2.2.2.2.2.2.2.1 bt555.2.2.2.2.2.2.2.2.2.2.2.1 bt555.2.2.2.2.2.2.2.2.2.2.2.2.1 bt555.2.2.2.2.2.2.2.2.2.2.2.2.2.1 bt555.2.2.2.2.2.2.2.2.2.2.2.2.2.2.1 bt555.2.2.2.2.2.2.2.2.2.2.2.2.2.2.2).bind fun t614 => ((impl_EqualRules.f k bt555.2.2.2.2.2.2.2.2.1 bt555.2.2.2.2.2.2.2.2.2.1 bt555.2.2.2.2.2.2.2.2.2.2.1 bt555.2.2.2.2.2.2.2.2.2.2.2.1 bt555.2.2.2.2.2.2.2.2.2.2.2.2.1 bt555.2.2.2.2.2.2.2.2.2.2.2.2.2.1 bt555.2.2.2.2.2.2.2.2.2.2.2.2.2.2.1 bt555.2.2.2.2.2.2.2.2.2.2.2.2.2.2.2 bt555.1 bt555.2.1 bt555.2.2.1 bt555.2.2.2.1 bt555.2.2.2.2.1 bt555.2.2.2.2.2.1 bt555.2.2.2.2.2.2.1 bt555.2.2.2.2.2.2.2.1).bind fun t615 => (if (t614 == t615) = true then ((impl_EqualRules.f k bt555.1 bt555.2.1 bt555.2.2.1 bt555.2.2.2.1 bt555.2.2.2.2.1 bt555.2.2.2.2.2.1 bt555.2.2.2.2.2.2.1 bt555.2.2.2.2.2.2.2.1 bt555.1 bt555.2.1 bt555.2.2.1 bt555.2.2.2.1 bt555.2.2.2.2.1 bt555.2.2.2.2.2.1 bt555.2.2.2.2.2.2.1 bt555.2.2.2.2.2.2.2.1).bind fun t616 => (if t616 = true then ((impl_DoesSkip.f k x524000 x524001 x524002 x524003 x524004 x524005 x524006 x524007 x4).bind fun t617 => (if t617 = true then ((impl_IsRules.f k x524000 x524001 x524002 x524003 x524004 x524005 x524006 x524007).bind fun t618 => (some t618)) else (some true))) else (some false))) else (some false)))) else (some false)))) else (some false)))) else (some false)) else (some false)))))
def laws_FnRules.f (k : Nat) (l0 : List Int) : Option (Bool) := (laws_big.f l0).bind fun t508 => (if t508 = true then (some true) else ((spec_DrawFitsOn.f k l0).bind fun bt509 => ((impl_FitsOn.f k bt509.1 bt509.2.1 bt509.2.2.1 bt509.2.2.2.1 bt509.2.2.2.2.1 bt509.2.2.2.2.2.1 bt509.2.2.2.2.2.2.1 bt509.2.2.2.2.2.2.2.1 bt509.2.2.2.2.2.2.2.2.1 bt509.2.2.2.2.2.2.2.2.2).bind fun t524 => (if (bt509.2.2.2.2.1.length : Int) = 0 then ((impl_FitsOn.f k bt509.1 bt509.2.1 bt509.2.2.1 bt509.2.2.2.1 bt509.2.2.2.2.1 bt509.2.2.2.2.2.1 bt509.2.2.2.2.2.2.1 bt509.2.2.2.2.2.2.2.1 bt509.2.2.2.2.2.2.2.2.2 bt509.2.2.2.2.2.2.2.2.1).bind fun t525 => (if (t524 != t525) = true then (laws_FnRules.j0 k l0 bt509.2.2.2.2.2.2.2.2.1 true bt509.1 bt509.2.1 bt509.2.2.1 bt509.2.2.2.1 bt509.2.2.2.2.1 bt509.2.2.2.2.2.1 bt509.2.2.2.2.2.2.1 bt509.2.2.2.2.2.2.2.1) else ((impl_IsRules.f k bt509.1 bt509.2.1 bt509.2.2.1 bt509.2.2.2.1 bt509.2.2.2.2.1 bt509.2.2.2.2.2.1 bt509.2.2.2.2.2.2.1 bt509.2.2.2.2.2.2.2.1).bind fun t526 => (if t526 = true then ((impl_IsCard.f bt509.2.2.2.2.2.2.2.2.1).bind fun t527 => (if t527 = true then ((impl_Matches.f k bt509.2.2.2.2.1 bt509.2.2.2.2.2.2.2.2.2).bind fun t528 => (if t528 = true then (if t524 = true then ((impl_IsRules.f k bt509.1 bt509.2.1 bt509.2.2.1 bt509.2.2.2.1 bt509.2.2.2.2.1 bt509.2.2.2.2.2.1 bt509.2.2.2.2.2.2.1 bt509.2.2.2.2.2.2.2.1).bind fun t529 => (laws_FnRules.j0 k l0 bt509.2.2.2.2.2.2.2.2.1 (!t529) bt509.1 bt509.2.1 bt509.2.2.1 bt509.2.2.2.1 bt509.2.2.2.2.1 bt509.2.2.2.2.2.1 bt509.2.2.2.2.2.2.1 bt509.2.2.2.2.2.2.2.1)) else (laws_FnRules.j0 k l0 bt509.2.2.2.2.2.2.2.2.1 true bt509.1 bt509.2.1 bt509.2.2.1 bt509.2.2.2.1 bt509.2.2.2.2.1 bt509.2.2.2.2.2.1 bt509.2.2.2.2.2.2.1 bt509.2.2.2.2.2.2.2.1)) else (if t524 = true then ((impl_IsRules.f k bt509.1 bt509.2.1 bt509.2.2.1 bt509.2.2.2.1 bt509.2.2.2.2.1 bt509.2.2.2.2.2.1 bt509.2.2.2.2.2.2.1 bt509.2.2.2.2.2.2.2.1).bind fun t530 => (laws_FnRules.j0 k l0 bt509.2.2.2.2.2.2.2.2.1 (!t530) bt509.1 bt509.2.1 bt509.2.2.1 bt509.2.2.2.1 bt509.2.2.2.2.1 bt509.2.2.2.2.2.1 bt509.2.2.2.2.2.2.1 bt509.2.2.2.2.2.2.2.1)) else (laws_FnRules.j0 k l0 bt509.2.2.2.2.2.2.2.2.1 false bt509.1 bt509.2.1 bt509.2.2.1 bt509.2.2.2.1 bt509.2.2.2.2.1 bt509.2.2.2.2.2.1 bt509.2.2.2.2.2.2.1 bt509.2.2.2.2.2.2.2.1)))) else (if t524 = true then ((impl_IsRules.f k bt509.1 bt509.2.1 bt509.2.2.1 bt509.2.2.2.1 bt509.2.2.2.2.1 bt509.2.2.2.2.2.1 bt509.2.2.2.2.2.2.1 bt509.2.2.2.2.2.2.2.1).bind fun t531 => (laws_FnRules.j0 k l0 bt509.2.2.2.2.2.2.2.2.1 (!t531) bt509.1 bt509.2.1 bt509.2.2.1 bt509.2.2.2.1 bt509.2.2.2.2.1 bt509.2.2.2.2.2.1 bt509.2.2.2.2.2.2.1 bt509.2.2.2.2.2.2.2.1)) else (laws_FnRules.j0 k l0 bt509.2.2.2.2.2.2.2.2.1 false bt509.1 bt509.2.1 bt509.2.2.1 bt509.2.2.2.1 bt509.2.2.2.2.1 bt509.2.2.2.2.2.1 bt509.2.2.2.2.2.2.1 bt509.2.2.2.2.2.2.2.1)))) else (if t524 = true then ((impl_IsRules.f k bt509.1 bt509.2.1 bt509.2.2.1 bt509.2.2.2.1 bt509.2.2.2.2.1 bt509.2.2.2.2.2.1 bt509.2.2.2.2.2.2.1 bt509.2.2.2.2.2.2.2.1).bind fun t532 => (laws_FnRules.j0 k l0 bt509.2.2.2.2.2.2.2.2.1 (!t532) bt509.1 bt509.2.1 bt509.2.2.1 bt509.2.2.2.1 bt509.2.2.2.2.1 bt509.2.2.2.2.2.1 bt509.2.2.2.2.2.2.1 bt509.2.2.2.2.2.2.2.1)) else (laws_FnRules.j0 k l0 bt509.2.2.2.2.2.2.2.2.1 false bt509.1 bt509.2.1 bt509.2.2.1 bt509.2.2.2.1 bt509.2.2.2.2.1 bt509.2.2.2.2.2.1 bt509.2.2.2.2.2.2.1 bt509.2.2.2.2.2.2.2.1)))))) else ((impl_IsRules.f k bt509.1 bt509.2.1 bt509.2.2.1 bt509.2.2.2.1 bt509.2.2.2.2.1 bt509.2.2.2.2.2.1 bt509.2.2.2.2.2.2.1 bt509.2.2.2.2.2.2.2.1).bind fun t533 => (if t533 = true then ((impl_IsCard.f bt509.2.2.2.2.2.2.2.2.1).bind fun t534 => (if t534 = true then ((impl_Matches.f k bt509.2.2.2.2.1 bt509.2.2.2.2.2.2.2.2.2).bind fun t535 => (if t535 = true then (if t524 = true then ((impl_IsRules.f k bt509.1 bt509.2.1 bt509.2.2.1 bt509.2.2.2.1 bt509.2.2.2.2.1 bt509.2.2.2.2.2.1 bt509.2.2.2.2.2.2.1 bt509.2.2.2.2.2.2.2.1).bind fun t536 => (laws_FnRules.j0 k l0 bt509.2.2.2.2.2.2.2.2.1 (!t536) bt509.1 bt509.2.1 bt509.2.2.1 bt509.2.2.2.1 bt509.2.2.2.2.1 bt509.2.2.2.2.2.1 bt509.2.2.2.2.2.2.1 bt509.2.2.2.2.2.2.2.1)) else (laws_FnRules.j0 k l0 bt509.2.2.2.2.2.2.2.2.1 true bt509.1 bt509.2.1 bt509.2.2.1 bt509.2.2.2.1 bt509.2.2.2.2.1 bt509.2.2.2.2.2.1 bt509.2.2.2.2.2.2.1 bt509.2.2.2.2.2.2.2.1)) else (if t524 = true then ((impl_IsRules.f k bt509.1 bt509.2.1 bt509.2.2.1 bt509.2.2.2.1 bt509.2.2.2.2.1 bt509.2.2.2.2.2.1 bt509.2.2.2.2.2.2.1 bt509.2.2.2.2.2.2.2.1).bind fun t537 => (laws_FnRules.j0 k l0 bt509.2.2.2.2.2.2.2.2.1 (!t537) bt509.1 bt509.2.1 bt509.2.2.1 bt509.2.2.2.1 bt509.2.2.2.2.1 bt509.2.2.2.2.2.1 bt509.2.2.2.2.2.2.1 bt509.2.2.2.2.2.2.2.1)) else (laws_FnRules.j0 k l0 bt509.2.2.2.2.2.2.2.2.1 false bt509.1 bt509.2.1 bt509.2.2.1 bt509.2.2.2.1 bt509.2.2.2.2.1 bt509.2.2.2.2.2.1 bt509.2.2.2.2.2.2.1 bt509.2.2.2.2.2.2.2.1)))) else (if t524 = true then ((impl_IsRules.f k bt509.1 bt509.2.1 bt509.2.2.1 bt509.2.2.2.1 bt509.2.2.2.2.1 bt509.2.2.2.2.2.1 bt509.2.2.2.2.2.2.1 bt509.2.2.2.2.2.2.2.1).bind fun t538 => (laws_FnRules.j0 k l0 bt509.2.2.2.2.2.2.2.2.1 (!t538) bt509.1 bt509.2.1 bt509.2.2.1 bt509.2.2.2.1 bt509.2.2.2.2.1 bt509.2.2.2.2.2.1 bt509.2.2.2.2.2.2.1 bt509.2.2.2.2.2.2.2.1)) else (laws_FnRules.j0 k l0 bt509.2.2.2.2.2.2.2.2.1 false bt509.1 bt509.2.1 bt509.2.2.1 bt509.2.2.2.1 bt509.2.2.2.2.1 bt509.2.2.2.2.2.1 bt509.2.2.2.2.2.2.1 bt509.2.2.2.2.2.2.2.1)))) else (if t524 = true then ((impl_IsRules.f k bt509.1 bt509.2.1 bt509.2.2.1 bt509.2.2.2.1 bt509.2.2.2.2.1 bt509.2.2.2.2.2.1 bt509.2.2.2.2.2.2.1 bt509.2.2.2.2.2.2.2.1).bind fun t539 => (laws_FnRules.j0 k l0 bt509.2.2.2.2.2.2.2.2.1 (!t539) bt509.1 bt509.2.1 bt509.2.2.1 bt509.2.2.2.1 bt509.2.2.2.2.1 bt509.2.2.2.2.2.1 bt509.2.2.2.2.2.2.1 bt509.2.2.2.2.2.2.2.1)) else (laws_FnRules.j0 k l0 bt509.2.2.2.2.2.2.2.2.1 false bt509.1 bt509.2.1 bt509.2.2.1 bt509.2.2.2.1 bt509.2.2.2.2.1 bt509.2.2.2.2.2.1 bt509.2.2.2.2.2.2.1 bt509.2.2.2.2.2.2.2.1))))))))
theorem laws_FnRules.mono_l : ∀ k, (∀ y0 y1 y2 y3 y4 y5 y6 y7 y8 y9 y10, LeO (laws_FnRules.j0 k y0 y1 y2 y3 y4 y5 y6 y7 y8 y9 y10) (laws_FnRules.j0 (k + 1) y0 y1 y2 y3 y4 y5 y6 y7 y8 y9 y10))
 | 0 => fun _ _ _ _ _ _ _ _ _ _ _ r h => by simp [laws_FnRules.j0] at h
 | k + 1 => by
  have ih0 := laws_FnRules.mono_l k
  ·intro y0 y1 y2 y3 y4 y5 y6 y7 y8 y9 y10
   unfold laws_FnRules.j0
   repeat' first
   | (with_reducible exact ih0 _ _ _ _ _ _ _ _ _ _ _)
   | (with_reducible exact impl_DoesSkip.mono _ _ _ _ _ _ _ _ _ _)
   | (with_reducible exact impl_EqualRules.mono _ _ _ _ _ _ _ _ _ _ _ _ _ _ _ _ _)
   | (with_reducible exact impl_FitCount.mono _ _ _ _ _ _ _ _ _ _)
   | (with_reducible exact impl_FitsOn.mono _ _ _ _ _ _ _ _ _ _ _)
   | (with_reducible exact impl_IsRules.mono _ _ _ _ _ _ _ _ _)
   | (with_reducible exact impl_Matches.mono _ _ _)
   | (with_reducible exact spec_DrawEqualRules.mono _ _)
   | (with_reducible exact spec_DrawFitCount.mono _ _)
   | (with_reducible exact spec_DrawFitsOn.mono _ _)
   | (with_reducible exact LeO.refl _)
   | (with_reducible exact LeO.none _)
   | (with_reducible refine LeO.ite ?_ ?_)
   | (with_reducible refine LeO.bind ?_ (fun _ => ?_))
   | exact ih0 _ _ _ _ _ _ _ _ _ _ _
   | exact impl_DoesSkip.mono _ _ _ _ _ _ _ _ _ _
   | exact impl_EqualRules.mono _ _ _ _ _ _ _ _ _ _ _ _ _ _ _ _ _
   | exact impl_FitCount.mono _ _ _ _ _ _ _ _ _ _
   | exact impl_FitsOn.mono _ _ _ _ _ _ _ _ _ _ _
   | exact impl_IsRules.mono _ _ _ _ _ _ _ _ _
   | exact impl_Matches.mono _ _ _
   | exact spec_DrawEqualRules.mono _ _
   | exact spec_DrawFitCount.mono _ _
   | exact spec_DrawFitsOn.mono _ _
   | exact LeO.none _
   | refine LeO.ite ?_ ?_
   | refine LeO.bind ?_ (fun _ => ?_)
theorem laws_FnRules.mono : ∀ a0 k, LeO (laws_FnRules.f k a0) (laws_FnRules.f (k + 1) a0) := by
 intro a0 k
 have ih0 := laws_FnRules.mono_l k
 unfold laws_FnRules.f
 repeat' first
   | (with_reducible exact ih0 _ _ _ _ _ _ _ _ _ _ _)
   | (with_reducible exact impl_DoesSkip.mono _ _ _ _ _ _ _ _ _ _)
   | (with_reducible exact impl_EqualRules.mono _ _ _ _ _ _ _ _ _ _ _ _ _ _ _ _ _)
   | (with_reducible exact impl_FitCount.mono _ _ _ _ _ _ _ _ _ _)
   | (with_reducible exact impl_FitsOn.mono _ _ _ _ _ _ _ _ _ _ _)
   | (with_reducible exact impl_IsRules.mono _ _ _ _ _ _ _ _ _)
   | (with_reducible exact impl_Matches.mono _ _ _)
   | (with_reducible exact spec_DrawEqualRules.mono _ _)
   | (with_reducible exact spec_DrawFitCount.mono _ _)
   | (with_reducible exact spec_DrawFitsOn.mono _ _)
   | (with_reducible exact LeO.refl _)
   | (with_reducible exact LeO.none _)
   | (with_reducible refine LeO.ite ?_ ?_)
   | (with_reducible refine LeO.bind ?_ (fun _ => ?_))
   | exact ih0 _ _ _ _ _ _ _ _ _ _ _
   | exact impl_DoesSkip.mono _ _ _ _ _ _ _ _ _ _
   | exact impl_EqualRules.mono _ _ _ _ _ _ _ _ _ _ _ _ _ _ _ _ _
   | exact impl_FitCount.mono _ _ _ _ _ _ _ _ _ _
   | exact impl_FitsOn.mono _ _ _ _ _ _ _ _ _ _ _
   | exact impl_IsRules.mono _ _ _ _ _ _ _ _ _
   | exact impl_Matches.mono _ _ _
   | exact spec_DrawEqualRules.mono _ _
   | exact spec_DrawFitCount.mono _ _
   | exact spec_DrawFitsOn.mono _ _
   | exact LeO.none _
   | refine LeO.ite ?_ ?_
   | refine LeO.bind ?_ (fun _ => ?_)
def laws_FnRules.T10 : Bool × List (List Nat × List Nat) := (true, [([], []), ([0], [0]), ([1], [1]), ([2], [2]), ([3, 2], [2, 3]), ([2, 4], [2, 4]), ([5, 2], [5]), ([6], [6]), ([7, 6], [6, 7]), ([6], [6]), ([9, 6, 6], [6, 9]), ([10, 10, 6], [6, 10]), ([11], [11]), ([12, 11, 11], [11, 12]), ([11, 13, 6], [6, 11, 13]), ([8, 14, 6], [6, 8, 14]), ([6, 15], [6, 15]), ([16, 13], [16]), ([17, 17], [17]), ([18, 18, 17], [17, 18]), ([17, 19], [17, 19]), ([20, 19], [20]), ([21], [21]), ([21], [21]), ([22, 23, 21, 21], [21, 22, 23]), ([21], [21]), ([21], [21]), ([25, 26, 24, 21], [21, 25, 26]), ([24, 27, 21], [21, 24, 27]), ([21, 28], [21, 28]), ([29, 27], [29]), ([30], [30]), ([30], [30]), ([31, 32, 30, 30], [30, 31, 32]), ([30, 33], [30, 33]), ([34, 33], [34]), ([35], [35]), ([35], [35]), ([36, 37, 35, 35], [35, 36, 37]), ([38, 35], [35, 38]), ([39, 38, 35], [35, 39]), ([40], [40]), ([41, 40, 40], [40, 41]), ([40, 42, 35], [35, 40, 42]), ([35, 43], [35, 43]), ([44, 42, 0, 1, 2, 3, 4, 5, 6, 7, 8, 9, 10, 11, 12, 13, 14, 15, 16, 17, 18, 19, 20, 21, 22, 23, 24, 25, 26, 27, 28, 29, 30, 31, 32, 33, 34, 35, 36, 37, 38, 39, 40, 41, 42, 43, 44], [44])])
def laws_FnRules.B10 : List Nat := [0, 1, 3, 7, 15, 31, 63, 127, 255, 127, 639, 1663, 3711, 7807, 15999, 32767, 65535, 131071, 262143, 524287, 1048575, 2097151, 4194303, 4194303, 16777215, 4194303, 4194303, 134217727, 268435455, 536870911, 1073741823, 2147483647, 2147483647, 8589934591, 17179869183, 34359738367, 68719476735, 68719476735, 274877906943, 549755813887, 1099511627775, 2199023255551, 4398046511103, 8796093022207, 17592186044415, 35184372088831]
theorem laws_FnRules.tab10 : rtab .any (opsOf Try.f11 10) = laws_FnRules.T10 := by kernel_rfl
theorem laws_FnRules.bits10 : waitsOk laws_FnRules.T10.2 laws_FnRules.B10 = true := by kernel_rfl
set_option maxHeartbeats 8000000 in
set_option maxRecDepth 100000 in
theorem laws_FnRules.calls (k : Nat) (A0 : Option Addr) (c0 : Nat) (l0 : List Int) (r : Bool) (w : World) (hr0 : Kd.C (Kd.int .u8) w A0 l0.length l0) (hc0 : l0.length ≤ c0) (h : laws_FnRules.f k l0 = some r) (hT : r = true) :
  Calls Try.prog 11 #[.slice A0 l0.length c0] w fun e w' => e = .returned (.bool r) ∧ Below w.heap.size w w' := by
 have HT := Qr hT
 clear hT
 have hu74 := Try.underlying74
 have HR0 := Qr hr0
 have HC0 := Qr hc0
 clear hr0 hc0
 have HB := Qr (Below.refl w.heap.size w)
 have H := h
 unfold laws_FnRules.f at H
 clear h
 replace H := Qs.mp H
 obtain ⟨t508,A20,H⟩ := H
 have A2 := Qr A20
 clear A20
 by_cases c3 : t508 = true
 ·subst c3
  rw [if_pos rfl] at H
  obtain rfl := Option.some.inj H
  go_enter Try.func11,Try.ntmps11
  go_wp2_with (first | ((with_reducible refine gate_callee (f := 32) rfl ?_); refine goesL_ (some 13) rfl rfl Try.func32 (by kernel_rfl) rfl #[.slice A0 l0.length c0] rfl (by (try simp only [List.map_toArray,List.map_cons,List.map_nil]); first | done | rfl | (simp only [List.length_drop,List.length_take]; rfl)) ?_; (with_reducible refine (laws_big.calls _ _ l0 true _ ?side1 ?side2 A2.out).mono ?_); (case side1 => repeat (first | exact HR0.out | (with_reducible refine QX ?_ _) | (with_reducible refine QY ?_ _) | (with_reducible refine QZ ?_))); (case side2 => exact HC0.out); rintro e w' ⟨rfl,⟨nd,rfl⟩⟩; refine ⟨_,rfl,?_⟩))
  go_ret
  exact ⟨by first | rfl | (simp [errW_none,errW_some] <;> rfl) | (simp [*,errW_none,errW_some] <;> rfl),by repeat (first | (with_reducible first | exact HB.out | apply QT | apply QO | apply QS) | exact HB.out)⟩
 ·replace c3 := Bool.eq_false_iff.mpr c3
  subst c3
  rw [if_neg (show ¬ (false = true) by decide)] at H
  replace H := Qs.mp H
  obtain ⟨⟨t509,t510,t511,t512,t513,t516,t519,t520,t521,t522⟩,A40,H⟩ := H
  replace H : ((impl_FitsOn.f k t509 t510 t511 t512 t513 t516 t519 t520 t521 t522).bind fun t524 => (if (t513.length : Int) = 0 then ((impl_FitsOn.f k t509 t510 t511 t512 t513 t516 t519 t520 t522 t521).bind fun t525 => (if (t524 != t525) = true then (laws_FnRules.j0 k l0 t521 true t509 t510 t511 t512 t513 t516 t519 t520) else ((impl_IsRules.f k t509 t510 t511 t512 t513 t516 t519 t520).bind fun t526 => (if t526 = true then ((impl_IsCard.f t521).bind fun t527 => (if t527 = true then ((impl_Matches.f k t513 t522).bind fun t528 => (if t528 = true then (if t524 = true then ((impl_IsRules.f k t509 t510 t511 t512 t513 t516 t519 t520).bind fun t529 => (laws_FnRules.j0 k l0 t521 (!t529) t509 t510 t511 t512 t513 t516 t519 t520)) else (laws_FnRules.j0 k l0 t521 true t509 t510 t511 t512 t513 t516 t519 t520)) else (if t524 = true then ((impl_IsRules.f k t509 t510 t511 t512 t513 t516 t519 t520).bind fun t530 => (laws_FnRules.j0 k l0 t521 (!t530) t509 t510 t511 t512 t513 t516 t519 t520)) else (laws_FnRules.j0 k l0 t521 false t509 t510 t511 t512 t513 t516 t519 t520)))) else (if t524 = true then ((impl_IsRules.f k t509 t510 t511 t512 t513 t516 t519 t520).bind fun t531 => (laws_FnRules.j0 k l0 t521 (!t531) t509 t510 t511 t512 t513 t516 t519 t520)) else (laws_FnRules.j0 k l0 t521 false t509 t510 t511 t512 t513 t516 t519 t520)))) else (if t524 = true then ((impl_IsRules.f k t509 t510 t511 t512 t513 t516 t519 t520).bind fun t532 => (laws_FnRules.j0 k l0 t521 (!t532) t509 t510 t511 t512 t513 t516 t519 t520)) else (laws_FnRules.j0 k l0 t521 false t509 t510 t511 t512 t513 t516 t519 t520)))))) else ((impl_IsRules.f k t509 t510 t511 t512 t513 t516 t519 t520).bind fun t533 => (if t533 = true then ((impl_IsCard.f t521).bind fun t534 => (if t534 = true then ((impl_Matches.f k t513 t522).bind fun t535 => (if t535 = true then (if t524 = true then ((impl_IsRules.f k t509 t510 t511 t512 t513 t516 t519 t520).bind fun t536 => (laws_FnRules.j0 k l0 t521 (!t536) t509 t510 t511 t512 t513 t516 t519 t520)) else (laws_FnRules.j0 k l0 t521 true t509 t510 t511 t512 t513 t516 t519 t520)) else (if t524 = true then ((impl_IsRules.f k t509 t510 t511 t512 t513 t516 t519 t520).bind fun t537 => (laws_FnRules.j0 k l0 t521 (!t537) t509 t510 t511 t512 t513 t516 t519 t520)) else (laws_FnRules.j0 k l0 t521 false t509 t510 t511 t512 t513 t516 t519 t520)))) else (if t524 = true then ((impl_IsRules.f k t509 t510 t511 t512 t513 t516 t519 t520).bind fun t538 => (laws_FnRules.j0 k l0 t521 (!t538) t509 t510 t511 t512 t513 t516 t519 t520)) else (laws_FnRules.j0 k l0 t521 false t509 t510 t511 t512 t513 t516 t519 t520)))) else (if t524 = true then ((impl_IsRules.f k t509 t510 t511 t512 t513 t516 t519 t520).bind fun t539 => (laws_FnRules.j0 k l0 t521 (!t539) t509 t510 t511 t512 t513 t516 t519 t520)) else (laws_FnRules.j0 k l0 t521 false t509 t510 t511 t512 t513 t516 t519 t520)))))) = some r := H
  have A4 := Qr A40
  clear A40
  replace H := Qs.mp H
  obtain ⟨t524,A50,H⟩ := H
  have A5 := Qr A50
  clear A50
  have HC6 := Qr H
  clear H
  go_enter Try.func11,Try.ntmps11
  go_upto_region 5 with (first | ((with_reducible refine gate_callee (f := 32) rfl ?_); refine goesL_ (some 13) rfl rfl Try.func32 (by kernel_rfl) rfl #[.slice A0 l0.length c0] rfl (by (try simp only [List.map_toArray,List.map_cons,List.map_nil]); first | done | rfl | (simp only [List.length_drop,List.length_take]; rfl)) ?_; (with_reducible refine (laws_big.calls _ _ l0 false _ ?side1 ?side2 A2.out).mono ?_); (case side1 => repeat (first | exact HR0.out | (with_reducible refine QX ?_ _) | (with_reducible refine QY ?_ _) | (with_reducible refine QZ ?_))); (case side2 => exact HC0.out); rintro e w' ⟨rfl,⟨nd,rfl⟩⟩; refine ⟨_,rfl,?_⟩) | ((with_reducible refine gate_callee (f := 62) rfl ?_); refine goesL_ (some 16) rfl rfl Try.func62 (by kernel_rfl) rfl #[.slice A0 l0.length c0] rfl (by (try simp only [List.map_toArray,List.map_cons,List.map_nil]); first | done | rfl | (simp only [List.length_drop,List.length_take]; rfl)) ?_; (with_reducible refine (spec_DrawFitsOn.calls k _ _ l0 t509 t510 t511 t512 t513 t516 t519 t520 t521 t522 _ ?side1 ?side2 A4.out).mono ?_); (case side1 => repeat (first | exact HR0.out | (with_reducible refine QX ?_ _) | (with_reducible refine QY ?_ _) | (with_reducible refine QZ ?_))); (case side2 => exact HC0.out); rintro e w7 ⟨v514,v517,rfl,ho0,ho1,hb⟩; refine ⟨_,rfl,?_⟩; have n0_ := Qr (Kd.Q_lower ho0 (Qm (by repeat (first | (with_reducible first | exact HB.out | apply QT | apply QO | apply QS) | exact HB.out)))); have n1_ := Qr (Kd.R_lower ho1 (Qm (by repeat (first | (with_reducible first | exact HB.out | apply QT | apply QO | apply QS) | exact HB.out)))); have n2_ := Qr (Qc (by repeat (first | (with_reducible first | exact HB.out | apply QT | apply QO | apply QS) | exact HB.out)) hb); clear HB; revert n0_ n1_ n2_; intro HO515 HO518 HB; (try clear hb); (try clear hb2); (try clear hk); (try clear hi); (try clear ho0); (try clear ho1)) | ((with_reducible refine gate_dst (N := 3) rfl ?_); refine box_event ?hg (N := 3) ?hd (cs := #[.int .i64 0,.int .i64 0,.bool false,.bool false,.slice none 0 0,.slice none 0 0,.int .i64 0,.int .i64 0]) (t := 74) ?hr ?_; (case hd => rfl); (case hg => rfl); (case hr => first | (go_simp; done) | (go_simp; rfl)); intro gb523 hg w8 hbox hb; have n0_ := Qr (QP (by (with_reducible repeat (first | apply QK | apply QL | apply QM)); exact HO515.out) hb); have n1_ := Qr (QN (by (with_reducible repeat (first | apply QE | apply QF | apply QH)); exact HO518.out) hb); have n2_ := Qr (Qc (by repeat (first | (with_reducible first | exact HB.out | apply QT | apply QO | apply QS) | exact HB.out)) hb); have n3_ := Qr (hbox); have n4_ := Qr ((by rw [hg]; exact (Qm (by repeat (first | (with_reducible first | exact HB.out | apply QT | apply QO | apply QS) | exact HB.out))) : w.heap.size ≤ gb523)); have n5_ := Qr ((by rw [hg]; exact (Qm (by repeat (first | (with_reducible first | exact HB.out | apply QT | apply QO | apply QS) | exact HB.out))) : w.heap.size ≤ gb523)); clear HO515; clear HO518; clear HB; revert n0_ n1_ n2_ n3_ n4_ n5_; intro HO515 HO518 HB BK523 GW523 GE523; clear hb hbox hg; have hcz9_0 : w8.cell? ⟨gb523,0,none⟩ = some (.int .i64 0) := (QB BK523.out 0).trans rfl; have hcz9_1 : w8.cell? ⟨gb523,1,none⟩ = some (.int .i64 0) := (QB BK523.out 1).trans rfl; have hcz9_2 : w8.cell? ⟨gb523,2,none⟩ = some (.bool false) := (QB BK523.out 2).trans rfl; have hcz9_3 : w8.cell? ⟨gb523,3,none⟩ = some (.bool false) := (QB BK523.out 3).trans rfl; have hcz9_4 : w8.cell? ⟨gb523,4,none⟩ = some (.slice none 0 0) := (QB BK523.out 4).trans rfl; have hcz9_5 : w8.cell? ⟨gb523,5,none⟩ = some (.slice none 0 0) := (QB BK523.out 5).trans rfl; have hcz9_6 : w8.cell? ⟨gb523,6,none⟩ = some (.int .i64 0) := (QB BK523.out 6).trans rfl; have hcz9_7 : w8.cell? ⟨gb523,7,none⟩ = some (.int .i64 0) := (QB BK523.out 7).trans rfl; have hfz9_0 := QI BK523.out 0; have hfz9_1 := QI BK523.out 1; have hfz9_2 := QI BK523.out 2; have hfz9_3 := QI BK523.out 3; have hfz9_4 := QI BK523.out 4; have hfz9_5 := QI BK523.out 5; have hfz9_6 := QI BK523.out 6; have hfz9_7 := QI BK523.out 7; obtain ⟨Ao10,co10,eo10,_⟩ := Kd.Q_slice HO515.out; subst eo10; obtain ⟨Ao11,co11,eo11⟩ := Kd.R_slice HO518.out; subst eo11) | ((with_reducible refine gate_callee (f := 63) rfl ?_); refine goesL_ (some 23) rfl rfl Try.func63 (by kernel_rfl) rfl #[.agg #[.int .i64 t509,.int .i64 t510,.bool t511,.bool t512,.slice Ao10 t513.length co10,.slice Ao11 t516.length co11,.int .i64 t519,.int .i64 t520],.int .i64 t521,.int .i64 t522] rfl (by (try simp only [List.map_toArray,List.map_cons,List.map_nil]); first | done | rfl | (simp only [List.length_drop,List.length_take]; rfl)) ?_; (with_reducible refine (impl_FitsOn.calls k t509 t510 t511 t512 _ _ t513 _ _ t516 t519 t520 t521 t522 t524 _ ?side1 ?side2 ?side3 ?side4 A5.out).mono ?_); (case side1 => refine (QW (e := 3) (base := w.heap.size) (ok := fun k_ => some k_ ≠ (.slice Ao11 t516.length co11 : Value).ownBlock) (n := t513.length) (c := co10) ?_).2.2; exact (by (with_reducible repeat (first | apply QK | apply QL | apply QM)); exact (Kd.Q_mono (QR (p := ⟨gb523,7,none⟩) (QR (p := ⟨gb523,6,none⟩) (QR (p := ⟨gb523,5,none⟩) (QR (p := ⟨gb523,4,none⟩) (QR (p := ⟨gb523,3,none⟩) (QR (p := ⟨gb523,2,none⟩) (QR (p := ⟨gb523,1,none⟩) (QR (p := ⟨gb523,0,none⟩) (Kd.Q_types HO515.out BK523.out (by decide)) (fun _ hk => hk.2) (.int .i64 t509)) (fun _ hk => hk.2) (.int .i64 t510)) (fun _ hk => hk.2) (.bool t511)) (fun _ hk => hk.2) (.bool t512)) (fun _ hk => hk.2) (.slice Ao10 t513.length co10)) (fun _ hk => hk.2) (.slice Ao11 t516.length co11)) (fun _ hk => hk.2) (.int .i64 t519)) (fun _ hk => hk.2) (.int .i64 t520)) (fun _ h_ => h_.1)))); (case side2 => exact (QW HO515.out).2.1); (case side3 => refine (QU (e := 3) (base := w.heap.size) (ok := fun k_ => some k_ ≠ (.slice Ao10 t513.length co10 : Value).ownBlock) (n := t516.length) (c := co11) ?_).2.2; exact (by (with_reducible repeat (first | apply QE | apply QF | apply QH)); exact (Kd.R_mono (Qh (Qh (Qh (Qh (Qh (Qh (Qh (Qh (Kd.R_types HO518.out BK523.out (by decide)))))))))) (fun _ h_ => h_.1)))); (case side4 => exact (QU HO518.out).2.1); rintro e w12 ⟨rfl,hb⟩; refine ⟨_,rfl,?_⟩; have n0_ := Qr (QP (by (with_reducible repeat (first | apply QK | apply QL | apply QM)); exact (Kd.Q_mono (QR (p := ⟨gb523,7,none⟩) (QR (p := ⟨gb523,6,none⟩) (QR (p := ⟨gb523,5,none⟩) (QR (p := ⟨gb523,4,none⟩) (QR (p := ⟨gb523,3,none⟩) (QR (p := ⟨gb523,2,none⟩) (QR (p := ⟨gb523,1,none⟩) (QR (p := ⟨gb523,0,none⟩) (Kd.Q_types HO515.out BK523.out (by decide)) (fun _ hk => hk.2) (.int .i64 t509)) (fun _ hk => hk.2) (.int .i64 t510)) (fun _ hk => hk.2) (.bool t511)) (fun _ hk => hk.2) (.bool t512)) (fun _ hk => hk.2) (.slice Ao10 t513.length co10)) (fun _ hk => hk.2) (.slice Ao11 t516.length co11)) (fun _ hk => hk.2) (.int .i64 t519)) (fun _ hk => hk.2) (.int .i64 t520)) (fun _ h_ => h_.1))) hb); have n1_ := Qr (QN (by (with_reducible repeat (first | apply QE | apply QF | apply QH)); exact (Kd.R_mono (Qh (Qh (Qh (Qh (Qh (Qh (Qh (Qh (Kd.R_types HO518.out BK523.out (by decide)))))))))) (fun _ h_ => h_.1))) hb); have n2_ := Qr (QV (g := gb523) (o := .cells #[.int .i64 t509,.int .i64 t510,.bool t511,.bool t512,.slice Ao10 t513.length co10,.slice Ao11 t516.length co11,.int .i64 t519,.int .i64 t520] 74 (0,0)) (by (with_reducible repeat (first | refine QC ?_ _ | refine QG ?_ | refine QD ?_ _)); refine Qn (cs := #[.int .i64 t509,.int .i64 t510,.bool t511,.bool t512,.slice Ao10 t513.length co10,.slice Ao11 t516.length co11,.int .i64 t519,.int .i64 0]) ?_ 7 _ rfl; (with_reducible repeat (first | refine QC ?_ _ | refine QG ?_ | refine QD ?_ _)); refine Qn (cs := #[.int .i64 t509,.int .i64 t510,.bool t511,.bool t512,.slice Ao10 t513.length co10,.slice Ao11 t516.length co11,.int .i64 0,.int .i64 0]) ?_ 6 _ rfl; (with_reducible repeat (first | refine QC ?_ _ | refine QG ?_ | refine QD ?_ _)); refine Qn (cs := #[.int .i64 t509,.int .i64 t510,.bool t511,.bool t512,.slice Ao10 t513.length co10,.slice none 0 0,.int .i64 0,.int .i64 0]) ?_ 5 _ rfl; (with_reducible repeat (first | refine QC ?_ _ | refine QG ?_ | refine QD ?_ _)); refine Qn (cs := #[.int .i64 t509,.int .i64 t510,.bool t511,.bool t512,.slice none 0 0,.slice none 0 0,.int .i64 0,.int .i64 0]) ?_ 4 _ rfl; (with_reducible repeat (first | refine QC ?_ _ | refine QG ?_ | refine QD ?_ _)); refine Qn (cs := #[.int .i64 t509,.int .i64 t510,.bool t511,.bool false,.slice none 0 0,.slice none 0 0,.int .i64 0,.int .i64 0]) ?_ 3 _ rfl; (with_reducible repeat (first | refine QC ?_ _ | refine QG ?_ | refine QD ?_ _)); refine Qn (cs := #[.int .i64 t509,.int .i64 t510,.bool false,.bool false,.slice none 0 0,.slice none 0 0,.int .i64 0,.int .i64 0]) ?_ 2 _ rfl; (with_reducible repeat (first | refine QC ?_ _ | refine QG ?_ | refine QD ?_ _)); refine Qn (cs := #[.int .i64 t509,.int .i64 0,.bool false,.bool false,.slice none 0 0,.slice none 0 0,.int .i64 0,.int .i64 0]) ?_ 1 _ rfl; (with_reducible repeat (first | refine QC ?_ _ | refine QG ?_ | refine QD ?_ _)); refine Qn (cs := #[.int .i64 0,.int .i64 0,.bool false,.bool false,.slice none 0 0,.slice none 0 0,.int .i64 0,.int .i64 0]) ?_ 0 _ rfl; (with_reducible repeat (first | refine QC ?_ _ | refine QG ?_ | refine QD ?_ _)); exact BK523.out) hb); have n3_ := Qr (Qc (by repeat (first | (with_reducible first | exact HB.out | apply QT | apply QO | apply QS | refine QJ ?_ GE523.out) | exact HB.out)) hb); clear HO515; clear HO518; clear BK523; clear HB; revert n0_ n1_ n2_ n3_; intro HO515 HO518 BK523 HB; (try clear hb); (try clear hb2); (try clear hk); (try clear hi)))
  (try simp only [Act.put,Qo,Qp,Qq])
  go_cut [61] (fun v61 wc => ∃ (kq : Nat) (x61_5 : Bool),v61 = .bool x61_5 ∧ Aside0 (laws_FnRules.j0 kq l0 t521 x61_5 t509 t510 t511 t512 t513 t516 t519 t520 = some r) ∧ Aside0 (kq ≤ k) ∧ Aside0 (Kd.Q (Kd.int .i64) 3 wc w.heap.size (fun k_ => some k_ ≠ ((.slice Ao11 t516.length co11) : Value).ownBlock) (.slice Ao10 t513.length co10) t513) ∧ Aside0 (Kd.R (Kd.int .i64) 3 wc w.heap.size (fun k_ => some k_ ≠ ((.slice Ao10 t513.length co10) : Value).ownBlock) (.slice Ao11 t516.length co11) t516) ∧ Aside0 (wc.heap[gb523]? = some (.cells #[.int .i64 t509,.int .i64 t510,.bool t511,.bool t512,(.slice Ao10 t513.length co10),(.slice Ao11 t516.length co11),.int .i64 t519,.int .i64 t520] 74 (0,0))) ∧ Aside0 (Below w.heap.size w wc))
  case first =>
   have H := HC6.out
   clear HC6
   by_cases c13 : (t513.length : Int) = 0
   ·rw [if_pos c13] at H
    have c13b0 : ((t513.length : Int) == 0) = true := beq_iff_eq.mpr c13
    have c13b1 : ((t513.length : Int) != 0) = false := bne_eq_false_iff_eq.mpr c13
    clear c13
    (first | rw [c13b0] | (simp only [Qe,Qf]; rw [c13b0]) | skip)
    replace H := Qs.mp H
    obtain ⟨t525,A140,H⟩ := H
    have A14 := Qr A140
    clear A140
    by_cases c15 : (t524 != t525) = true
    rotate_left
    rw [if_neg c15] at H
    have c15b0 : (t524 != t525) = false := by simpa using c15
    (try (have c15b1 : decide (t524 = t525) = true := by simpa using c15))
    (try (have c15b2 : (t524 == t525) = true := by simpa using c15))
    clear c15
    replace H := Qs.mp H
    obtain ⟨t526,A180,H⟩ := H
    have A18 := Qr A180
    clear A180
    by_cases c19 : t526 = true
    rotate_left
    replace c19 := Bool.eq_false_iff.mpr c19
    subst c19
    rw [if_neg (show ¬ (false = true) by decide)] at H
    by_cases c24 : t524 = true
    rotate_left
    replace c24 := Bool.eq_false_iff.mpr c24
    subst c24
    rw [if_neg (show ¬ (false = true) by decide)] at H
    have H' := Qr H
    clear H
    rotate_right
    ·subst c24
     rw [if_pos rfl] at H
     replace H := Qs.mp H
     obtain ⟨t529,A250,H⟩ := H
     have A25 := Qr A250
     clear A250
     (try have E_t532 := Option.some.inj (A25.out.symm.trans A57.out))
     (try have E_t532 := Option.some.inj (A25.out.symm.trans A41.out))
     (try have E_t532 := Option.some.inj (A25.out.symm.trans A18.out))
     have H' := Qr H
     clear H
     have hcz70_0 : w12.cell? ⟨gb523,0,none⟩ = some (.int .i64 t509) := (QB BK523.out 0).trans rfl
     have hcz70_1 : w12.cell? ⟨gb523,1,none⟩ = some (.int .i64 t510) := (QB BK523.out 1).trans rfl
     have hcz70_2 : w12.cell? ⟨gb523,2,none⟩ = some (.bool t511) := (QB BK523.out 2).trans rfl
     have hcz70_3 : w12.cell? ⟨gb523,3,none⟩ = some (.bool t512) := (QB BK523.out 3).trans rfl
     have hcz70_4 : w12.cell? ⟨gb523,4,none⟩ = some (.slice Ao10 t513.length co10) := (QB BK523.out 4).trans rfl
     have hcz70_5 : w12.cell? ⟨gb523,5,none⟩ = some (.slice Ao11 t516.length co11) := (QB BK523.out 5).trans rfl
     have hcz70_6 : w12.cell? ⟨gb523,6,none⟩ = some (.int .i64 t519) := (QB BK523.out 6).trans rfl
     have hcz70_7 : w12.cell? ⟨gb523,7,none⟩ = some (.int .i64 t520) := (QB BK523.out 7).trans rfl
     have hfz70_0 := QI BK523.out 0
     have hfz70_1 := QI BK523.out 1
     have hfz70_2 := QI BK523.out 2
     have hfz70_3 := QI BK523.out 3
     have hfz70_4 := QI BK523.out 4
     have hfz70_5 := QI BK523.out 5
     have hfz70_6 := QI BK523.out 6
     have hfz70_7 := QI BK523.out 7
     go_wp2_with (first | (go_at_call 63; (with_reducible refine (impl_FitsOn.calls k t509 t510 t511 t512 _ _ t513 _ _ t516 t519 t520 t522 t521 t525 _ ?side1 ?side2 ?side3 ?side4 A14.out).mono ?_); (case side1 => repeat (first | exact (QW HO515.out).2.2 | (with_reducible refine QX ?_ _) | (with_reducible refine QY ?_ _) | (with_reducible refine QZ ?_))); (case side2 => exact (QW HO515.out).2.1); (case side3 => repeat (first | exact (QU HO518.out).2.2 | (with_reducible refine QX ?_ _) | (with_reducible refine QY ?_ _) | (with_reducible refine QZ ?_))); (case side4 => exact (QU HO518.out).2.1); rintro e w71 ⟨rfl,hb⟩; have n0_ := Qr (QP (by (with_reducible repeat (first | apply QK | apply QL | apply QM)); exact HO515.out) hb); have n1_ := Qr (QN (by (with_reducible repeat (first | apply QE | apply QF | apply QH)); exact HO518.out) hb); have n2_ := Qr (QV (g := gb523) (o := .cells #[.int .i64 t509,.int .i64 t510,.bool t511,.bool t512,.slice Ao10 t513.length co10,.slice Ao11 t516.length co11,.int .i64 t519,.int .i64 t520] 74 (0,0)) (by (with_reducible repeat (first | refine QC ?_ _ | refine QG ?_ | refine QD ?_ _)); exact BK523.out) hb); have n3_ := Qr (Qc (by repeat (first | (with_reducible first | exact HB.out | apply QT | apply QO | apply QS | refine QJ ?_ GE523.out) | exact HB.out)) hb); clear HO515; clear HO518; clear BK523; clear HB; revert n0_ n1_ n2_ n3_; intro HO515 HO518 BK523 HB; (try clear hb); (try clear hb2); (try clear hk); (try clear hi); have hcz72_0 : w71.cell? ⟨gb523,0,none⟩ = some (.int .i64 t509) := (QB BK523.out 0).trans rfl; have hcz72_1 : w71.cell? ⟨gb523,1,none⟩ = some (.int .i64 t510) := (QB BK523.out 1).trans rfl; have hcz72_2 : w71.cell? ⟨gb523,2,none⟩ = some (.bool t511) := (QB BK523.out 2).trans rfl; have hcz72_3 : w71.cell? ⟨gb523,3,none⟩ = some (.bool t512) := (QB BK523.out 3).trans rfl; have hcz72_4 : w71.cell? ⟨gb523,4,none⟩ = some (.slice Ao10 t513.length co10) := (QB BK523.out 4).trans rfl; have hcz72_5 : w71.cell? ⟨gb523,5,none⟩ = some (.slice Ao11 t516.length co11) := (QB BK523.out 5).trans rfl; have hcz72_6 : w71.cell? ⟨gb523,6,none⟩ = some (.int .i64 t519) := (QB BK523.out 6).trans rfl; have hcz72_7 : w71.cell? ⟨gb523,7,none⟩ = some (.int .i64 t520) := (QB BK523.out 7).trans rfl; have hfz72_0 := QI BK523.out 0; have hfz72_1 := QI BK523.out 1; have hfz72_2 := QI BK523.out 2; have hfz72_3 := QI BK523.out 3; have hfz72_4 := QI BK523.out 4; have hfz72_5 := QI BK523.out 5; have hfz72_6 := QI BK523.out 6; have hfz72_7 := QI BK523.out 7) | (go_at_call 64; (with_reducible refine (impl_IsRules.calls k t509 t510 t511 t512 _ _ t513 _ _ t516 t519 t520 false _ ?side1 ?side2 ?side3 ?side4 A18.out).mono ?_); (case side1 => repeat (first | exact (QW HO515.out).2.2 | (with_reducible refine QX ?_ _) | (with_reducible refine QY ?_ _) | (with_reducible refine QZ ?_))); (case side2 => exact (QW HO515.out).2.1); (case side3 => repeat (first | exact (QU HO518.out).2.2 | (with_reducible refine QX ?_ _) | (with_reducible refine QY ?_ _) | (with_reducible refine QZ ?_))); (case side4 => exact (QU HO518.out).2.1); rintro e w73 ⟨rfl,hb⟩; have n0_ := Qr (QP (by (with_reducible repeat (first | apply QK | apply QL | apply QM)); exact HO515.out) hb); have n1_ := Qr (QN (by (with_reducible repeat (first | apply QE | apply QF | apply QH)); exact HO518.out) hb); have n2_ := Qr (QV (g := gb523) (o := .cells #[.int .i64 t509,.int .i64 t510,.bool t511,.bool t512,.slice Ao10 t513.length co10,.slice Ao11 t516.length co11,.int .i64 t519,.int .i64 t520] 74 (0,0)) (by (with_reducible repeat (first | refine QC ?_ _ | refine QG ?_ | refine QD ?_ _)); exact BK523.out) hb); have n3_ := Qr (Qc (by repeat (first | (with_reducible first | exact HB.out | apply QT | apply QO | apply QS | refine QJ ?_ GE523.out) | exact HB.out)) hb); clear HO515; clear HO518; clear BK523; clear HB; revert n0_ n1_ n2_ n3_; intro HO515 HO518 BK523 HB; (try clear hb); (try clear hb2); (try clear hk); (try clear hi); have hcz74_0 : w73.cell? ⟨gb523,0,none⟩ = some (.int .i64 t509) := (QB BK523.out 0).trans rfl; have hcz74_1 : w73.cell? ⟨gb523,1,none⟩ = some (.int .i64 t510) := (QB BK523.out 1).trans rfl; have hcz74_2 : w73.cell? ⟨gb523,2,none⟩ = some (.bool t511) := (QB BK523.out 2).trans rfl; have hcz74_3 : w73.cell? ⟨gb523,3,none⟩ = some (.bool t512) := (QB BK523.out 3).trans rfl; have hcz74_4 : w73.cell? ⟨gb523,4,none⟩ = some (.slice Ao10 t513.length co10) := (QB BK523.out 4).trans rfl; have hcz74_5 : w73.cell? ⟨gb523,5,none⟩ = some (.slice Ao11 t516.length co11) := (QB BK523.out 5).trans rfl; have hcz74_6 : w73.cell? ⟨gb523,6,none⟩ = some (.int .i64 t519) := (QB BK523.out 6).trans rfl; have hcz74_7 : w73.cell? ⟨gb523,7,none⟩ = some (.int .i64 t520) := (QB BK523.out 7).trans rfl; have hfz74_0 := QI BK523.out 0; have hfz74_1 := QI BK523.out 1; have hfz74_2 := QI BK523.out 2; have hfz74_3 := QI BK523.out 3; have hfz74_4 := QI BK523.out 4; have hfz74_5 := QI BK523.out 5; have hfz74_6 := QI BK523.out 6; have hfz74_7 := QI BK523.out 7) | (go_at_call 64; (with_reducible refine (impl_IsRules.calls k t509 t510 t511 t512 _ _ t513 _ _ t516 t519 t520 t529 _ ?side1 ?side2 ?side3 ?side4 A25.out).mono ?_); (case side1 => repeat (first | exact (QW HO515.out).2.2 | (with_reducible refine QX ?_ _) | (with_reducible refine QY ?_ _) | (with_reducible refine QZ ?_))); (case side2 => exact (QW HO515.out).2.1); (case side3 => repeat (first | exact (QU HO518.out).2.2 | (with_reducible refine QX ?_ _) | (with_reducible refine QY ?_ _) | (with_reducible refine QZ ?_))); (case side4 => exact (QU HO518.out).2.1); rintro e w75 ⟨rfl,hb⟩; have n0_ := Qr (QP (by (with_reducible repeat (first | apply QK | apply QL | apply QM)); exact HO515.out) hb); have n1_ := Qr (QN (by (with_reducible repeat (first | apply QE | apply QF | apply QH)); exact HO518.out) hb); have n2_ := Qr (QV (g := gb523) (o := .cells #[.int .i64 t509,.int .i64 t510,.bool t511,.bool t512,.slice Ao10 t513.length co10,.slice Ao11 t516.length co11,.int .i64 t519,.int .i64 t520] 74 (0,0)) (by (with_reducible repeat (first | refine QC ?_ _ | refine QG ?_ | refine QD ?_ _)); exact BK523.out) hb); have n3_ := Qr (Qc (by repeat (first | (with_reducible first | exact HB.out | apply QT | apply QO | apply QS | refine QJ ?_ GE523.out) | exact HB.out)) hb); clear HO515; clear HO518; clear BK523; clear HB; revert n0_ n1_ n2_ n3_; intro HO515 HO518 BK523 HB; (try clear hb); (try clear hb2); (try clear hk); (try clear hi)))
     go_meet
     case rel => exact ⟨_,(!t529),(by first | rfl | (simp; done) | (simp [*]; done)),H',⟨by first | omega | exact Nat.le_refl _⟩,⟨by (with_reducible repeat (first | apply QK | apply QL | apply QM)); exact HO515.out⟩,⟨by (with_reducible repeat (first | apply QE | apply QF | apply QH)); exact HO518.out⟩,⟨by (with_reducible repeat (first | refine QC ?_ _ | refine QG ?_ | refine QD ?_ _)); exact BK523.out⟩,⟨by repeat (first | (with_reducible first | exact HB.out | apply QT | apply QO | apply QS | refine QJ ?_ GE523.out) | exact HB.out)⟩⟩
    rotate_right
    subst c19
    rw [if_pos rfl] at H
    replace H := Qs.mp H
    obtain ⟨t527,A200,H⟩ := H
    have A20 := Qr A200
    clear A200
    by_cases c21 : t527 = true
    rotate_left
    replace c21 := Bool.eq_false_iff.mpr c21
    subst c21
    rw [if_neg (show ¬ (false = true) by decide)] at H
    by_cases c24 : t524 = true
    rotate_left
    replace c24 := Bool.eq_false_iff.mpr c24
    subst c24
    rw [if_neg (show ¬ (false = true) by decide)] at H
    have H' := Qr H
    clear H
    rotate_right
    subst c24
    rw [if_pos rfl] at H
    replace H := Qs.mp H
    obtain ⟨t529,A250,H⟩ := H
    have A25 := Qr A250
    clear A250
    (try have E_t531 := Option.some.inj (A25.out.symm.trans A41.out))
    (try have E_t531 := Option.some.inj (A25.out.symm.trans A18.out))
    have H' := Qr H
    clear H
    rotate_right
    subst c21
    rw [if_pos rfl] at H
    replace H := Qs.mp H
    obtain ⟨t528,A220,H⟩ := H
    have A22 := Qr A220
    clear A220
    by_cases c23 : t528 = true
    rotate_left
    replace c23 := Bool.eq_false_iff.mpr c23
    subst c23
    rw [if_neg (show ¬ (false = true) by decide)] at H
    by_cases c24 : t524 = true
    rotate_left
    replace c24 := Bool.eq_false_iff.mpr c24
    subst c24
    rw [if_neg (show ¬ (false = true) by decide)] at H
    have H' := Qr H
    clear H
    rotate_right
    subst c24
    rw [if_pos rfl] at H
    replace H := Qs.mp H
    obtain ⟨t529,A250,H⟩ := H
    have A25 := Qr A250
    clear A250
    (try have E_t530 := Option.some.inj (A25.out.symm.trans A18.out))
    have H' := Qr H
    clear H
    rotate_right
    subst c23
    rw [if_pos rfl] at H
    by_cases c24 : t524 = true
    rotate_left
    replace c24 := Bool.eq_false_iff.mpr c24
    subst c24
    rw [if_neg (show ¬ (false = true) by decide)] at H
    have H' := Qr H
    clear H
    rotate_right
    subst c24
    rw [if_pos rfl] at H
    replace H := Qs.mp H
    obtain ⟨t529,A250,H⟩ := H
    have A25 := Qr A250
    clear A250
    (try have E_t529 := Option.some.inj (A25.out.symm.trans A18.out))
    have H' := Qr H
    clear H
    rotate_right
    rw [if_pos c15] at H
    have c15b0 : (t524 != t525) = true := c15
    (try (have c15b1 : decide (t524 = t525) = false := by simpa using c15))
    (try (have c15b2 : (t524 == t525) = false := by simpa using c15))
    (try (have c15b3 : ¬ (t524 = t525) := by simpa using c15))
    clear c15
    have H' := Qr H
    clear H
    all_goals
     have hcz42_0 : w12.cell? ⟨gb523,0,none⟩ = some (.int .i64 t509) := (QB BK523.out 0).trans rfl
     have hcz42_1 : w12.cell? ⟨gb523,1,none⟩ = some (.int .i64 t510) := (QB BK523.out 1).trans rfl
     have hcz42_2 : w12.cell? ⟨gb523,2,none⟩ = some (.bool t511) := (QB BK523.out 2).trans rfl
     have hcz42_3 : w12.cell? ⟨gb523,3,none⟩ = some (.bool t512) := (QB BK523.out 3).trans rfl
     have hcz42_4 : w12.cell? ⟨gb523,4,none⟩ = some (.slice Ao10 t513.length co10) := (QB BK523.out 4).trans rfl
     have hcz42_5 : w12.cell? ⟨gb523,5,none⟩ = some (.slice Ao11 t516.length co11) := (QB BK523.out 5).trans rfl
     have hcz42_6 : w12.cell? ⟨gb523,6,none⟩ = some (.int .i64 t519) := (QB BK523.out 6).trans rfl
     have hcz42_7 : w12.cell? ⟨gb523,7,none⟩ = some (.int .i64 t520) := (QB BK523.out 7).trans rfl
     have hfz42_0 := QI BK523.out 0
     have hfz42_1 := QI BK523.out 1
     have hfz42_2 := QI BK523.out 2
     have hfz42_3 := QI BK523.out 3
     have hfz42_4 := QI BK523.out 4
     have hfz42_5 := QI BK523.out 5
     have hfz42_6 := QI BK523.out 6
     have hfz42_7 := QI BK523.out 7
     go_wp2_with (first | (go_at_call 63; (with_reducible refine (impl_FitsOn.calls k t509 t510 t511 t512 _ _ t513 _ _ t516 t519 t520 t522 t521 t525 _ ?side1 ?side2 ?side3 ?side4 A14.out).mono ?_); (case side1 => repeat (first | exact (QW HO515.out).2.2 | (with_reducible refine QX ?_ _) | (with_reducible refine QY ?_ _) | (with_reducible refine QZ ?_))); (case side2 => exact (QW HO515.out).2.1); (case side3 => repeat (first | exact (QU HO518.out).2.2 | (with_reducible refine QX ?_ _) | (with_reducible refine QY ?_ _) | (with_reducible refine QZ ?_))); (case side4 => exact (QU HO518.out).2.1); rintro e w43 ⟨rfl,hb⟩; have n0_ := Qr (QP (by (with_reducible repeat (first | apply QK | apply QL | apply QM)); exact HO515.out) hb); have n1_ := Qr (QN (by (with_reducible repeat (first | apply QE | apply QF | apply QH)); exact HO518.out) hb); have n2_ := Qr (QV (g := gb523) (o := .cells #[.int .i64 t509,.int .i64 t510,.bool t511,.bool t512,.slice Ao10 t513.length co10,.slice Ao11 t516.length co11,.int .i64 t519,.int .i64 t520] 74 (0,0)) (by (with_reducible repeat (first | refine QC ?_ _ | refine QG ?_ | refine QD ?_ _)); exact BK523.out) hb); have n3_ := Qr (Qc (by repeat (first | (with_reducible first | exact HB.out | apply QT | apply QO | apply QS | refine QJ ?_ GE523.out) | exact HB.out)) hb); clear HO515; clear HO518; clear BK523; clear HB; revert n0_ n1_ n2_ n3_; intro HO515 HO518 BK523 HB; (try clear hb); (try clear hb2); (try clear hk); (try clear hi); have hcz44_0 : w43.cell? ⟨gb523,0,none⟩ = some (.int .i64 t509) := (QB BK523.out 0).trans rfl; have hcz44_1 : w43.cell? ⟨gb523,1,none⟩ = some (.int .i64 t510) := (QB BK523.out 1).trans rfl; have hcz44_2 : w43.cell? ⟨gb523,2,none⟩ = some (.bool t511) := (QB BK523.out 2).trans rfl; have hcz44_3 : w43.cell? ⟨gb523,3,none⟩ = some (.bool t512) := (QB BK523.out 3).trans rfl; have hcz44_4 : w43.cell? ⟨gb523,4,none⟩ = some (.slice Ao10 t513.length co10) := (QB BK523.out 4).trans rfl; have hcz44_5 : w43.cell? ⟨gb523,5,none⟩ = some (.slice Ao11 t516.length co11) := (QB BK523.out 5).trans rfl; have hcz44_6 : w43.cell? ⟨gb523,6,none⟩ = some (.int .i64 t519) := (QB BK523.out 6).trans rfl; have hcz44_7 : w43.cell? ⟨gb523,7,none⟩ = some (.int .i64 t520) := (QB BK523.out 7).trans rfl; have hfz44_0 := QI BK523.out 0; have hfz44_1 := QI BK523.out 1; have hfz44_2 := QI BK523.out 2; have hfz44_3 := QI BK523.out 3; have hfz44_4 := QI BK523.out 4; have hfz44_5 := QI BK523.out 5; have hfz44_6 := QI BK523.out 6; have hfz44_7 := QI BK523.out 7) | (go_at_call 64; (with_reducible refine (impl_IsRules.calls k t509 t510 t511 t512 _ _ t513 _ _ t516 t519 t520 _ _ ?side1 ?side2 ?side3 ?side4 A18.out).mono ?_); (case side1 => repeat (first | exact (QW HO515.out).2.2 | (with_reducible refine QX ?_ _) | (with_reducible refine QY ?_ _) | (with_reducible refine QZ ?_))); (case side2 => exact (QW HO515.out).2.1); (case side3 => repeat (first | exact (QU HO518.out).2.2 | (with_reducible refine QX ?_ _) | (with_reducible refine QY ?_ _) | (with_reducible refine QZ ?_))); (case side4 => exact (QU HO518.out).2.1); rintro e w45 ⟨rfl,hb⟩; have n0_ := Qr (QP (by (with_reducible repeat (first | apply QK | apply QL | apply QM)); exact HO515.out) hb); have n1_ := Qr (QN (by (with_reducible repeat (first | apply QE | apply QF | apply QH)); exact HO518.out) hb); have n2_ := Qr (QV (g := gb523) (o := .cells #[.int .i64 t509,.int .i64 t510,.bool t511,.bool t512,.slice Ao10 t513.length co10,.slice Ao11 t516.length co11,.int .i64 t519,.int .i64 t520] 74 (0,0)) (by (with_reducible repeat (first | refine QC ?_ _ | refine QG ?_ | refine QD ?_ _)); exact BK523.out) hb); have n3_ := Qr (Qc (by repeat (first | (with_reducible first | exact HB.out | apply QT | apply QO | apply QS | refine QJ ?_ GE523.out) | exact HB.out)) hb); clear HO515; clear HO518; clear BK523; clear HB; revert n0_ n1_ n2_ n3_; intro HO515 HO518 BK523 HB; (try clear hb); (try clear hb2); (try clear hk); (try clear hi)) | (go_at_call 46; (with_reducible refine (impl_IsCard.calls t521 _ _ A20.out).mono ?_); rintro e w' ⟨rfl,⟨nd,rfl⟩⟩; have hcz46_0 : w45.cell? ⟨gb523,0,none⟩ = some (.int .i64 t509) := (QB BK523.out 0).trans rfl; have hcz46_1 : w45.cell? ⟨gb523,1,none⟩ = some (.int .i64 t510) := (QB BK523.out 1).trans rfl; have hcz46_2 : w45.cell? ⟨gb523,2,none⟩ = some (.bool t511) := (QB BK523.out 2).trans rfl; have hcz46_3 : w45.cell? ⟨gb523,3,none⟩ = some (.bool t512) := (QB BK523.out 3).trans rfl; have hcz46_4 : w45.cell? ⟨gb523,4,none⟩ = some (.slice Ao10 t513.length co10) := (QB BK523.out 4).trans rfl; have hcz46_5 : w45.cell? ⟨gb523,5,none⟩ = some (.slice Ao11 t516.length co11) := (QB BK523.out 5).trans rfl; have hcz46_6 : w45.cell? ⟨gb523,6,none⟩ = some (.int .i64 t519) := (QB BK523.out 6).trans rfl; have hcz46_7 : w45.cell? ⟨gb523,7,none⟩ = some (.int .i64 t520) := (QB BK523.out 7).trans rfl; have hfz46_0 := QI BK523.out 0; have hfz46_1 := QI BK523.out 1; have hfz46_2 := QI BK523.out 2; have hfz46_3 := QI BK523.out 3; have hfz46_4 := QI BK523.out 4; have hfz46_5 := QI BK523.out 5; have hfz46_6 := QI BK523.out 6; have hfz46_7 := QI BK523.out 7) | (go_at_call 65; (with_reducible refine (impl_Matches.calls k _ _ t513 t522 _ _ ?side1 ?side2 A22.out).mono ?_); (case side1 => repeat (first | exact (QW HO515.out).2.2 | (with_reducible refine QX ?_ _) | (with_reducible refine QY ?_ _) | (with_reducible refine QZ ?_))); (case side2 => exact (QW HO515.out).2.1); rintro e w47 ⟨rfl,hb⟩; have n0_ := Qr (QP (by (with_reducible repeat (first | apply QK | apply QL | apply QM)); exact HO515.out) hb); have n1_ := Qr (QN (by (with_reducible repeat (first | apply QE | apply QF | apply QH)); exact HO518.out) hb); have n2_ := Qr (QV (g := gb523) (o := .cells #[.int .i64 t509,.int .i64 t510,.bool t511,.bool t512,.slice Ao10 t513.length co10,.slice Ao11 t516.length co11,.int .i64 t519,.int .i64 t520] 74 (0,0)) (by (with_reducible repeat (first | refine QC ?_ _ | refine QG ?_ | refine QD ?_ _)); exact BK523.out) hb); have n3_ := Qr (Qc (by repeat (first | (with_reducible first | exact HB.out | apply QT | apply QO | apply QS | refine QJ ?_ GE523.out) | exact HB.out)) hb); clear HO515; clear HO518; clear BK523; clear HB; revert n0_ n1_ n2_ n3_; intro HO515 HO518 BK523 HB; (try clear hb); (try clear hb2); (try clear hk); (try clear hi); have hcz48_0 : w47.cell? ⟨gb523,0,none⟩ = some (.int .i64 t509) := (QB BK523.out 0).trans rfl; have hcz48_1 : w47.cell? ⟨gb523,1,none⟩ = some (.int .i64 t510) := (QB BK523.out 1).trans rfl; have hcz48_2 : w47.cell? ⟨gb523,2,none⟩ = some (.bool t511) := (QB BK523.out 2).trans rfl; have hcz48_3 : w47.cell? ⟨gb523,3,none⟩ = some (.bool t512) := (QB BK523.out 3).trans rfl; have hcz48_4 : w47.cell? ⟨gb523,4,none⟩ = some (.slice Ao10 t513.length co10) := (QB BK523.out 4).trans rfl; have hcz48_5 : w47.cell? ⟨gb523,5,none⟩ = some (.slice Ao11 t516.length co11) := (QB BK523.out 5).trans rfl; have hcz48_6 : w47.cell? ⟨gb523,6,none⟩ = some (.int .i64 t519) := (QB BK523.out 6).trans rfl; have hcz48_7 : w47.cell? ⟨gb523,7,none⟩ = some (.int .i64 t520) := (QB BK523.out 7).trans rfl; have hfz48_0 := QI BK523.out 0; have hfz48_1 := QI BK523.out 1; have hfz48_2 := QI BK523.out 2; have hfz48_3 := QI BK523.out 3; have hfz48_4 := QI BK523.out 4; have hfz48_5 := QI BK523.out 5; have hfz48_6 := QI BK523.out 6; have hfz48_7 := QI BK523.out 7) | (go_at_call 64; (with_reducible refine (impl_IsRules.calls k t509 t510 t511 t512 _ _ t513 _ _ t516 t519 t520 t529 _ ?side1 ?side2 ?side3 ?side4 A25.out).mono ?_); (case side1 => repeat (first | exact (QW HO515.out).2.2 | (with_reducible refine QX ?_ _) | (with_reducible refine QY ?_ _) | (with_reducible refine QZ ?_))); (case side2 => exact (QW HO515.out).2.1); (case side3 => repeat (first | exact (QU HO518.out).2.2 | (with_reducible refine QX ?_ _) | (with_reducible refine QY ?_ _) | (with_reducible refine QZ ?_))); (case side4 => exact (QU HO518.out).2.1); rintro e w49 ⟨rfl,hb⟩; have n0_ := Qr (QP (by (with_reducible repeat (first | apply QK | apply QL | apply QM)); exact HO515.out) hb); have n1_ := Qr (QN (by (with_reducible repeat (first | apply QE | apply QF | apply QH)); exact HO518.out) hb); have n2_ := Qr (QV (g := gb523) (o := .cells #[.int .i64 t509,.int .i64 t510,.bool t511,.bool t512,.slice Ao10 t513.length co10,.slice Ao11 t516.length co11,.int .i64 t519,.int .i64 t520] 74 (0,0)) (by (with_reducible repeat (first | refine QC ?_ _ | refine QG ?_ | refine QD ?_ _)); exact BK523.out) hb); have n3_ := Qr (Qc (by repeat (first | (with_reducible first | exact HB.out | apply QT | apply QO | apply QS | refine QJ ?_ GE523.out) | exact HB.out)) hb); clear HO515; clear HO518; clear BK523; clear HB; revert n0_ n1_ n2_ n3_; intro HO515 HO518 BK523 HB; (try clear hb); (try clear hb2); (try clear hk); (try clear hi)))
     go_meet
     case rel => exact ⟨_,_,(by first | rfl | (simp; done) | (simp [*]; done)),H',⟨by first | omega | exact Nat.le_refl _⟩,⟨by (with_reducible repeat (first | apply QK | apply QL | apply QM)); exact HO515.out⟩,⟨by (with_reducible repeat (first | apply QE | apply QF | apply QH)); exact HO518.out⟩,⟨by (with_reducible repeat (first | refine QC ?_ _ | refine QG ?_ | refine QD ?_ _)); exact BK523.out⟩,⟨by repeat (first | (with_reducible first | exact HB.out | apply QT | apply QO | apply QS | refine QJ ?_ GE523.out) | exact HB.out)⟩⟩
   ·rw [if_neg c13] at H
    have c13b0 : ((t513.length : Int) == 0) = false := beq_eq_false_iff_ne.mpr c13
    have c13b1 : ((t513.length : Int) != 0) = true := bne_iff_ne.mpr c13
    have c13b2 : ¬ (t513 = []) := fun h_ => c13 (by rw [h_]; rfl)
    (first | rw [c13b0] | (simp only [Qe,Qf]; rw [c13b0]) | skip)
    replace H := Qs.mp H
    obtain ⟨t533,A800,H⟩ := H
    have A80 := Qr A800
    clear A800
    (try have E_t533 := Option.some.inj (A80.out.symm.trans A69.out))
    (try have E_t533 := Option.some.inj (A80.out.symm.trans A57.out))
    (try have E_t533 := Option.some.inj (A80.out.symm.trans A41.out))
    (try have E_t533 := Option.some.inj (A80.out.symm.trans A25.out))
    by_cases c81 : t533 = true
    rotate_left
    replace c81 := Bool.eq_false_iff.mpr c81
    subst c81
    rw [if_neg (show ¬ (false = true) by decide)] at H
    by_cases c86 : t524 = true
    rotate_left
    replace c86 := Bool.eq_false_iff.mpr c86
    subst c86
    rw [if_neg (show ¬ (false = true) by decide)] at H
    have H' := Qr H
    clear H
    rotate_right
    ·subst c86
     rw [if_pos rfl] at H
     replace H := Qs.mp H
     obtain ⟨t536,A870,H⟩ := H
     have A87 := Qr A870
     clear A870
     (try have E_t539 := Option.some.inj (A87.out.symm.trans A111.out))
     (try have E_t539 := Option.some.inj (A87.out.symm.trans A99.out))
     (try have E_t539 := Option.some.inj (A87.out.symm.trans A80.out))
     have H' := Qr H
     clear H
     have hcz120_0 : w12.cell? ⟨gb523,0,none⟩ = some (.int .i64 t509) := (QB BK523.out 0).trans rfl
     have hcz120_1 : w12.cell? ⟨gb523,1,none⟩ = some (.int .i64 t510) := (QB BK523.out 1).trans rfl
     have hcz120_2 : w12.cell? ⟨gb523,2,none⟩ = some (.bool t511) := (QB BK523.out 2).trans rfl
     have hcz120_3 : w12.cell? ⟨gb523,3,none⟩ = some (.bool t512) := (QB BK523.out 3).trans rfl
     have hcz120_4 : w12.cell? ⟨gb523,4,none⟩ = some (.slice Ao10 t513.length co10) := (QB BK523.out 4).trans rfl
     have hcz120_5 : w12.cell? ⟨gb523,5,none⟩ = some (.slice Ao11 t516.length co11) := (QB BK523.out 5).trans rfl
     have hcz120_6 : w12.cell? ⟨gb523,6,none⟩ = some (.int .i64 t519) := (QB BK523.out 6).trans rfl
     have hcz120_7 : w12.cell? ⟨gb523,7,none⟩ = some (.int .i64 t520) := (QB BK523.out 7).trans rfl
     have hfz120_0 := QI BK523.out 0
     have hfz120_1 := QI BK523.out 1
     have hfz120_2 := QI BK523.out 2
     have hfz120_3 := QI BK523.out 3
     have hfz120_4 := QI BK523.out 4
     have hfz120_5 := QI BK523.out 5
     have hfz120_6 := QI BK523.out 6
     have hfz120_7 := QI BK523.out 7
     go_wp2_with (first | (go_at_call 64; (with_reducible refine (impl_IsRules.calls k t509 t510 t511 t512 _ _ t513 _ _ t516 t519 t520 false _ ?side1 ?side2 ?side3 ?side4 A80.out).mono ?_); (case side1 => repeat (first | exact (QW HO515.out).2.2 | (with_reducible refine QX ?_ _) | (with_reducible refine QY ?_ _) | (with_reducible refine QZ ?_))); (case side2 => exact (QW HO515.out).2.1); (case side3 => repeat (first | exact (QU HO518.out).2.2 | (with_reducible refine QX ?_ _) | (with_reducible refine QY ?_ _) | (with_reducible refine QZ ?_))); (case side4 => exact (QU HO518.out).2.1); rintro e w121 ⟨rfl,hb⟩; have n0_ := Qr (QP (by (with_reducible repeat (first | apply QK | apply QL | apply QM)); exact HO515.out) hb); have n1_ := Qr (QN (by (with_reducible repeat (first | apply QE | apply QF | apply QH)); exact HO518.out) hb); have n2_ := Qr (QV (g := gb523) (o := .cells #[.int .i64 t509,.int .i64 t510,.bool t511,.bool t512,.slice Ao10 t513.length co10,.slice Ao11 t516.length co11,.int .i64 t519,.int .i64 t520] 74 (0,0)) (by (with_reducible repeat (first | refine QC ?_ _ | refine QG ?_ | refine QD ?_ _)); exact BK523.out) hb); have n3_ := Qr (Qc (by repeat (first | (with_reducible first | exact HB.out | apply QT | apply QO | apply QS | refine QJ ?_ GE523.out) | exact HB.out)) hb); clear HO515; clear HO518; clear BK523; clear HB; revert n0_ n1_ n2_ n3_; intro HO515 HO518 BK523 HB; (try clear hb); (try clear hb2); (try clear hk); (try clear hi); have hcz122_0 : w121.cell? ⟨gb523,0,none⟩ = some (.int .i64 t509) := (QB BK523.out 0).trans rfl; have hcz122_1 : w121.cell? ⟨gb523,1,none⟩ = some (.int .i64 t510) := (QB BK523.out 1).trans rfl; have hcz122_2 : w121.cell? ⟨gb523,2,none⟩ = some (.bool t511) := (QB BK523.out 2).trans rfl; have hcz122_3 : w121.cell? ⟨gb523,3,none⟩ = some (.bool t512) := (QB BK523.out 3).trans rfl; have hcz122_4 : w121.cell? ⟨gb523,4,none⟩ = some (.slice Ao10 t513.length co10) := (QB BK523.out 4).trans rfl; have hcz122_5 : w121.cell? ⟨gb523,5,none⟩ = some (.slice Ao11 t516.length co11) := (QB BK523.out 5).trans rfl; have hcz122_6 : w121.cell? ⟨gb523,6,none⟩ = some (.int .i64 t519) := (QB BK523.out 6).trans rfl; have hcz122_7 : w121.cell? ⟨gb523,7,none⟩ = some (.int .i64 t520) := (QB BK523.out 7).trans rfl; have hfz122_0 := QI BK523.out 0; have hfz122_1 := QI BK523.out 1; have hfz122_2 := QI BK523.out 2; have hfz122_3 := QI BK523.out 3; have hfz122_4 := QI BK523.out 4; have hfz122_5 := QI BK523.out 5; have hfz122_6 := QI BK523.out 6; have hfz122_7 := QI BK523.out 7) | (go_at_call 64; (with_reducible refine (impl_IsRules.calls k t509 t510 t511 t512 _ _ t513 _ _ t516 t519 t520 t536 _ ?side1 ?side2 ?side3 ?side4 A87.out).mono ?_); (case side1 => repeat (first | exact (QW HO515.out).2.2 | (with_reducible refine QX ?_ _) | (with_reducible refine QY ?_ _) | (with_reducible refine QZ ?_))); (case side2 => exact (QW HO515.out).2.1); (case side3 => repeat (first | exact (QU HO518.out).2.2 | (with_reducible refine QX ?_ _) | (with_reducible refine QY ?_ _) | (with_reducible refine QZ ?_))); (case side4 => exact (QU HO518.out).2.1); rintro e w123 ⟨rfl,hb⟩; have n0_ := Qr (QP (by (with_reducible repeat (first | apply QK | apply QL | apply QM)); exact HO515.out) hb); have n1_ := Qr (QN (by (with_reducible repeat (first | apply QE | apply QF | apply QH)); exact HO518.out) hb); have n2_ := Qr (QV (g := gb523) (o := .cells #[.int .i64 t509,.int .i64 t510,.bool t511,.bool t512,.slice Ao10 t513.length co10,.slice Ao11 t516.length co11,.int .i64 t519,.int .i64 t520] 74 (0,0)) (by (with_reducible repeat (first | refine QC ?_ _ | refine QG ?_ | refine QD ?_ _)); exact BK523.out) hb); have n3_ := Qr (Qc (by repeat (first | (with_reducible first | exact HB.out | apply QT | apply QO | apply QS | refine QJ ?_ GE523.out) | exact HB.out)) hb); clear HO515; clear HO518; clear BK523; clear HB; revert n0_ n1_ n2_ n3_; intro HO515 HO518 BK523 HB; (try clear hb); (try clear hb2); (try clear hk); (try clear hi)))
     go_meet
     case rel => exact ⟨_,(!t536),(by first | rfl | (simp; done) | (simp [*]; done)),H',⟨by first | omega | exact Nat.le_refl _⟩,⟨by (with_reducible repeat (first | apply QK | apply QL | apply QM)); exact HO515.out⟩,⟨by (with_reducible repeat (first | apply QE | apply QF | apply QH)); exact HO518.out⟩,⟨by (with_reducible repeat (first | refine QC ?_ _ | refine QG ?_ | refine QD ?_ _)); exact BK523.out⟩,⟨by repeat (first | (with_reducible first | exact HB.out | apply QT | apply QO | apply QS | refine QJ ?_ GE523.out) | exact HB.out)⟩⟩
    rotate_right
    subst c81
    rw [if_pos rfl] at H
    replace H := Qs.mp H
    obtain ⟨t534,A820,H⟩ := H
    have A82 := Qr A820
    clear A820
    (try have E_t534 := Option.some.inj (A82.out.symm.trans A20.out))
    by_cases c83 : t534 = true
    rotate_left
    replace c83 := Bool.eq_false_iff.mpr c83
    subst c83
    rw [if_neg (show ¬ (false = true) by decide)] at H
    by_cases c86 : t524 = true
    rotate_left
    replace c86 := Bool.eq_false_iff.mpr c86
    subst c86
    rw [if_neg (show ¬ (false = true) by decide)] at H
    have H' := Qr H
    clear H
    rotate_right
    subst c86
    rw [if_pos rfl] at H
    replace H := Qs.mp H
    obtain ⟨t536,A870,H⟩ := H
    have A87 := Qr A870
    clear A870
    (try have E_t538 := Option.some.inj (A87.out.symm.trans A99.out))
    (try have E_t538 := Option.some.inj (A87.out.symm.trans A80.out))
    (try have E_t538 := Option.some.inj (A87.out.symm.trans A69.out))
    have H' := Qr H
    clear H
    rotate_right
    subst c83
    rw [if_pos rfl] at H
    replace H := Qs.mp H
    obtain ⟨t535,A840,H⟩ := H
    have A84 := Qr A840
    clear A840
    (try have E_t535 := Option.some.inj (A84.out.symm.trans A22.out))
    by_cases c85 : t535 = true
    rotate_left
    replace c85 := Bool.eq_false_iff.mpr c85
    subst c85
    rw [if_neg (show ¬ (false = true) by decide)] at H
    by_cases c86 : t524 = true
    rotate_left
    replace c86 := Bool.eq_false_iff.mpr c86
    subst c86
    rw [if_neg (show ¬ (false = true) by decide)] at H
    have H' := Qr H
    clear H
    rotate_right
    subst c86
    rw [if_pos rfl] at H
    replace H := Qs.mp H
    obtain ⟨t536,A870,H⟩ := H
    have A87 := Qr A870
    clear A870
    (try have E_t537 := Option.some.inj (A87.out.symm.trans A80.out))
    (try have E_t537 := Option.some.inj (A87.out.symm.trans A69.out))
    (try have E_t537 := Option.some.inj (A87.out.symm.trans A57.out))
    have H' := Qr H
    clear H
    rotate_right
    subst c85
    rw [if_pos rfl] at H
    by_cases c86 : t524 = true
    rotate_left
    replace c86 := Bool.eq_false_iff.mpr c86
    subst c86
    rw [if_neg (show ¬ (false = true) by decide)] at H
    have H' := Qr H
    clear H
    rotate_right
    subst c86
    rw [if_pos rfl] at H
    replace H := Qs.mp H
    obtain ⟨t536,A870,H⟩ := H
    have A87 := Qr A870
    clear A870
    (try have E_t536 := Option.some.inj (A87.out.symm.trans A80.out))
    (try have E_t536 := Option.some.inj (A87.out.symm.trans A69.out))
    (try have E_t536 := Option.some.inj (A87.out.symm.trans A57.out))
    (try have E_t536 := Option.some.inj (A87.out.symm.trans A41.out))
    have H' := Qr H
    clear H
    all_goals
     have hcz100_0 : w12.cell? ⟨gb523,0,none⟩ = some (.int .i64 t509) := (QB BK523.out 0).trans rfl
     have hcz100_1 : w12.cell? ⟨gb523,1,none⟩ = some (.int .i64 t510) := (QB BK523.out 1).trans rfl
     have hcz100_2 : w12.cell? ⟨gb523,2,none⟩ = some (.bool t511) := (QB BK523.out 2).trans rfl
     have hcz100_3 : w12.cell? ⟨gb523,3,none⟩ = some (.bool t512) := (QB BK523.out 3).trans rfl
     have hcz100_4 : w12.cell? ⟨gb523,4,none⟩ = some (.slice Ao10 t513.length co10) := (QB BK523.out 4).trans rfl
     have hcz100_5 : w12.cell? ⟨gb523,5,none⟩ = some (.slice Ao11 t516.length co11) := (QB BK523.out 5).trans rfl
     have hcz100_6 : w12.cell? ⟨gb523,6,none⟩ = some (.int .i64 t519) := (QB BK523.out 6).trans rfl
     have hcz100_7 : w12.cell? ⟨gb523,7,none⟩ = some (.int .i64 t520) := (QB BK523.out 7).trans rfl
     have hfz100_0 := QI BK523.out 0
     have hfz100_1 := QI BK523.out 1
     have hfz100_2 := QI BK523.out 2
     have hfz100_3 := QI BK523.out 3
     have hfz100_4 := QI BK523.out 4
     have hfz100_5 := QI BK523.out 5
     have hfz100_6 := QI BK523.out 6
     have hfz100_7 := QI BK523.out 7
     go_wp2_with (first | (go_at_call 64; (with_reducible refine (impl_IsRules.calls k t509 t510 t511 t512 _ _ t513 _ _ t516 t519 t520 _ _ ?side1 ?side2 ?side3 ?side4 A80.out).mono ?_); (case side1 => repeat (first | exact (QW HO515.out).2.2 | (with_reducible refine QX ?_ _) | (with_reducible refine QY ?_ _) | (with_reducible refine QZ ?_))); (case side2 => exact (QW HO515.out).2.1); (case side3 => repeat (first | exact (QU HO518.out).2.2 | (with_reducible refine QX ?_ _) | (with_reducible refine QY ?_ _) | (with_reducible refine QZ ?_))); (case side4 => exact (QU HO518.out).2.1); rintro e w101 ⟨rfl,hb⟩; have n0_ := Qr (QP (by (with_reducible repeat (first | apply QK | apply QL | apply QM)); exact HO515.out) hb); have n1_ := Qr (QN (by (with_reducible repeat (first | apply QE | apply QF | apply QH)); exact HO518.out) hb); have n2_ := Qr (QV (g := gb523) (o := .cells #[.int .i64 t509,.int .i64 t510,.bool t511,.bool t512,.slice Ao10 t513.length co10,.slice Ao11 t516.length co11,.int .i64 t519,.int .i64 t520] 74 (0,0)) (by (with_reducible repeat (first | refine QC ?_ _ | refine QG ?_ | refine QD ?_ _)); exact BK523.out) hb); have n3_ := Qr (Qc (by repeat (first | (with_reducible first | exact HB.out | apply QT | apply QO | apply QS | refine QJ ?_ GE523.out) | exact HB.out)) hb); clear HO515; clear HO518; clear BK523; clear HB; revert n0_ n1_ n2_ n3_; intro HO515 HO518 BK523 HB; (try clear hb); (try clear hb2); (try clear hk); (try clear hi)) | (go_at_call 46; (with_reducible refine (impl_IsCard.calls t521 _ _ A82.out).mono ?_); rintro e w' ⟨rfl,⟨nd,rfl⟩⟩; have hcz102_0 : w101.cell? ⟨gb523,0,none⟩ = some (.int .i64 t509) := (QB BK523.out 0).trans rfl; have hcz102_1 : w101.cell? ⟨gb523,1,none⟩ = some (.int .i64 t510) := (QB BK523.out 1).trans rfl; have hcz102_2 : w101.cell? ⟨gb523,2,none⟩ = some (.bool t511) := (QB BK523.out 2).trans rfl; have hcz102_3 : w101.cell? ⟨gb523,3,none⟩ = some (.bool t512) := (QB BK523.out 3).trans rfl; have hcz102_4 : w101.cell? ⟨gb523,4,none⟩ = some (.slice Ao10 t513.length co10) := (QB BK523.out 4).trans rfl; have hcz102_5 : w101.cell? ⟨gb523,5,none⟩ = some (.slice Ao11 t516.length co11) := (QB BK523.out 5).trans rfl; have hcz102_6 : w101.cell? ⟨gb523,6,none⟩ = some (.int .i64 t519) := (QB BK523.out 6).trans rfl; have hcz102_7 : w101.cell? ⟨gb523,7,none⟩ = some (.int .i64 t520) := (QB BK523.out 7).trans rfl; have hfz102_0 := QI BK523.out 0; have hfz102_1 := QI BK523.out 1; have hfz102_2 := QI BK523.out 2; have hfz102_3 := QI BK523.out 3; have hfz102_4 := QI BK523.out 4; have hfz102_5 := QI BK523.out 5; have hfz102_6 := QI BK523.out 6; have hfz102_7 := QI BK523.out 7) | (go_at_call 65; (with_reducible refine (impl_Matches.calls k _ _ t513 t522 _ _ ?side1 ?side2 A84.out).mono ?_); (case side1 => repeat (first | exact (QW HO515.out).2.2 | (with_reducible refine QX ?_ _) | (with_reducible refine QY ?_ _) | (with_reducible refine QZ ?_))); (case side2 => exact (QW HO515.out).2.1); rintro e w103 ⟨rfl,hb⟩; have n0_ := Qr (QP (by (with_reducible repeat (first | apply QK | apply QL | apply QM)); exact HO515.out) hb); have n1_ := Qr (QN (by (with_reducible repeat (first | apply QE | apply QF | apply QH)); exact HO518.out) hb); have n2_ := Qr (QV (g := gb523) (o := .cells #[.int .i64 t509,.int .i64 t510,.bool t511,.bool t512,.slice Ao10 t513.length co10,.slice Ao11 t516.length co11,.int .i64 t519,.int .i64 t520] 74 (0,0)) (by (with_reducible repeat (first | refine QC ?_ _ | refine QG ?_ | refine QD ?_ _)); exact BK523.out) hb); have n3_ := Qr (Qc (by repeat (first | (with_reducible first | exact HB.out | apply QT | apply QO | apply QS | refine QJ ?_ GE523.out) | exact HB.out)) hb); clear HO515; clear HO518; clear BK523; clear HB; revert n0_ n1_ n2_ n3_; intro HO515 HO518 BK523 HB; (try clear hb); (try clear hb2); (try clear hk); (try clear hi); have hcz104_0 : w103.cell? ⟨gb523,0,none⟩ = some (.int .i64 t509) := (QB BK523.out 0).trans rfl; have hcz104_1 : w103.cell? ⟨gb523,1,none⟩ = some (.int .i64 t510) := (QB BK523.out 1).trans rfl; have hcz104_2 : w103.cell? ⟨gb523,2,none⟩ = some (.bool t511) := (QB BK523.out 2).trans rfl; have hcz104_3 : w103.cell? ⟨gb523,3,none⟩ = some (.bool t512) := (QB BK523.out 3).trans rfl; have hcz104_4 : w103.cell? ⟨gb523,4,none⟩ = some (.slice Ao10 t513.length co10) := (QB BK523.out 4).trans rfl; have hcz104_5 : w103.cell? ⟨gb523,5,none⟩ = some (.slice Ao11 t516.length co11) := (QB BK523.out 5).trans rfl; have hcz104_6 : w103.cell? ⟨gb523,6,none⟩ = some (.int .i64 t519) := (QB BK523.out 6).trans rfl; have hcz104_7 : w103.cell? ⟨gb523,7,none⟩ = some (.int .i64 t520) := (QB BK523.out 7).trans rfl; have hfz104_0 := QI BK523.out 0; have hfz104_1 := QI BK523.out 1; have hfz104_2 := QI BK523.out 2; have hfz104_3 := QI BK523.out 3; have hfz104_4 := QI BK523.out 4; have hfz104_5 := QI BK523.out 5; have hfz104_6 := QI BK523.out 6; have hfz104_7 := QI BK523.out 7) | (go_at_call 64; (with_reducible refine (impl_IsRules.calls k t509 t510 t511 t512 _ _ t513 _ _ t516 t519 t520 t536 _ ?side1 ?side2 ?side3 ?side4 A87.out).mono ?_); (case side1 => repeat (first | exact (QW HO515.out).2.2 | (with_reducible refine QX ?_ _) | (with_reducible refine QY ?_ _) | (with_reducible refine QZ ?_))); (case side2 => exact (QW HO515.out).2.1); (case side3 => repeat (first | exact (QU HO518.out).2.2 | (with_reducible refine QX ?_ _) | (with_reducible refine QY ?_ _) | (with_reducible refine QZ ?_))); (case side4 => exact (QU HO518.out).2.1); rintro e w105 ⟨rfl,hb⟩; have n0_ := Qr (QP (by (with_reducible repeat (first | apply QK | apply QL | apply QM)); exact HO515.out) hb); have n1_ := Qr (QN (by (with_reducible repeat (first | apply QE | apply QF | apply QH)); exact HO518.out) hb); have n2_ := Qr (QV (g := gb523) (o := .cells #[.int .i64 t509,.int .i64 t510,.bool t511,.bool t512,.slice Ao10 t513.length co10,.slice Ao11 t516.length co11,.int .i64 t519,.int .i64 t520] 74 (0,0)) (by (with_reducible repeat (first | refine QC ?_ _ | refine QG ?_ | refine QD ?_ _)); exact BK523.out) hb); have n3_ := Qr (Qc (by repeat (first | (with_reducible first | exact HB.out | apply QT | apply QO | apply QS | refine QJ ?_ GE523.out) | exact HB.out)) hb); clear HO515; clear HO518; clear BK523; clear HB; revert n0_ n1_ n2_ n3_; intro HO515 HO518 BK523 HB; (try clear hb); (try clear hb2); (try clear hk); (try clear hi)))
     go_meet
     case rel => exact ⟨_,_,(by first | rfl | (simp; done) | (simp [*]; done)),H',⟨by first | omega | exact Nat.le_refl _⟩,⟨by (with_reducible repeat (first | apply QK | apply QL | apply QM)); exact HO515.out⟩,⟨by (with_reducible repeat (first | apply QE | apply QF | apply QH)); exact HO518.out⟩,⟨by (with_reducible repeat (first | refine QC ?_ _ | refine QG ?_ | refine QD ?_ _)); exact BK523.out⟩,⟨by repeat (first | (with_reducible first | exact HB.out | apply QT | apply QO | apply QS | refine QJ ?_ GE523.out) | exact HB.out)⟩⟩
  case rest =>
   clear HC6
   try clear c1
   try clear c2
   try clear p2
   try clear c4
   try clear c5
   try clear c6
   try clear c8
   try clear c9
   try clear c11
   try clear c13
   try clear c13b0
   try clear c13b1
   try clear c13b2
   try clear c15
   try clear c15b0
   try clear c15b1
   try clear c15b2
   try clear c19
   try clear c21
   try clear c23
   try clear c24
   try clear c40
   try clear c56
   try clear c68
   try clear c81
   try clear c83
   try clear c85
   try clear c86
   try clear c98
   try clear c110
   try clear c118
   try clear hcz100_0 hcz100_1 hcz100_2 hcz100_3 hcz100_4 hcz100_5 hcz100_6 hcz100_7
   try clear hcz102_0 hcz102_1 hcz102_2 hcz102_3 hcz102_4 hcz102_5 hcz102_6 hcz102_7
   try clear hcz104_0 hcz104_1 hcz104_2 hcz104_3 hcz104_4 hcz104_5 hcz104_6 hcz104_7
   try clear hcz106_0 hcz106_1 hcz106_2 hcz106_3 hcz106_4 hcz106_5 hcz106_6 hcz106_7
   try clear hcz108_0 hcz108_1 hcz108_2 hcz108_3 hcz108_4 hcz108_5 hcz108_6 hcz108_7
   try clear hcz112_0 hcz112_1 hcz112_2 hcz112_3 hcz112_4 hcz112_5 hcz112_6 hcz112_7
   try clear hcz114_0 hcz114_1 hcz114_2 hcz114_3 hcz114_4 hcz114_5 hcz114_6 hcz114_7
   try clear hcz116_0 hcz116_1 hcz116_2 hcz116_3 hcz116_4 hcz116_5 hcz116_6 hcz116_7
   try clear hcz120_0 hcz120_1 hcz120_2 hcz120_3 hcz120_4 hcz120_5 hcz120_6 hcz120_7
   try clear hcz122_0 hcz122_1 hcz122_2 hcz122_3 hcz122_4 hcz122_5 hcz122_6 hcz122_7
   try clear hcz124_0 hcz124_1 hcz124_2 hcz124_3 hcz124_4 hcz124_5 hcz124_6 hcz124_7
   try clear hcz16_5 hcz16_6 hcz16_7
   try clear hcz26_0 hcz26_1 hcz26_2 hcz26_3 hcz26_4 hcz26_5 hcz26_6 hcz26_7
   try clear hcz28_0 hcz28_1 hcz28_2 hcz28_3 hcz28_4 hcz28_5 hcz28_6 hcz28_7
   try clear hcz30_0 hcz30_1 hcz30_2 hcz30_3 hcz30_4 hcz30_5 hcz30_6 hcz30_7
   try clear hcz32_0 hcz32_1 hcz32_2 hcz32_3 hcz32_4 hcz32_5 hcz32_6 hcz32_7
   try clear hcz34_0 hcz34_1 hcz34_2 hcz34_3 hcz34_4 hcz34_5 hcz34_6 hcz34_7
   try clear hcz36_0 hcz36_1 hcz36_2 hcz36_3 hcz36_4 hcz36_5 hcz36_6 hcz36_7
   try clear hcz38_0 hcz38_1 hcz38_2 hcz38_3 hcz38_4 hcz38_5 hcz38_6 hcz38_7
   try clear hcz42_0 hcz42_1 hcz42_2 hcz42_3 hcz42_4 hcz42_5 hcz42_6 hcz42_7
   try clear hcz44_0 hcz44_1 hcz44_2 hcz44_3 hcz44_4 hcz44_5 hcz44_6 hcz44_7
   try clear hcz46_0 hcz46_1 hcz46_2 hcz46_3 hcz46_4 hcz46_5 hcz46_6 hcz46_7
   try clear hcz48_0 hcz48_1 hcz48_2 hcz48_3 hcz48_4 hcz48_5 hcz48_6 hcz48_7
   try clear hcz50_0 hcz50_1 hcz50_2 hcz50_3 hcz50_4 hcz50_5 hcz50_6 hcz50_7
   try clear hcz52_0 hcz52_1 hcz52_2 hcz52_3 hcz52_4 hcz52_5 hcz52_6 hcz52_7
   try clear hcz54_0 hcz54_1 hcz54_2 hcz54_3 hcz54_4 hcz54_5 hcz54_6 hcz54_7
   try clear hcz58_0 hcz58_1 hcz58_2 hcz58_3 hcz58_4 hcz58_5 hcz58_6 hcz58_7
   try clear hcz60_0 hcz60_1 hcz60_2 hcz60_3 hcz60_4 hcz60_5 hcz60_6 hcz60_7
   try clear hcz62_0 hcz62_1 hcz62_2 hcz62_3 hcz62_4 hcz62_5 hcz62_6 hcz62_7
   try clear hcz64_0 hcz64_1 hcz64_2 hcz64_3 hcz64_4 hcz64_5 hcz64_6 hcz64_7
   try clear hcz66_0 hcz66_1 hcz66_2 hcz66_3 hcz66_4 hcz66_5 hcz66_6 hcz66_7
   try clear hcz70_0 hcz70_1 hcz70_2 hcz70_3 hcz70_4 hcz70_5 hcz70_6 hcz70_7
   try clear hcz72_0 hcz72_1 hcz72_2 hcz72_3 hcz72_4 hcz72_5 hcz72_6 hcz72_7
   try clear hcz74_0 hcz74_1 hcz74_2 hcz74_3 hcz74_4 hcz74_5 hcz74_6 hcz74_7
   try clear hcz76_0 hcz76_1 hcz76_2 hcz76_3 hcz76_4 hcz76_5 hcz76_6 hcz76_7
   try clear hcz78_0 hcz78_1 hcz78_2 hcz78_3 hcz78_4 hcz78_5 hcz78_6 hcz78_7
   try clear hcz88_0 hcz88_1 hcz88_2 hcz88_3 hcz88_4 hcz88_5 hcz88_6 hcz88_7
   try clear hcz90_0 hcz90_1 hcz90_2 hcz90_3 hcz90_4 hcz90_5 hcz90_6 hcz90_7
   try clear hcz92_0 hcz92_1 hcz92_2 hcz92_3 hcz92_4 hcz92_5 hcz92_6 hcz92_7
   try clear hcz94_0 hcz94_1 hcz94_2 hcz94_3 hcz94_4 hcz94_5 hcz94_6 hcz94_7
   try clear hcz96_0 hcz96_1 hcz96_2 hcz96_3 hcz96_4 hcz96_5 hcz96_6 hcz96_7
   try clear hfz100_0 hfz100_1 hfz100_2 hfz100_3 hfz100_4 hfz100_5 hfz100_6 hfz100_7
   try clear hfz102_0 hfz102_1 hfz102_2 hfz102_3 hfz102_4 hfz102_5 hfz102_6 hfz102_7
   try clear hfz104_0 hfz104_1 hfz104_2 hfz104_3 hfz104_4 hfz104_5 hfz104_6 hfz104_7
   try clear hfz106_0 hfz106_1 hfz106_2 hfz106_3 hfz106_4 hfz106_5 hfz106_6 hfz106_7
   try clear hfz108_0 hfz108_1 hfz108_2 hfz108_3 hfz108_4 hfz108_5 hfz108_6 hfz108_7
   try clear hfz112_0 hfz112_1 hfz112_2 hfz112_3 hfz112_4 hfz112_5 hfz112_6 hfz112_7
   try clear hfz114_0 hfz114_1 hfz114_2 hfz114_3 hfz114_4 hfz114_5 hfz114_6 hfz114_7
   try clear hfz116_0 hfz116_1 hfz116_2 hfz116_3 hfz116_4 hfz116_5 hfz116_6 hfz116_7
   try clear hfz120_0 hfz120_1 hfz120_2 hfz120_3 hfz120_4 hfz120_5 hfz120_6 hfz120_7
   try clear hfz122_0 hfz122_1 hfz122_2 hfz122_3 hfz122_4 hfz122_5 hfz122_6 hfz122_7
   try clear hfz124_0 hfz124_1 hfz124_2 hfz124_3 hfz124_4 hfz124_5 hfz124_6 hfz124_7
   try clear hfz16_0 hfz16_1 hfz16_2 hfz16_3 hfz16_4 hfz16_5 hfz16_6 hfz16_7
   try clear hfz26_0 hfz26_1 hfz26_2 hfz26_3 hfz26_4 hfz26_5 hfz26_6 hfz26_7
   try clear hfz28_0 hfz28_1 hfz28_2 hfz28_3 hfz28_4 hfz28_5 hfz28_6 hfz28_7
   try clear hfz30_0 hfz30_1 hfz30_2 hfz30_3 hfz30_4 hfz30_5 hfz30_6 hfz30_7
   try clear hfz32_0 hfz32_1 hfz32_2 hfz32_3 hfz32_4 hfz32_5 hfz32_6 hfz32_7
   try clear hfz34_0 hfz34_1 hfz34_2 hfz34_3 hfz34_4 hfz34_5 hfz34_6 hfz34_7
   try clear hfz36_0 hfz36_1 hfz36_2 hfz36_3 hfz36_4 hfz36_5 hfz36_6 hfz36_7
   try clear hfz38_0 hfz38_1 hfz38_2 hfz38_3 hfz38_4 hfz38_5 hfz38_6 hfz38_7
   try clear hfz42_0 hfz42_1 hfz42_2 hfz42_3 hfz42_4 hfz42_5 hfz42_6 hfz42_7
   try clear hfz44_0 hfz44_1 hfz44_2 hfz44_3 hfz44_4 hfz44_5 hfz44_6 hfz44_7
   try clear hfz46_0 hfz46_1 hfz46_2 hfz46_3 hfz46_4 hfz46_5 hfz46_6 hfz46_7
   try clear hfz48_0 hfz48_1 hfz48_2 hfz48_3 hfz48_4 hfz48_5 hfz48_6 hfz48_7
   try clear hfz50_0 hfz50_1 hfz50_2 hfz50_3 hfz50_4 hfz50_5 hfz50_6 hfz50_7
   try clear hfz52_0 hfz52_1 hfz52_2 hfz52_3 hfz52_4 hfz52_5 hfz52_6 hfz52_7
   try clear hfz54_0 hfz54_1 hfz54_2 hfz54_3 hfz54_4 hfz54_5 hfz54_6 hfz54_7
   try clear hfz58_0 hfz58_1 hfz58_2 hfz58_3 hfz58_4 hfz58_5 hfz58_6 hfz58_7
   try clear hfz60_0 hfz60_1 hfz60_2 hfz60_3 hfz60_4 hfz60_5 hfz60_6 hfz60_7
   try clear hfz62_0 hfz62_1 hfz62_2 hfz62_3 hfz62_4 hfz62_5 hfz62_6 hfz62_7
   try clear hfz64_0 hfz64_1 hfz64_2 hfz64_3 hfz64_4 hfz64_5 hfz64_6 hfz64_7
   try clear hfz66_0 hfz66_1 hfz66_2 hfz66_3 hfz66_4 hfz66_5 hfz66_6 hfz66_7
   try clear hfz70_0 hfz70_1 hfz70_2 hfz70_3 hfz70_4 hfz70_5 hfz70_6 hfz70_7
   try clear hfz72_0 hfz72_1 hfz72_2 hfz72_3 hfz72_4 hfz72_5 hfz72_6 hfz72_7
   try clear hfz74_0 hfz74_1 hfz74_2 hfz74_3 hfz74_4 hfz74_5 hfz74_6 hfz74_7
   try clear hfz76_0 hfz76_1 hfz76_2 hfz76_3 hfz76_4 hfz76_5 hfz76_6 hfz76_7
   try clear hfz78_0 hfz78_1 hfz78_2 hfz78_3 hfz78_4 hfz78_5 hfz78_6 hfz78_7
   try clear hfz88_0 hfz88_1 hfz88_2 hfz88_3 hfz88_4 hfz88_5 hfz88_6 hfz88_7
   try clear hfz90_0 hfz90_1 hfz90_2 hfz90_3 hfz90_4 hfz90_5 hfz90_6 hfz90_7
   try clear hfz92_0 hfz92_1 hfz92_2 hfz92_3 hfz92_4 hfz92_5 hfz92_6 hfz92_7
   try clear hfz94_0 hfz94_1 hfz94_2 hfz94_3 hfz94_4 hfz94_5 hfz94_6 hfz94_7
   try clear hfz96_0 hfz96_1 hfz96_2 hfz96_3 hfz96_4 hfz96_5 hfz96_6 hfz96_7
   obtain ⟨kq,x61_5,rfl,HA,HJ5,HO_524004,HO_524005,BK523,HB⟩ := hcut
   cases kq with
   | zero => exact absurd HA.out (by simp [laws_FnRules.j0])
   | succ kj5 =>
    have H := HA.out
    clear HA
    simp only [laws_FnRules.j0] at H
    by_cases c126 : x61_5 = true
    ·subst c126
     rw [if_pos rfl] at H
     exact absurd (Option.some.inj H) (by rw [HT.out]; decide)
    ·replace c126 := Bool.eq_false_iff.mpr c126
     subst c126
     rw [if_neg (show ¬ (false = true) by decide)] at H
     replace H := Qs.mp H
     obtain ⟨⟨t540,t541,t542,t543,t544,t547,t550,t551,t552⟩,A1270,H⟩ := H
     replace H : ((impl_FitCount.f kj5 t540 t541 t542 t543 t544 t547 t550 t551 t552).bind fun t554 => ((spec_DrawEqualRules.f kj5 l0).bind fun bt555 => (if t554 ≥ 0 then (if t554 < 52 then ((impl_IsRules.f kj5 t540 t541 t542 t543 t544 t547 t550 t551).bind fun t581 => (if t581 = true then ((impl_IsCard.f t552).bind fun t582 => (if ((decide (t554 > 0)) == t582) = true then ((impl_EasyRules.f).bind fun bt583 => ((impl_IsRules.f kj5 bt583.1 bt583.2.1 bt583.2.2.1 bt583.2.2.2.1 bt583.2.2.2.2.1 bt583.2.2.2.2.2.1 bt583.2.2.2.2.2.2.1 bt583.2.2.2.2.2.2.2).bind fun t595 => (if t595 = true then ((impl_EqualRules.f kj5 bt555.1 bt555.2.1 bt555.2.2.1 bt555.2.2.2.1 bt555.2.2.2.2.1 bt555.2.2.2.2.2.1 bt555.2.2.2.2.2.2.1 bt555.2.2.2.2.2.2.2.1 bt555.2.2.2.2.2.2.2.2.1 bt555.2.2.2.2.2.2.2.2.2.1 bt555.2.2.2.2.2.2.2.2.2.2.1 bt555.2.2.2.2.2.2.2.2.2.2.2.1 bt555.2.2.2.2.2.2.2.2.2.2.2.2.1 bt555.2.2.2.2.2.2.2.2.2.2.2.2.2.1 bt555.2.2.2.2.2.2.2.2.2.2.2.2.2.2.1 bt555.2.2.2.2.2.2.2.2.2.2.2.2.2.2.2).bind fun t596 => ((impl_EqualRules.f kj5 bt555.2.2.2.2.2.2.2.2.1 bt555.2.2.2.2.2.2.2.2.2.1 bt555.2.2.2.2.2.2.2.2.2.2.1 bt555.2.2.2.2.2.2.2.2.2.2.2.1 bt555.2.2.2.2.2.2.2.2.2.2.2.2.1 bt555.2.2.2.2.2.2.2.2.2.2.2.2.2.1 bt555.2.2.2.2.2.2.2.2.2.2.2.2.2.2.1 bt555.2.2.2.2.2.2.2.2.2.2.2.2.2.2.2 bt555.1 bt555.2.1 bt555.2.2.1 bt555.2.2.2.1 bt555.2.2.2.2.1 bt555.2.2.2.2.2.1 bt555.2.2.2.2.2.2.1 bt555.2.2.2.2.2.2.2.1).bind fun t597 => (if (t596 == t597) = true then ((impl_EqualRules.f kj5 bt555.1 bt555.2.1 bt555.2.2.1 bt555.2.2.2.1 bt555.2.2.2.2.1 bt555.2.2.2.2.2.1 bt555.2.2.2.2.2.2.1 bt555.2.2.2.2.2.2.2.1 bt555.1 bt555.2.1 bt555.2.2.1 bt555.2.2.2.1 bt555.2.2.2.2.1 bt555.2.2.2.2.2.1 bt555.2.2.2.2.2.2.1 bt555.2.2.2.2.2.2.2.1).bind fun t598 => (if t598 = true then ((impl_DoesSkip.f kj5 t509 t510 t511 t512 t513 t516 t519 t520 t521).bind fun t599 => (if t599 = true then ((impl_IsRules.f kj5 t509 t510 t511 t512 t513 t516 t519 t520).bind fun t600 => (some t600)) else (some true))) else (some false))) else (some false)))) else (some false)))) else (some false))) else (if ((decide (t554 > 0)) == false) = true then ((impl_EasyRules.f).bind fun bt601 => ((impl_IsRules.f kj5 bt601.1 bt601.2.1 bt601.2.2.1 bt601.2.2.2.1 bt601.2.2.2.2.1 bt601.2.2.2.2.2.1 bt601.2.2.2.2.2.2.1 bt601.2.2.2.2.2.2.2).bind fun t613 => (if t613 = true then ((impl_EqualRules.f kj5 bt555.1 bt555.2.1 bt555.2.2.1 bt555.2.2.2.1 bt555.2.2.2.2.1 bt555.2.2.2.2.2.1 bt555.2.2.2.2.2.2.1 bt555.2.2.2.2.2.2.2.1 bt555.2.2.2.2.2.2.2.2.1 bt555.2.2.2.2.2.2.2.2.2.1 bt555.2.2.2.2.2.2.2.2.2.2.1 bt555.2.2.2.2.2.2.2.2.2.2.2.1 bt555.2.2.2.2.2.2.2.2.2.2.2.2.1 bt555.2.2.2.2.2.2.2.2.2.2.2.2.2.1 bt555.2.2.2.2.2.2.2.2.2.2.2.2.2.2.1 bt555.2.2.2.2.2.2.2.2.2.2.2.2.2.2.2).bind fun t614 => ((impl_EqualRules.f kj5 bt555.2.2.2.2.2.2.2.2.1 bt555.2.2.2.2.2.2.2.2.2.1 bt555.2.2.2.2.2.2.2.2.2.2.1 bt555.2.2.2.2.2.2.2.2.2.2.2.1 bt555.2.2.2.2.2.2.2.2.2.2.2.2.1 bt555.2.2.2.2.2.2.2.2.2.2.2.2.2.1 bt555.2.2.2.2.2.2.2.2.2.2.2.2.2.2.1 bt555.2.2.2.2.2.2.2.2.2.2.2.2.2.2.2 bt555.1 bt555.2.1 bt555.2.2.1 bt555.2.2.2.1 bt555.2.2.2.2.1 bt555.2.2.2.2.2.1 bt555.2.2.2.2.2.2.1 bt555.2.2.2.2.2.2.2.1).bind fun t615 => (if (t614 == t615) = true then ((impl_EqualRules.f kj5 bt555.1 bt555.2.1 bt555.2.2.1 bt555.2.2.2.1 bt555.2.2.2.2.1 bt555.2.2.2.2.2.1 bt555.2.2.2.2.2.2.1 bt555.2.2.2.2.2.2.2.1 bt555.1 bt555.2.1 bt555.2.2.1 bt555.2.2.2.1 bt555.2.2.2.2.1 bt555.2.2.2.2.2.1 bt555.2.2.2.2.2.2.1 bt555.2.2.2.2.2.2.2.1).bind fun t616 => (if t616 = true then ((impl_DoesSkip.f kj5 t509 t510 t511 t512 t513 t516 t519 t520 t521).bind fun t617 => (if t617 = true then ((impl_IsRules.f kj5 t509 t510 t511 t512 t513 t516 t519 t520).bind fun t618 => (some t618)) else (some true))) else (some false))) else (some false)))) else (some false)))) else (some false)))) else (some false)) else (some false)))) = some r := H
     have A127 := Qr A1270
     clear A1270
     replace H := Qs.mp H
     obtain ⟨t554,A1280,H⟩ := H
     have A128 := Qr A1280
     clear A1280
     replace H := Qs.mp H
     obtain ⟨⟨t555,t556,t557,t558,t559,t562,t565,t566,t567,t568,t569,t570,t571,t574,t577,t578⟩,A1290,H⟩ := H
     replace H : (if t554 ≥ 0 then (if t554 < 52 then ((impl_IsRules.f kj5 t540 t541 t542 t543 t544 t547 t550 t551).bind fun t581 => (if t581 = true then ((impl_IsCard.f t552).bind fun t582 => (if ((decide (t554 > 0)) == t582) = true then ((impl_EasyRules.f).bind fun bt583 => ((impl_IsRules.f kj5 bt583.1 bt583.2.1 bt583.2.2.1 bt583.2.2.2.1 bt583.2.2.2.2.1 bt583.2.2.2.2.2.1 bt583.2.2.2.2.2.2.1 bt583.2.2.2.2.2.2.2).bind fun t595 => (if t595 = true then ((impl_EqualRules.f kj5 t555 t556 t557 t558 t559 t562 t565 t566 t567 t568 t569 t570 t571 t574 t577 t578).bind fun t596 => ((impl_EqualRules.f kj5 t567 t568 t569 t570 t571 t574 t577 t578 t555 t556 t557 t558 t559 t562 t565 t566).bind fun t597 => (if (t596 == t597) = true then ((impl_EqualRules.f kj5 t555 t556 t557 t558 t559 t562 t565 t566 t555 t556 t557 t558 t559 t562 t565 t566).bind fun t598 => (if t598 = true then ((impl_DoesSkip.f kj5 t509 t510 t511 t512 t513 t516 t519 t520 t521).bind fun t599 => (if t599 = true then ((impl_IsRules.f kj5 t509 t510 t511 t512 t513 t516 t519 t520).bind fun t600 => (some t600)) else (some true))) else (some false))) else (some false)))) else (some false)))) else (some false))) else (if ((decide (t554 > 0)) == false) = true then ((impl_EasyRules.f).bind fun bt601 => ((impl_IsRules.f kj5 bt601.1 bt601.2.1 bt601.2.2.1 bt601.2.2.2.1 bt601.2.2.2.2.1 bt601.2.2.2.2.2.1 bt601.2.2.2.2.2.2.1 bt601.2.2.2.2.2.2.2).bind fun t613 => (if t613 = true then ((impl_EqualRules.f kj5 t555 t556 t557 t558 t559 t562 t565 t566 t567 t568 t569 t570 t571 t574 t577 t578).bind fun t614 => ((impl_EqualRules.f kj5 t567 t568 t569 t570 t571 t574 t577 t578 t555 t556 t557 t558 t559 t562 t565 t566).bind fun t615 => (if (t614 == t615) = true then ((impl_EqualRules.f kj5 t555 t556 t557 t558 t559 t562 t565 t566 t555 t556 t557 t558 t559 t562 t565 t566).bind fun t616 => (if t616 = true then ((impl_DoesSkip.f kj5 t509 t510 t511 t512 t513 t516 t519 t520 t521).bind fun t617 => (if t617 = true then ((impl_IsRules.f kj5 t509 t510 t511 t512 t513 t516 t519 t520).bind fun t618 => (some t618)) else (some true))) else (some false))) else (some false)))) else (some false)))) else (some false)))) else (some false)) else (some false)) = some r := H
     have A129 := Qr A1290
     clear A1290
     by_cases c130 : t554 ≥ 0
     ·rw [if_pos c130] at H
      have c130b0 : decide (0 ≤ t554) = true := decide_eq_true c130
      clear c130
      by_cases c131 : t554 < 52
      ·rw [if_pos c131] at H
       have c131b0 : decide (t554 < 52) = true := decide_eq_true c131
       clear c131
       replace H := Qs.mp H
       obtain ⟨t581,A1320,H⟩ := H
       have A132 := Qr A1320
       clear A1320
       try go_wp2_with (first | ((with_reducible refine gate_callee (f := 66) rfl ?_); refine goesL_ (some 64) rfl rfl Try.func66 (by kernel_rfl) rfl #[.slice A0 l0.length c0] rfl (by (try simp only [List.map_toArray,List.map_cons,List.map_nil]); first | done | rfl | (simp only [List.length_drop,List.length_take]; rfl)) ?_; (with_reducible refine (spec_DrawFitCount.calls kj5 _ _ l0 t540 t541 t542 t543 t544 t547 t550 t551 t552 _ ?side1 ?side2 A127.out).mono ?_); (case side1 => repeat (first | exact (Kd.C_below HR0.out HB.out) | (with_reducible refine QX ?_ _) | (with_reducible refine QY ?_ _) | (with_reducible refine QZ ?_))); (case side2 => exact HC0.out); rintro e w147 ⟨v545,v548,rfl,ho0,ho1,hb⟩; refine ⟨_,rfl,?_⟩; have n0_ := Qr (Kd.Q_mono (Qj (Qj (Kd.Q_old (by (with_reducible repeat (first | apply QK | apply QL | apply QM)); exact HO_524004.out) hb) (Kd.Q_base ho0)) (Qa ho1)) (fun _ h_ => h_.1)); have n1_ := Qr (Kd.R_mono (Qk (Qk (Kd.R_old (by (with_reducible repeat (first | apply QE | apply QF | apply QH)); exact HO_524005.out) hb) (Kd.Q_base ho0)) (Qa ho1)) (fun _ h_ => h_.1)); have n2_ := Qr (Kd.Q_lower (Kd.Q_new' (Kd.Q_new' ho0 (Kd.Q_lt (by (with_reducible repeat (first | apply QK | apply QL | apply QM)); exact HO_524004.out))) (Kd.R_lt (by (with_reducible repeat (first | apply QE | apply QF | apply QH)); exact HO_524005.out))) (Qm (by repeat (first | (with_reducible first | exact HB.out | apply QT | apply QO | apply QS | refine QJ ?_ GE523.out) | exact HB.out)))); have n3_ := Qr (Kd.R_lower (Qb (Qb ho1 (Kd.Q_lt (by (with_reducible repeat (first | apply QK | apply QL | apply QM)); exact HO_524004.out))) (Kd.R_lt (by (with_reducible repeat (first | apply QE | apply QF | apply QH)); exact HO_524005.out))) (Qm (by repeat (first | (with_reducible first | exact HB.out | apply QT | apply QO | apply QS | refine QJ ?_ GE523.out) | exact HB.out)))); have n4_ := Qr (QV (g := gb523) (o := .cells #[.int .i64 t509,.int .i64 t510,.bool t511,.bool t512,.slice Ao10 t513.length co10,.slice Ao11 t516.length co11,.int .i64 t519,.int .i64 t520] 74 (0,0)) (by (with_reducible repeat (first | refine QC ?_ _ | refine QG ?_ | refine QD ?_ _)); exact BK523.out) hb); have n5_ := Qr (Qc (by repeat (first | (with_reducible first | exact HB.out | apply QT | apply QO | apply QS | refine QJ ?_ GE523.out) | exact HB.out)) hb); clear HO_524004; clear HO_524005; clear BK523; clear HB; revert n0_ n1_ n2_ n3_ n4_ n5_; intro HO_524004 HO_524005 HO546 HO549 BK523 HB; (try clear hb); (try clear hb2); (try clear hk); (try clear hi); (try clear ho0); (try clear ho1)) | ((with_reducible refine gate_dst (N := 7) rfl ?_); refine box_event ?hg (N := 7) ?hd (cs := #[.int .i64 0,.int .i64 0,.bool false,.bool false,.slice none 0 0,.slice none 0 0,.int .i64 0,.int .i64 0]) (t := 74) ?hr ?_; (case hd => rfl); (case hg => rfl); (case hr => first | (go_simp; done) | (go_simp; rfl)); intro gb553 hg w148 hbox hb; have n0_ := Qr (QP (by (with_reducible repeat (first | apply QK | apply QL | apply QM)); exact HO_524004.out) hb); have n1_ := Qr (QN (by (with_reducible repeat (first | apply QE | apply QF | apply QH)); exact HO_524005.out) hb); have n2_ := Qr (QP (by (with_reducible repeat (first | apply QK | apply QL | apply QM)); exact HO546.out) hb); have n3_ := Qr (QN (by (with_reducible repeat (first | apply QE | apply QF | apply QH)); exact HO549.out) hb); have n4_ := Qr (QV (g := gb523) (o := .cells #[.int .i64 t509,.int .i64 t510,.bool t511,.bool t512,.slice Ao10 t513.length co10,.slice Ao11 t516.length co11,.int .i64 t519,.int .i64 t520] 74 (0,0)) (by (with_reducible repeat (first | refine QC ?_ _ | refine QG ?_ | refine QD ?_ _)); exact BK523.out) hb); have n5_ := Qr (Qc (by repeat (first | (with_reducible first | exact HB.out | apply QT | apply QO | apply QS | refine QJ ?_ GE523.out) | exact HB.out)) hb); have n6_ := Qr (hbox); have n7_ := Qr ((by rw [hg]; exact (Qm (by repeat (first | (with_reducible first | exact HB.out | apply QT | apply QO | apply QS | refine QJ ?_ GE523.out) | exact HB.out))) : w.heap.size ≤ gb553)); have n8_ := Qr ((by rw [hg]; exact (Qm (by repeat (first | (with_reducible first | exact HB.out | apply QT | apply QO | apply QS | refine QJ ?_ GE523.out) | exact HB.out))) : w.heap.size ≤ gb553)); have n9_ := Qr ((by rw [hg]; exact Nat.ne_of_lt (blk_lt (g := gb523) (o := .cells #[.int .i64 t509,.int .i64 t510,.bool t511,.bool t512,.slice Ao10 t513.length co10,.slice Ao11 t516.length co11,.int .i64 t519,.int .i64 t520] 74 (0,0)) (by (with_reducible repeat (first | refine QC ?_ _ | refine QG ?_ | refine QD ?_ _)); exact BK523.out)) : gb523 ≠ gb553)); have n10_ := Qr ((by rw [hg]; exact Nat.ne_of_gt (blk_lt (g := gb523) (o := .cells #[.int .i64 t509,.int .i64 t510,.bool t511,.bool t512,.slice Ao10 t513.length co10,.slice Ao11 t516.length co11,.int .i64 t519,.int .i64 t520] 74 (0,0)) (by (with_reducible repeat (first | refine QC ?_ _ | refine QG ?_ | refine QD ?_ _)); exact BK523.out)) : gb553 ≠ gb523)); clear HO_524004; clear HO_524005; clear HO546; clear HO549; clear BK523; clear HB; revert n0_ n1_ n2_ n3_ n4_ n5_ n6_ n7_ n8_ n9_ n10_; intro HO_524004 HO_524005 HO546 HO549 BK523 HB BK553 GW553 GE553 NB523_553 NB553_523; clear hb hbox hg; have hnb149 := NB553_523.out; have hnc149 := NB523_553.out; have hcz150_0 : w148.cell? ⟨gb553,0,none⟩ = some (.int .i64 0) := (QB BK553.out 0).trans rfl; have hcz150_1 : w148.cell? ⟨gb553,1,none⟩ = some (.int .i64 0) := (QB BK553.out 1).trans rfl; have hcz150_2 : w148.cell? ⟨gb553,2,none⟩ = some (.bool false) := (QB BK553.out 2).trans rfl; have hcz150_3 : w148.cell? ⟨gb553,3,none⟩ = some (.bool false) := (QB BK553.out 3).trans rfl; have hcz150_4 : w148.cell? ⟨gb553,4,none⟩ = some (.slice none 0 0) := (QB BK553.out 4).trans rfl; have hcz150_5 : w148.cell? ⟨gb553,5,none⟩ = some (.slice none 0 0) := (QB BK553.out 5).trans rfl; have hcz150_6 : w148.cell? ⟨gb553,6,none⟩ = some (.int .i64 0) := (QB BK553.out 6).trans rfl; have hcz150_7 : w148.cell? ⟨gb553,7,none⟩ = some (.int .i64 0) := (QB BK553.out 7).trans rfl; have hfz150_0 := QI BK553.out 0; have hfz150_1 := QI BK553.out 1; have hfz150_2 := QI BK553.out 2; have hfz150_3 := QI BK553.out 3; have hfz150_4 := QI BK553.out 4; have hfz150_5 := QI BK553.out 5; have hfz150_6 := QI BK553.out 6; have hfz150_7 := QI BK553.out 7; obtain ⟨Ao151,co151,eo151,_⟩ := Kd.Q_slice HO546.out; subst eo151; obtain ⟨Ao152,co152,eo152⟩ := Kd.R_slice HO549.out; subst eo152) | ((with_reducible refine gate_callee (f := 67) rfl ?_); refine goesL_ (some 69) rfl rfl Try.func67 (by kernel_rfl) rfl #[.agg #[.int .i64 t540,.int .i64 t541,.bool t542,.bool t543,.slice Ao151 t544.length co151,.slice Ao152 t547.length co152,.int .i64 t550,.int .i64 t551],.int .i64 t552] rfl (by (try simp only [List.map_toArray,List.map_cons,List.map_nil]); first | done | rfl | (simp only [List.length_drop,List.length_take]; rfl)) ?_; (with_reducible refine (impl_FitCount.calls kj5 t540 t541 t542 t543 _ _ t544 _ _ t547 t550 t551 t552 t554 _ ?side1 ?side2 ?side3 ?side4 A128.out).mono ?_); (case side1 => refine (QW (e := 3) (base := w.heap.size) (ok := fun k_ => ((some k_ ≠ (.slice Ao152 t547.length co152 : Value).ownBlock ∧ some k_ ≠ (.slice Ao10 t513.length co10 : Value).ownBlock) ∧ some k_ ≠ (.slice Ao11 t516.length co11 : Value).ownBlock)) (n := t544.length) (c := co151) ?_).2.2; exact (by (with_reducible repeat (first | apply QK | apply QL | apply QM)); exact (Kd.Q_mono (QR (p := ⟨gb553,7,none⟩) (QR (p := ⟨gb553,6,none⟩) (QR (p := ⟨gb553,5,none⟩) (QR (p := ⟨gb553,4,none⟩) (QR (p := ⟨gb553,3,none⟩) (QR (p := ⟨gb553,2,none⟩) (QR (p := ⟨gb553,1,none⟩) (QR (p := ⟨gb553,0,none⟩) (Kd.Q_types HO546.out BK553.out (by decide)) (fun _ hk => hk.2) (.int .i64 t540)) (fun _ hk => hk.2) (.int .i64 t541)) (fun _ hk => hk.2) (.bool t542)) (fun _ hk => hk.2) (.bool t543)) (fun _ hk => hk.2) (.slice Ao151 t544.length co151)) (fun _ hk => hk.2) (.slice Ao152 t547.length co152)) (fun _ hk => hk.2) (.int .i64 t550)) (fun _ hk => hk.2) (.int .i64 t551)) (fun _ h_ => h_.1)))); (case side2 => exact (QW HO546.out).2.1); (case side3 => refine (QU (e := 3) (base := w.heap.size) (ok := fun k_ => ((some k_ ≠ (.slice Ao151 t544.length co151 : Value).ownBlock ∧ some k_ ≠ (.slice Ao10 t513.length co10 : Value).ownBlock) ∧ some k_ ≠ (.slice Ao11 t516.length co11 : Value).ownBlock)) (n := t547.length) (c := co152) ?_).2.2; exact (by (with_reducible repeat (first | apply QE | apply QF | apply QH)); exact (Kd.R_mono (Qh (Qh (Qh (Qh (Qh (Qh (Qh (Qh (Kd.R_types HO549.out BK553.out (by decide)))))))))) (fun _ h_ => h_.1)))); (case side4 => exact (QU HO549.out).2.1); rintro e w153 ⟨rfl,hb⟩; refine ⟨_,rfl,?_⟩; have n0_ := Qr (QP (by (with_reducible repeat (first | apply QK | apply QL | apply QM)); exact (Kd.Q_mono (QR (p := ⟨gb553,7,none⟩) (QR (p := ⟨gb553,6,none⟩) (QR (p := ⟨gb553,5,none⟩) (QR (p := ⟨gb553,4,none⟩) (QR (p := ⟨gb553,3,none⟩) (QR (p := ⟨gb553,2,none⟩) (QR (p := ⟨gb553,1,none⟩) (QR (p := ⟨gb553,0,none⟩) (Kd.Q_types HO_524004.out BK553.out (by decide)) (fun _ hk => hk.2) (.int .i64 t540)) (fun _ hk => hk.2) (.int .i64 t541)) (fun _ hk => hk.2) (.bool t542)) (fun _ hk => hk.2) (.bool t543)) (fun _ hk => hk.2) (.slice Ao151 t544.length co151)) (fun _ hk => hk.2) (.slice Ao152 t547.length co152)) (fun _ hk => hk.2) (.int .i64 t550)) (fun _ hk => hk.2) (.int .i64 t551)) (fun _ h_ => h_.1))) hb); have n1_ := Qr (QN (by (with_reducible repeat (first | apply QE | apply QF | apply QH)); exact (Kd.R_mono (Qh (Qh (Qh (Qh (Qh (Qh (Qh (Qh (Kd.R_types HO_524005.out BK553.out (by decide)))))))))) (fun _ h_ => h_.1))) hb); have n2_ := Qr (QP (by (with_reducible repeat (first | apply QK | apply QL | apply QM)); exact (Kd.Q_mono (QR (p := ⟨gb553,7,none⟩) (QR (p := ⟨gb553,6,none⟩) (QR (p := ⟨gb553,5,none⟩) (QR (p := ⟨gb553,4,none⟩) (QR (p := ⟨gb553,3,none⟩) (QR (p := ⟨gb553,2,none⟩) (QR (p := ⟨gb553,1,none⟩) (QR (p := ⟨gb553,0,none⟩) (Kd.Q_types HO546.out BK553.out (by decide)) (fun _ hk => hk.2) (.int .i64 t540)) (fun _ hk => hk.2) (.int .i64 t541)) (fun _ hk => hk.2) (.bool t542)) (fun _ hk => hk.2) (.bool t543)) (fun _ hk => hk.2) (.slice Ao151 t544.length co151)) (fun _ hk => hk.2) (.slice Ao152 t547.length co152)) (fun _ hk => hk.2) (.int .i64 t550)) (fun _ hk => hk.2) (.int .i64 t551)) (fun _ h_ => h_.1))) hb); have n3_ := Qr (QN (by (with_reducible repeat (first | apply QE | apply QF | apply QH)); exact (Kd.R_mono (Qh (Qh (Qh (Qh (Qh (Qh (Qh (Qh (Kd.R_types HO549.out BK553.out (by decide)))))))))) (fun _ h_ => h_.1))) hb); have n4_ := Qr (QV (g := gb523) (o := .cells #[.int .i64 t509,.int .i64 t510,.bool t511,.bool t512,.slice Ao10 t513.length co10,.slice Ao11 t516.length co11,.int .i64 t519,.int .i64 t520] 74 (0,0)) (by (with_reducible repeat (first | refine QC ?_ _ | refine QG ?_ | refine QD ?_ _)); refine Qd ?_ NB523_553.out _; (with_reducible repeat (first | refine QC ?_ _ | refine QG ?_ | refine QD ?_ _)); refine Qd ?_ NB523_553.out _; (with_reducible repeat (first | refine QC ?_ _ | refine QG ?_ | refine QD ?_ _)); refine Qd ?_ NB523_553.out _; (with_reducible repeat (first | refine QC ?_ _ | refine QG ?_ | refine QD ?_ _)); refine Qd ?_ NB523_553.out _; (with_reducible repeat (first | refine QC ?_ _ | refine QG ?_ | refine QD ?_ _)); refine Qd ?_ NB523_553.out _; (with_reducible repeat (first | refine QC ?_ _ | refine QG ?_ | refine QD ?_ _)); refine Qd ?_ NB523_553.out _; (with_reducible repeat (first | refine QC ?_ _ | refine QG ?_ | refine QD ?_ _)); refine Qd ?_ NB523_553.out _; (with_reducible repeat (first | refine QC ?_ _ | refine QG ?_ | refine QD ?_ _)); refine Qd ?_ NB523_553.out _; (with_reducible repeat (first | refine QC ?_ _ | refine QG ?_ | refine QD ?_ _)); exact BK523.out) hb); have n5_ := Qr (QV (g := gb553) (o := .cells #[.int .i64 t540,.int .i64 t541,.bool t542,.bool t543,.slice Ao151 t544.length co151,.slice Ao152 t547.length co152,.int .i64 t550,.int .i64 t551] 74 (0,0)) (by (with_reducible repeat (first | refine QC ?_ _ | refine QG ?_ | refine QD ?_ _)); refine Qn (cs := #[.int .i64 t540,.int .i64 t541,.bool t542,.bool t543,.slice Ao151 t544.length co151,.slice Ao152 t547.length co152,.int .i64 t550,.int .i64 0]) ?_ 7 _ rfl; (with_reducible repeat (first | refine QC ?_ _ | refine QG ?_ | refine QD ?_ _)); refine Qn (cs := #[.int .i64 t540,.int .i64 t541,.bool t542,.bool t543,.slice Ao151 t544.length co151,.slice Ao152 t547.length co152,.int .i64 0,.int .i64 0]) ?_ 6 _ rfl; (with_reducible repeat (first | refine QC ?_ _ | refine QG ?_ | refine QD ?_ _)); refine Qn (cs := #[.int .i64 t540,.int .i64 t541,.bool t542,.bool t543,.slice Ao151 t544.length co151,.slice none 0 0,.int .i64 0,.int .i64 0]) ?_ 5 _ rfl; (with_reducible repeat (first | refine QC ?_ _ | refine QG ?_ | refine QD ?_ _)); refine Qn (cs := #[.int .i64 t540,.int .i64 t541,.bool t542,.bool t543,.slice none 0 0,.slice none 0 0,.int .i64 0,.int .i64 0]) ?_ 4 _ rfl; (with_reducible repeat (first | refine QC ?_ _ | refine QG ?_ | refine QD ?_ _)); refine Qn (cs := #[.int .i64 t540,.int .i64 t541,.bool t542,.bool false,.slice none 0 0,.slice none 0 0,.int .i64 0,.int .i64 0]) ?_ 3 _ rfl; (with_reducible repeat (first | refine QC ?_ _ | refine QG ?_ | refine QD ?_ _)); refine Qn (cs := #[.int .i64 t540,.int .i64 t541,.bool false,.bool false,.slice none 0 0,.slice none 0 0,.int .i64 0,.int .i64 0]) ?_ 2 _ rfl; (with_reducible repeat (first | refine QC ?_ _ | refine QG ?_ | refine QD ?_ _)); refine Qn (cs := #[.int .i64 t540,.int .i64 0,.bool false,.bool false,.slice none 0 0,.slice none 0 0,.int .i64 0,.int .i64 0]) ?_ 1 _ rfl; (with_reducible repeat (first | refine QC ?_ _ | refine QG ?_ | refine QD ?_ _)); refine Qn (cs := #[.int .i64 0,.int .i64 0,.bool false,.bool false,.slice none 0 0,.slice none 0 0,.int .i64 0,.int .i64 0]) ?_ 0 _ rfl; (with_reducible repeat (first | refine QC ?_ _ | refine QG ?_ | refine QD ?_ _)); exact BK553.out) hb); have n6_ := Qr (Qc (by repeat (first | (with_reducible first | exact HB.out | apply QT | apply QO | apply QS | refine QJ ?_ GE523.out | refine QJ ?_ GE553.out) | exact HB.out)) hb); clear HO_524004; clear HO_524005; clear HO546; clear HO549; clear BK523; clear BK553; clear HB; revert n0_ n1_ n2_ n3_ n4_ n5_ n6_; intro HO_524004 HO_524005 HO546 HO549 BK523 BK553 HB; (try clear hb); (try clear hb2); (try clear hk); (try clear hi)) | ((with_reducible refine gate_callee (f := 68) rfl ?_); refine goesL_ (some 72) rfl rfl Try.func68 (by kernel_rfl) rfl #[.slice A0 l0.length c0] rfl (by (try simp only [List.map_toArray,List.map_cons,List.map_nil]); first | done | rfl | (simp only [List.length_drop,List.length_take]; rfl)) ?_; (with_reducible refine (spec_DrawEqualRules.calls kj5 _ _ l0 t555 t556 t557 t558 t559 t562 t565 t566 t567 t568 t569 t570 t571 t574 t577 t578 _ ?side1 ?side2 A129.out).mono ?_); (case side1 => repeat (first | exact (Kd.C_below HR0.out HB.out) | (with_reducible refine QX ?_ _) | (with_reducible refine QY ?_ _) | (with_reducible refine QZ ?_))); (case side2 => exact HC0.out); rintro e w154 ⟨v560,v563,v572,v575,rfl,ho0,ho1,ho2,ho3,hb⟩; refine ⟨_,rfl,?_⟩; have n0_ := Qr (Kd.Q_mono (Qj (Qj (Qj (Qj (Kd.Q_old (by (with_reducible repeat (first | apply QK | apply QL | apply QM)); exact HO_524004.out) hb) (Kd.Q_base ho0)) (Qa ho1)) (Kd.Q_base ho2)) (Qa ho3)) (fun _ h_ => h_.1)); have n1_ := Qr (Kd.R_mono (Qk (Qk (Qk (Qk (Kd.R_old (by (with_reducible repeat (first | apply QE | apply QF | apply QH)); exact HO_524005.out) hb) (Kd.Q_base ho0)) (Qa ho1)) (Kd.Q_base ho2)) (Qa ho3)) (fun _ h_ => h_.1)); have n2_ := Qr (Kd.Q_mono (Qj (Qj (Qj (Qj (Kd.Q_old (by (with_reducible repeat (first | apply QK | apply QL | apply QM)); exact HO546.out) hb) (Kd.Q_base ho0)) (Qa ho1)) (Kd.Q_base ho2)) (Qa ho3)) (fun _ h_ => h_.1)); have n3_ := Qr (Kd.R_mono (Qk (Qk (Qk (Qk (Kd.R_old (by (with_reducible repeat (first | apply QE | apply QF | apply QH)); exact HO549.out) hb) (Kd.Q_base ho0)) (Qa ho1)) (Kd.Q_base ho2)) (Qa ho3)) (fun _ h_ => h_.1)); have n4_ := Qr (Kd.Q_lower (Kd.Q_new' (Kd.Q_new' (Kd.Q_new' (Kd.Q_new' ho0 (Kd.Q_lt (by (with_reducible repeat (first | apply QK | apply QL | apply QM)); exact HO_524004.out))) (Kd.R_lt (by (with_reducible repeat (first | apply QE | apply QF | apply QH)); exact HO_524005.out))) (Kd.Q_lt (by (with_reducible repeat (first | apply QK | apply QL | apply QM)); exact HO546.out))) (Kd.R_lt (by (with_reducible repeat (first | apply QE | apply QF | apply QH)); exact HO549.out))) (Qm (by repeat (first | (with_reducible first | exact HB.out | apply QT | apply QO | apply QS | refine QJ ?_ GE523.out | refine QJ ?_ GE553.out) | exact HB.out)))); have n5_ := Qr (Kd.R_lower (Qb (Qb (Qb (Qb ho1 (Kd.Q_lt (by (with_reducible repeat (first | apply QK | apply QL | apply QM)); exact HO_524004.out))) (Kd.R_lt (by (with_reducible repeat (first | apply QE | apply QF | apply QH)); exact HO_524005.out))) (Kd.Q_lt (by (with_reducible repeat (first | apply QK | apply QL | apply QM)); exact HO546.out))) (Kd.R_lt (by (with_reducible repeat (first | apply QE | apply QF | apply QH)); exact HO549.out))) (Qm (by repeat (first | (with_reducible first | exact HB.out | apply QT | apply QO | apply QS | refine QJ ?_ GE523.out | refine QJ ?_ GE553.out) | exact HB.out)))); have n6_ := Qr (Kd.Q_lower (Kd.Q_new' (Kd.Q_new' (Kd.Q_new' (Kd.Q_new' ho2 (Kd.Q_lt (by (with_reducible repeat (first | apply QK | apply QL | apply QM)); exact HO_524004.out))) (Kd.R_lt (by (with_reducible repeat (first | apply QE | apply QF | apply QH)); exact HO_524005.out))) (Kd.Q_lt (by (with_reducible repeat (first | apply QK | apply QL | apply QM)); exact HO546.out))) (Kd.R_lt (by (with_reducible repeat (first | apply QE | apply QF | apply QH)); exact HO549.out))) (Qm (by repeat (first | (with_reducible first | exact HB.out | apply QT | apply QO | apply QS | refine QJ ?_ GE523.out | refine QJ ?_ GE553.out) | exact HB.out)))); have n7_ := Qr (Kd.R_lower (Qb (Qb (Qb (Qb ho3 (Kd.Q_lt (by (with_reducible repeat (first | apply QK | apply QL | apply QM)); exact HO_524004.out))) (Kd.R_lt (by (with_reducible repeat (first | apply QE | apply QF | apply QH)); exact HO_524005.out))) (Kd.Q_lt (by (with_reducible repeat (first | apply QK | apply QL | apply QM)); exact HO546.out))) (Kd.R_lt (by (with_reducible repeat (first | apply QE | apply QF | apply QH)); exact HO549.out))) (Qm (by repeat (first | (with_reducible first | exact HB.out | apply QT | apply QO | apply QS | refine QJ ?_ GE523.out | refine QJ ?_ GE553.out) | exact HB.out)))); have n8_ := Qr (QV (g := gb523) (o := .cells #[.int .i64 t509,.int .i64 t510,.bool t511,.bool t512,.slice Ao10 t513.length co10,.slice Ao11 t516.length co11,.int .i64 t519,.int .i64 t520] 74 (0,0)) (by (with_reducible repeat (first | refine QC ?_ _ | refine QG ?_ | refine QD ?_ _)); exact BK523.out) hb); have n9_ := Qr (QV (g := gb553) (o := .cells #[.int .i64 t540,.int .i64 t541,.bool t542,.bool t543,.slice Ao151 t544.length co151,.slice Ao152 t547.length co152,.int .i64 t550,.int .i64 t551] 74 (0,0)) (by (with_reducible repeat (first | refine QC ?_ _ | refine QG ?_ | refine QD ?_ _)); exact BK553.out) hb); have n10_ := Qr (Qc (by repeat (first | (with_reducible first | exact HB.out | apply QT | apply QO | apply QS | refine QJ ?_ GE523.out | refine QJ ?_ GE553.out) | exact HB.out)) hb); clear HO_524004; clear HO_524005; clear HO546; clear HO549; clear BK523; clear BK553; clear HB; revert n0_ n1_ n2_ n3_ n4_ n5_ n6_ n7_ n8_ n9_ n10_; intro HO_524004 HO_524005 HO546 HO549 HO561 HO564 HO573 HO576 BK523 BK553 HB; (try clear hb); (try clear hb2); (try clear hk); (try clear hi); (try clear ho0); (try clear ho1); (try clear ho2); (try clear ho3)) | ((with_reducible refine gate_dst (N := 10) rfl ?_); refine box_event ?hg (N := 10) ?hd (cs := #[.int .i64 0,.int .i64 0,.bool false,.bool false,.slice none 0 0,.slice none 0 0,.int .i64 0,.int .i64 0]) (t := 74) ?hr ?_; (case hd => rfl); (case hg => rfl); (case hr => first | (go_simp; done) | (go_simp; rfl)); intro gb579 hg w155 hbox hb; have n0_ := Qr (QP (by (with_reducible repeat (first | apply QK | apply QL | apply QM)); exact HO_524004.out) hb); have n1_ := Qr (QN (by (with_reducible repeat (first | apply QE | apply QF | apply QH)); exact HO_524005.out) hb); have n2_ := Qr (QP (by (with_reducible repeat (first | apply QK | apply QL | apply QM)); exact HO546.out) hb); have n3_ := Qr (QN (by (with_reducible repeat (first | apply QE | apply QF | apply QH)); exact HO549.out) hb); have n4_ := Qr (QP (by (with_reducible repeat (first | apply QK | apply QL | apply QM)); exact HO561.out) hb); have n5_ := Qr (QN (by (with_reducible repeat (first | apply QE | apply QF | apply QH)); exact HO564.out) hb); have n6_ := Qr (QP (by (with_reducible repeat (first | apply QK | apply QL | apply QM)); exact HO573.out) hb); have n7_ := Qr (QN (by (with_reducible repeat (first | apply QE | apply QF | apply QH)); exact HO576.out) hb); have n8_ := Qr (QV (g := gb523) (o := .cells #[.int .i64 t509,.int .i64 t510,.bool t511,.bool t512,.slice Ao10 t513.length co10,.slice Ao11 t516.length co11,.int .i64 t519,.int .i64 t520] 74 (0,0)) (by (with_reducible repeat (first | refine QC ?_ _ | refine QG ?_ | refine QD ?_ _)); exact BK523.out) hb); have n9_ := Qr (QV (g := gb553) (o := .cells #[.int .i64 t540,.int .i64 t541,.bool t542,.bool t543,.slice Ao151 t544.length co151,.slice Ao152 t547.length co152,.int .i64 t550,.int .i64 t551] 74 (0,0)) (by (with_reducible repeat (first | refine QC ?_ _ | refine QG ?_ | refine QD ?_ _)); exact BK553.out) hb); have n10_ := Qr (Qc (by repeat (first | (with_reducible first | exact HB.out | apply QT | apply QO | apply QS | refine QJ ?_ GE523.out | refine QJ ?_ GE553.out) | exact HB.out)) hb); have n11_ := Qr (hbox); have n12_ := Qr ((by rw [hg]; exact (Qm (by repeat (first | (with_reducible first | exact HB.out | apply QT | apply QO | apply QS | refine QJ ?_ GE523.out | refine QJ ?_ GE553.out) | exact HB.out))) : w.heap.size ≤ gb579)); have n13_ := Qr ((by rw [hg]; exact (Qm (by repeat (first | (with_reducible first | exact HB.out | apply QT | apply QO | apply QS | refine QJ ?_ GE523.out | refine QJ ?_ GE553.out) | exact HB.out))) : w.heap.size ≤ gb579)); have n14_ := Qr ((by rw [hg]; exact Nat.ne_of_lt (blk_lt (g := gb523) (o := .cells #[.int .i64 t509,.int .i64 t510,.bool t511,.bool t512,.slice Ao10 t513.length co10,.slice Ao11 t516.length co11,.int .i64 t519,.int .i64 t520] 74 (0,0)) (by (with_reducible repeat (first | refine QC ?_ _ | refine QG ?_ | refine QD ?_ _)); exact BK523.out)) : gb523 ≠ gb579)); have n15_ := Qr ((by rw [hg]; exact Nat.ne_of_gt (blk_lt (g := gb523) (o := .cells #[.int .i64 t509,.int .i64 t510,.bool t511,.bool t512,.slice Ao10 t513.length co10,.slice Ao11 t516.length co11,.int .i64 t519,.int .i64 t520] 74 (0,0)) (by (with_reducible repeat (first | refine QC ?_ _ | refine QG ?_ | refine QD ?_ _)); exact BK523.out)) : gb579 ≠ gb523)); have n16_ := Qr ((by rw [hg]; exact Nat.ne_of_lt (blk_lt (g := gb553) (o := .cells #[.int .i64 t540,.int .i64 t541,.bool t542,.bool t543,.slice Ao151 t544.length co151,.slice Ao152 t547.length co152,.int .i64 t550,.int .i64 t551] 74 (0,0)) (by (with_reducible repeat (first | refine QC ?_ _ | refine QG ?_ | refine QD ?_ _)); exact BK553.out)) : gb553 ≠ gb579)); have n17_ := Qr ((by rw [hg]; exact Nat.ne_of_gt (blk_lt (g := gb553) (o := .cells #[.int .i64 t540,.int .i64 t541,.bool t542,.bool t543,.slice Ao151 t544.length co151,.slice Ao152 t547.length co152,.int .i64 t550,.int .i64 t551] 74 (0,0)) (by (with_reducible repeat (first | refine QC ?_ _ | refine QG ?_ | refine QD ?_ _)); exact BK553.out)) : gb579 ≠ gb553)); clear HO_524004; clear HO_524005; clear HO546; clear HO549; clear HO561; clear HO564; clear HO573; clear HO576; clear BK523; clear BK553; clear HB; revert n0_ n1_ n2_ n3_ n4_ n5_ n6_ n7_ n8_ n9_ n10_ n11_ n12_ n13_ n14_ n15_ n16_ n17_; intro HO_524004 HO_524005 HO546 HO549 HO561 HO564 HO573 HO576 BK523 BK553 HB BK579 GW579 GE579 NB523_579 NB579_523 NB553_579 NB579_553; clear hb hbox hg) | ((with_reducible refine gate_dst (N := 11) rfl ?_); refine box_event ?hg (N := 11) ?hd (cs := #[.int .i64 0,.int .i64 0,.bool false,.bool false,.slice none 0 0,.slice none 0 0,.int .i64 0,.int .i64 0]) (t := 74) ?hr ?_; (case hd => rfl); (case hg => rfl); (case hr => first | (go_simp; done) | (go_simp; rfl)); intro gb580 hg w156 hbox hb; have n0_ := Qr (QP (by (with_reducible repeat (first | apply QK | apply QL | apply QM)); exact HO_524004.out) hb); have n1_ := Qr (QN (by (with_reducible repeat (first | apply QE | apply QF | apply QH)); exact HO_524005.out) hb); have n2_ := Qr (QP (by (with_reducible repeat (first | apply QK | apply QL | apply QM)); exact HO546.out) hb); have n3_ := Qr (QN (by (with_reducible repeat (first | apply QE | apply QF | apply QH)); exact HO549.out) hb); have n4_ := Qr (QP (by (with_reducible repeat (first | apply QK | apply QL | apply QM)); exact HO561.out) hb); have n5_ := Qr (QN (by (with_reducible repeat (first | apply QE | apply QF | apply QH)); exact HO564.out) hb); have n6_ := Qr (QP (by (with_reducible repeat (first | apply QK | apply QL | apply QM)); exact HO573.out) hb); have n7_ := Qr (QN (by (with_reducible repeat (first | apply QE | apply QF | apply QH)); exact HO576.out) hb); have n8_ := Qr (QV (g := gb523) (o := .cells #[.int .i64 t509,.int .i64 t510,.bool t511,.bool t512,.slice Ao10 t513.length co10,.slice Ao11 t516.length co11,.int .i64 t519,.int .i64 t520] 74 (0,0)) (by (with_reducible repeat (first | refine QC ?_ _ | refine QG ?_ | refine QD ?_ _)); exact BK523.out) hb); have n9_ := Qr (QV (g := gb553) (o := .cells #[.int .i64 t540,.int .i64 t541,.bool t542,.bool t543,.slice Ao151 t544.length co151,.slice Ao152 t547.length co152,.int .i64 t550,.int .i64 t551] 74 (0,0)) (by (with_reducible repeat (first | refine QC ?_ _ | refine QG ?_ | refine QD ?_ _)); exact BK553.out) hb); have n10_ := Qr (QV (g := gb579) (o := .cells #[.int .i64 0,.int .i64 0,.bool false,.bool false,.slice none 0 0,.slice none 0 0,.int .i64 0,.int .i64 0] 74 (0,0)) (by (with_reducible repeat (first | refine QC ?_ _ | refine QG ?_ | refine QD ?_ _)); exact BK579.out) hb); have n11_ := Qr (Qc (by repeat (first | (with_reducible first | exact HB.out | apply QT | apply QO | apply QS | refine QJ ?_ GE523.out | refine QJ ?_ GE553.out | refine QJ ?_ GE579.out) | exact HB.out)) hb); have n12_ := Qr (hbox); have n13_ := Qr ((by rw [hg]; exact (Qm (by repeat (first | (with_reducible first | exact HB.out | apply QT | apply QO | apply QS | refine QJ ?_ GE523.out | refine QJ ?_ GE553.out | refine QJ ?_ GE579.out) | exact HB.out))) : w.heap.size ≤ gb580)); have n14_ := Qr ((by rw [hg]; exact (Qm (by repeat (first | (with_reducible first | exact HB.out | apply QT | apply QO | apply QS | refine QJ ?_ GE523.out | refine QJ ?_ GE553.out | refine QJ ?_ GE579.out) | exact HB.out))) : w.heap.size ≤ gb580)); have n15_ := Qr ((by rw [hg]; exact Nat.ne_of_lt (blk_lt (g := gb523) (o := .cells #[.int .i64 t509,.int .i64 t510,.bool t511,.bool t512,.slice Ao10 t513.length co10,.slice Ao11 t516.length co11,.int .i64 t519,.int .i64 t520] 74 (0,0)) (by (with_reducible repeat (first | refine QC ?_ _ | refine QG ?_ | refine QD ?_ _)); exact BK523.out)) : gb523 ≠ gb580)); have n16_ := Qr ((by rw [hg]; exact Nat.ne_of_gt (blk_lt (g := gb523) (o := .cells #[.int .i64 t509,.int .i64 t510,.bool t511,.bool t512,.slice Ao10 t513.length co10,.slice Ao11 t516.length co11,.int .i64 t519,.int .i64 t520] 74 (0,0)) (by (with_reducible repeat (first | refine QC ?_ _ | refine QG ?_ | refine QD ?_ _)); exact BK523.out)) : gb580 ≠ gb523)); have n17_ := Qr ((by rw [hg]; exact Nat.ne_of_lt (blk_lt (g := gb553) (o := .cells #[.int .i64 t540,.int .i64 t541,.bool t542,.bool t543,.slice Ao151 t544.length co151,.slice Ao152 t547.length co152,.int .i64 t550,.int .i64 t551] 74 (0,0)) (by (with_reducible repeat (first | refine QC ?_ _ | refine QG ?_ | refine QD ?_ _)); exact BK553.out)) : gb553 ≠ gb580)); have n18_ := Qr ((by rw [hg]; exact Nat.ne_of_gt (blk_lt (g := gb553) (o := .cells #[.int .i64 t540,.int .i64 t541,.bool t542,.bool t543,.slice Ao151 t544.length co151,.slice Ao152 t547.length co152,.int .i64 t550,.int .i64 t551] 74 (0,0)) (by (with_reducible repeat (first | refine QC ?_ _ | refine QG ?_ | refine QD ?_ _)); exact BK553.out)) : gb580 ≠ gb553)); have n19_ := Qr ((by rw [hg]; exact Nat.ne_of_lt (blk_lt (g := gb579) (o := .cells #[.int .i64 0,.int .i64 0,.bool false,.bool false,.slice none 0 0,.slice none 0 0,.int .i64 0,.int .i64 0] 74 (0,0)) (by (with_reducible repeat (first | refine QC ?_ _ | refine QG ?_ | refine QD ?_ _)); exact BK579.out)) : gb579 ≠ gb580)); have n20_ := Qr ((by rw [hg]; exact Nat.ne_of_gt (blk_lt (g := gb579) (o := .cells #[.int .i64 0,.int .i64 0,.bool false,.bool false,.slice none 0 0,.slice none 0 0,.int .i64 0,.int .i64 0] 74 (0,0)) (by (with_reducible repeat (first | refine QC ?_ _ | refine QG ?_ | refine QD ?_ _)); exact BK579.out)) : gb580 ≠ gb579)); clear HO_524004; clear HO_524005; clear HO546; clear HO549; clear HO561; clear HO564; clear HO573; clear HO576; clear BK523; clear BK553; clear BK579; clear HB; revert n0_ n1_ n2_ n3_ n4_ n5_ n6_ n7_ n8_ n9_ n10_ n11_ n12_ n13_ n14_ n15_ n16_ n17_ n18_ n19_ n20_; intro HO_524004 HO_524005 HO546 HO549 HO561 HO564 HO573 HO576 BK523 BK553 BK579 HB BK580 GW580 GE580 NB523_580 NB580_523 NB553_580 NB580_553 NB579_580 NB580_579; clear hb hbox hg; have hnb157 := NB579_523.out; have hnc157 := NB523_579.out; have hnb158 := NB579_553.out; have hnc158 := NB553_579.out; have hnb159 := NB579_580.out; have hnc159 := NB580_579.out; have hcz160_0 : w156.cell? ⟨gb579,0,none⟩ = some (.int .i64 0) := (QB BK579.out 0).trans rfl; have hcz160_1 : w156.cell? ⟨gb579,1,none⟩ = some (.int .i64 0) := (QB BK579.out 1).trans rfl; have hcz160_2 : w156.cell? ⟨gb579,2,none⟩ = some (.bool false) := (QB BK579.out 2).trans rfl; have hcz160_3 : w156.cell? ⟨gb579,3,none⟩ = some (.bool false) := (QB BK579.out 3).trans rfl; have hcz160_4 : w156.cell? ⟨gb579,4,none⟩ = some (.slice none 0 0) := (QB BK579.out 4).trans rfl; have hcz160_5 : w156.cell? ⟨gb579,5,none⟩ = some (.slice none 0 0) := (QB BK579.out 5).trans rfl; have hcz160_6 : w156.cell? ⟨gb579,6,none⟩ = some (.int .i64 0) := (QB BK579.out 6).trans rfl; have hcz160_7 : w156.cell? ⟨gb579,7,none⟩ = some (.int .i64 0) := (QB BK579.out 7).trans rfl; have hfz160_0 := QI BK579.out 0; have hfz160_1 := QI BK579.out 1; have hfz160_2 := QI BK579.out 2; have hfz160_3 := QI BK579.out 3; have hfz160_4 := QI BK579.out 4; have hfz160_5 := QI BK579.out 5; have hfz160_6 := QI BK579.out 6; have hfz160_7 := QI BK579.out 7; obtain ⟨Ao161,co161,eo161,_⟩ := Kd.Q_slice HO561.out; subst eo161; obtain ⟨Ao162,co162,eo162⟩ := Kd.R_slice HO564.out; subst eo162; have hnb163 := NB580_523.out; have hnc163 := NB523_580.out; have hnb164 := NB580_553.out; have hnc164 := NB553_580.out; have hcz165_0 : w156.cell? ⟨gb580,0,none⟩ = some (.int .i64 0) := (QB BK580.out 0).trans rfl; have hcz165_1 : w156.cell? ⟨gb580,1,none⟩ = some (.int .i64 0) := (QB BK580.out 1).trans rfl; have hcz165_2 : w156.cell? ⟨gb580,2,none⟩ = some (.bool false) := (QB BK580.out 2).trans rfl; have hcz165_3 : w156.cell? ⟨gb580,3,none⟩ = some (.bool false) := (QB BK580.out 3).trans rfl; have hcz165_4 : w156.cell? ⟨gb580,4,none⟩ = some (.slice none 0 0) := (QB BK580.out 4).trans rfl; have hcz165_5 : w156.cell? ⟨gb580,5,none⟩ = some (.slice none 0 0) := (QB BK580.out 5).trans rfl; have hcz165_6 : w156.cell? ⟨gb580,6,none⟩ = some (.int .i64 0) := (QB BK580.out 6).trans rfl; have hcz165_7 : w156.cell? ⟨gb580,7,none⟩ = some (.int .i64 0) := (QB BK580.out 7).trans rfl; have hfz165_0 := QI BK580.out 0; have hfz165_1 := QI BK580.out 1; have hfz165_2 := QI BK580.out 2; have hfz165_3 := QI BK580.out 3; have hfz165_4 := QI BK580.out 4; have hfz165_5 := QI BK580.out 5; have hfz165_6 := QI BK580.out 6; have hfz165_7 := QI BK580.out 7; obtain ⟨Ao166,co166,eo166,_⟩ := Kd.Q_slice HO573.out; subst eo166; obtain ⟨Ao167,co167,eo167⟩ := Kd.R_slice HO576.out; subst eo167))
       have n0_ : Aside0 (Kd.Q (Kd.int .i64) 3 ((((((((((((((((w156.setCell ⟨gb579,0,none⟩ (.int .i64 t555)).setCell ⟨gb579,1,none⟩ (.int .i64 t556)).setCell ⟨gb579,2,none⟩ (.bool t557)).setCell ⟨gb579,3,none⟩ (.bool t558)).setCell ⟨gb579,4,none⟩ (.slice Ao161 t559.length co161)).setCell ⟨gb579,5,none⟩ (.slice Ao162 t562.length co162)).setCell ⟨gb579,6,none⟩ (.int .i64 t565)).setCell ⟨gb579,7,none⟩ (.int .i64 t566)).setCell ⟨gb580,0,none⟩ (.int .i64 t567)).setCell ⟨gb580,1,none⟩ (.int .i64 t568)).setCell ⟨gb580,2,none⟩ (.bool t569)).setCell ⟨gb580,3,none⟩ (.bool t570)).setCell ⟨gb580,4,none⟩ (.slice Ao166 t571.length co166)).setCell ⟨gb580,5,none⟩ (.slice Ao167 t574.length co167)).setCell ⟨gb580,6,none⟩ (.int .i64 t577)).setCell ⟨gb580,7,none⟩ (.int .i64 t578)) w.heap.size (fun k_ => some k_ ≠ (.slice Ao11 t516.length co11 : Value).ownBlock ∧ some k_ ≠ (.slice Ao151 t544.length co151 : Value).ownBlock ∧ some k_ ≠ (.slice Ao152 t547.length co152 : Value).ownBlock ∧ some k_ ≠ (.slice Ao161 t559.length co161 : Value).ownBlock ∧ some k_ ≠ (.slice Ao162 t562.length co162 : Value).ownBlock ∧ some k_ ≠ (.slice Ao166 t571.length co166 : Value).ownBlock ∧ some k_ ≠ (.slice Ao167 t574.length co167 : Value).ownBlock) (.slice Ao10 t513.length co10) t513) := ⟨by (with_reducible repeat (first | apply QK | apply QL | apply QM)); exact Kd.Q_mono (QR (p := ⟨gb580,7,none⟩) (QR (p := ⟨gb580,6,none⟩) (QR (p := ⟨gb580,5,none⟩) (QR (p := ⟨gb580,4,none⟩) (QR (p := ⟨gb580,3,none⟩) (QR (p := ⟨gb580,2,none⟩) (QR (p := ⟨gb580,1,none⟩) (QR (p := ⟨gb580,0,none⟩) (QR (p := ⟨gb579,7,none⟩) (QR (p := ⟨gb579,6,none⟩) (QR (p := ⟨gb579,5,none⟩) (QR (p := ⟨gb579,4,none⟩) (QR (p := ⟨gb579,3,none⟩) (QR (p := ⟨gb579,2,none⟩) (QR (p := ⟨gb579,1,none⟩) (QR (p := ⟨gb579,0,none⟩) (Kd.Q_types (Kd.Q_types HO_524004.out BK579.out (by decide)) BK580.out (by decide)) (fun _ hk => hk.1.2) (.int .i64 t555)) (fun _ hk => hk.1.2) (.int .i64 t556)) (fun _ hk => hk.1.2) (.bool t557)) (fun _ hk => hk.1.2) (.bool t558)) (fun _ hk => hk.1.2) (.slice Ao161 t559.length co161)) (fun _ hk => hk.1.2) (.slice Ao162 t562.length co162)) (fun _ hk => hk.1.2) (.int .i64 t565)) (fun _ hk => hk.1.2) (.int .i64 t566)) (fun _ hk => hk.2) (.int .i64 t567)) (fun _ hk => hk.2) (.int .i64 t568)) (fun _ hk => hk.2) (.bool t569)) (fun _ hk => hk.2) (.bool t570)) (fun _ hk => hk.2) (.slice Ao166 t571.length co166)) (fun _ hk => hk.2) (.slice Ao167 t574.length co167)) (fun _ hk => hk.2) (.int .i64 t577)) (fun _ hk => hk.2) (.int .i64 t578)) (fun _ hk => ⟨hk.1.1.1.1.1.1.1.1,⟨hk.1.1.1.1.1.1.1.2,⟨hk.1.1.1.1.1.1.2,⟨hk.1.1.1.1.1.2,⟨hk.1.1.1.1.2,⟨hk.1.1.1.2,hk.1.1.2⟩⟩⟩⟩⟩⟩)⟩
       have n1_ : Aside0 (Kd.R (Kd.int .i64) 3 ((((((((((((((((w156.setCell ⟨gb579,0,none⟩ (.int .i64 t555)).setCell ⟨gb579,1,none⟩ (.int .i64 t556)).setCell ⟨gb579,2,none⟩ (.bool t557)).setCell ⟨gb579,3,none⟩ (.bool t558)).setCell ⟨gb579,4,none⟩ (.slice Ao161 t559.length co161)).setCell ⟨gb579,5,none⟩ (.slice Ao162 t562.length co162)).setCell ⟨gb579,6,none⟩ (.int .i64 t565)).setCell ⟨gb579,7,none⟩ (.int .i64 t566)).setCell ⟨gb580,0,none⟩ (.int .i64 t567)).setCell ⟨gb580,1,none⟩ (.int .i64 t568)).setCell ⟨gb580,2,none⟩ (.bool t569)).setCell ⟨gb580,3,none⟩ (.bool t570)).setCell ⟨gb580,4,none⟩ (.slice Ao166 t571.length co166)).setCell ⟨gb580,5,none⟩ (.slice Ao167 t574.length co167)).setCell ⟨gb580,6,none⟩ (.int .i64 t577)).setCell ⟨gb580,7,none⟩ (.int .i64 t578)) w.heap.size (fun k_ => some k_ ≠ (.slice Ao10 t513.length co10 : Value).ownBlock ∧ some k_ ≠ (.slice Ao151 t544.length co151 : Value).ownBlock ∧ some k_ ≠ (.slice Ao152 t547.length co152 : Value).ownBlock ∧ some k_ ≠ (.slice Ao161 t559.length co161 : Value).ownBlock ∧ some k_ ≠ (.slice Ao162 t562.length co162 : Value).ownBlock ∧ some k_ ≠ (.slice Ao166 t571.length co166 : Value).ownBlock ∧ some k_ ≠ (.slice Ao167 t574.length co167 : Value).ownBlock) (.slice Ao11 t516.length co11) t516) := ⟨by (with_reducible repeat (first | apply QE | apply QF | apply QH)); exact Kd.R_mono (Qh (Qh (Qh (Qh (Qh (Qh (Qh (Qh (Qi (p := ⟨gb579,7,none⟩) (Qi (p := ⟨gb579,6,none⟩) (Qi (p := ⟨gb579,5,none⟩) (Qi (p := ⟨gb579,4,none⟩) (Qi (p := ⟨gb579,3,none⟩) (Qi (p := ⟨gb579,2,none⟩) (Qi (p := ⟨gb579,1,none⟩) (Qi (p := ⟨gb579,0,none⟩) (Kd.R_types (Kd.R_types HO_524005.out BK579.out (by decide)) BK580.out (by decide)) (fun _ hk => hk.1.2) (.int .i64 t555)) (fun _ hk => hk.1.2) (.int .i64 t556)) (fun _ hk => hk.1.2) (.bool t557)) (fun _ hk => hk.1.2) (.bool t558)) (fun _ hk => hk.1.2) (.slice Ao161 t559.length co161)) (fun _ hk => hk.1.2) (.slice Ao162 t562.length co162)) (fun _ hk => hk.1.2) (.int .i64 t565)) (fun _ hk => hk.1.2) (.int .i64 t566)))))))))) (fun _ hk => ⟨hk.1.1.1.1.1.1.1.1,⟨hk.1.1.1.1.1.1.1.2,⟨hk.1.1.1.1.1.1.2,⟨hk.1.1.1.1.1.2,⟨hk.1.1.1.1.2,⟨hk.1.1.1.2,hk.1.1.2⟩⟩⟩⟩⟩⟩)⟩
       have n2_ : Aside0 (Kd.Q (Kd.int .i64) 3 ((((((((((((((((w156.setCell ⟨gb579,0,none⟩ (.int .i64 t555)).setCell ⟨gb579,1,none⟩ (.int .i64 t556)).setCell ⟨gb579,2,none⟩ (.bool t557)).setCell ⟨gb579,3,none⟩ (.bool t558)).setCell ⟨gb579,4,none⟩ (.slice Ao161 t559.length co161)).setCell ⟨gb579,5,none⟩ (.slice Ao162 t562.length co162)).setCell ⟨gb579,6,none⟩ (.int .i64 t565)).setCell ⟨gb579,7,none⟩ (.int .i64 t566)).setCell ⟨gb580,0,none⟩ (.int .i64 t567)).setCell ⟨gb580,1,none⟩ (.int .i64 t568)).setCell ⟨gb580,2,none⟩ (.bool t569)).setCell ⟨gb580,3,none⟩ (.bool t570)).setCell ⟨gb580,4,none⟩ (.slice Ao166 t571.length co166)).setCell ⟨gb580,5,none⟩ (.slice Ao167 t574.length co167)).setCell ⟨gb580,6,none⟩ (.int .i64 t577)).setCell ⟨gb580,7,none⟩ (.int .i64 t578)) w.heap.size (fun k_ => some k_ ≠ (.slice Ao10 t513.length co10 : Value).ownBlock ∧ some k_ ≠ (.slice Ao11 t516.length co11 : Value).ownBlock ∧ some k_ ≠ (.slice Ao152 t547.length co152 : Value).ownBlock ∧ some k_ ≠ (.slice Ao161 t559.length co161 : Value).ownBlock ∧ some k_ ≠ (.slice Ao162 t562.length co162 : Value).ownBlock ∧ some k_ ≠ (.slice Ao166 t571.length co166 : Value).ownBlock ∧ some k_ ≠ (.slice Ao167 t574.length co167 : Value).ownBlock) (.slice Ao151 t544.length co151) t544) := ⟨by (with_reducible repeat (first | apply QK | apply QL | apply QM)); exact Kd.Q_mono (QR (p := ⟨gb580,7,none⟩) (QR (p := ⟨gb580,6,none⟩) (QR (p := ⟨gb580,5,none⟩) (QR (p := ⟨gb580,4,none⟩) (QR (p := ⟨gb580,3,none⟩) (QR (p := ⟨gb580,2,none⟩) (QR (p := ⟨gb580,1,none⟩) (QR (p := ⟨gb580,0,none⟩) (QR (p := ⟨gb579,7,none⟩) (QR (p := ⟨gb579,6,none⟩) (QR (p := ⟨gb579,5,none⟩) (QR (p := ⟨gb579,4,none⟩) (QR (p := ⟨gb579,3,none⟩) (QR (p := ⟨gb579,2,none⟩) (QR (p := ⟨gb579,1,none⟩) (QR (p := ⟨gb579,0,none⟩) (Kd.Q_types (Kd.Q_types HO546.out BK579.out (by decide)) BK580.out (by decide)) (fun _ hk => hk.1.2) (.int .i64 t555)) (fun _ hk => hk.1.2) (.int .i64 t556)) (fun _ hk => hk.1.2) (.bool t557)) (fun _ hk => hk.1.2) (.bool t558)) (fun _ hk => hk.1.2) (.slice Ao161 t559.length co161)) (fun _ hk => hk.1.2) (.slice Ao162 t562.length co162)) (fun _ hk => hk.1.2) (.int .i64 t565)) (fun _ hk => hk.1.2) (.int .i64 t566)) (fun _ hk => hk.2) (.int .i64 t567)) (fun _ hk => hk.2) (.int .i64 t568)) (fun _ hk => hk.2) (.bool t569)) (fun _ hk => hk.2) (.bool t570)) (fun _ hk => hk.2) (.slice Ao166 t571.length co166)) (fun _ hk => hk.2) (.slice Ao167 t574.length co167)) (fun _ hk => hk.2) (.int .i64 t577)) (fun _ hk => hk.2) (.int .i64 t578)) (fun _ hk => ⟨hk.1.1.1.1.1.1.1.2,⟨hk.1.1.1.1.1.1.2,⟨hk.1.1.1.1.1.1.1.1,⟨hk.1.1.1.1.1.2,⟨hk.1.1.1.1.2,⟨hk.1.1.1.2,hk.1.1.2⟩⟩⟩⟩⟩⟩)⟩
       have n3_ : Aside0 (Kd.R (Kd.int .i64) 3 ((((((((((((((((w156.setCell ⟨gb579,0,none⟩ (.int .i64 t555)).setCell ⟨gb579,1,none⟩ (.int .i64 t556)).setCell ⟨gb579,2,none⟩ (.bool t557)).setCell ⟨gb579,3,none⟩ (.bool t558)).setCell ⟨gb579,4,none⟩ (.slice Ao161 t559.length co161)).setCell ⟨gb579,5,none⟩ (.slice Ao162 t562.length co162)).setCell ⟨gb579,6,none⟩ (.int .i64 t565)).setCell ⟨gb579,7,none⟩ (.int .i64 t566)).setCell ⟨gb580,0,none⟩ (.int .i64 t567)).setCell ⟨gb580,1,none⟩ (.int .i64 t568)).setCell ⟨gb580,2,none⟩ (.bool t569)).setCell ⟨gb580,3,none⟩ (.bool t570)).setCell ⟨gb580,4,none⟩ (.slice Ao166 t571.length co166)).setCell ⟨gb580,5,none⟩ (.slice Ao167 t574.length co167)).setCell ⟨gb580,6,none⟩ (.int .i64 t577)).setCell ⟨gb580,7,none⟩ (.int .i64 t578)) w.heap.size (fun k_ => some k_ ≠ (.slice Ao10 t513.length co10 : Value).ownBlock ∧ some k_ ≠ (.slice Ao11 t516.length co11 : Value).ownBlock ∧ some k_ ≠ (.slice Ao151 t544.length co151 : Value).ownBlock ∧ some k_ ≠ (.slice Ao161 t559.length co161 : Value).ownBlock ∧ some k_ ≠ (.slice Ao162 t562.length co162 : Value).ownBlock ∧ some k_ ≠ (.slice Ao166 t571.length co166 : Value).ownBlock ∧ some k_ ≠ (.slice Ao167 t574.length co167 : Value).ownBlock) (.slice Ao152 t547.length co152) t547) := ⟨by (with_reducible repeat (first | apply QE | apply QF | apply QH)); exact Kd.R_mono (Qh (Qh (Qh (Qh (Qh (Qh (Qh (Qh (Qi (p := ⟨gb579,7,none⟩) (Qi (p := ⟨gb579,6,none⟩) (Qi (p := ⟨gb579,5,none⟩) (Qi (p := ⟨gb579,4,none⟩) (Qi (p := ⟨gb579,3,none⟩) (Qi (p := ⟨gb579,2,none⟩) (Qi (p := ⟨gb579,1,none⟩) (Qi (p := ⟨gb579,0,none⟩) (Kd.R_types (Kd.R_types HO549.out BK579.out (by decide)) BK580.out (by decide)) (fun _ hk => hk.1.2) (.int .i64 t555)) (fun _ hk => hk.1.2) (.int .i64 t556)) (fun _ hk => hk.1.2) (.bool t557)) (fun _ hk => hk.1.2) (.bool t558)) (fun _ hk => hk.1.2) (.slice Ao161 t559.length co161)) (fun _ hk => hk.1.2) (.slice Ao162 t562.length co162)) (fun _ hk => hk.1.2) (.int .i64 t565)) (fun _ hk => hk.1.2) (.int .i64 t566)))))))))) (fun _ hk => ⟨hk.1.1.1.1.1.1.1.2,⟨hk.1.1.1.1.1.1.2,⟨hk.1.1.1.1.1.1.1.1,⟨hk.1.1.1.1.1.2,⟨hk.1.1.1.1.2,⟨hk.1.1.1.2,hk.1.1.2⟩⟩⟩⟩⟩⟩)⟩
       have n4_ : Aside0 (Kd.Q (Kd.int .i64) 3 ((((((((((((((((w156.setCell ⟨gb579,0,none⟩ (.int .i64 t555)).setCell ⟨gb579,1,none⟩ (.int .i64 t556)).setCell ⟨gb579,2,none⟩ (.bool t557)).setCell ⟨gb579,3,none⟩ (.bool t558)).setCell ⟨gb579,4,none⟩ (.slice Ao161 t559.length co161)).setCell ⟨gb579,5,none⟩ (.slice Ao162 t562.length co162)).setCell ⟨gb579,6,none⟩ (.int .i64 t565)).setCell ⟨gb579,7,none⟩ (.int .i64 t566)).setCell ⟨gb580,0,none⟩ (.int .i64 t567)).setCell ⟨gb580,1,none⟩ (.int .i64 t568)).setCell ⟨gb580,2,none⟩ (.bool t569)).setCell ⟨gb580,3,none⟩ (.bool t570)).setCell ⟨gb580,4,none⟩ (.slice Ao166 t571.length co166)).setCell ⟨gb580,5,none⟩ (.slice Ao167 t574.length co167)).setCell ⟨gb580,6,none⟩ (.int .i64 t577)).setCell ⟨gb580,7,none⟩ (.int .i64 t578)) w.heap.size (fun k_ => some k_ ≠ (.slice Ao10 t513.length co10 : Value).ownBlock ∧ some k_ ≠ (.slice Ao11 t516.length co11 : Value).ownBlock ∧ some k_ ≠ (.slice Ao151 t544.length co151 : Value).ownBlock ∧ some k_ ≠ (.slice Ao152 t547.length co152 : Value).ownBlock ∧ some k_ ≠ (.slice Ao162 t562.length co162 : Value).ownBlock ∧ some k_ ≠ (.slice Ao166 t571.length co166 : Value).ownBlock ∧ some k_ ≠ (.slice Ao167 t574.length co167 : Value).ownBlock) (.slice Ao161 t559.length co161) t559) := ⟨by (with_reducible repeat (first | apply QK | apply QL | apply QM)); exact Kd.Q_mono (QR (p := ⟨gb580,7,none⟩) (QR (p := ⟨gb580,6,none⟩) (QR (p := ⟨gb580,5,none⟩) (QR (p := ⟨gb580,4,none⟩) (QR (p := ⟨gb580,3,none⟩) (QR (p := ⟨gb580,2,none⟩) (QR (p := ⟨gb580,1,none⟩) (QR (p := ⟨gb580,0,none⟩) (QR (p := ⟨gb579,7,none⟩) (QR (p := ⟨gb579,6,none⟩) (QR (p := ⟨gb579,5,none⟩) (QR (p := ⟨gb579,4,none⟩) (QR (p := ⟨gb579,3,none⟩) (QR (p := ⟨gb579,2,none⟩) (QR (p := ⟨gb579,1,none⟩) (QR (p := ⟨gb579,0,none⟩) (Kd.Q_types (Kd.Q_types HO561.out BK579.out (by decide)) BK580.out (by decide)) (fun _ hk => hk.1.2) (.int .i64 t555)) (fun _ hk => hk.1.2) (.int .i64 t556)) (fun _ hk => hk.1.2) (.bool t557)) (fun _ hk => hk.1.2) (.bool t558)) (fun _ hk => hk.1.2) (.slice Ao161 t559.length co161)) (fun _ hk => hk.1.2) (.slice Ao162 t562.length co162)) (fun _ hk => hk.1.2) (.int .i64 t565)) (fun _ hk => hk.1.2) (.int .i64 t566)) (fun _ hk => hk.2) (.int .i64 t567)) (fun _ hk => hk.2) (.int .i64 t568)) (fun _ hk => hk.2) (.bool t569)) (fun _ hk => hk.2) (.bool t570)) (fun _ hk => hk.2) (.slice Ao166 t571.length co166)) (fun _ hk => hk.2) (.slice Ao167 t574.length co167)) (fun _ hk => hk.2) (.int .i64 t577)) (fun _ hk => hk.2) (.int .i64 t578)) (fun _ hk => ⟨hk.1.1.1.1.1.2,⟨hk.1.1.1.1.2,⟨hk.1.1.1.2,⟨hk.1.1.2,⟨hk.1.1.1.1.1.1.1,⟨hk.1.1.1.1.1.1.2.1,hk.1.1.1.1.1.1.2.2⟩⟩⟩⟩⟩⟩)⟩
       have n5_ : Aside0 (Kd.R (Kd.int .i64) 3 ((((((((((((((((w156.setCell ⟨gb579,0,none⟩ (.int .i64 t555)).setCell ⟨gb579,1,none⟩ (.int .i64 t556)).setCell ⟨gb579,2,none⟩ (.bool t557)).setCell ⟨gb579,3,none⟩ (.bool t558)).setCell ⟨gb579,4,none⟩ (.slice Ao161 t559.length co161)).setCell ⟨gb579,5,none⟩ (.slice Ao162 t562.length co162)).setCell ⟨gb579,6,none⟩ (.int .i64 t565)).setCell ⟨gb579,7,none⟩ (.int .i64 t566)).setCell ⟨gb580,0,none⟩ (.int .i64 t567)).setCell ⟨gb580,1,none⟩ (.int .i64 t568)).setCell ⟨gb580,2,none⟩ (.bool t569)).setCell ⟨gb580,3,none⟩ (.bool t570)).setCell ⟨gb580,4,none⟩ (.slice Ao166 t571.length co166)).setCell ⟨gb580,5,none⟩ (.slice Ao167 t574.length co167)).setCell ⟨gb580,6,none⟩ (.int .i64 t577)).setCell ⟨gb580,7,none⟩ (.int .i64 t578)) w.heap.size (fun k_ => some k_ ≠ (.slice Ao10 t513.length co10 : Value).ownBlock ∧ some k_ ≠ (.slice Ao11 t516.length co11 : Value).ownBlock ∧ some k_ ≠ (.slice Ao151 t544.length co151 : Value).ownBlock ∧ some k_ ≠ (.slice Ao152 t547.length co152 : Value).ownBlock ∧ some k_ ≠ (.slice Ao161 t559.length co161 : Value).ownBlock ∧ some k_ ≠ (.slice Ao166 t571.length co166 : Value).ownBlock ∧ some k_ ≠ (.slice Ao167 t574.length co167 : Value).ownBlock) (.slice Ao162 t562.length co162) t562) := ⟨by (with_reducible repeat (first | apply QE | apply QF | apply QH)); exact Kd.R_mono (Qh (Qh (Qh (Qh (Qh (Qh (Qh (Qh (Qi (p := ⟨gb579,7,none⟩) (Qi (p := ⟨gb579,6,none⟩) (Qi (p := ⟨gb579,5,none⟩) (Qi (p := ⟨gb579,4,none⟩) (Qi (p := ⟨gb579,3,none⟩) (Qi (p := ⟨gb579,2,none⟩) (Qi (p := ⟨gb579,1,none⟩) (Qi (p := ⟨gb579,0,none⟩) (Kd.R_types (Kd.R_types HO564.out BK579.out (by decide)) BK580.out (by decide)) (fun _ hk => hk.1.2) (.int .i64 t555)) (fun _ hk => hk.1.2) (.int .i64 t556)) (fun _ hk => hk.1.2) (.bool t557)) (fun _ hk => hk.1.2) (.bool t558)) (fun _ hk => hk.1.2) (.slice Ao161 t559.length co161)) (fun _ hk => hk.1.2) (.slice Ao162 t562.length co162)) (fun _ hk => hk.1.2) (.int .i64 t565)) (fun _ hk => hk.1.2) (.int .i64 t566)))))))))) (fun _ hk => ⟨hk.1.1.1.1.1.2,⟨hk.1.1.1.1.2,⟨hk.1.1.1.2,⟨hk.1.1.2,⟨hk.1.1.1.1.1.1.1,⟨hk.1.1.1.1.1.1.2.1,hk.1.1.1.1.1.1.2.2⟩⟩⟩⟩⟩⟩)⟩
       have n6_ : Aside0 (Kd.Q (Kd.int .i64) 3 ((((((((((((((((w156.setCell ⟨gb579,0,none⟩ (.int .i64 t555)).setCell ⟨gb579,1,none⟩ (.int .i64 t556)).setCell ⟨gb579,2,none⟩ (.bool t557)).setCell ⟨gb579,3,none⟩ (.bool t558)).setCell ⟨gb579,4,none⟩ (.slice Ao161 t559.length co161)).setCell ⟨gb579,5,none⟩ (.slice Ao162 t562.length co162)).setCell ⟨gb579,6,none⟩ (.int .i64 t565)).setCell ⟨gb579,7,none⟩ (.int .i64 t566)).setCell ⟨gb580,0,none⟩ (.int .i64 t567)).setCell ⟨gb580,1,none⟩ (.int .i64 t568)).setCell ⟨gb580,2,none⟩ (.bool t569)).setCell ⟨gb580,3,none⟩ (.bool t570)).setCell ⟨gb580,4,none⟩ (.slice Ao166 t571.length co166)).setCell ⟨gb580,5,none⟩ (.slice Ao167 t574.length co167)).setCell ⟨gb580,6,none⟩ (.int .i64 t577)).setCell ⟨gb580,7,none⟩ (.int .i64 t578)) w.heap.size (fun k_ => some k_ ≠ (.slice Ao10 t513.length co10 : Value).ownBlock ∧ some k_ ≠ (.slice Ao11 t516.length co11 : Value).ownBlock ∧ some k_ ≠ (.slice Ao151 t544.length co151 : Value).ownBlock ∧ some k_ ≠ (.slice Ao152 t547.length co152 : Value).ownBlock ∧ some k_ ≠ (.slice Ao161 t559.length co161 : Value).ownBlock ∧ some k_ ≠ (.slice Ao162 t562.length co162 : Value).ownBlock ∧ some k_ ≠ (.slice Ao167 t574.length co167 : Value).ownBlock) (.slice Ao166 t571.length co166) t571) := ⟨by (with_reducible repeat (first | apply QK | apply QL | apply QM)); exact Kd.Q_mono (QR (p := ⟨gb580,7,none⟩) (QR (p := ⟨gb580,6,none⟩) (QR (p := ⟨gb580,5,none⟩) (QR (p := ⟨gb580,4,none⟩) (QR (p := ⟨gb580,3,none⟩) (QR (p := ⟨gb580,2,none⟩) (QR (p := ⟨gb580,1,none⟩) (QR (p := ⟨gb580,0,none⟩) (QR (p := ⟨gb579,7,none⟩) (QR (p := ⟨gb579,6,none⟩) (QR (p := ⟨gb579,5,none⟩) (QR (p := ⟨gb579,4,none⟩) (QR (p := ⟨gb579,3,none⟩) (QR (p := ⟨gb579,2,none⟩) (QR (p := ⟨gb579,1,none⟩) (QR (p := ⟨gb579,0,none⟩) (Kd.Q_types (Kd.Q_types HO573.out BK579.out (by decide)) BK580.out (by decide)) (fun _ hk => hk.1.2) (.int .i64 t555)) (fun _ hk => hk.1.2) (.int .i64 t556)) (fun _ hk => hk.1.2) (.bool t557)) (fun _ hk => hk.1.2) (.bool t558)) (fun _ hk => hk.1.2) (.slice Ao161 t559.length co161)) (fun _ hk => hk.1.2) (.slice Ao162 t562.length co162)) (fun _ hk => hk.1.2) (.int .i64 t565)) (fun _ hk => hk.1.2) (.int .i64 t566)) (fun _ hk => hk.2) (.int .i64 t567)) (fun _ hk => hk.2) (.int .i64 t568)) (fun _ hk => hk.2) (.bool t569)) (fun _ hk => hk.2) (.bool t570)) (fun _ hk => hk.2) (.slice Ao166 t571.length co166)) (fun _ hk => hk.2) (.slice Ao167 t574.length co167)) (fun _ hk => hk.2) (.int .i64 t577)) (fun _ hk => hk.2) (.int .i64 t578)) (fun _ hk => ⟨hk.1.1.1.1.1.2,⟨hk.1.1.1.1.2,⟨hk.1.1.1.2,⟨hk.1.1.2,⟨hk.1.1.1.1.1.1.1,⟨hk.1.1.1.1.1.1.2.1,hk.1.1.1.1.1.1.2.2⟩⟩⟩⟩⟩⟩)⟩
       have n7_ : Aside0 (Kd.R (Kd.int .i64) 3 ((((((((((((((((w156.setCell ⟨gb579,0,none⟩ (.int .i64 t555)).setCell ⟨gb579,1,none⟩ (.int .i64 t556)).setCell ⟨gb579,2,none⟩ (.bool t557)).setCell ⟨gb579,3,none⟩ (.bool t558)).setCell ⟨gb579,4,none⟩ (.slice Ao161 t559.length co161)).setCell ⟨gb579,5,none⟩ (.slice Ao162 t562.length co162)).setCell ⟨gb579,6,none⟩ (.int .i64 t565)).setCell ⟨gb579,7,none⟩ (.int .i64 t566)).setCell ⟨gb580,0,none⟩ (.int .i64 t567)).setCell ⟨gb580,1,none⟩ (.int .i64 t568)).setCell ⟨gb580,2,none⟩ (.bool t569)).setCell ⟨gb580,3,none⟩ (.bool t570)).setCell ⟨gb580,4,none⟩ (.slice Ao166 t571.length co166)).setCell ⟨gb580,5,none⟩ (.slice Ao167 t574.length co167)).setCell ⟨gb580,6,none⟩ (.int .i64 t577)).setCell ⟨gb580,7,none⟩ (.int .i64 t578)) w.heap.size (fun k_ => some k_ ≠ (.slice Ao10 t513.length co10 : Value).ownBlock ∧ some k_ ≠ (.slice Ao11 t516.length co11 : Value).ownBlock ∧ some k_ ≠ (.slice Ao151 t544.length co151 : Value).ownBlock ∧ some k_ ≠ (.slice Ao152 t547.length co152 : Value).ownBlock ∧ some k_ ≠ (.slice Ao161 t559.length co161 : Value).ownBlock ∧ some k_ ≠ (.slice Ao162 t562.length co162 : Value).ownBlock ∧ some k_ ≠ (.slice Ao166 t571.length co166 : Value).ownBlock) (.slice Ao167 t574.length co167) t574) := ⟨by (with_reducible repeat (first | apply QE | apply QF | apply QH)); exact Kd.R_mono (Qh (Qh (Qh (Qh (Qh (Qh (Qh (Qh (Qi (p := ⟨gb579,7,none⟩) (Qi (p := ⟨gb579,6,none⟩) (Qi (p := ⟨gb579,5,none⟩) (Qi (p := ⟨gb579,4,none⟩) (Qi (p := ⟨gb579,3,none⟩) (Qi (p := ⟨gb579,2,none⟩) (Qi (p := ⟨gb579,1,none⟩) (Qi (p := ⟨gb579,0,none⟩) (Kd.R_types (Kd.R_types HO576.out BK579.out (by decide)) BK580.out (by decide)) (fun _ hk => hk.1.2) (.int .i64 t555)) (fun _ hk => hk.1.2) (.int .i64 t556)) (fun _ hk => hk.1.2) (.bool t557)) (fun _ hk => hk.1.2) (.bool t558)) (fun _ hk => hk.1.2) (.slice Ao161 t559.length co161)) (fun _ hk => hk.1.2) (.slice Ao162 t562.length co162)) (fun _ hk => hk.1.2) (.int .i64 t565)) (fun _ hk => hk.1.2) (.int .i64 t566)))))))))) (fun _ hk => ⟨hk.1.1.1.1.1.2,⟨hk.1.1.1.1.2,⟨hk.1.1.1.2,⟨hk.1.1.2,⟨hk.1.1.1.1.1.1.1,⟨hk.1.1.1.1.1.1.2.1,hk.1.1.1.1.1.1.2.2⟩⟩⟩⟩⟩⟩)⟩
       have n8_ : Aside0 (((((((((((((((((w156.setCell ⟨gb579,0,none⟩ (.int .i64 t555)).setCell ⟨gb579,1,none⟩ (.int .i64 t556)).setCell ⟨gb579,2,none⟩ (.bool t557)).setCell ⟨gb579,3,none⟩ (.bool t558)).setCell ⟨gb579,4,none⟩ (.slice Ao161 t559.length co161)).setCell ⟨gb579,5,none⟩ (.slice Ao162 t562.length co162)).setCell ⟨gb579,6,none⟩ (.int .i64 t565)).setCell ⟨gb579,7,none⟩ (.int .i64 t566)).setCell ⟨gb580,0,none⟩ (.int .i64 t567)).setCell ⟨gb580,1,none⟩ (.int .i64 t568)).setCell ⟨gb580,2,none⟩ (.bool t569)).setCell ⟨gb580,3,none⟩ (.bool t570)).setCell ⟨gb580,4,none⟩ (.slice Ao166 t571.length co166)).setCell ⟨gb580,5,none⟩ (.slice Ao167 t574.length co167)).setCell ⟨gb580,6,none⟩ (.int .i64 t577)).setCell ⟨gb580,7,none⟩ (.int .i64 t578)).heap[gb523]? = some (.cells #[.int .i64 t509,.int .i64 t510,.bool t511,.bool t512,.slice Ao10 t513.length co10,.slice Ao11 t516.length co11,.int .i64 t519,.int .i64 t520] 74 (0,0))) := ⟨by (with_reducible repeat (first | refine QC ?_ _ | refine QG ?_ | refine QD ?_ _)); refine Qd ?_ NB523_580.out _; (with_reducible repeat (first | refine QC ?_ _ | refine QG ?_ | refine QD ?_ _)); refine Qd ?_ NB523_580.out _; (with_reducible repeat (first | refine QC ?_ _ | refine QG ?_ | refine QD ?_ _)); refine Qd ?_ NB523_580.out _; (with_reducible repeat (first | refine QC ?_ _ | refine QG ?_ | refine QD ?_ _)); refine Qd ?_ NB523_580.out _; (with_reducible repeat (first | refine QC ?_ _ | refine QG ?_ | refine QD ?_ _)); refine Qd ?_ NB523_580.out _; (with_reducible repeat (first | refine QC ?_ _ | refine QG ?_ | refine QD ?_ _)); refine Qd ?_ NB523_580.out _; (with_reducible repeat (first | refine QC ?_ _ | refine QG ?_ | refine QD ?_ _)); refine Qd ?_ NB523_580.out _; (with_reducible repeat (first | refine QC ?_ _ | refine QG ?_ | refine QD ?_ _)); refine Qd ?_ NB523_580.out _; (with_reducible repeat (first | refine QC ?_ _ | refine QG ?_ | refine QD ?_ _)); refine Qd ?_ NB523_579.out _; (with_reducible repeat (first | refine QC ?_ _ | refine QG ?_ | refine QD ?_ _)); refine Qd ?_ NB523_579.out _; (with_reducible repeat (first | refine QC ?_ _ | refine QG ?_ | refine QD ?_ _)); refine Qd ?_ NB523_579.out _; (with_reducible repeat (first | refine QC ?_ _ | refine QG ?_ | refine QD ?_ _)); refine Qd ?_ NB523_579.out _; (with_reducible repeat (first | refine QC ?_ _ | refine QG ?_ | refine QD ?_ _)); refine Qd ?_ NB523_579.out _; (with_reducible repeat (first | refine QC ?_ _ | refine QG ?_ | refine QD ?_ _)); refine Qd ?_ NB523_579.out _; (with_reducible repeat (first | refine QC ?_ _ | refine QG ?_ | refine QD ?_ _)); refine Qd ?_ NB523_579.out _; (with_reducible repeat (first | refine QC ?_ _ | refine QG ?_ | refine QD ?_ _)); refine Qd ?_ NB523_579.out _; (with_reducible repeat (first | refine QC ?_ _ | refine QG ?_ | refine QD ?_ _)); exact BK523.out⟩
       have n9_ : Aside0 (((((((((((((((((w156.setCell ⟨gb579,0,none⟩ (.int .i64 t555)).setCell ⟨gb579,1,none⟩ (.int .i64 t556)).setCell ⟨gb579,2,none⟩ (.bool t557)).setCell ⟨gb579,3,none⟩ (.bool t558)).setCell ⟨gb579,4,none⟩ (.slice Ao161 t559.length co161)).setCell ⟨gb579,5,none⟩ (.slice Ao162 t562.length co162)).setCell ⟨gb579,6,none⟩ (.int .i64 t565)).setCell ⟨gb579,7,none⟩ (.int .i64 t566)).setCell ⟨gb580,0,none⟩ (.int .i64 t567)).setCell ⟨gb580,1,none⟩ (.int .i64 t568)).setCell ⟨gb580,2,none⟩ (.bool t569)).setCell ⟨gb580,3,none⟩ (.bool t570)).setCell ⟨gb580,4,none⟩ (.slice Ao166 t571.length co166)).setCell ⟨gb580,5,none⟩ (.slice Ao167 t574.length co167)).setCell ⟨gb580,6,none⟩ (.int .i64 t577)).setCell ⟨gb580,7,none⟩ (.int .i64 t578)).heap[gb553]? = some (.cells #[.int .i64 t540,.int .i64 t541,.bool t542,.bool t543,.slice Ao151 t544.length co151,.slice Ao152 t547.length co152,.int .i64 t550,.int .i64 t551] 74 (0,0))) := ⟨by (with_reducible repeat (first | refine QC ?_ _ | refine QG ?_ | refine QD ?_ _)); refine Qd ?_ NB553_580.out _; (with_reducible repeat (first | refine QC ?_ _ | refine QG ?_ | refine QD ?_ _)); refine Qd ?_ NB553_580.out _; (with_reducible repeat (first | refine QC ?_ _ | refine QG ?_ | refine QD ?_ _)); refine Qd ?_ NB553_580.out _; (with_reducible repeat (first | refine QC ?_ _ | refine QG ?_ | refine QD ?_ _)); refine Qd ?_ NB553_580.out _; (with_reducible repeat (first | refine QC ?_ _ | refine QG ?_ | refine QD ?_ _)); refine Qd ?_ NB553_580.out _; (with_reducible repeat (first | refine QC ?_ _ | refine QG ?_ | refine QD ?_ _)); refine Qd ?_ NB553_580.out _; (with_reducible repeat (first | refine QC ?_ _ | refine QG ?_ | refine QD ?_ _)); refine Qd ?_ NB553_580.out _; (with_reducible repeat (first | refine QC ?_ _ | refine QG ?_ | refine QD ?_ _)); refine Qd ?_ NB553_580.out _; (with_reducible repeat (first | refine QC ?_ _ | refine QG ?_ | refine QD ?_ _)); refine Qd ?_ NB553_579.out _; (with_reducible repeat (first | refine QC ?_ _ | refine QG ?_ | refine QD ?_ _)); refine Qd ?_ NB553_579.out _; (with_reducible repeat (first | refine QC ?_ _ | refine QG ?_ | refine QD ?_ _)); refine Qd ?_ NB553_579.out _; (with_reducible repeat (first | refine QC ?_ _ | refine QG ?_ | refine QD ?_ _)); refine Qd ?_ NB553_579.out _; (with_reducible repeat (first | refine QC ?_ _ | refine QG ?_ | refine QD ?_ _)); refine Qd ?_ NB553_579.out _; (with_reducible repeat (first | refine QC ?_ _ | refine QG ?_ | refine QD ?_ _)); refine Qd ?_ NB553_579.out _; (with_reducible repeat (first | refine QC ?_ _ | refine QG ?_ | refine QD ?_ _)); refine Qd ?_ NB553_579.out _; (with_reducible repeat (first | refine QC ?_ _ | refine QG ?_ | refine QD ?_ _)); refine Qd ?_ NB553_579.out _; (with_reducible repeat (first | refine QC ?_ _ | refine QG ?_ | refine QD ?_ _)); exact BK553.out⟩
       have n10_ : Aside0 (((((((((((((((((w156.setCell ⟨gb579,0,none⟩ (.int .i64 t555)).setCell ⟨gb579,1,none⟩ (.int .i64 t556)).setCell ⟨gb579,2,none⟩ (.bool t557)).setCell ⟨gb579,3,none⟩ (.bool t558)).setCell ⟨gb579,4,none⟩ (.slice Ao161 t559.length co161)).setCell ⟨gb579,5,none⟩ (.slice Ao162 t562.length co162)).setCell ⟨gb579,6,none⟩ (.int .i64 t565)).setCell ⟨gb579,7,none⟩ (.int .i64 t566)).setCell ⟨gb580,0,none⟩ (.int .i64 t567)).setCell ⟨gb580,1,none⟩ (.int .i64 t568)).setCell ⟨gb580,2,none⟩ (.bool t569)).setCell ⟨gb580,3,none⟩ (.bool t570)).setCell ⟨gb580,4,none⟩ (.slice Ao166 t571.length co166)).setCell ⟨gb580,5,none⟩ (.slice Ao167 t574.length co167)).setCell ⟨gb580,6,none⟩ (.int .i64 t577)).setCell ⟨gb580,7,none⟩ (.int .i64 t578)).heap[gb579]? = some (.cells #[.int .i64 t555,.int .i64 t556,.bool t557,.bool t558,.slice Ao161 t559.length co161,.slice Ao162 t562.length co162,.int .i64 t565,.int .i64 t566] 74 (0,0))) := ⟨by (with_reducible repeat (first | refine QC ?_ _ | refine QG ?_ | refine QD ?_ _)); refine Qd ?_ NB579_580.out _; (with_reducible repeat (first | refine QC ?_ _ | refine QG ?_ | refine QD ?_ _)); refine Qd ?_ NB579_580.out _; (with_reducible repeat (first | refine QC ?_ _ | refine QG ?_ | refine QD ?_ _)); refine Qd ?_ NB579_580.out _; (with_reducible repeat (first | refine QC ?_ _ | refine QG ?_ | refine QD ?_ _)); refine Qd ?_ NB579_580.out _; (with_reducible repeat (first | refine QC ?_ _ | refine QG ?_ | refine QD ?_ _)); refine Qd ?_ NB579_580.out _; (with_reducible repeat (first | refine QC ?_ _ | refine QG ?_ | refine QD ?_ _)); refine Qd ?_ NB579_580.out _; (with_reducible repeat (first | refine QC ?_ _ | refine QG ?_ | refine QD ?_ _)); refine Qd ?_ NB579_580.out _; (with_reducible repeat (first | refine QC ?_ _ | refine QG ?_ | refine QD ?_ _)); refine Qd ?_ NB579_580.out _; (with_reducible repeat (first | refine QC ?_ _ | refine QG ?_ | refine QD ?_ _)); refine Qn (cs := #[.int .i64 t555,.int .i64 t556,.bool t557,.bool t558,.slice Ao161 t559.length co161,.slice Ao162 t562.length co162,.int .i64 t565,.int .i64 0]) ?_ 7 _ rfl; (with_reducible repeat (first | refine QC ?_ _ | refine QG ?_ | refine QD ?_ _)); refine Qn (cs := #[.int .i64 t555,.int .i64 t556,.bool t557,.bool t558,.slice Ao161 t559.length co161,.slice Ao162 t562.length co162,.int .i64 0,.int .i64 0]) ?_ 6 _ rfl; (with_reducible repeat (first | refine QC ?_ _ | refine QG ?_ | refine QD ?_ _)); refine Qn (cs := #[.int .i64 t555,.int .i64 t556,.bool t557,.bool t558,.slice Ao161 t559.length co161,.slice none 0 0,.int .i64 0,.int .i64 0]) ?_ 5 _ rfl; (with_reducible repeat (first | refine QC ?_ _ | refine QG ?_ | refine QD ?_ _)); refine Qn (cs := #[.int .i64 t555,.int .i64 t556,.bool t557,.bool t558,.slice none 0 0,.slice none 0 0,.int .i64 0,.int .i64 0]) ?_ 4 _ rfl; (with_reducible repeat (first | refine QC ?_ _ | refine QG ?_ | refine QD ?_ _)); refine Qn (cs := #[.int .i64 t555,.int .i64 t556,.bool t557,.bool false,.slice none 0 0,.slice none 0 0,.int .i64 0,.int .i64 0]) ?_ 3 _ rfl; (with_reducible repeat (first | refine QC ?_ _ | refine QG ?_ | refine QD ?_ _)); refine Qn (cs := #[.int .i64 t555,.int .i64 t556,.bool false,.bool false,.slice none 0 0,.slice none 0 0,.int .i64 0,.int .i64 0]) ?_ 2 _ rfl; (with_reducible repeat (first | refine QC ?_ _ | refine QG ?_ | refine QD ?_ _)); refine Qn (cs := #[.int .i64 t555,.int .i64 0,.bool false,.bool false,.slice none 0 0,.slice none 0 0,.int .i64 0,.int .i64 0]) ?_ 1 _ rfl; (with_reducible repeat (first | refine QC ?_ _ | refine QG ?_ | refine QD ?_ _)); refine Qn (cs := #[.int .i64 0,.int .i64 0,.bool false,.bool false,.slice none 0 0,.slice none 0 0,.int .i64 0,.int .i64 0]) ?_ 0 _ rfl; (with_reducible repeat (first | refine QC ?_ _ | refine QG ?_ | refine QD ?_ _)); exact BK579.out⟩
       have n11_ : Aside0 (((((((((((((((((w156.setCell ⟨gb579,0,none⟩ (.int .i64 t555)).setCell ⟨gb579,1,none⟩ (.int .i64 t556)).setCell ⟨gb579,2,none⟩ (.bool t557)).setCell ⟨gb579,3,none⟩ (.bool t558)).setCell ⟨gb579,4,none⟩ (.slice Ao161 t559.length co161)).setCell ⟨gb579,5,none⟩ (.slice Ao162 t562.length co162)).setCell ⟨gb579,6,none⟩ (.int .i64 t565)).setCell ⟨gb579,7,none⟩ (.int .i64 t566)).setCell ⟨gb580,0,none⟩ (.int .i64 t567)).setCell ⟨gb580,1,none⟩ (.int .i64 t568)).setCell ⟨gb580,2,none⟩ (.bool t569)).setCell ⟨gb580,3,none⟩ (.bool t570)).setCell ⟨gb580,4,none⟩ (.slice Ao166 t571.length co166)).setCell ⟨gb580,5,none⟩ (.slice Ao167 t574.length co167)).setCell ⟨gb580,6,none⟩ (.int .i64 t577)).setCell ⟨gb580,7,none⟩ (.int .i64 t578)).heap[gb580]? = some (.cells #[.int .i64 t567,.int .i64 t568,.bool t569,.bool t570,.slice Ao166 t571.length co166,.slice Ao167 t574.length co167,.int .i64 t577,.int .i64 t578] 74 (0,0))) := ⟨by (with_reducible repeat (first | refine QC ?_ _ | refine QG ?_ | refine QD ?_ _)); refine Qn (cs := #[.int .i64 t567,.int .i64 t568,.bool t569,.bool t570,.slice Ao166 t571.length co166,.slice Ao167 t574.length co167,.int .i64 t577,.int .i64 0]) ?_ 7 _ rfl; (with_reducible repeat (first | refine QC ?_ _ | refine QG ?_ | refine QD ?_ _)); refine Qn (cs := #[.int .i64 t567,.int .i64 t568,.bool t569,.bool t570,.slice Ao166 t571.length co166,.slice Ao167 t574.length co167,.int .i64 0,.int .i64 0]) ?_ 6 _ rfl; (with_reducible repeat (first | refine QC ?_ _ | refine QG ?_ | refine QD ?_ _)); refine Qn (cs := #[.int .i64 t567,.int .i64 t568,.bool t569,.bool t570,.slice Ao166 t571.length co166,.slice none 0 0,.int .i64 0,.int .i64 0]) ?_ 5 _ rfl; (with_reducible repeat (first | refine QC ?_ _ | refine QG ?_ | refine QD ?_ _)); refine Qn (cs := #[.int .i64 t567,.int .i64 t568,.bool t569,.bool t570,.slice none 0 0,.slice none 0 0,.int .i64 0,.int .i64 0]) ?_ 4 _ rfl; (with_reducible repeat (first | refine QC ?_ _ | refine QG ?_ | refine QD ?_ _)); refine Qn (cs := #[.int .i64 t567,.int .i64 t568,.bool t569,.bool false,.slice none 0 0,.slice none 0 0,.int .i64 0,.int .i64 0]) ?_ 3 _ rfl; (with_reducible repeat (first | refine QC ?_ _ | refine QG ?_ | refine QD ?_ _)); refine Qn (cs := #[.int .i64 t567,.int .i64 t568,.bool false,.bool false,.slice none 0 0,.slice none 0 0,.int .i64 0,.int .i64 0]) ?_ 2 _ rfl; (with_reducible repeat (first | refine QC ?_ _ | refine QG ?_ | refine QD ?_ _)); refine Qn (cs := #[.int .i64 t567,.int .i64 0,.bool false,.bool false,.slice none 0 0,.slice none 0 0,.int .i64 0,.int .i64 0]) ?_ 1 _ rfl; (with_reducible repeat (first | refine QC ?_ _ | refine QG ?_ | refine QD ?_ _)); refine Qn (cs := #[.int .i64 0,.int .i64 0,.bool false,.bool false,.slice none 0 0,.slice none 0 0,.int .i64 0,.int .i64 0]) ?_ 0 _ rfl; (with_reducible repeat (first | refine QC ?_ _ | refine QG ?_ | refine QD ?_ _)); refine Qd ?_ NB580_579.out _; (with_reducible repeat (first | refine QC ?_ _ | refine QG ?_ | refine QD ?_ _)); refine Qd ?_ NB580_579.out _; (with_reducible repeat (first | refine QC ?_ _ | refine QG ?_ | refine QD ?_ _)); refine Qd ?_ NB580_579.out _; (with_reducible repeat (first | refine QC ?_ _ | refine QG ?_ | refine QD ?_ _)); refine Qd ?_ NB580_579.out _; (with_reducible repeat (first | refine QC ?_ _ | refine QG ?_ | refine QD ?_ _)); refine Qd ?_ NB580_579.out _; (with_reducible repeat (first | refine QC ?_ _ | refine QG ?_ | refine QD ?_ _)); refine Qd ?_ NB580_579.out _; (with_reducible repeat (first | refine QC ?_ _ | refine QG ?_ | refine QD ?_ _)); refine Qd ?_ NB580_579.out _; (with_reducible repeat (first | refine QC ?_ _ | refine QG ?_ | refine QD ?_ _)); refine Qd ?_ NB580_579.out _; (with_reducible repeat (first | refine QC ?_ _ | refine QG ?_ | refine QD ?_ _)); exact BK580.out⟩
       have n12_ : Aside0 (Below w.heap.size w ((((((((((((((((w156.setCell ⟨gb579,0,none⟩ (.int .i64 t555)).setCell ⟨gb579,1,none⟩ (.int .i64 t556)).setCell ⟨gb579,2,none⟩ (.bool t557)).setCell ⟨gb579,3,none⟩ (.bool t558)).setCell ⟨gb579,4,none⟩ (.slice Ao161 t559.length co161)).setCell ⟨gb579,5,none⟩ (.slice Ao162 t562.length co162)).setCell ⟨gb579,6,none⟩ (.int .i64 t565)).setCell ⟨gb579,7,none⟩ (.int .i64 t566)).setCell ⟨gb580,0,none⟩ (.int .i64 t567)).setCell ⟨gb580,1,none⟩ (.int .i64 t568)).setCell ⟨gb580,2,none⟩ (.bool t569)).setCell ⟨gb580,3,none⟩ (.bool t570)).setCell ⟨gb580,4,none⟩ (.slice Ao166 t571.length co166)).setCell ⟨gb580,5,none⟩ (.slice Ao167 t574.length co167)).setCell ⟨gb580,6,none⟩ (.int .i64 t577)).setCell ⟨gb580,7,none⟩ (.int .i64 t578))) := ⟨by repeat (first | (with_reducible first | exact HB.out | apply QT | apply QO | apply QS | refine QJ ?_ GE523.out | refine QJ ?_ GE553.out | refine QJ ?_ GE579.out | refine QJ ?_ GE580.out) | exact HB.out)⟩
       (try clear HO_524004)
       (try clear HO_524005)
       (try clear HO546)
       (try clear HO549)
       (try clear HO561)
       (try clear HO564)
       (try clear HO573)
       (try clear HO576)
       (try clear BK523)
       (try clear BK553)
       (try clear BK579)
       (try clear BK580)
       (try clear HB)
       generalize ((((((((((((((((w156.setCell ⟨gb579,0,none⟩ (.int .i64 t555)).setCell ⟨gb579,1,none⟩ (.int .i64 t556)).setCell ⟨gb579,2,none⟩ (.bool t557)).setCell ⟨gb579,3,none⟩ (.bool t558)).setCell ⟨gb579,4,none⟩ (.slice Ao161 t559.length co161)).setCell ⟨gb579,5,none⟩ (.slice Ao162 t562.length co162)).setCell ⟨gb579,6,none⟩ (.int .i64 t565)).setCell ⟨gb579,7,none⟩ (.int .i64 t566)).setCell ⟨gb580,0,none⟩ (.int .i64 t567)).setCell ⟨gb580,1,none⟩ (.int .i64 t568)).setCell ⟨gb580,2,none⟩ (.bool t569)).setCell ⟨gb580,3,none⟩ (.bool t570)).setCell ⟨gb580,4,none⟩ (.slice Ao166 t571.length co166)).setCell ⟨gb580,5,none⟩ (.slice Ao167 t574.length co167)).setCell ⟨gb580,6,none⟩ (.int .i64 t577)).setCell ⟨gb580,7,none⟩ (.int .i64 t578)) = w168 at n0_ n1_ n2_ n3_ n4_ n5_ n6_ n7_ n8_ n9_ n10_ n11_ n12_ ⊢
       revert n0_ n1_ n2_ n3_ n4_ n5_ n6_ n7_ n8_ n9_ n10_ n11_ n12_
       intro HO_524004 HO_524005 HO546 HO549 HO561 HO564 HO573 HO576 BK523 BK553 BK579 BK580 HB
       have n0_ := Qr (QM HO_524004.out)
       have n1_ := Qr (QH HO_524005.out)
       have n2_ := Qr (QM HO546.out)
       have n3_ := Qr (QH HO549.out)
       have n4_ := Qr (QM HO561.out)
       have n5_ := Qr (QH HO564.out)
       have n6_ := Qr (QM HO573.out)
       have n7_ := Qr (QH HO576.out)
       have n8_ := Qr (QG BK523.out)
       have n9_ := Qr (QG BK553.out)
       have n10_ := Qr (QG BK579.out)
       have n11_ := Qr (QG BK580.out)
       have n12_ := Qr (QS HB.out)
       clear HO_524004
       clear HO_524005
       clear HO546
       clear HO549
       clear HO561
       clear HO564
       clear HO573
       clear HO576
       clear BK523
       clear BK553
       clear BK579
       clear BK580
       clear HB
       revert n0_ n1_ n2_ n3_ n4_ n5_ n6_ n7_ n8_ n9_ n10_ n11_ n12_
       intro HO_524004 HO_524005 HO546 HO549 HO561 HO564 HO573 HO576 BK523 BK553 BK579 BK580 HB
       refine start_ (n := 46) (S := fun w' => w'.cell? ⟨gb553,0,none⟩ = some (.int .i64 t540) ∧ w'.cell? ⟨gb553,1,none⟩ = some (.int .i64 t541) ∧ w'.cell? ⟨gb553,2,none⟩ = some (.bool t542) ∧ w'.cell? ⟨gb553,3,none⟩ = some (.bool t543) ∧ w'.cell? ⟨gb553,4,none⟩ = some (.slice Ao151 t544.length co151) ∧ w'.cell? ⟨gb553,5,none⟩ = some (.slice Ao152 t547.length co152) ∧ w'.cell? ⟨gb553,6,none⟩ = some (.int .i64 t550) ∧ w'.cell? ⟨gb553,7,none⟩ = some (.int .i64 t551) ∧ w'.cell? ⟨gb579,0,none⟩ = some (.int .i64 t555) ∧ w'.cell? ⟨gb579,1,none⟩ = some (.int .i64 t556) ∧ w'.cell? ⟨gb579,2,none⟩ = some (.bool t557) ∧ w'.cell? ⟨gb579,3,none⟩ = some (.bool t558) ∧ w'.cell? ⟨gb579,4,none⟩ = some (.slice Ao161 t559.length co161) ∧ w'.cell? ⟨gb579,5,none⟩ = some (.slice Ao162 t562.length co162) ∧ w'.cell? ⟨gb579,6,none⟩ = some (.int .i64 t565) ∧ w'.cell? ⟨gb579,7,none⟩ = some (.int .i64 t566) ∧ w'.cell? ⟨gb580,0,none⟩ = some (.int .i64 t567) ∧ w'.cell? ⟨gb580,1,none⟩ = some (.int .i64 t568) ∧ w'.cell? ⟨gb580,2,none⟩ = some (.bool t569) ∧ w'.cell? ⟨gb580,3,none⟩ = some (.bool t570) ∧ w'.cell? ⟨gb580,4,none⟩ = some (.slice Ao166 t571.length co166) ∧ w'.cell? ⟨gb580,5,none⟩ = some (.slice Ao167 t574.length co167) ∧ w'.cell? ⟨gb580,6,none⟩ = some (.int .i64 t577) ∧ w'.cell? ⟨gb580,7,none⟩ = some (.int .i64 t578) ∧ w'.cell? ⟨gb523,0,none⟩ = some (.int .i64 t509) ∧ w'.cell? ⟨gb523,1,none⟩ = some (.int .i64 t510) ∧ w'.cell? ⟨gb523,2,none⟩ = some (.bool t511) ∧ w'.cell? ⟨gb523,3,none⟩ = some (.bool t512) ∧ w'.cell? ⟨gb523,4,none⟩ = some (.slice Ao10 t513.length co10) ∧ w'.cell? ⟨gb523,5,none⟩ = some (.slice Ao11 t516.length co11) ∧ w'.cell? ⟨gb523,6,none⟩ = some (.int .i64 t519) ∧ w'.cell? ⟨gb523,7,none⟩ = some (.int .i64 t520)) (ds := []) #[Y0,Y0,Y0,Y0,Y0,Y0,Y0,Y0,Y0,Y0,Y0,Y0,Y0,Y0,Y0,Y0,Y0,Y0,Y0,Y0,Y0,Y0,Y0,Y0,Y0,Y0,Y0,Y0,Y0,Y0,Y0,Y0,Y0,Y0,Y0,Y0,Y0,Y0,Y0,Y0,Y0,Y0,Y0,Y0,Y0,Y0] (by kernel_rfl) rfl rfl ⟨(QB BK553.out 0).trans rfl,(QB BK553.out 1).trans rfl,(QB BK553.out 2).trans rfl,(QB BK553.out 3).trans rfl,(QB BK553.out 4).trans rfl,(QB BK553.out 5).trans rfl,(QB BK553.out 6).trans rfl,(QB BK553.out 7).trans rfl,(QB BK579.out 0).trans rfl,(QB BK579.out 1).trans rfl,(QB BK579.out 2).trans rfl,(QB BK579.out 3).trans rfl,(QB BK579.out 4).trans rfl,(QB BK579.out 5).trans rfl,(QB BK579.out 6).trans rfl,(QB BK579.out 7).trans rfl,(QB BK580.out 0).trans rfl,(QB BK580.out 1).trans rfl,(QB BK580.out 2).trans rfl,(QB BK580.out 3).trans rfl,(QB BK580.out 4).trans rfl,(QB BK580.out 5).trans rfl,(QB BK580.out 6).trans rfl,(QB BK580.out 7).trans rfl,(QB BK523.out 0).trans rfl,(QB BK523.out 1).trans rfl,(QB BK523.out 2).trans rfl,(QB BK523.out 3).trans rfl,(QB BK523.out 4).trans rfl,(QB BK523.out 5).trans rfl,(QB BK523.out 6).trans rfl,(QB BK523.out 7).trans rfl⟩ (fun hHeld => ?_); refine with_tabW laws_FnRules.tab10 laws_FnRules.bits10 (fun HT_ HW_ => ?_)
       generalize w168.drew = w169 at HO_524004 HO_524005 HO546 HO549 HO561 HO564 HO573 HO576 BK523 BK553 BK579 BK580 HB hHeld ⊢
       refine Ql (i := 0) (N := some 75) (v := ?_) (a' := ?_) #[Y1,Y0,Y0,Y0,Y0,Y0,Y0,Y0,Y0,Y0,Y0,Y0,Y0,Y0,Y0,Y0,Y0,Y0,Y0,Y0,Y0,Y0,Y0,Y0,Y0,Y0,Y0,Y0,Y0,Y0,Y0,Y0,Y0,Y0,Y0,Y0,Y0,Y0,Y0,Y0,Y0,Y0,Y0,Y0,Y0,Y0] rfl rfl (Qg HT_.out (by kernel_rfl)) (fun _ _ _ h => h) (Or.inl ⟨by rfl,?_⟩) ?_ ?_
       rotate_left
       ·intro w'
        go_simp
        with_reducible rfl
       rotate_left
       ·simp only [Act.put,Qo,Qp,Qq,Qe,Qf]
        rfl
       refine Ql (i := 1) (N := some 76) (v := ?_) (a' := ?_) #[Y1,Y1,Y0,Y0,Y0,Y0,Y0,Y0,Y0,Y0,Y0,Y0,Y0,Y0,Y0,Y0,Y0,Y0,Y0,Y0,Y0,Y0,Y0,Y0,Y0,Y0,Y0,Y0,Y0,Y0,Y0,Y0,Y0,Y0,Y0,Y0,Y0,Y0,Y0,Y0,Y0,Y0,Y0,Y0,Y0,Y0] rfl rfl (Qg HT_.out (by kernel_rfl)) (fun _ _ _ h => h) (Or.inl ⟨by rfl,?_⟩) ?_ ?_
       rotate_left
       ·intro w'
        go_simp
        with_reducible rfl
       rotate_left
       ·simp only [Act.put,Qo,Qp,Qq,Qe,Qf]
        rfl
       refine Ql (i := 2) (N := some 77) (v := ?_) (a' := ?_) #[Y1,Y1,Y1,Y0,Y0,Y0,Y0,Y0,Y0,Y0,Y0,Y0,Y0,Y0,Y0,Y0,Y0,Y0,Y0,Y0,Y0,Y0,Y0,Y0,Y0,Y0,Y0,Y0,Y0,Y0,Y0,Y0,Y0,Y0,Y0,Y0,Y0,Y0,Y0,Y0,Y0,Y0,Y0,Y0,Y0,Y0] rfl rfl (Qg HT_.out (by kernel_rfl)) (fun _ _ _ h => h) (Or.inl ⟨by rfl,?_⟩) ?_ ?_
       rotate_left
       ·intro w'
        go_simp
        with_reducible rfl
       rotate_left
       ·simp only [Act.put,Qo,Qp,Qq,Qe,Qf]
        rfl
       refine Ql (i := 3) (N := some 78) (v := ?_) (a' := ?_) #[Y1,Y1,Y1,Y1,Y0,Y0,Y0,Y0,Y0,Y0,Y0,Y0,Y0,Y0,Y0,Y0,Y0,Y0,Y0,Y0,Y0,Y0,Y0,Y0,Y0,Y0,Y0,Y0,Y0,Y0,Y0,Y0,Y0,Y0,Y0,Y0,Y0,Y0,Y0,Y0,Y0,Y0,Y0,Y0,Y0,Y0] rfl rfl (Qg HT_.out (by kernel_rfl)) (fun _ _ _ h => h) (Or.inl ⟨by rfl,?_⟩) ?_ ?_
       rotate_left
       ·intro w'
        go_simp
        with_reducible rfl
       rotate_left
       ·simp only [Act.put,Qo,Qp,Qq,Qe,Qf]
        rfl
       refine Ql (i := 4) (N := some 79) (v := ?_) (a' := ?_) #[Y1,Y1,Y1,Y1,Y1,Y0,Y0,Y0,Y0,Y0,Y0,Y0,Y0,Y0,Y0,Y0,Y0,Y0,Y0,Y0,Y0,Y0,Y0,Y0,Y0,Y0,Y0,Y0,Y0,Y0,Y0,Y0,Y0,Y0,Y0,Y0,Y0,Y0,Y0,Y0,Y0,Y0,Y0,Y0,Y0,Y0] rfl rfl (Qg HT_.out (by kernel_rfl)) (fun _ _ _ h => h) (Or.inl ⟨by rfl,?_⟩) ?_ ?_
       rotate_left
       ·intro w'
        go_simp
        with_reducible rfl
       rotate_left
       ·simp only [Act.put,Qo,Qp,Qq,Qe,Qf]
        rfl
       refine Ql (i := 5) (N := some 80) (v := ?_) (a' := ?_) #[Y1,Y1,Y1,Y1,Y1,Y1,Y0,Y0,Y0,Y0,Y0,Y0,Y0,Y0,Y0,Y0,Y0,Y0,Y0,Y0,Y0,Y0,Y0,Y0,Y0,Y0,Y0,Y0,Y0,Y0,Y0,Y0,Y0,Y0,Y0,Y0,Y0,Y0,Y0,Y0,Y0,Y0,Y0,Y0,Y0,Y0] rfl rfl (Qg HT_.out (by kernel_rfl)) (fun _ _ _ h => h) (Or.inl ⟨by rfl,?_⟩) ?_ ?_
       rotate_left
       ·intro w'
        go_simp
        with_reducible rfl
       rotate_left
       ·simp only [Act.put,Qo,Qp,Qq,Qe,Qf]
        rfl
       refine Ql (i := 6) (N := some 81) (v := ?_) (a' := ?_) #[Y1,Y1,Y1,Y1,Y1,Y1,Y1,Y0,Y0,Y0,Y0,Y0,Y0,Y0,Y0,Y0,Y0,Y0,Y0,Y0,Y0,Y0,Y0,Y0,Y0,Y0,Y0,Y0,Y0,Y0,Y0,Y0,Y0,Y0,Y0,Y0,Y0,Y0,Y0,Y0,Y0,Y0,Y0,Y0,Y0,Y0] rfl rfl (Qg HT_.out (by kernel_rfl)) (fun _ _ _ h => h) (Or.inl ⟨by rfl,?_⟩) ?_ ?_
       rotate_left
       ·intro w'
        go_simp
        with_reducible rfl
       rotate_left
       ·simp only [Act.put,Qo,Qp,Qq,Qe,Qf]
        rfl
       refine Ql (i := 7) (N := some 82) (v := ?_) (a' := ?_) #[Y1,Y1,Y1,Y1,Y1,Y1,Y1,Y1,Y0,Y0,Y0,Y0,Y0,Y0,Y0,Y0,Y0,Y0,Y0,Y0,Y0,Y0,Y0,Y0,Y0,Y0,Y0,Y0,Y0,Y0,Y0,Y0,Y0,Y0,Y0,Y0,Y0,Y0,Y0,Y0,Y0,Y0,Y0,Y0,Y0,Y0] rfl rfl (Qg HT_.out (by kernel_rfl)) (fun _ _ _ h => h) (Or.inl ⟨by rfl,?_⟩) ?_ ?_
       rotate_left
       ·intro w'
        go_simp
        with_reducible rfl
       rotate_left
       ·simp only [Act.put,Qo,Qp,Qq,Qe,Qf]
        rfl
       refine Ql (i := 8) (N := some 83) (v := ?_) (a' := ?_) #[Y1,Y1,Y1,Y1,Y1,Y1,Y1,Y1,Y1,Y0,Y0,Y0,Y0,Y0,Y0,Y0,Y0,Y0,Y0,Y0,Y0,Y0,Y0,Y0,Y0,Y0,Y0,Y0,Y0,Y0,Y0,Y0,Y0,Y0,Y0,Y0,Y0,Y0,Y0,Y0,Y0,Y0,Y0,Y0,Y0,Y0] rfl rfl (Qg HT_.out (by kernel_rfl)) (fun _ _ _ h => h) (Or.inl ⟨by rfl,?_⟩) ?_ ?_
       rotate_left
       ·intro w'
        go_simp
        with_reducible rfl
       rotate_left
       ·simp only [Act.put,Qo,Qp,Qq,Qe,Qf]
        rfl
       refine take_ (i := 9) (N := some 84) (v := ?_) (a' := ?_) #[Y1,Y1,Y1,Y1,Y1,Y1,Y1,Y1,Y1,Y1,Y0,Y0,Y0,Y0,Y0,Y0,Y0,Y0,Y0,Y0,Y0,Y0,Y0,Y0,Y0,Y0,Y0,Y0,Y0,Y0,Y0,Y0,Y0,Y0,Y0,Y0,Y0,Y0,Y0,Y0,Y0,Y0,Y0,Y0,Y0,Y0] rfl rfl (take_ofW HT_.out HW_.out (by kernel_rfl)) (fun _ _ _ h => h) (Or.inl ⟨by rfl,?_⟩) hHeld ?_ ?_
       rotate_left
       ·rintro w' ⟨s0,s1,s2,s3,s4,s5,s6,s7,s8,s9,s10,s11,s12,s13,s14,s15,s16,s17,s18,s19,s20,s21,s22,s23,s24,s25,s26,s27,s28,s29,s30,s31⟩
        go_simp
        with_reducible rfl
       rotate_left
       ·simp only [Act.put,Qo,Qp,Qq,Qe,Qf]
        rfl
       refine one_ (i := 10) (N := some 85) #[Y1,Y1,Y1,Y1,Y1,Y1,Y1,Y1,Y1,Y1,Y1,Y0,Y0,Y0,Y0,Y0,Y0,Y0,Y0,Y0,Y0,Y0,Y0,Y0,Y0,Y0,Y0,Y0,Y0,Y0,Y0,Y0,Y0,Y0,Y0,Y0,Y0,Y0,Y0,Y0,Y0,Y0,Y0,Y0,Y0,Y0] rfl rfl (one_of HT_.out (by kernel_rfl)) (by decide) (fun K hK => ?_)
       refine goes_ Try.func64 (by kernel_rfl) rfl #[.agg #[.int .i64 t540,.int .i64 t541,.bool t542,.bool t543,.slice Ao151 t544.length co151,.slice Ao152 t547.length co152,.int .i64 t550,.int .i64 t551]] (by rfl) rfl rfl (by (try simp only [List.map_toArray,List.map_cons,List.map_nil]); first | done | rfl | (simp only [List.length_drop,List.length_take]; rfl)) ?_
       with_reducible refine (impl_IsRules.calls kj5 t540 t541 t542 t543 _ _ t544 _ _ t547 t550 t551 t581 _ ?side1 ?side2 ?side3 ?side4 A132.out).mono ?_
       (case side1 => repeat (first | exact (QW HO546.out).2.2 | (with_reducible refine QX ?_ _) | (with_reducible refine QY ?_ _) | (with_reducible refine QZ ?_)))
       (case side2 => exact (QW HO546.out).2.1)
       (case side3 => repeat (first | exact (QU HO549.out).2.2 | (with_reducible refine QX ?_ _) | (with_reducible refine QY ?_ _) | (with_reducible refine QZ ?_)))
       (case side4 => exact (QU HO549.out).2.1)
       rintro e w170 ⟨rfl,hb⟩
       refine ⟨_,rfl,?_⟩
       have n0_ := Qr (QP (by (with_reducible repeat (first | apply QK | apply QL | apply QM)); exact HO_524004.out) hb)
       have n1_ := Qr (QN (by (with_reducible repeat (first | apply QE | apply QF | apply QH)); exact HO_524005.out) hb)
       have n2_ := Qr (QP (by (with_reducible repeat (first | apply QK | apply QL | apply QM)); exact HO546.out) hb)
       have n3_ := Qr (QN (by (with_reducible repeat (first | apply QE | apply QF | apply QH)); exact HO549.out) hb)
       have n4_ := Qr (QP (by (with_reducible repeat (first | apply QK | apply QL | apply QM)); exact HO561.out) hb)
       have n5_ := Qr (QN (by (with_reducible repeat (first | apply QE | apply QF | apply QH)); exact HO564.out) hb)
       have n6_ := Qr (QP (by (with_reducible repeat (first | apply QK | apply QL | apply QM)); exact HO573.out) hb)
       have n7_ := Qr (QN (by (with_reducible repeat (first | apply QE | apply QF | apply QH)); exact HO576.out) hb)
       have n8_ := Qr (QV (g := gb523) (o := .cells #[.int .i64 t509,.int .i64 t510,.bool t511,.bool t512,.slice Ao10 t513.length co10,.slice Ao11 t516.length co11,.int .i64 t519,.int .i64 t520] 74 (0,0)) (by (with_reducible repeat (first | refine QC ?_ _ | refine QG ?_ | refine QD ?_ _)); exact BK523.out) hb)
       have n9_ := Qr (QV (g := gb553) (o := .cells #[.int .i64 t540,.int .i64 t541,.bool t542,.bool t543,.slice Ao151 t544.length co151,.slice Ao152 t547.length co152,.int .i64 t550,.int .i64 t551] 74 (0,0)) (by (with_reducible repeat (first | refine QC ?_ _ | refine QG ?_ | refine QD ?_ _)); exact BK553.out) hb)
       have n10_ := Qr (QV (g := gb579) (o := .cells #[.int .i64 t555,.int .i64 t556,.bool t557,.bool t558,.slice Ao161 t559.length co161,.slice Ao162 t562.length co162,.int .i64 t565,.int .i64 t566] 74 (0,0)) (by (with_reducible repeat (first | refine QC ?_ _ | refine QG ?_ | refine QD ?_ _)); exact BK579.out) hb)
       have n11_ := Qr (QV (g := gb580) (o := .cells #[.int .i64 t567,.int .i64 t568,.bool t569,.bool t570,.slice Ao166 t571.length co166,.slice Ao167 t574.length co167,.int .i64 t577,.int .i64 t578] 74 (0,0)) (by (with_reducible repeat (first | refine QC ?_ _ | refine QG ?_ | refine QD ?_ _)); exact BK580.out) hb)
       have n12_ := Qr (Qc (by repeat (first | (with_reducible first | exact HB.out | apply QT | apply QO | apply QS | refine QJ ?_ GE523.out | refine QJ ?_ GE553.out | refine QJ ?_ GE579.out | refine QJ ?_ GE580.out) | exact HB.out)) hb)
       clear HO_524004
       clear HO_524005
       clear HO546
       clear HO549
       clear HO561
       clear HO564
       clear HO573
       clear HO576
       clear BK523
       clear BK553
       clear BK579
       clear BK580
       clear HB
       revert n0_ n1_ n2_ n3_ n4_ n5_ n6_ n7_ n8_ n9_ n10_ n11_ n12_
       intro HO_524004 HO_524005 HO546 HO549 HO561 HO564 HO573 HO576 BK523 BK553 BK579 BK580 HB
       (try clear hb)
       (try clear hb2)
       (try clear hk)
       (try clear hi)
       refine hK.out _ _ (by (repeat' apply And.intro) <;> first | exact (QB BK553.out _).trans rfl | exact (QB BK579.out _).trans rfl | exact (QB BK580.out _).trans rfl | exact (QB BK523.out _).trans rfl) (fun hHeld => ?_)
       clear hK K
       refine norm_ (a' := ?_) ?_ ?_
       rotate_left
       ·show Act.put _ (some 85) _ = _
        simp only [Act.put,Qo,Qp,Qq,Qe,Qf]
        rfl
       refine Ql (i := 11) (N := some 86) (v := ?_) (a' := ?_) #[Y1,Y1,Y1,Y1,Y1,Y1,Y1,Y1,Y1,Y1,Y1,Y1,Y0,Y0,Y0,Y0,Y0,Y0,Y0,Y0,Y0,Y0,Y0,Y0,Y0,Y0,Y0,Y0,Y0,Y0,Y0,Y0,Y0,Y0,Y0,Y0,Y0,Y0,Y0,Y0,Y0,Y0,Y0,Y0,Y0,Y0] rfl rfl (Qg HT_.out (by kernel_rfl)) (fun _ _ _ h => h) (Or.inl ⟨by rfl,?_⟩) ?_ ?_
       rotate_left
       ·intro w'
        go_simp
        with_reducible rfl
       rotate_left
       ·simp only [Act.put,Qo,Qp,Qq,Qe,Qf]
        rfl
       by_cases c133 : t581 = true
       ·subst c133
        rw [if_pos rfl] at H
        replace H := Qs.mp H
        obtain ⟨t582,A1340,H⟩ := H
        have A134 := Qr A1340
        clear A1340
        by_cases c135 : ((decide (t554 > 0)) == t582) = true
        ·rw [if_pos c135] at H
         have c135b0 : ((decide (t554 > 0)) == t582) = true := c135
         (try (have c135b1 : decide ((decide (t554 > 0)) = t582) = true := by simpa using c135))
         (try (have c135b2 : ((decide (t554 > 0)) == t582) = true := by simpa using c135))
         clear c135
         replace H := Qs.mp H
         obtain ⟨⟨t583,t584,t585,t586,t587,t590,t593,t594⟩,A1360,H⟩ := H
         replace H : ((impl_IsRules.f kj5 t583 t584 t585 t586 t587 t590 t593 t594).bind fun t595 => (if t595 = true then ((impl_EqualRules.f kj5 t555 t556 t557 t558 t559 t562 t565 t566 t567 t568 t569 t570 t571 t574 t577 t578).bind fun t596 => ((impl_EqualRules.f kj5 t567 t568 t569 t570 t571 t574 t577 t578 t555 t556 t557 t558 t559 t562 t565 t566).bind fun t597 => (if (t596 == t597) = true then ((impl_EqualRules.f kj5 t555 t556 t557 t558 t559 t562 t565 t566 t555 t556 t557 t558 t559 t562 t565 t566).bind fun t598 => (if t598 = true then ((impl_DoesSkip.f kj5 t509 t510 t511 t512 t513 t516 t519 t520 t521).bind fun t599 => (if t599 = true then ((impl_IsRules.f kj5 t509 t510 t511 t512 t513 t516 t519 t520).bind fun t600 => (some t600)) else (some true))) else (some false))) else (some false)))) else (some false))) = some r := H
         have A136 := Qr A1360
         clear A1360
         replace H := Qs.mp H
         obtain ⟨t595,A1370,H⟩ := H
         have A137 := Qr A1370
         clear A1370
         by_cases c138 : t595 = true
         ·subst c138
          rw [if_pos rfl] at H
          replace H := Qs.mp H
          obtain ⟨t596,A1390,H⟩ := H
          have A139 := Qr A1390
          clear A1390
          replace H := Qs.mp H
          obtain ⟨t597,A1400,H⟩ := H
          have A140 := Qr A1400
          clear A1400
          by_cases c141 : (t596 == t597) = true
          ·rw [if_pos c141] at H
           have c141b0 : (t596 == t597) = true := c141
           (try (have c141b1 : decide (t596 = t597) = true := by simpa using c141))
           (try (have c141b2 : (t596 == t597) = true := by simpa using c141))
           clear c141
           replace H := Qs.mp H
           obtain ⟨t598,A1420,H⟩ := H
           have A142 := Qr A1420
           clear A1420
           by_cases c143 : t598 = true
           ·subst c143
            rw [if_pos rfl] at H
            replace H := Qs.mp H
            obtain ⟨t599,A1440,H⟩ := H
            have A144 := Qr A1440
            clear A1440
            refine Ql (i := 12) (N := some 87) (v := ?_) (a' := ?_) #[Y1,Y1,Y1,Y1,Y1,Y1,Y1,Y1,Y1,Y1,Y1,Y1,Y1,Y0,Y0,Y0,Y0,Y0,Y0,Y0,Y0,Y0,Y0,Y0,Y0,Y0,Y0,Y0,Y0,Y0,Y0,Y0,Y0,Y0,Y0,Y0,Y0,Y0,Y0,Y0,Y0,Y0,Y0,Y0,Y0,Y0] rfl rfl (Qg HT_.out (by kernel_rfl)) (fun _ _ _ h => h) (Or.inl ⟨by rfl,?_⟩) ?_ ?_
            rotate_left
            ·intro w'
             go_simp
             with_reducible rfl
            rotate_left
            ·simp only [Act.put,Qo,Qp,Qq,Qe,Qf]
             rfl
            refine one_ (i := 13) (N := some 88) #[Y1,Y1,Y1,Y1,Y1,Y1,Y1,Y1,Y1,Y1,Y1,Y1,Y1,Y1,Y0,Y0,Y0,Y0,Y0,Y0,Y0,Y0,Y0,Y0,Y0,Y0,Y0,Y0,Y0,Y0,Y0,Y0,Y0,Y0,Y0,Y0,Y0,Y0,Y0,Y0,Y0,Y0,Y0,Y0,Y0,Y0] rfl rfl (one_of HT_.out (by kernel_rfl)) (by decide) (fun K hK => ?_)
            refine goes_ Try.func46 (by kernel_rfl) rfl #[.int .i64 t552] (by rfl) rfl rfl (by (try simp only [List.map_toArray,List.map_cons,List.map_nil]); first | done | rfl | (simp only [List.length_drop,List.length_take]; rfl)) ?_
            with_reducible refine (impl_IsCard.calls t552 t582 _ A134.out).mono ?_
            rintro e w' ⟨rfl,⟨nd,rfl⟩⟩
            refine ⟨_,rfl,?_⟩
            refine hK.out _ _ (by (repeat' apply And.intro) <;> first | exact (QB BK553.out _).trans rfl | exact (QB BK579.out _).trans rfl | exact (QB BK580.out _).trans rfl | exact (QB BK523.out _).trans rfl) (fun hHeld => ?_)
            clear hK K
            refine norm_ (a' := ?_) ?_ ?_
            rotate_left
            ·show Act.put _ (some 88) _ = _
             simp only [Act.put,Qo,Qp,Qq,Qe,Qf]
             rfl
            refine Ql (i := 14) (N := some 89) (v := ?_) (a' := ?_) #[Y1,Y1,Y1,Y1,Y1,Y1,Y1,Y1,Y1,Y1,Y1,Y1,Y1,Y1,Y1,Y0,Y0,Y0,Y0,Y0,Y0,Y0,Y0,Y0,Y0,Y0,Y0,Y0,Y0,Y0,Y0,Y0,Y0,Y0,Y0,Y0,Y0,Y0,Y0,Y0,Y0,Y0,Y0,Y0,Y0,Y0] rfl rfl (Qg HT_.out (by kernel_rfl)) (fun _ _ _ h => h) (Or.inl ⟨by rfl,?_⟩) ?_ ?_
            rotate_left
            ·intro w'
             go_simp
             with_reducible rfl
            rotate_left
            ·simp only [Act.put,Qo,Qp,Qq,Qe,Qf]
             rfl
            refine Ql (i := 15) (N := some 90) (v := ?_) (a' := ?_) #[Y1,Y1,Y1,Y1,Y1,Y1,Y1,Y1,Y1,Y1,Y1,Y1,Y1,Y1,Y1,Y1,Y0,Y0,Y0,Y0,Y0,Y0,Y0,Y0,Y0,Y0,Y0,Y0,Y0,Y0,Y0,Y0,Y0,Y0,Y0,Y0,Y0,Y0,Y0,Y0,Y0,Y0,Y0,Y0,Y0,Y0] rfl rfl (Qg HT_.out (by kernel_rfl)) (fun _ _ _ h => h) (Or.inl ⟨by rfl,?_⟩) ?_ ?_
            rotate_left
            ·intro w'
             go_simp
             with_reducible rfl
            rotate_left
            ·simp only [Act.put,Qo,Qp,Qq,Qe,Qf]
             rfl
            refine Ql (i := 16) (N := some 91) (v := ?_) (a' := ?_) #[Y1,Y1,Y1,Y1,Y1,Y1,Y1,Y1,Y1,Y1,Y1,Y1,Y1,Y1,Y1,Y1,Y1,Y0,Y0,Y0,Y0,Y0,Y0,Y0,Y0,Y0,Y0,Y0,Y0,Y0,Y0,Y0,Y0,Y0,Y0,Y0,Y0,Y0,Y0,Y0,Y0,Y0,Y0,Y0,Y0,Y0] rfl rfl (Qg HT_.out (by kernel_rfl)) (fun _ _ _ h => h) (Or.inl ⟨by rfl,?_⟩) ?_ ?_
            rotate_left
            ·intro w'
             go_simp
             with_reducible rfl
            rotate_left
            ·simp only [Act.put,Qo,Qp,Qq,Qe,Qf]
             rfl
            refine Ql (i := 17) (N := some 92) (v := ?_) (a' := ?_) #[Y1,Y1,Y1,Y1,Y1,Y1,Y1,Y1,Y1,Y1,Y1,Y1,Y1,Y1,Y1,Y1,Y1,Y1,Y0,Y0,Y0,Y0,Y0,Y0,Y0,Y0,Y0,Y0,Y0,Y0,Y0,Y0,Y0,Y0,Y0,Y0,Y0,Y0,Y0,Y0,Y0,Y0,Y0,Y0,Y0,Y0] rfl rfl (Qg HT_.out (by kernel_rfl)) (fun _ _ _ h => h) (Or.inl ⟨by rfl,?_⟩) ?_ ?_
            rotate_left
            ·intro w'
             go_simp
             with_reducible rfl
            rotate_left
            ·simp only [Act.put,Qo,Qp,Qq,Qe,Qf]
             rfl
            refine one_ (i := 18) (N := some 93) #[Y1,Y1,Y1,Y1,Y1,Y1,Y1,Y1,Y1,Y1,Y1,Y1,Y1,Y1,Y1,Y1,Y1,Y1,Y1,Y0,Y0,Y0,Y0,Y0,Y0,Y0,Y0,Y0,Y0,Y0,Y0,Y0,Y0,Y0,Y0,Y0,Y0,Y0,Y0,Y0,Y0,Y0,Y0,Y0,Y0,Y0] rfl rfl (one_of HT_.out (by kernel_rfl)) (by decide) (fun K hK => ?_)
            refine goes_ Try.func69 (by kernel_rfl) rfl #[] (by rfl) rfl rfl (by (try simp only [List.map_toArray,List.map_cons,List.map_nil]); first | done | rfl | (simp only [List.length_drop,List.length_take]; rfl)) ?_
            with_reducible refine (impl_EasyRules.calls  t583 t584 t585 t586 t587 t590 t593 t594 _ A136.out).mono ?_
            rintro e w171 ⟨v588,v591,rfl,ho0,ho1,hb⟩
            refine ⟨_,rfl,?_⟩
            have n0_ := Qr (Kd.Q_mono (Qj (Qj (Kd.Q_old (by (with_reducible repeat (first | apply QK | apply QL | apply QM)); exact HO_524004.out) hb) (Qa ho0)) (Qa ho1)) (fun _ h_ => h_.1))
            have n1_ := Qr (Kd.R_mono (Qk (Qk (Kd.R_old (by (with_reducible repeat (first | apply QE | apply QF | apply QH)); exact HO_524005.out) hb) (Qa ho0)) (Qa ho1)) (fun _ h_ => h_.1))
            have n2_ := Qr (Kd.Q_mono (Qj (Qj (Kd.Q_old (by (with_reducible repeat (first | apply QK | apply QL | apply QM)); exact HO546.out) hb) (Qa ho0)) (Qa ho1)) (fun _ h_ => h_.1))
            have n3_ := Qr (Kd.R_mono (Qk (Qk (Kd.R_old (by (with_reducible repeat (first | apply QE | apply QF | apply QH)); exact HO549.out) hb) (Qa ho0)) (Qa ho1)) (fun _ h_ => h_.1))
            have n4_ := Qr (Kd.Q_mono (Qj (Qj (Kd.Q_old (by (with_reducible repeat (first | apply QK | apply QL | apply QM)); exact HO561.out) hb) (Qa ho0)) (Qa ho1)) (fun _ h_ => h_.1))
            have n5_ := Qr (Kd.R_mono (Qk (Qk (Kd.R_old (by (with_reducible repeat (first | apply QE | apply QF | apply QH)); exact HO564.out) hb) (Qa ho0)) (Qa ho1)) (fun _ h_ => h_.1))
            have n6_ := Qr (Kd.Q_mono (Qj (Qj (Kd.Q_old (by (with_reducible repeat (first | apply QK | apply QL | apply QM)); exact HO573.out) hb) (Qa ho0)) (Qa ho1)) (fun _ h_ => h_.1))
            have n7_ := Qr (Kd.R_mono (Qk (Qk (Kd.R_old (by (with_reducible repeat (first | apply QE | apply QF | apply QH)); exact HO576.out) hb) (Qa ho0)) (Qa ho1)) (fun _ h_ => h_.1))
            have n8_ := Qr (Kd.R_lower (Qb (Qb (Qb (Qb (Qb (Qb (Qb (Qb ho0 (Kd.Q_lt (by (with_reducible repeat (first | apply QK | apply QL | apply QM)); exact HO_524004.out))) (Kd.R_lt (by (with_reducible repeat (first | apply QE | apply QF | apply QH)); exact HO_524005.out))) (Kd.Q_lt (by (with_reducible repeat (first | apply QK | apply QL | apply QM)); exact HO546.out))) (Kd.R_lt (by (with_reducible repeat (first | apply QE | apply QF | apply QH)); exact HO549.out))) (Kd.Q_lt (by (with_reducible repeat (first | apply QK | apply QL | apply QM)); exact HO561.out))) (Kd.R_lt (by (with_reducible repeat (first | apply QE | apply QF | apply QH)); exact HO564.out))) (Kd.Q_lt (by (with_reducible repeat (first | apply QK | apply QL | apply QM)); exact HO573.out))) (Kd.R_lt (by (with_reducible repeat (first | apply QE | apply QF | apply QH)); exact HO576.out))) (Qm (by repeat (first | (with_reducible first | exact HB.out | apply QT | apply QO | apply QS | refine QJ ?_ GE523.out | refine QJ ?_ GE553.out | refine QJ ?_ GE579.out | refine QJ ?_ GE580.out) | exact HB.out))))
            have n9_ := Qr (Kd.R_lower (Qb (Qb (Qb (Qb (Qb (Qb (Qb (Qb ho1 (Kd.Q_lt (by (with_reducible repeat (first | apply QK | apply QL | apply QM)); exact HO_524004.out))) (Kd.R_lt (by (with_reducible repeat (first | apply QE | apply QF | apply QH)); exact HO_524005.out))) (Kd.Q_lt (by (with_reducible repeat (first | apply QK | apply QL | apply QM)); exact HO546.out))) (Kd.R_lt (by (with_reducible repeat (first | apply QE | apply QF | apply QH)); exact HO549.out))) (Kd.Q_lt (by (with_reducible repeat (first | apply QK | apply QL | apply QM)); exact HO561.out))) (Kd.R_lt (by (with_reducible repeat (first | apply QE | apply QF | apply QH)); exact HO564.out))) (Kd.Q_lt (by (with_reducible repeat (first | apply QK | apply QL | apply QM)); exact HO573.out))) (Kd.R_lt (by (with_reducible repeat (first | apply QE | apply QF | apply QH)); exact HO576.out))) (Qm (by repeat (first | (with_reducible first | exact HB.out | apply QT | apply QO | apply QS | refine QJ ?_ GE523.out | refine QJ ?_ GE553.out | refine QJ ?_ GE579.out | refine QJ ?_ GE580.out) | exact HB.out))))
            have n10_ := Qr (QV (g := gb523) (o := .cells #[.int .i64 t509,.int .i64 t510,.bool t511,.bool t512,.slice Ao10 t513.length co10,.slice Ao11 t516.length co11,.int .i64 t519,.int .i64 t520] 74 (0,0)) (by (with_reducible repeat (first | refine QC ?_ _ | refine QG ?_ | refine QD ?_ _)); exact BK523.out) hb)
            have n11_ := Qr (QV (g := gb553) (o := .cells #[.int .i64 t540,.int .i64 t541,.bool t542,.bool t543,.slice Ao151 t544.length co151,.slice Ao152 t547.length co152,.int .i64 t550,.int .i64 t551] 74 (0,0)) (by (with_reducible repeat (first | refine QC ?_ _ | refine QG ?_ | refine QD ?_ _)); exact BK553.out) hb)
            have n12_ := Qr (QV (g := gb579) (o := .cells #[.int .i64 t555,.int .i64 t556,.bool t557,.bool t558,.slice Ao161 t559.length co161,.slice Ao162 t562.length co162,.int .i64 t565,.int .i64 t566] 74 (0,0)) (by (with_reducible repeat (first | refine QC ?_ _ | refine QG ?_ | refine QD ?_ _)); exact BK579.out) hb)
            have n13_ := Qr (QV (g := gb580) (o := .cells #[.int .i64 t567,.int .i64 t568,.bool t569,.bool t570,.slice Ao166 t571.length co166,.slice Ao167 t574.length co167,.int .i64 t577,.int .i64 t578] 74 (0,0)) (by (with_reducible repeat (first | refine QC ?_ _ | refine QG ?_ | refine QD ?_ _)); exact BK580.out) hb)
            have n14_ := Qr (Qc (by repeat (first | (with_reducible first | exact HB.out | apply QT | apply QO | apply QS | refine QJ ?_ GE523.out | refine QJ ?_ GE553.out | refine QJ ?_ GE579.out | refine QJ ?_ GE580.out) | exact HB.out)) hb)
            clear HO_524004
            clear HO_524005
            clear HO546
            clear HO549
            clear HO561
            clear HO564
            clear HO573
            clear HO576
            clear BK523
            clear BK553
            clear BK579
            clear BK580
            clear HB
            revert n0_ n1_ n2_ n3_ n4_ n5_ n6_ n7_ n8_ n9_ n10_ n11_ n12_ n13_ n14_
            intro HO_524004 HO_524005 HO546 HO549 HO561 HO564 HO573 HO576 HO589 HO592 BK523 BK553 BK579 BK580 HB
            (try clear hb)
            (try clear hb2)
            (try clear hk)
            (try clear hi)
            (try clear ho0)
            (try clear ho1)
            obtain ⟨Ao172,co172,eo172⟩ := Kd.R_slice HO589.out
            (first | subst eo172 | (injection eo172 with f1_ f2_ f3_; have f4_ := f1_.symm; have f5_ := f3_.symm; clear f1_ f2_ f3_; subst f4_; subst f5_))
            obtain ⟨Ao173,co173,eo173⟩ := Kd.R_slice HO592.out
            (first | subst eo173 | (injection eo173 with f1_ f2_ f3_; have f4_ := f1_.symm; have f5_ := f3_.symm; clear f1_ f2_ f3_; subst f4_; subst f5_))
            refine hK.out _ _ (by (repeat' apply And.intro) <;> first | exact (QB BK553.out _).trans rfl | exact (QB BK579.out _).trans rfl | exact (QB BK580.out _).trans rfl | exact (QB BK523.out _).trans rfl) (fun hHeld => ?_)
            clear hK K
            refine norm_ (a' := ?_) ?_ ?_
            rotate_left
            ·show Act.put _ (some 93) _ = _
             simp only [Act.put,Qo,Qp,Qq,Qe,Qf]
             rfl
            refine one_ (i := 19) (N := some 94) #[Y1,Y1,Y1,Y1,Y1,Y1,Y1,Y1,Y1,Y1,Y1,Y1,Y1,Y1,Y1,Y1,Y1,Y1,Y1,Y1,Y0,Y0,Y0,Y0,Y0,Y0,Y0,Y0,Y0,Y0,Y0,Y0,Y0,Y0,Y0,Y0,Y0,Y0,Y0,Y0,Y0,Y0,Y0,Y0,Y0,Y0] rfl rfl (one_of HT_.out (by kernel_rfl)) (by decide) (fun K hK => ?_)
            refine goes_ Try.func64 (by kernel_rfl) rfl #[.agg #[.int .i64 t583,.int .i64 t584,.bool t585,.bool t586,.slice Ao172 t587.length co172,.slice Ao173 t590.length co173,.int .i64 t593,.int .i64 t594]] (by rfl) rfl rfl (by (try simp only [List.map_toArray,List.map_cons,List.map_nil]); first | done | rfl | (simp only [List.length_drop,List.length_take]; rfl)) ?_
            with_reducible refine (impl_IsRules.calls kj5 t583 t584 t585 t586 _ _ t587 _ _ t590 t593 t594 true _ ?side1 ?side2 ?side3 ?side4 A137.out).mono ?_
            (case side1 => repeat (first | exact (QU HO589.out).2.2 | (with_reducible refine QX ?_ _) | (with_reducible refine QY ?_ _) | (with_reducible refine QZ ?_)))
            (case side2 => exact (QU HO589.out).2.1)
            (case side3 => repeat (first | exact (QU HO592.out).2.2 | (with_reducible refine QX ?_ _) | (with_reducible refine QY ?_ _) | (with_reducible refine QZ ?_)))
            (case side4 => exact (QU HO592.out).2.1)
            rintro e w174 ⟨rfl,hb⟩
            refine ⟨_,rfl,?_⟩
            have n0_ := Qr (QP (by (with_reducible repeat (first | apply QK | apply QL | apply QM)); exact HO_524004.out) hb)
            have n1_ := Qr (QN (by (with_reducible repeat (first | apply QE | apply QF | apply QH)); exact HO_524005.out) hb)
            have n2_ := Qr (QP (by (with_reducible repeat (first | apply QK | apply QL | apply QM)); exact HO546.out) hb)
            have n3_ := Qr (QN (by (with_reducible repeat (first | apply QE | apply QF | apply QH)); exact HO549.out) hb)
            have n4_ := Qr (QP (by (with_reducible repeat (first | apply QK | apply QL | apply QM)); exact HO561.out) hb)
            have n5_ := Qr (QN (by (with_reducible repeat (first | apply QE | apply QF | apply QH)); exact HO564.out) hb)
            have n6_ := Qr (QP (by (with_reducible repeat (first | apply QK | apply QL | apply QM)); exact HO573.out) hb)
            have n7_ := Qr (QN (by (with_reducible repeat (first | apply QE | apply QF | apply QH)); exact HO576.out) hb)
            have n8_ := Qr (QN (by (with_reducible repeat (first | apply QE | apply QF | apply QH)); exact HO589.out) hb)
            have n9_ := Qr (QN (by (with_reducible repeat (first | apply QE | apply QF | apply QH)); exact HO592.out) hb)
            have n10_ := Qr (QV (g := gb523) (o := .cells #[.int .i64 t509,.int .i64 t510,.bool t511,.bool t512,.slice Ao10 t513.length co10,.slice Ao11 t516.length co11,.int .i64 t519,.int .i64 t520] 74 (0,0)) (by (with_reducible repeat (first | refine QC ?_ _ | refine QG ?_ | refine QD ?_ _)); exact BK523.out) hb)
            have n11_ := Qr (QV (g := gb553) (o := .cells #[.int .i64 t540,.int .i64 t541,.bool t542,.bool t543,.slice Ao151 t544.length co151,.slice Ao152 t547.length co152,.int .i64 t550,.int .i64 t551] 74 (0,0)) (by (with_reducible repeat (first | refine QC ?_ _ | refine QG ?_ | refine QD ?_ _)); exact BK553.out) hb)
            have n12_ := Qr (QV (g := gb579) (o := .cells #[.int .i64 t555,.int .i64 t556,.bool t557,.bool t558,.slice Ao161 t559.length co161,.slice Ao162 t562.length co162,.int .i64 t565,.int .i64 t566] 74 (0,0)) (by (with_reducible repeat (first | refine QC ?_ _ | refine QG ?_ | refine QD ?_ _)); exact BK579.out) hb)
            have n13_ := Qr (QV (g := gb580) (o := .cells #[.int .i64 t567,.int .i64 t568,.bool t569,.bool t570,.slice Ao166 t571.length co166,.slice Ao167 t574.length co167,.int .i64 t577,.int .i64 t578] 74 (0,0)) (by (with_reducible repeat (first | refine QC ?_ _ | refine QG ?_ | refine QD ?_ _)); exact BK580.out) hb)
            have n14_ := Qr (Qc (by repeat (first | (with_reducible first | exact HB.out | apply QT | apply QO | apply QS | refine QJ ?_ GE523.out | refine QJ ?_ GE553.out | refine QJ ?_ GE579.out | refine QJ ?_ GE580.out) | exact HB.out)) hb)
            clear HO_524004
            clear HO_524005
            clear HO546
            clear HO549
            clear HO561
            clear HO564
            clear HO573
            clear HO576
            clear HO589
            clear HO592
            clear BK523
            clear BK553
            clear BK579
            clear BK580
            clear HB
            revert n0_ n1_ n2_ n3_ n4_ n5_ n6_ n7_ n8_ n9_ n10_ n11_ n12_ n13_ n14_
            intro HO_524004 HO_524005 HO546 HO549 HO561 HO564 HO573 HO576 HO589 HO592 BK523 BK553 BK579 BK580 HB
            (try clear hb)
            (try clear hb2)
            (try clear hk)
            (try clear hi)
            refine hK.out _ _ (by (repeat' apply And.intro) <;> first | exact (QB BK553.out _).trans rfl | exact (QB BK579.out _).trans rfl | exact (QB BK580.out _).trans rfl | exact (QB BK523.out _).trans rfl) (fun hHeld => ?_)
            clear hK K
            refine norm_ (a' := ?_) ?_ ?_
            rotate_left
            ·show Act.put _ (some 94) _ = _
             simp only [Act.put,Qo,Qp,Qq,Qe,Qf]
             rfl
            refine Ql (i := 20) (N := some 95) (v := ?_) (a' := ?_) #[Y1,Y1,Y1,Y1,Y1,Y1,Y1,Y1,Y1,Y1,Y1,Y1,Y1,Y1,Y1,Y1,Y1,Y1,Y1,Y1,Y1,Y0,Y0,Y0,Y0,Y0,Y0,Y0,Y0,Y0,Y0,Y0,Y0,Y0,Y0,Y0,Y0,Y0,Y0,Y0,Y0,Y0,Y0,Y0,Y0,Y0] rfl rfl (Qg HT_.out (by kernel_rfl)) (fun _ _ _ h => h) (Or.inl ⟨by rfl,?_⟩) ?_ ?_
            rotate_left
            ·intro w'
             go_simp
             with_reducible rfl
            rotate_left
            ·simp only [Act.put,Qo,Qp,Qq,Qe,Qf]
             rfl
            refine Ql (i := 21) (N := some 96) (v := ?_) (a' := ?_) #[Y1,Y1,Y1,Y1,Y1,Y1,Y1,Y1,Y1,Y1,Y1,Y1,Y1,Y1,Y1,Y1,Y1,Y1,Y1,Y1,Y1,Y1,Y0,Y0,Y0,Y0,Y0,Y0,Y0,Y0,Y0,Y0,Y0,Y0,Y0,Y0,Y0,Y0,Y0,Y0,Y0,Y0,Y0,Y0,Y0,Y0] rfl rfl (Qg HT_.out (by kernel_rfl)) (fun _ _ _ h => h) (Or.inl ⟨by rfl,?_⟩) ?_ ?_
            rotate_left
            ·intro w'
             go_simp
             with_reducible rfl
            rotate_left
            ·simp only [Act.put,Qo,Qp,Qq,Qe,Qf]
             rfl
            refine take_ (i := 22) (N := some 97) (v := ?_) (a' := ?_) #[Y1,Y1,Y1,Y1,Y1,Y1,Y1,Y1,Y1,Y1,Y1,Y1,Y1,Y1,Y1,Y1,Y1,Y1,Y1,Y1,Y1,Y1,Y1,Y0,Y0,Y0,Y0,Y0,Y0,Y0,Y0,Y0,Y0,Y0,Y0,Y0,Y0,Y0,Y0,Y0,Y0,Y0,Y0,Y0,Y0,Y0] rfl rfl (take_ofW HT_.out HW_.out (by kernel_rfl)) (fun _ _ _ h => h) (Or.inl ⟨by rfl,?_⟩) hHeld ?_ ?_
            rotate_left
            ·rintro w' ⟨s0,s1,s2,s3,s4,s5,s6,s7,s8,s9,s10,s11,s12,s13,s14,s15,s16,s17,s18,s19,s20,s21,s22,s23,s24,s25,s26,s27,s28,s29,s30,s31⟩
             go_simp
             with_reducible rfl
            rotate_left
            ·simp only [Act.put,Qo,Qp,Qq,Qe,Qf]
             rfl
            refine take_ (i := 23) (N := some 98) (v := ?_) (a' := ?_) #[Y1,Y1,Y1,Y1,Y1,Y1,Y1,Y1,Y1,Y1,Y1,Y1,Y1,Y1,Y1,Y1,Y1,Y1,Y1,Y1,Y1,Y1,Y1,Y1,Y0,Y0,Y0,Y0,Y0,Y0,Y0,Y0,Y0,Y0,Y0,Y0,Y0,Y0,Y0,Y0,Y0,Y0,Y0,Y0,Y0,Y0] rfl rfl (take_ofW HT_.out HW_.out (by kernel_rfl)) (fun _ _ _ h => h) (Or.inl ⟨by rfl,?_⟩) hHeld ?_ ?_
            rotate_left
            ·rintro w' ⟨s0,s1,s2,s3,s4,s5,s6,s7,s8,s9,s10,s11,s12,s13,s14,s15,s16,s17,s18,s19,s20,s21,s22,s23,s24,s25,s26,s27,s28,s29,s30,s31⟩
             go_simp
             with_reducible rfl
            rotate_left
            ·simp only [Act.put,Qo,Qp,Qq,Qe,Qf]
             rfl
            refine take_ (i := 25) (N := some 100) (v := ?_) (a' := ?_) #[Y1,Y1,Y1,Y1,Y1,Y1,Y1,Y1,Y1,Y1,Y1,Y1,Y1,Y1,Y1,Y1,Y1,Y1,Y1,Y1,Y1,Y1,Y1,Y1,Y0,Y1,Y0,Y0,Y0,Y0,Y0,Y0,Y0,Y0,Y0,Y0,Y0,Y0,Y0,Y0,Y0,Y0,Y0,Y0,Y0,Y0] rfl rfl (take_ofW HT_.out HW_.out (by kernel_rfl)) (fun _ _ _ h => h) (Or.inl ⟨by rfl,?_⟩) hHeld ?_ ?_
            rotate_left
            ·rintro w' ⟨s0,s1,s2,s3,s4,s5,s6,s7,s8,s9,s10,s11,s12,s13,s14,s15,s16,s17,s18,s19,s20,s21,s22,s23,s24,s25,s26,s27,s28,s29,s30,s31⟩
             go_simp
             with_reducible rfl
            rotate_left
            ·simp only [Act.put,Qo,Qp,Qq,Qe,Qf]
             rfl
            refine take_ (i := 26) (N := some 101) (v := ?_) (a' := ?_) #[Y1,Y1,Y1,Y1,Y1,Y1,Y1,Y1,Y1,Y1,Y1,Y1,Y1,Y1,Y1,Y1,Y1,Y1,Y1,Y1,Y1,Y1,Y1,Y1,Y0,Y1,Y1,Y0,Y0,Y0,Y0,Y0,Y0,Y0,Y0,Y0,Y0,Y0,Y0,Y0,Y0,Y0,Y0,Y0,Y0,Y0] rfl rfl (take_ofW HT_.out HW_.out (by kernel_rfl)) (fun _ _ _ h => h) (Or.inl ⟨by rfl,?_⟩) hHeld ?_ ?_
            rotate_left
            ·rintro w' ⟨s0,s1,s2,s3,s4,s5,s6,s7,s8,s9,s10,s11,s12,s13,s14,s15,s16,s17,s18,s19,s20,s21,s22,s23,s24,s25,s26,s27,s28,s29,s30,s31⟩
             go_simp
             with_reducible rfl
            rotate_left
            ·simp only [Act.put,Qo,Qp,Qq,Qe,Qf]
             rfl
            refine one_ (i := 24) (N := some 99) #[Y1,Y1,Y1,Y1,Y1,Y1,Y1,Y1,Y1,Y1,Y1,Y1,Y1,Y1,Y1,Y1,Y1,Y1,Y1,Y1,Y1,Y1,Y1,Y1,Y1,Y1,Y1,Y0,Y0,Y0,Y0,Y0,Y0,Y0,Y0,Y0,Y0,Y0,Y0,Y0,Y0,Y0,Y0,Y0,Y0,Y0] rfl rfl (one_of HT_.out (by kernel_rfl)) (by decide) (fun K hK => ?_)
            refine goes_ Try.func70 (by kernel_rfl) rfl #[.agg #[.int .i64 t555,.int .i64 t556,.bool t557,.bool t558,.slice Ao161 t559.length co161,.slice Ao162 t562.length co162,.int .i64 t565,.int .i64 t566],.agg #[.int .i64 t567,.int .i64 t568,.bool t569,.bool t570,.slice Ao166 t571.length co166,.slice Ao167 t574.length co167,.int .i64 t577,.int .i64 t578]] (by rfl) rfl rfl (by (try simp only [List.map_toArray,List.map_cons,List.map_nil]); first | done | rfl | (simp only [List.length_drop,List.length_take]; rfl)) ?_
            with_reducible refine (impl_EqualRules.calls kj5 t555 t556 t557 t558 _ _ t559 _ _ t562 t565 t566 t567 t568 t569 t570 _ _ t571 _ _ t574 t577 t578 t596 _ ?side1 ?side2 ?side3 ?side4 ?side5 ?side6 ?side7 ?side8 A139.out).mono ?_
            (case side1 => repeat (first | exact (QW HO561.out).2.2 | (with_reducible refine QX ?_ _) | (with_reducible refine QY ?_ _) | (with_reducible refine QZ ?_)))
            (case side2 => exact (QW HO561.out).2.1)
            (case side3 => repeat (first | exact (QU HO564.out).2.2 | (with_reducible refine QX ?_ _) | (with_reducible refine QY ?_ _) | (with_reducible refine QZ ?_)))
            (case side4 => exact (QU HO564.out).2.1)
            (case side5 => repeat (first | exact (QW HO573.out).2.2 | (with_reducible refine QX ?_ _) | (with_reducible refine QY ?_ _) | (with_reducible refine QZ ?_)))
            (case side6 => exact (QW HO573.out).2.1)
            (case side7 => repeat (first | exact (QU HO576.out).2.2 | (with_reducible refine QX ?_ _) | (with_reducible refine QY ?_ _) | (with_reducible refine QZ ?_)))
            (case side8 => exact (QU HO576.out).2.1)
            rintro e w175 ⟨rfl,hb⟩
            refine ⟨_,rfl,?_⟩
            have n0_ := Qr (QP (by (with_reducible repeat (first | apply QK | apply QL | apply QM)); exact HO_524004.out) hb)
            have n1_ := Qr (QN (by (with_reducible repeat (first | apply QE | apply QF | apply QH)); exact HO_524005.out) hb)
            have n2_ := Qr (QP (by (with_reducible repeat (first | apply QK | apply QL | apply QM)); exact HO546.out) hb)
            have n3_ := Qr (QN (by (with_reducible repeat (first | apply QE | apply QF | apply QH)); exact HO549.out) hb)
            have n4_ := Qr (QP (by (with_reducible repeat (first | apply QK | apply QL | apply QM)); exact HO561.out) hb)
            have n5_ := Qr (QN (by (with_reducible repeat (first | apply QE | apply QF | apply QH)); exact HO564.out) hb)
            have n6_ := Qr (QP (by (with_reducible repeat (first | apply QK | apply QL | apply QM)); exact HO573.out) hb)
            have n7_ := Qr (QN (by (with_reducible repeat (first | apply QE | apply QF | apply QH)); exact HO576.out) hb)
            have n8_ := Qr (QN (by (with_reducible repeat (first | apply QE | apply QF | apply QH)); exact HO589.out) hb)
            have n9_ := Qr (QN (by (with_reducible repeat (first | apply QE | apply QF | apply QH)); exact HO592.out) hb)
            have n10_ := Qr (QV (g := gb523) (o := .cells #[.int .i64 t509,.int .i64 t510,.bool t511,.bool t512,.slice Ao10 t513.length co10,.slice Ao11 t516.length co11,.int .i64 t519,.int .i64 t520] 74 (0,0)) (by (with_reducible repeat (first | refine QC ?_ _ | refine QG ?_ | refine QD ?_ _)); exact BK523.out) hb)
            have n11_ := Qr (QV (g := gb553) (o := .cells #[.int .i64 t540,.int .i64 t541,.bool t542,.bool t543,.slice Ao151 t544.length co151,.slice Ao152 t547.length co152,.int .i64 t550,.int .i64 t551] 74 (0,0)) (by (with_reducible repeat (first | refine QC ?_ _ | refine QG ?_ | refine QD ?_ _)); exact BK553.out) hb)
            have n12_ := Qr (QV (g := gb579) (o := .cells #[.int .i64 t555,.int .i64 t556,.bool t557,.bool t558,.slice Ao161 t559.length co161,.slice Ao162 t562.length co162,.int .i64 t565,.int .i64 t566] 74 (0,0)) (by (with_reducible repeat (first | refine QC ?_ _ | refine QG ?_ | refine QD ?_ _)); exact BK579.out) hb)
            have n13_ := Qr (QV (g := gb580) (o := .cells #[.int .i64 t567,.int .i64 t568,.bool t569,.bool t570,.slice Ao166 t571.length co166,.slice Ao167 t574.length co167,.int .i64 t577,.int .i64 t578] 74 (0,0)) (by (with_reducible repeat (first | refine QC ?_ _ | refine QG ?_ | refine QD ?_ _)); exact BK580.out) hb)
            have n14_ := Qr (Qc (by repeat (first | (with_reducible first | exact HB.out | apply QT | apply QO | apply QS | refine QJ ?_ GE523.out | refine QJ ?_ GE553.out | refine QJ ?_ GE579.out | refine QJ ?_ GE580.out) | exact HB.out)) hb)
            clear HO_524004
            clear HO_524005
            clear HO546
            clear HO549
            clear HO561
            clear HO564
            clear HO573
            clear HO576
            clear HO589
            clear HO592
            clear BK523
            clear BK553
            clear BK579
            clear BK580
            clear HB
            revert n0_ n1_ n2_ n3_ n4_ n5_ n6_ n7_ n8_ n9_ n10_ n11_ n12_ n13_ n14_
            intro HO_524004 HO_524005 HO546 HO549 HO561 HO564 HO573 HO576 HO589 HO592 BK523 BK553 BK579 BK580 HB
            (try clear hb)
            (try clear hb2)
            (try clear hk)
            (try clear hi)
            refine hK.out _ _ (by (repeat' apply And.intro) <;> first | exact (QB BK553.out _).trans rfl | exact (QB BK579.out _).trans rfl | exact (QB BK580.out _).trans rfl | exact (QB BK523.out _).trans rfl) (fun hHeld => ?_)
            clear hK K
            refine norm_ (a' := ?_) ?_ ?_
            rotate_left
            ·show Act.put _ (some 99) _ = _
             simp only [Act.put,Qo,Qp,Qq,Qe,Qf]
             rfl
            refine one_ (i := 27) (N := some 102) #[Y1,Y1,Y1,Y1,Y1,Y1,Y1,Y1,Y1,Y1,Y1,Y1,Y1,Y1,Y1,Y1,Y1,Y1,Y1,Y1,Y1,Y1,Y1,Y1,Y1,Y1,Y1,Y1,Y0,Y0,Y0,Y0,Y0,Y0,Y0,Y0,Y0,Y0,Y0,Y0,Y0,Y0,Y0,Y0,Y0,Y0] rfl rfl (one_of HT_.out (by kernel_rfl)) (by decide) (fun K hK => ?_)
            refine goes_ Try.func70 (by kernel_rfl) rfl #[.agg #[.int .i64 t567,.int .i64 t568,.bool t569,.bool t570,.slice Ao166 t571.length co166,.slice Ao167 t574.length co167,.int .i64 t577,.int .i64 t578],.agg #[.int .i64 t555,.int .i64 t556,.bool t557,.bool t558,.slice Ao161 t559.length co161,.slice Ao162 t562.length co162,.int .i64 t565,.int .i64 t566]] (by rfl) rfl rfl (by (try simp only [List.map_toArray,List.map_cons,List.map_nil]); first | done | rfl | (simp only [List.length_drop,List.length_take]; rfl)) ?_
            with_reducible refine (impl_EqualRules.calls kj5 t567 t568 t569 t570 _ _ t571 _ _ t574 t577 t578 t555 t556 t557 t558 _ _ t559 _ _ t562 t565 t566 t597 _ ?side1 ?side2 ?side3 ?side4 ?side5 ?side6 ?side7 ?side8 A140.out).mono ?_
            (case side1 => repeat (first | exact (QW HO573.out).2.2 | (with_reducible refine QX ?_ _) | (with_reducible refine QY ?_ _) | (with_reducible refine QZ ?_)))
            (case side2 => exact (QW HO573.out).2.1)
            (case side3 => repeat (first | exact (QU HO576.out).2.2 | (with_reducible refine QX ?_ _) | (with_reducible refine QY ?_ _) | (with_reducible refine QZ ?_)))
            (case side4 => exact (QU HO576.out).2.1)
            (case side5 => repeat (first | exact (QW HO561.out).2.2 | (with_reducible refine QX ?_ _) | (with_reducible refine QY ?_ _) | (with_reducible refine QZ ?_)))
            (case side6 => exact (QW HO561.out).2.1)
            (case side7 => repeat (first | exact (QU HO564.out).2.2 | (with_reducible refine QX ?_ _) | (with_reducible refine QY ?_ _) | (with_reducible refine QZ ?_)))
            (case side8 => exact (QU HO564.out).2.1)
            rintro e w176 ⟨rfl,hb⟩
            refine ⟨_,rfl,?_⟩
            have n0_ := Qr (QP (by (with_reducible repeat (first | apply QK | apply QL | apply QM)); exact HO_524004.out) hb)
            have n1_ := Qr (QN (by (with_reducible repeat (first | apply QE | apply QF | apply QH)); exact HO_524005.out) hb)
            have n2_ := Qr (QP (by (with_reducible repeat (first | apply QK | apply QL | apply QM)); exact HO546.out) hb)
            have n3_ := Qr (QN (by (with_reducible repeat (first | apply QE | apply QF | apply QH)); exact HO549.out) hb)
            have n4_ := Qr (QP (by (with_reducible repeat (first | apply QK | apply QL | apply QM)); exact HO561.out) hb)
            have n5_ := Qr (QN (by (with_reducible repeat (first | apply QE | apply QF | apply QH)); exact HO564.out) hb)
            have n6_ := Qr (QP (by (with_reducible repeat (first | apply QK | apply QL | apply QM)); exact HO573.out) hb)
            have n7_ := Qr (QN (by (with_reducible repeat (first | apply QE | apply QF | apply QH)); exact HO576.out) hb)
            have n8_ := Qr (QN (by (with_reducible repeat (first | apply QE | apply QF | apply QH)); exact HO589.out) hb)
            have n9_ := Qr (QN (by (with_reducible repeat (first | apply QE | apply QF | apply QH)); exact HO592.out) hb)
            have n10_ := Qr (QV (g := gb523) (o := .cells #[.int .i64 t509,.int .i64 t510,.bool t511,.bool t512,.slice Ao10 t513.length co10,.slice Ao11 t516.length co11,.int .i64 t519,.int .i64 t520] 74 (0,0)) (by (with_reducible repeat (first | refine QC ?_ _ | refine QG ?_ | refine QD ?_ _)); exact BK523.out) hb)
            have n11_ := Qr (QV (g := gb553) (o := .cells #[.int .i64 t540,.int .i64 t541,.bool t542,.bool t543,.slice Ao151 t544.length co151,.slice Ao152 t547.length co152,.int .i64 t550,.int .i64 t551] 74 (0,0)) (by (with_reducible repeat (first | refine QC ?_ _ | refine QG ?_ | refine QD ?_ _)); exact BK553.out) hb)
            have n12_ := Qr (QV (g := gb579) (o := .cells #[.int .i64 t555,.int .i64 t556,.bool t557,.bool t558,.slice Ao161 t559.length co161,.slice Ao162 t562.length co162,.int .i64 t565,.int .i64 t566] 74 (0,0)) (by (with_reducible repeat (first | refine QC ?_ _ | refine QG ?_ | refine QD ?_ _)); exact BK579.out) hb)
            have n13_ := Qr (QV (g := gb580) (o := .cells #[.int .i64 t567,.int .i64 t568,.bool t569,.bool t570,.slice Ao166 t571.length co166,.slice Ao167 t574.length co167,.int .i64 t577,.int .i64 t578] 74 (0,0)) (by (with_reducible repeat (first | refine QC ?_ _ | refine QG ?_ | refine QD ?_ _)); exact BK580.out) hb)
            have n14_ := Qr (Qc (by repeat (first | (with_reducible first | exact HB.out | apply QT | apply QO | apply QS | refine QJ ?_ GE523.out | refine QJ ?_ GE553.out | refine QJ ?_ GE579.out | refine QJ ?_ GE580.out) | exact HB.out)) hb)
            clear HO_524004
            clear HO_524005
            clear HO546
            clear HO549
            clear HO561
            clear HO564
            clear HO573
            clear HO576
            clear HO589
            clear HO592
            clear BK523
            clear BK553
            clear BK579
            clear BK580
            clear HB
            revert n0_ n1_ n2_ n3_ n4_ n5_ n6_ n7_ n8_ n9_ n10_ n11_ n12_ n13_ n14_
            intro HO_524004 HO_524005 HO546 HO549 HO561 HO564 HO573 HO576 HO589 HO592 BK523 BK553 BK579 BK580 HB
            (try clear hb)
            (try clear hb2)
            (try clear hk)
            (try clear hi)
            refine hK.out _ _ (by (repeat' apply And.intro) <;> first | exact (QB BK553.out _).trans rfl | exact (QB BK579.out _).trans rfl | exact (QB BK580.out _).trans rfl | exact (QB BK523.out _).trans rfl) (fun hHeld => ?_)
            clear hK K
            refine norm_ (a' := ?_) ?_ ?_
            rotate_left
            ·show Act.put _ (some 102) _ = _
             simp only [Act.put,Qo,Qp,Qq,Qe,Qf]
             rfl
            refine Ql (i := 28) (N := some 103) (v := ?_) (a' := ?_) #[Y1,Y1,Y1,Y1,Y1,Y1,Y1,Y1,Y1,Y1,Y1,Y1,Y1,Y1,Y1,Y1,Y1,Y1,Y1,Y1,Y1,Y1,Y1,Y1,Y1,Y1,Y1,Y1,Y1,Y0,Y0,Y0,Y0,Y0,Y0,Y0,Y0,Y0,Y0,Y0,Y0,Y0,Y0,Y0,Y0,Y0] rfl rfl (Qg HT_.out (by kernel_rfl)) (fun _ _ _ h => h) (Or.inl ⟨by rfl,?_⟩) ?_ ?_
            rotate_left
            ·intro w'
             go_simp
             with_reducible rfl
            rotate_left
            ·simp only [Act.put,Qo,Qp,Qq,Qe,Qf]
             rfl
            refine Ql (i := 29) (N := some 104) (v := ?_) (a' := ?_) #[Y1,Y1,Y1,Y1,Y1,Y1,Y1,Y1,Y1,Y1,Y1,Y1,Y1,Y1,Y1,Y1,Y1,Y1,Y1,Y1,Y1,Y1,Y1,Y1,Y1,Y1,Y1,Y1,Y1,Y1,Y0,Y0,Y0,Y0,Y0,Y0,Y0,Y0,Y0,Y0,Y0,Y0,Y0,Y0,Y0,Y0] rfl rfl (Qg HT_.out (by kernel_rfl)) (fun _ _ _ h => h) (Or.inl ⟨by rfl,?_⟩) ?_ ?_
            rotate_left
            ·intro w'
             go_simp
             with_reducible rfl
            rotate_left
            ·simp only [Act.put,Qo,Qp,Qq,Qe,Qf]
             rfl
            refine Ql (i := 30) (N := some 105) (v := ?_) (a' := ?_) #[Y1,Y1,Y1,Y1,Y1,Y1,Y1,Y1,Y1,Y1,Y1,Y1,Y1,Y1,Y1,Y1,Y1,Y1,Y1,Y1,Y1,Y1,Y1,Y1,Y1,Y1,Y1,Y1,Y1,Y1,Y1,Y0,Y0,Y0,Y0,Y0,Y0,Y0,Y0,Y0,Y0,Y0,Y0,Y0,Y0,Y0] rfl rfl (Qg HT_.out (by kernel_rfl)) (fun _ _ _ h => h) (Or.inl ⟨by rfl,?_⟩) ?_ ?_
            rotate_left
            ·intro w'
             go_simp
             with_reducible rfl
            rotate_left
            ·simp only [Act.put,Qo,Qp,Qq,Qe,Qf]
             rfl
            refine take_ (i := 31) (N := some 106) (v := ?_) (a' := ?_) #[Y1,Y1,Y1,Y1,Y1,Y1,Y1,Y1,Y1,Y1,Y1,Y1,Y1,Y1,Y1,Y1,Y1,Y1,Y1,Y1,Y1,Y1,Y1,Y1,Y1,Y1,Y1,Y1,Y1,Y1,Y1,Y1,Y0,Y0,Y0,Y0,Y0,Y0,Y0,Y0,Y0,Y0,Y0,Y0,Y0,Y0] rfl rfl (take_ofW HT_.out HW_.out (by kernel_rfl)) (fun _ _ _ h => h) (Or.inl ⟨by rfl,?_⟩) hHeld ?_ ?_
            rotate_left
            ·rintro w' ⟨s0,s1,s2,s3,s4,s5,s6,s7,s8,s9,s10,s11,s12,s13,s14,s15,s16,s17,s18,s19,s20,s21,s22,s23,s24,s25,s26,s27,s28,s29,s30,s31⟩
             go_simp
             with_reducible rfl
            rotate_left
            ·simp only [Act.put,Qo,Qp,Qq,Qe,Qf]
             rfl
            refine take_ (i := 32) (N := some 107) (v := ?_) (a' := ?_) #[Y1,Y1,Y1,Y1,Y1,Y1,Y1,Y1,Y1,Y1,Y1,Y1,Y1,Y1,Y1,Y1,Y1,Y1,Y1,Y1,Y1,Y1,Y1,Y1,Y1,Y1,Y1,Y1,Y1,Y1,Y1,Y1,Y1,Y0,Y0,Y0,Y0,Y0,Y0,Y0,Y0,Y0,Y0,Y0,Y0,Y0] rfl rfl (take_ofW HT_.out HW_.out (by kernel_rfl)) (fun _ _ _ h => h) (Or.inl ⟨by rfl,?_⟩) hHeld ?_ ?_
            rotate_left
            ·rintro w' ⟨s0,s1,s2,s3,s4,s5,s6,s7,s8,s9,s10,s11,s12,s13,s14,s15,s16,s17,s18,s19,s20,s21,s22,s23,s24,s25,s26,s27,s28,s29,s30,s31⟩
             go_simp
             with_reducible rfl
            rotate_left
            ·simp only [Act.put,Qo,Qp,Qq,Qe,Qf]
             rfl
            refine one_ (i := 33) (N := some 108) #[Y1,Y1,Y1,Y1,Y1,Y1,Y1,Y1,Y1,Y1,Y1,Y1,Y1,Y1,Y1,Y1,Y1,Y1,Y1,Y1,Y1,Y1,Y1,Y1,Y1,Y1,Y1,Y1,Y1,Y1,Y1,Y1,Y1,Y1,Y0,Y0,Y0,Y0,Y0,Y0,Y0,Y0,Y0,Y0,Y0,Y0] rfl rfl (one_of HT_.out (by kernel_rfl)) (by decide) (fun K hK => ?_)
            refine goes_ Try.func70 (by kernel_rfl) rfl #[.agg #[.int .i64 t555,.int .i64 t556,.bool t557,.bool t558,.slice Ao161 t559.length co161,.slice Ao162 t562.length co162,.int .i64 t565,.int .i64 t566],.agg #[.int .i64 t555,.int .i64 t556,.bool t557,.bool t558,.slice Ao161 t559.length co161,.slice Ao162 t562.length co162,.int .i64 t565,.int .i64 t566]] (by rfl) rfl rfl (by (try simp only [List.map_toArray,List.map_cons,List.map_nil]); first | done | rfl | (simp only [List.length_drop,List.length_take]; rfl)) ?_
            with_reducible refine (impl_EqualRules.calls kj5 t555 t556 t557 t558 _ _ t559 _ _ t562 t565 t566 t555 t556 t557 t558 _ _ t559 _ _ t562 t565 t566 true _ ?side1 ?side2 ?side3 ?side4 ?side5 ?side6 ?side7 ?side8 A142.out).mono ?_
            (case side1 => repeat (first | exact (QW HO561.out).2.2 | (with_reducible refine QX ?_ _) | (with_reducible refine QY ?_ _) | (with_reducible refine QZ ?_)))
            (case side2 => exact (QW HO561.out).2.1)
            (case side3 => repeat (first | exact (QU HO564.out).2.2 | (with_reducible refine QX ?_ _) | (with_reducible refine QY ?_ _) | (with_reducible refine QZ ?_)))
            (case side4 => exact (QU HO564.out).2.1)
            (case side5 => repeat (first | exact (QW HO561.out).2.2 | (with_reducible refine QX ?_ _) | (with_reducible refine QY ?_ _) | (with_reducible refine QZ ?_)))
            (case side6 => exact (QW HO561.out).2.1)
            (case side7 => repeat (first | exact (QU HO564.out).2.2 | (with_reducible refine QX ?_ _) | (with_reducible refine QY ?_ _) | (with_reducible refine QZ ?_)))
            (case side8 => exact (QU HO564.out).2.1)
            rintro e w177 ⟨rfl,hb⟩
            refine ⟨_,rfl,?_⟩
            have n0_ := Qr (QP (by (with_reducible repeat (first | apply QK | apply QL | apply QM)); exact HO_524004.out) hb)
            have n1_ := Qr (QN (by (with_reducible repeat (first | apply QE | apply QF | apply QH)); exact HO_524005.out) hb)
            have n2_ := Qr (QP (by (with_reducible repeat (first | apply QK | apply QL | apply QM)); exact HO546.out) hb)
            have n3_ := Qr (QN (by (with_reducible repeat (first | apply QE | apply QF | apply QH)); exact HO549.out) hb)
            have n4_ := Qr (QP (by (with_reducible repeat (first | apply QK | apply QL | apply QM)); exact HO561.out) hb)
            have n5_ := Qr (QN (by (with_reducible repeat (first | apply QE | apply QF | apply QH)); exact HO564.out) hb)
            have n6_ := Qr (QP (by (with_reducible repeat (first | apply QK | apply QL | apply QM)); exact HO573.out) hb)
            have n7_ := Qr (QN (by (with_reducible repeat (first | apply QE | apply QF | apply QH)); exact HO576.out) hb)
            have n8_ := Qr (QN (by (with_reducible repeat (first | apply QE | apply QF | apply QH)); exact HO589.out) hb)
            have n9_ := Qr (QN (by (with_reducible repeat (first | apply QE | apply QF | apply QH)); exact HO592.out) hb)
            have n10_ := Qr (QV (g := gb523) (o := .cells #[.int .i64 t509,.int .i64 t510,.bool t511,.bool t512,.slice Ao10 t513.length co10,.slice Ao11 t516.length co11,.int .i64 t519,.int .i64 t520] 74 (0,0)) (by (with_reducible repeat (first | refine QC ?_ _ | refine QG ?_ | refine QD ?_ _)); exact BK523.out) hb)
            have n11_ := Qr (QV (g := gb553) (o := .cells #[.int .i64 t540,.int .i64 t541,.bool t542,.bool t543,.slice Ao151 t544.length co151,.slice Ao152 t547.length co152,.int .i64 t550,.int .i64 t551] 74 (0,0)) (by (with_reducible repeat (first | refine QC ?_ _ | refine QG ?_ | refine QD ?_ _)); exact BK553.out) hb)
            have n12_ := Qr (QV (g := gb579) (o := .cells #[.int .i64 t555,.int .i64 t556,.bool t557,.bool t558,.slice Ao161 t559.length co161,.slice Ao162 t562.length co162,.int .i64 t565,.int .i64 t566] 74 (0,0)) (by (with_reducible repeat (first | refine QC ?_ _ | refine QG ?_ | refine QD ?_ _)); exact BK579.out) hb)
            have n13_ := Qr (QV (g := gb580) (o := .cells #[.int .i64 t567,.int .i64 t568,.bool t569,.bool t570,.slice Ao166 t571.length co166,.slice Ao167 t574.length co167,.int .i64 t577,.int .i64 t578] 74 (0,0)) (by (with_reducible repeat (first | refine QC ?_ _ | refine QG ?_ | refine QD ?_ _)); exact BK580.out) hb)
            have n14_ := Qr (Qc (by repeat (first | (with_reducible first | exact HB.out | apply QT | apply QO | apply QS | refine QJ ?_ GE523.out | refine QJ ?_ GE553.out | refine QJ ?_ GE579.out | refine QJ ?_ GE580.out) | exact HB.out)) hb)
            clear HO_524004
            clear HO_524005
            clear HO546
            clear HO549
            clear HO561
            clear HO564
            clear HO573
            clear HO576
            clear HO589
            clear HO592
            clear BK523
            clear BK553
            clear BK579
            clear BK580
            clear HB
            revert n0_ n1_ n2_ n3_ n4_ n5_ n6_ n7_ n8_ n9_ n10_ n11_ n12_ n13_ n14_
            intro HO_524004 HO_524005 HO546 HO549 HO561 HO564 HO573 HO576 HO589 HO592 BK523 BK553 BK579 BK580 HB
            (try clear hb)
            (try clear hb2)
            (try clear hk)
            (try clear hi)
            refine hK.out _ _ (by (repeat' apply And.intro) <;> first | exact (QB BK553.out _).trans rfl | exact (QB BK579.out _).trans rfl | exact (QB BK580.out _).trans rfl | exact (QB BK523.out _).trans rfl) (fun hHeld => ?_)
            clear hK K
            refine norm_ (a' := ?_) ?_ ?_
            rotate_left
            ·show Act.put _ (some 108) _ = _
             simp only [Act.put,Qo,Qp,Qq,Qe,Qf]
             rfl
            refine Ql (i := 34) (N := some 109) (v := ?_) (a' := ?_) #[Y1,Y1,Y1,Y1,Y1,Y1,Y1,Y1,Y1,Y1,Y1,Y1,Y1,Y1,Y1,Y1,Y1,Y1,Y1,Y1,Y1,Y1,Y1,Y1,Y1,Y1,Y1,Y1,Y1,Y1,Y1,Y1,Y1,Y1,Y1,Y0,Y0,Y0,Y0,Y0,Y0,Y0,Y0,Y0,Y0,Y0] rfl rfl (Qg HT_.out (by kernel_rfl)) (fun _ _ _ h => h) (Or.inl ⟨by rfl,?_⟩) ?_ ?_
            rotate_left
            ·intro w'
             go_simp
             with_reducible rfl
            rotate_left
            ·simp only [Act.put,Qo,Qp,Qq,Qe,Qf]
             rfl
            refine Ql (i := 35) (N := some 110) (v := ?_) (a' := ?_) #[Y1,Y1,Y1,Y1,Y1,Y1,Y1,Y1,Y1,Y1,Y1,Y1,Y1,Y1,Y1,Y1,Y1,Y1,Y1,Y1,Y1,Y1,Y1,Y1,Y1,Y1,Y1,Y1,Y1,Y1,Y1,Y1,Y1,Y1,Y1,Y1,Y0,Y0,Y0,Y0,Y0,Y0,Y0,Y0,Y0,Y0] rfl rfl (Qg HT_.out (by kernel_rfl)) (fun _ _ _ h => h) (Or.inl ⟨by rfl,?_⟩) ?_ ?_
            rotate_left
            ·intro w'
             go_simp
             with_reducible rfl
            rotate_left
            ·simp only [Act.put,Qo,Qp,Qq,Qe,Qf]
             rfl
            refine Ql (i := 37) (N := some 112) (v := ?_) (a' := ?_) #[Y1,Y1,Y1,Y1,Y1,Y1,Y1,Y1,Y1,Y1,Y1,Y1,Y1,Y1,Y1,Y1,Y1,Y1,Y1,Y1,Y1,Y1,Y1,Y1,Y1,Y1,Y1,Y1,Y1,Y1,Y1,Y1,Y1,Y1,Y1,Y1,Y0,Y1,Y0,Y0,Y0,Y0,Y0,Y0,Y0,Y0] rfl rfl (Qg HT_.out (by kernel_rfl)) (fun _ _ _ h => h) (Or.inl ⟨by rfl,?_⟩) ?_ ?_
            rotate_left
            ·intro w'
             go_simp
             with_reducible rfl
            rotate_left
            ·simp only [Act.put,Qo,Qp,Qq,Qe,Qf]
             rfl
            refine take_ (i := 36) (N := some 111) (v := ?_) (a' := ?_) #[Y1,Y1,Y1,Y1,Y1,Y1,Y1,Y1,Y1,Y1,Y1,Y1,Y1,Y1,Y1,Y1,Y1,Y1,Y1,Y1,Y1,Y1,Y1,Y1,Y1,Y1,Y1,Y1,Y1,Y1,Y1,Y1,Y1,Y1,Y1,Y1,Y1,Y1,Y0,Y0,Y0,Y0,Y0,Y0,Y0,Y0] rfl rfl (take_ofW HT_.out HW_.out (by kernel_rfl)) (fun _ _ _ h => h) (Or.inl ⟨by rfl,?_⟩) hHeld ?_ ?_
            rotate_left
            ·rintro w' ⟨s0,s1,s2,s3,s4,s5,s6,s7,s8,s9,s10,s11,s12,s13,s14,s15,s16,s17,s18,s19,s20,s21,s22,s23,s24,s25,s26,s27,s28,s29,s30,s31⟩
             go_simp
             with_reducible rfl
            rotate_left
            ·simp only [Act.put,Qo,Qp,Qq,Qe,Qf]
             rfl
            refine one_ (i := 38) (N := some 113) #[Y1,Y1,Y1,Y1,Y1,Y1,Y1,Y1,Y1,Y1,Y1,Y1,Y1,Y1,Y1,Y1,Y1,Y1,Y1,Y1,Y1,Y1,Y1,Y1,Y1,Y1,Y1,Y1,Y1,Y1,Y1,Y1,Y1,Y1,Y1,Y1,Y1,Y1,Y1,Y0,Y0,Y0,Y0,Y0,Y0,Y0] rfl rfl (one_of HT_.out (by kernel_rfl)) (by decide) (fun K hK => ?_)
            refine goes_ Try.func71 (by kernel_rfl) rfl #[.agg #[.int .i64 t509,.int .i64 t510,.bool t511,.bool t512,.slice Ao10 t513.length co10,.slice Ao11 t516.length co11,.int .i64 t519,.int .i64 t520],.int .i64 t521] (by rfl) rfl rfl (by (try simp only [List.map_toArray,List.map_cons,List.map_nil]); first | done | rfl | (simp only [List.length_drop,List.length_take]; rfl)) ?_
            with_reducible refine (impl_DoesSkip.calls kj5 t509 t510 t511 t512 _ _ t513 _ _ t516 t519 t520 t521 t599 _ ?side1 ?side2 ?side3 ?side4 A144.out).mono ?_
            (case side1 => repeat (first | exact (QW HO_524004.out).2.2 | (with_reducible refine QX ?_ _) | (with_reducible refine QY ?_ _) | (with_reducible refine QZ ?_)))
            (case side2 => exact (QW HO_524004.out).2.1)
            (case side3 => repeat (first | exact (QU HO_524005.out).2.2 | (with_reducible refine QX ?_ _) | (with_reducible refine QY ?_ _) | (with_reducible refine QZ ?_)))
            (case side4 => exact (QU HO_524005.out).2.1)
            rintro e w178 ⟨rfl,hb⟩
            refine ⟨_,rfl,?_⟩
            have n0_ := Qr (QP (by (with_reducible repeat (first | apply QK | apply QL | apply QM)); exact HO_524004.out) hb)
            have n1_ := Qr (QN (by (with_reducible repeat (first | apply QE | apply QF | apply QH)); exact HO_524005.out) hb)
            have n2_ := Qr (QP (by (with_reducible repeat (first | apply QK | apply QL | apply QM)); exact HO546.out) hb)
            have n3_ := Qr (QN (by (with_reducible repeat (first | apply QE | apply QF | apply QH)); exact HO549.out) hb)
            have n4_ := Qr (QP (by (with_reducible repeat (first | apply QK | apply QL | apply QM)); exact HO561.out) hb)
            have n5_ := Qr (QN (by (with_reducible repeat (first | apply QE | apply QF | apply QH)); exact HO564.out) hb)
            have n6_ := Qr (QP (by (with_reducible repeat (first | apply QK | apply QL | apply QM)); exact HO573.out) hb)
            have n7_ := Qr (QN (by (with_reducible repeat (first | apply QE | apply QF | apply QH)); exact HO576.out) hb)
            have n8_ := Qr (QN (by (with_reducible repeat (first | apply QE | apply QF | apply QH)); exact HO589.out) hb)
            have n9_ := Qr (QN (by (with_reducible repeat (first | apply QE | apply QF | apply QH)); exact HO592.out) hb)
            have n10_ := Qr (QV (g := gb523) (o := .cells #[.int .i64 t509,.int .i64 t510,.bool t511,.bool t512,.slice Ao10 t513.length co10,.slice Ao11 t516.length co11,.int .i64 t519,.int .i64 t520] 74 (0,0)) (by (with_reducible repeat (first | refine QC ?_ _ | refine QG ?_ | refine QD ?_ _)); exact BK523.out) hb)
            have n11_ := Qr (QV (g := gb553) (o := .cells #[.int .i64 t540,.int .i64 t541,.bool t542,.bool t543,.slice Ao151 t544.length co151,.slice Ao152 t547.length co152,.int .i64 t550,.int .i64 t551] 74 (0,0)) (by (with_reducible repeat (first | refine QC ?_ _ | refine QG ?_ | refine QD ?_ _)); exact BK553.out) hb)
            have n12_ := Qr (QV (g := gb579) (o := .cells #[.int .i64 t555,.int .i64 t556,.bool t557,.bool t558,.slice Ao161 t559.length co161,.slice Ao162 t562.length co162,.int .i64 t565,.int .i64 t566] 74 (0,0)) (by (with_reducible repeat (first | refine QC ?_ _ | refine QG ?_ | refine QD ?_ _)); exact BK579.out) hb)
            have n13_ := Qr (QV (g := gb580) (o := .cells #[.int .i64 t567,.int .i64 t568,.bool t569,.bool t570,.slice Ao166 t571.length co166,.slice Ao167 t574.length co167,.int .i64 t577,.int .i64 t578] 74 (0,0)) (by (with_reducible repeat (first | refine QC ?_ _ | refine QG ?_ | refine QD ?_ _)); exact BK580.out) hb)
            have n14_ := Qr (Qc (by repeat (first | (with_reducible first | exact HB.out | apply QT | apply QO | apply QS | refine QJ ?_ GE523.out | refine QJ ?_ GE553.out | refine QJ ?_ GE579.out | refine QJ ?_ GE580.out) | exact HB.out)) hb)
            clear HO_524004
            clear HO_524005
            clear HO546
            clear HO549
            clear HO561
            clear HO564
            clear HO573
            clear HO576
            clear HO589
            clear HO592
            clear BK523
            clear BK553
            clear BK579
            clear BK580
            clear HB
            revert n0_ n1_ n2_ n3_ n4_ n5_ n6_ n7_ n8_ n9_ n10_ n11_ n12_ n13_ n14_
            intro HO_524004 HO_524005 HO546 HO549 HO561 HO564 HO573 HO576 HO589 HO592 BK523 BK553 BK579 BK580 HB
            (try clear hb)
            (try clear hb2)
            (try clear hk)
            (try clear hi)
            refine hK.out _ _ (by (repeat' apply And.intro) <;> first | exact (QB BK553.out _).trans rfl | exact (QB BK579.out _).trans rfl | exact (QB BK580.out _).trans rfl | exact (QB BK523.out _).trans rfl) (fun hHeld => ?_)
            clear hK K
            refine norm_ (a' := ?_) ?_ ?_
            rotate_left
            ·show Act.put _ (some 113) _ = _
             simp only [Act.put,Qo,Qp,Qq,Qe,Qf]
             rfl
            refine Ql (i := 39) (N := some 114) (v := ?_) (a' := ?_) #[Y1,Y1,Y1,Y1,Y1,Y1,Y1,Y1,Y1,Y1,Y1,Y1,Y1,Y1,Y1,Y1,Y1,Y1,Y1,Y1,Y1,Y1,Y1,Y1,Y1,Y1,Y1,Y1,Y1,Y1,Y1,Y1,Y1,Y1,Y1,Y1,Y1,Y1,Y1,Y1,Y0,Y0,Y0,Y0,Y0,Y0] rfl rfl (Qg HT_.out (by kernel_rfl)) (fun _ _ _ h => h) (Or.inl ⟨by rfl,?_⟩) ?_ ?_
            rotate_left
            ·intro w'
             go_simp
             with_reducible rfl
            rotate_left
            ·simp only [Act.put,Qo,Qp,Qq,Qe,Qf]
             rfl
            refine Ql (i := 40) (N := some 115) (v := ?_) (a' := ?_) #[Y1,Y1,Y1,Y1,Y1,Y1,Y1,Y1,Y1,Y1,Y1,Y1,Y1,Y1,Y1,Y1,Y1,Y1,Y1,Y1,Y1,Y1,Y1,Y1,Y1,Y1,Y1,Y1,Y1,Y1,Y1,Y1,Y1,Y1,Y1,Y1,Y1,Y1,Y1,Y1,Y1,Y0,Y0,Y0,Y0,Y0] rfl rfl (Qg HT_.out (by kernel_rfl)) (fun _ _ _ h => h) (Or.inl ⟨by rfl,?_⟩) ?_ ?_
            rotate_left
            ·intro w'
             go_simp
             with_reducible rfl
            rotate_left
            ·simp only [Act.put,Qo,Qp,Qq,Qe,Qf]
             rfl
            by_cases c145 : t599 = true
            ·subst c145
             rw [if_pos rfl] at H
             replace H := Qs.mp H
             obtain ⟨t600,A1460,H⟩ := H
             have A146 := Qr A1460
             clear A1460
             obtain rfl := Option.some.inj H
             refine take_ (i := 41) (N := some 116) (v := ?_) (a' := ?_) #[Y1,Y1,Y1,Y1,Y1,Y1,Y1,Y1,Y1,Y1,Y1,Y1,Y1,Y1,Y1,Y1,Y1,Y1,Y1,Y1,Y1,Y1,Y1,Y1,Y1,Y1,Y1,Y1,Y1,Y1,Y1,Y1,Y1,Y1,Y1,Y1,Y1,Y1,Y1,Y1,Y1,Y1,Y0,Y0,Y0,Y0] rfl rfl (take_ofW HT_.out HW_.out (by kernel_rfl)) (fun _ _ _ h => h) (Or.inl ⟨by rfl,?_⟩) hHeld ?_ ?_
             rotate_left
             ·rintro w' ⟨s0,s1,s2,s3,s4,s5,s6,s7,s8,s9,s10,s11,s12,s13,s14,s15,s16,s17,s18,s19,s20,s21,s22,s23,s24,s25,s26,s27,s28,s29,s30,s31⟩
              go_simp
              with_reducible rfl
             rotate_left
             ·simp only [Act.put,Qo,Qp,Qq,Qe,Qf]
              rfl
             refine one_ (i := 42) (N := some 117) #[Y1,Y1,Y1,Y1,Y1,Y1,Y1,Y1,Y1,Y1,Y1,Y1,Y1,Y1,Y1,Y1,Y1,Y1,Y1,Y1,Y1,Y1,Y1,Y1,Y1,Y1,Y1,Y1,Y1,Y1,Y1,Y1,Y1,Y1,Y1,Y1,Y1,Y1,Y1,Y1,Y1,Y1,Y1,Y0,Y0,Y0] rfl rfl (one_of HT_.out (by kernel_rfl)) (by decide) (fun K hK => ?_)
             refine goes_ Try.func64 (by kernel_rfl) rfl #[.agg #[.int .i64 t509,.int .i64 t510,.bool t511,.bool t512,.slice Ao10 t513.length co10,.slice Ao11 t516.length co11,.int .i64 t519,.int .i64 t520]] (by rfl) rfl rfl (by (try simp only [List.map_toArray,List.map_cons,List.map_nil]); first | done | rfl | (simp only [List.length_drop,List.length_take]; rfl)) ?_
             with_reducible refine (impl_IsRules.calls kj5 t509 t510 t511 t512 _ _ t513 _ _ t516 t519 t520 t600 _ ?side1 ?side2 ?side3 ?side4 A146.out).mono ?_
             (case side1 => repeat (first | exact (QW HO_524004.out).2.2 | (with_reducible refine QX ?_ _) | (with_reducible refine QY ?_ _) | (with_reducible refine QZ ?_)))
             (case side2 => exact (QW HO_524004.out).2.1)
             (case side3 => repeat (first | exact (QU HO_524005.out).2.2 | (with_reducible refine QX ?_ _) | (with_reducible refine QY ?_ _) | (with_reducible refine QZ ?_)))
             (case side4 => exact (QU HO_524005.out).2.1)
             rintro e w179 ⟨rfl,hb⟩
             refine ⟨_,rfl,?_⟩
             have n0_ := Qr (QP (by (with_reducible repeat (first | apply QK | apply QL | apply QM)); exact HO_524004.out) hb)
             have n1_ := Qr (QN (by (with_reducible repeat (first | apply QE | apply QF | apply QH)); exact HO_524005.out) hb)
             have n2_ := Qr (QP (by (with_reducible repeat (first | apply QK | apply QL | apply QM)); exact HO546.out) hb)
             have n3_ := Qr (QN (by (with_reducible repeat (first | apply QE | apply QF | apply QH)); exact HO549.out) hb)
             have n4_ := Qr (QP (by (with_reducible repeat (first | apply QK | apply QL | apply QM)); exact HO561.out) hb)
             have n5_ := Qr (QN (by (with_reducible repeat (first | apply QE | apply QF | apply QH)); exact HO564.out) hb)
             have n6_ := Qr (QP (by (with_reducible repeat (first | apply QK | apply QL | apply QM)); exact HO573.out) hb)
             have n7_ := Qr (QN (by (with_reducible repeat (first | apply QE | apply QF | apply QH)); exact HO576.out) hb)
             have n8_ := Qr (QN (by (with_reducible repeat (first | apply QE | apply QF | apply QH)); exact HO589.out) hb)
             have n9_ := Qr (QN (by (with_reducible repeat (first | apply QE | apply QF | apply QH)); exact HO592.out) hb)
             have n10_ := Qr (QV (g := gb523) (o := .cells #[.int .i64 t509,.int .i64 t510,.bool t511,.bool t512,.slice Ao10 t513.length co10,.slice Ao11 t516.length co11,.int .i64 t519,.int .i64 t520] 74 (0,0)) (by (with_reducible repeat (first | refine QC ?_ _ | refine QG ?_ | refine QD ?_ _)); exact BK523.out) hb)
             have n11_ := Qr (QV (g := gb553) (o := .cells #[.int .i64 t540,.int .i64 t541,.bool t542,.bool t543,.slice Ao151 t544.length co151,.slice Ao152 t547.length co152,.int .i64 t550,.int .i64 t551] 74 (0,0)) (by (with_reducible repeat (first | refine QC ?_ _ | refine QG ?_ | refine QD ?_ _)); exact BK553.out) hb)
             have n12_ := Qr (QV (g := gb579) (o := .cells #[.int .i64 t555,.int .i64 t556,.bool t557,.bool t558,.slice Ao161 t559.length co161,.slice Ao162 t562.length co162,.int .i64 t565,.int .i64 t566] 74 (0,0)) (by (with_reducible repeat (first | refine QC ?_ _ | refine QG ?_ | refine QD ?_ _)); exact BK579.out) hb)
             have n13_ := Qr (QV (g := gb580) (o := .cells #[.int .i64 t567,.int .i64 t568,.bool t569,.bool t570,.slice Ao166 t571.length co166,.slice Ao167 t574.length co167,.int .i64 t577,.int .i64 t578] 74 (0,0)) (by (with_reducible repeat (first | refine QC ?_ _ | refine QG ?_ | refine QD ?_ _)); exact BK580.out) hb)
             have n14_ := Qr (Qc (by repeat (first | (with_reducible first | exact HB.out | apply QT | apply QO | apply QS | refine QJ ?_ GE523.out | refine QJ ?_ GE553.out | refine QJ ?_ GE579.out | refine QJ ?_ GE580.out) | exact HB.out)) hb)
             clear HO_524004
             clear HO_524005
             clear HO546
             clear HO549
             clear HO561
             clear HO564
             clear HO573
             clear HO576
             clear HO589
             clear HO592
             clear BK523
             clear BK553
             clear BK579
             clear BK580
             clear HB
             revert n0_ n1_ n2_ n3_ n4_ n5_ n6_ n7_ n8_ n9_ n10_ n11_ n12_ n13_ n14_
             intro HO_524004 HO_524005 HO546 HO549 HO561 HO564 HO573 HO576 HO589 HO592 BK523 BK553 BK579 BK580 HB
             (try clear hb)
             (try clear hb2)
             (try clear hk)
             (try clear hi)
             refine hK.out _ _ (by (repeat' apply And.intro) <;> first | exact (QB BK553.out _).trans rfl | exact (QB BK579.out _).trans rfl | exact (QB BK580.out _).trans rfl | exact (QB BK523.out _).trans rfl) (fun hHeld => ?_)
             clear hK K
             refine norm_ (a' := ?_) ?_ ?_
             rotate_left
             ·show Act.put _ (some 117) _ = _
              simp only [Act.put,Qo,Qp,Qq,Qe,Qf]
              rfl
             refine Ql (i := 43) (N := some 118) (v := ?_) (a' := ?_) #[Y1,Y1,Y1,Y1,Y1,Y1,Y1,Y1,Y1,Y1,Y1,Y1,Y1,Y1,Y1,Y1,Y1,Y1,Y1,Y1,Y1,Y1,Y1,Y1,Y1,Y1,Y1,Y1,Y1,Y1,Y1,Y1,Y1,Y1,Y1,Y1,Y1,Y1,Y1,Y1,Y1,Y1,Y1,Y1,Y0,Y0] rfl rfl (Qg HT_.out (by kernel_rfl)) (fun _ _ _ h => h) (Or.inl ⟨by rfl,?_⟩) ?_ ?_
             rotate_left
             ·intro w'
              go_simp
              with_reducible rfl
             rotate_left
             ·simp only [Act.put,Qo,Qp,Qq,Qe,Qf]
              rfl
             refine Ql (i := 44) (N := some 119) (v := ?_) (a' := ?_) #[Y1,Y1,Y1,Y1,Y1,Y1,Y1,Y1,Y1,Y1,Y1,Y1,Y1,Y1,Y1,Y1,Y1,Y1,Y1,Y1,Y1,Y1,Y1,Y1,Y1,Y1,Y1,Y1,Y1,Y1,Y1,Y1,Y1,Y1,Y1,Y1,Y1,Y1,Y1,Y1,Y1,Y1,Y1,Y1,Y1,Y0] rfl rfl (Qg HT_.out (by kernel_rfl)) (fun _ _ _ h => h) (Or.inl ⟨by rfl,?_⟩) ?_ ?_
             rotate_left
             ·intro w'
              go_simp
              with_reducible rfl
             rotate_left
             ·simp only [Act.put,Qo,Qp,Qq,Qe,Qf]
              rfl
             refine Ql (i := 45) (N := some 2) (v := ?_) (a' := ?_) #[Y1,Y1,Y1,Y1,Y1,Y1,Y1,Y1,Y1,Y1,Y1,Y1,Y1,Y1,Y1,Y1,Y1,Y1,Y1,Y1,Y1,Y1,Y1,Y1,Y1,Y1,Y1,Y1,Y1,Y1,Y1,Y1,Y1,Y1,Y1,Y1,Y1,Y1,Y1,Y1,Y1,Y1,Y1,Y1,Y1,Y1] rfl rfl (Qg HT_.out (by kernel_rfl)) (fun _ _ _ h => h) (Or.inl ⟨by rfl,?_⟩) ?_ ?_
             rotate_left
             ·intro w'
              go_simp
              with_reducible rfl
             rotate_left
             ·simp only [Act.put,Qo,Qp,Qq,Qe,Qf]
              rfl
             refine done_ (done_of HT_.out (by kernel_rfl)) ?_
             try go_wp2
             go_ret
             exact ⟨by first | rfl | (simp [errW_none,errW_some] <;> rfl) | (simp [*,errW_none,errW_some] <;> rfl),by repeat (first | (with_reducible first | exact HB.out | apply QT | apply QO | apply QS | refine QJ ?_ GE523.out | refine QJ ?_ GE553.out | refine QJ ?_ GE579.out | refine QJ ?_ GE580.out) | exact HB.out)⟩
            ·replace c145 := Bool.eq_false_iff.mpr c145
             subst c145
             rw [if_neg (show ¬ (false = true) by decide)] at H
             obtain rfl := Option.some.inj H
             refine Ql (i := 41) (N := some 116) (v := undef) (a' := ?_) #[Y1,Y1,Y1,Y1,Y1,Y1,Y1,Y1,Y1,Y1,Y1,Y1,Y1,Y1,Y1,Y1,Y1,Y1,Y1,Y1,Y1,Y1,Y1,Y1,Y1,Y1,Y1,Y1,Y1,Y1,Y1,Y1,Y1,Y1,Y1,Y1,Y1,Y1,Y1,Y1,Y1,Y1,Y0,Y0,Y0,Y0] rfl rfl (Qg HT_.out (by kernel_rfl)) (fun _ _ _ h => h) (Or.inr ⟨by rfl,rfl⟩) ?_ ?_
             rotate_left
             ·simp only [Act.put,Qo,Qp,Qq,Qe,Qf]
              rfl
             refine Ql (i := 42) (N := some 117) (v := undef) (a' := ?_) #[Y1,Y1,Y1,Y1,Y1,Y1,Y1,Y1,Y1,Y1,Y1,Y1,Y1,Y1,Y1,Y1,Y1,Y1,Y1,Y1,Y1,Y1,Y1,Y1,Y1,Y1,Y1,Y1,Y1,Y1,Y1,Y1,Y1,Y1,Y1,Y1,Y1,Y1,Y1,Y1,Y1,Y1,Y1,Y0,Y0,Y0] rfl rfl (Qg HT_.out (by kernel_rfl)) (fun _ _ _ h => h) (Or.inr ⟨by rfl,rfl⟩) ?_ ?_
             rotate_left
             ·simp only [Act.put,Qo,Qp,Qq,Qe,Qf]
              rfl
             refine Ql (i := 43) (N := some 118) (v := ?_) (a' := ?_) #[Y1,Y1,Y1,Y1,Y1,Y1,Y1,Y1,Y1,Y1,Y1,Y1,Y1,Y1,Y1,Y1,Y1,Y1,Y1,Y1,Y1,Y1,Y1,Y1,Y1,Y1,Y1,Y1,Y1,Y1,Y1,Y1,Y1,Y1,Y1,Y1,Y1,Y1,Y1,Y1,Y1,Y1,Y1,Y1,Y0,Y0] rfl rfl (Qg HT_.out (by kernel_rfl)) (fun _ _ _ h => h) (Or.inl ⟨by rfl,?_⟩) ?_ ?_
             rotate_left
             ·intro w'
              go_simp
              with_reducible rfl
             rotate_left
             ·simp only [Act.put,Qo,Qp,Qq,Qe,Qf]
              rfl
             refine Ql (i := 44) (N := some 119) (v := ?_) (a' := ?_) #[Y1,Y1,Y1,Y1,Y1,Y1,Y1,Y1,Y1,Y1,Y1,Y1,Y1,Y1,Y1,Y1,Y1,Y1,Y1,Y1,Y1,Y1,Y1,Y1,Y1,Y1,Y1,Y1,Y1,Y1,Y1,Y1,Y1,Y1,Y1,Y1,Y1,Y1,Y1,Y1,Y1,Y1,Y1,Y1,Y1,Y0] rfl rfl (Qg HT_.out (by kernel_rfl)) (fun _ _ _ h => h) (Or.inl ⟨by rfl,?_⟩) ?_ ?_
             rotate_left
             ·intro w'
              go_simp
              with_reducible rfl
             rotate_left
             ·simp only [Act.put,Qo,Qp,Qq,Qe,Qf]
              rfl
             refine Ql (i := 45) (N := some 2) (v := ?_) (a' := ?_) #[Y1,Y1,Y1,Y1,Y1,Y1,Y1,Y1,Y1,Y1,Y1,Y1,Y1,Y1,Y1,Y1,Y1,Y1,Y1,Y1,Y1,Y1,Y1,Y1,Y1,Y1,Y1,Y1,Y1,Y1,Y1,Y1,Y1,Y1,Y1,Y1,Y1,Y1,Y1,Y1,Y1,Y1,Y1,Y1,Y1,Y1] rfl rfl (Qg HT_.out (by kernel_rfl)) (fun _ _ _ h => h) (Or.inl ⟨by rfl,?_⟩) ?_ ?_
             rotate_left
             ·intro w'
              go_simp
              with_reducible rfl
             rotate_left
             ·simp only [Act.put,Qo,Qp,Qq,Qe,Qf]
              rfl
             refine done_ (done_of HT_.out (by kernel_rfl)) ?_
             try go_wp2
             go_ret
             exact ⟨by first | rfl | (simp [errW_none,errW_some] <;> rfl) | (simp [*,errW_none,errW_some] <;> rfl),by repeat (first | (with_reducible first | exact HB.out | apply QT | apply QO | apply QS | refine QJ ?_ GE523.out | refine QJ ?_ GE553.out | refine QJ ?_ GE579.out | refine QJ ?_ GE580.out) | exact HB.out)⟩
           ·replace c143 := Bool.eq_false_iff.mpr c143
            subst c143
            rw [if_neg (show ¬ (false = true) by decide)] at H
            exact absurd (Option.some.inj H) (by rw [HT.out]; decide)
          ·rw [if_neg c141] at H
           have c141b0 : (t596 == t597) = false := by simpa using c141
           (try (have c141b1 : decide (t596 = t597) = false := by simpa using c141))
           (try (have c141b2 : (t596 == t597) = false := by simpa using c141))
           (try (have c141b3 : ¬ (t596 = t597) := by simpa using c141))
           clear c141
           exact absurd (Option.some.inj H) (by rw [HT.out]; decide)
         ·replace c138 := Bool.eq_false_iff.mpr c138
          subst c138
          rw [if_neg (show ¬ (false = true) by decide)] at H
          exact absurd (Option.some.inj H) (by rw [HT.out]; decide)
        ·rw [if_neg c135] at H
         have c135b0 : ((decide (t554 > 0)) == t582) = false := by simpa using c135
         (try (have c135b1 : decide ((decide (t554 > 0)) = t582) = false := by simpa using c135))
         (try (have c135b2 : ((decide (t554 > 0)) == t582) = false := by simpa using c135))
         (try (have c135b3 : ¬ ((decide (t554 > 0)) = t582) := by simpa using c135))
         clear c135
         exact absurd (Option.some.inj H) (by rw [HT.out]; decide)
       ·replace c133 := Bool.eq_false_iff.mpr c133
        subst c133
        rw [if_neg (show ¬ (false = true) by decide)] at H
        by_cases c325 : ((decide (t554 > 0)) == false) = true
        ·rw [if_pos c325] at H
         have c325b0 : ((decide (t554 > 0)) == false) = true := c325
         (try (have c325b1 : decide ((decide (t554 > 0)) = false) = true := by simpa using c325))
         (try (have c325b2 : ((decide (t554 > 0)) == false) = true := by simpa using c325))
         clear c325
         replace H := Qs.mp H
         obtain ⟨⟨t583,t584,t585,t586,t587,t590,t593,t594⟩,A1360,H⟩ := H
         replace H : ((impl_IsRules.f kj5 t583 t584 t585 t586 t587 t590 t593 t594).bind fun t595 => (if t595 = true then ((impl_EqualRules.f kj5 t555 t556 t557 t558 t559 t562 t565 t566 t567 t568 t569 t570 t571 t574 t577 t578).bind fun t596 => ((impl_EqualRules.f kj5 t567 t568 t569 t570 t571 t574 t577 t578 t555 t556 t557 t558 t559 t562 t565 t566).bind fun t597 => (if (t596 == t597) = true then ((impl_EqualRules.f kj5 t555 t556 t557 t558 t559 t562 t565 t566 t555 t556 t557 t558 t559 t562 t565 t566).bind fun t598 => (if t598 = true then ((impl_DoesSkip.f kj5 t509 t510 t511 t512 t513 t516 t519 t520 t521).bind fun t599 => (if t599 = true then ((impl_IsRules.f kj5 t509 t510 t511 t512 t513 t516 t519 t520).bind fun t600 => (some t600)) else (some true))) else (some false))) else (some false)))) else (some false))) = some r := H
         have A136 := Qr A1360
         clear A1360
         replace H := Qs.mp H
         obtain ⟨t595,A1370,H⟩ := H
         have A137 := Qr A1370
         clear A1370
         by_cases c138 : t595 = true
         ·subst c138
          rw [if_pos rfl] at H
          replace H := Qs.mp H
          obtain ⟨t596,A1390,H⟩ := H
          have A139 := Qr A1390
          clear A1390
          replace H := Qs.mp H
          obtain ⟨t597,A1400,H⟩ := H
          have A140 := Qr A1400
          clear A1400
          by_cases c141 : (t596 == t597) = true
          ·rw [if_pos c141] at H
           have c141b0 : (t596 == t597) = true := c141
           (try (have c141b1 : decide (t596 = t597) = true := by simpa using c141))
           (try (have c141b2 : (t596 == t597) = true := by simpa using c141))
           clear c141
           replace H := Qs.mp H
           obtain ⟨t598,A1420,H⟩ := H
           have A142 := Qr A1420
           clear A1420
           by_cases c143 : t598 = true
           ·subst c143
            rw [if_pos rfl] at H
            replace H := Qs.mp H
            obtain ⟨t599,A1440,H⟩ := H
            have A144 := Qr A1440
            clear A1440
            refine Ql (i := 12) (N := some 87) (v := undef) (a' := ?_) #[Y1,Y1,Y1,Y1,Y1,Y1,Y1,Y1,Y1,Y1,Y1,Y1,Y1,Y0,Y0,Y0,Y0,Y0,Y0,Y0,Y0,Y0,Y0,Y0,Y0,Y0,Y0,Y0,Y0,Y0,Y0,Y0,Y0,Y0,Y0,Y0,Y0,Y0,Y0,Y0,Y0,Y0,Y0,Y0,Y0,Y0] rfl rfl (Qg HT_.out (by kernel_rfl)) (fun _ _ _ h => h) (Or.inr ⟨by rfl,rfl⟩) ?_ ?_
            rotate_left
            ·simp only [Act.put,Qo,Qp,Qq,Qe,Qf]
             rfl
            refine Ql (i := 13) (N := some 88) (v := undef) (a' := ?_) #[Y1,Y1,Y1,Y1,Y1,Y1,Y1,Y1,Y1,Y1,Y1,Y1,Y1,Y1,Y0,Y0,Y0,Y0,Y0,Y0,Y0,Y0,Y0,Y0,Y0,Y0,Y0,Y0,Y0,Y0,Y0,Y0,Y0,Y0,Y0,Y0,Y0,Y0,Y0,Y0,Y0,Y0,Y0,Y0,Y0,Y0] rfl rfl (Qg HT_.out (by kernel_rfl)) (fun _ _ _ h => h) (Or.inr ⟨by rfl,rfl⟩) ?_ ?_
            rotate_left
            ·simp only [Act.put,Qo,Qp,Qq,Qe,Qf]
             rfl
            refine Ql (i := 14) (N := some 89) (v := ?_) (a' := ?_) #[Y1,Y1,Y1,Y1,Y1,Y1,Y1,Y1,Y1,Y1,Y1,Y1,Y1,Y1,Y1,Y0,Y0,Y0,Y0,Y0,Y0,Y0,Y0,Y0,Y0,Y0,Y0,Y0,Y0,Y0,Y0,Y0,Y0,Y0,Y0,Y0,Y0,Y0,Y0,Y0,Y0,Y0,Y0,Y0,Y0,Y0] rfl rfl (Qg HT_.out (by kernel_rfl)) (fun _ _ _ h => h) (Or.inl ⟨by rfl,?_⟩) ?_ ?_
            rotate_left
            ·intro w'
             go_simp
             with_reducible rfl
            rotate_left
            ·simp only [Act.put,Qo,Qp,Qq,Qe,Qf]
             rfl
            refine Ql (i := 15) (N := some 90) (v := ?_) (a' := ?_) #[Y1,Y1,Y1,Y1,Y1,Y1,Y1,Y1,Y1,Y1,Y1,Y1,Y1,Y1,Y1,Y1,Y0,Y0,Y0,Y0,Y0,Y0,Y0,Y0,Y0,Y0,Y0,Y0,Y0,Y0,Y0,Y0,Y0,Y0,Y0,Y0,Y0,Y0,Y0,Y0,Y0,Y0,Y0,Y0,Y0,Y0] rfl rfl (Qg HT_.out (by kernel_rfl)) (fun _ _ _ h => h) (Or.inl ⟨by rfl,?_⟩) ?_ ?_
            rotate_left
            ·intro w'
             go_simp
             with_reducible rfl
            rotate_left
            ·simp only [Act.put,Qo,Qp,Qq,Qe,Qf]
             rfl
            refine Ql (i := 16) (N := some 91) (v := ?_) (a' := ?_) #[Y1,Y1,Y1,Y1,Y1,Y1,Y1,Y1,Y1,Y1,Y1,Y1,Y1,Y1,Y1,Y1,Y1,Y0,Y0,Y0,Y0,Y0,Y0,Y0,Y0,Y0,Y0,Y0,Y0,Y0,Y0,Y0,Y0,Y0,Y0,Y0,Y0,Y0,Y0,Y0,Y0,Y0,Y0,Y0,Y0,Y0] rfl rfl (Qg HT_.out (by kernel_rfl)) (fun _ _ _ h => h) (Or.inl ⟨by rfl,?_⟩) ?_ ?_
            rotate_left
            ·intro w'
             go_simp
             with_reducible rfl
            rotate_left
            ·simp only [Act.put,Qo,Qp,Qq,Qe,Qf]
             rfl
            refine Ql (i := 17) (N := some 92) (v := ?_) (a' := ?_) #[Y1,Y1,Y1,Y1,Y1,Y1,Y1,Y1,Y1,Y1,Y1,Y1,Y1,Y1,Y1,Y1,Y1,Y1,Y0,Y0,Y0,Y0,Y0,Y0,Y0,Y0,Y0,Y0,Y0,Y0,Y0,Y0,Y0,Y0,Y0,Y0,Y0,Y0,Y0,Y0,Y0,Y0,Y0,Y0,Y0,Y0] rfl rfl (Qg HT_.out (by kernel_rfl)) (fun _ _ _ h => h) (Or.inl ⟨by rfl,?_⟩) ?_ ?_
            rotate_left
            ·intro w'
             go_simp
             with_reducible rfl
            rotate_left
            ·simp only [Act.put,Qo,Qp,Qq,Qe,Qf]
             rfl
            refine one_ (i := 18) (N := some 93) #[Y1,Y1,Y1,Y1,Y1,Y1,Y1,Y1,Y1,Y1,Y1,Y1,Y1,Y1,Y1,Y1,Y1,Y1,Y1,Y0,Y0,Y0,Y0,Y0,Y0,Y0,Y0,Y0,Y0,Y0,Y0,Y0,Y0,Y0,Y0,Y0,Y0,Y0,Y0,Y0,Y0,Y0,Y0,Y0,Y0,Y0] rfl rfl (one_of HT_.out (by kernel_rfl)) (by decide) (fun K hK => ?_)
            refine goes_ Try.func69 (by kernel_rfl) rfl #[] (by rfl) rfl rfl (by (try simp only [List.map_toArray,List.map_cons,List.map_nil]); first | done | rfl | (simp only [List.length_drop,List.length_take]; rfl)) ?_
            with_reducible refine (impl_EasyRules.calls  t583 t584 t585 t586 t587 t590 t593 t594 _ A136.out).mono ?_
            rintro e w361 ⟨v606,v609,rfl,ho0,ho1,hb⟩
            refine ⟨_,rfl,?_⟩
            have n0_ := Qr (Kd.Q_mono (Qj (Qj (Kd.Q_old (by (with_reducible repeat (first | apply QK | apply QL | apply QM)); exact HO_524004.out) hb) (Qa ho0)) (Qa ho1)) (fun _ h_ => h_.1))
            have n1_ := Qr (Kd.R_mono (Qk (Qk (Kd.R_old (by (with_reducible repeat (first | apply QE | apply QF | apply QH)); exact HO_524005.out) hb) (Qa ho0)) (Qa ho1)) (fun _ h_ => h_.1))
            have n2_ := Qr (Kd.Q_mono (Qj (Qj (Kd.Q_old (by (with_reducible repeat (first | apply QK | apply QL | apply QM)); exact HO546.out) hb) (Qa ho0)) (Qa ho1)) (fun _ h_ => h_.1))
            have n3_ := Qr (Kd.R_mono (Qk (Qk (Kd.R_old (by (with_reducible repeat (first | apply QE | apply QF | apply QH)); exact HO549.out) hb) (Qa ho0)) (Qa ho1)) (fun _ h_ => h_.1))
            have n4_ := Qr (Kd.Q_mono (Qj (Qj (Kd.Q_old (by (with_reducible repeat (first | apply QK | apply QL | apply QM)); exact HO561.out) hb) (Qa ho0)) (Qa ho1)) (fun _ h_ => h_.1))
            have n5_ := Qr (Kd.R_mono (Qk (Qk (Kd.R_old (by (with_reducible repeat (first | apply QE | apply QF | apply QH)); exact HO564.out) hb) (Qa ho0)) (Qa ho1)) (fun _ h_ => h_.1))
            have n6_ := Qr (Kd.Q_mono (Qj (Qj (Kd.Q_old (by (with_reducible repeat (first | apply QK | apply QL | apply QM)); exact HO573.out) hb) (Qa ho0)) (Qa ho1)) (fun _ h_ => h_.1))
            have n7_ := Qr (Kd.R_mono (Qk (Qk (Kd.R_old (by (with_reducible repeat (first | apply QE | apply QF | apply QH)); exact HO576.out) hb) (Qa ho0)) (Qa ho1)) (fun _ h_ => h_.1))
            have n8_ := Qr (Kd.R_lower (Qb (Qb (Qb (Qb (Qb (Qb (Qb (Qb ho0 (Kd.Q_lt (by (with_reducible repeat (first | apply QK | apply QL | apply QM)); exact HO_524004.out))) (Kd.R_lt (by (with_reducible repeat (first | apply QE | apply QF | apply QH)); exact HO_524005.out))) (Kd.Q_lt (by (with_reducible repeat (first | apply QK | apply QL | apply QM)); exact HO546.out))) (Kd.R_lt (by (with_reducible repeat (first | apply QE | apply QF | apply QH)); exact HO549.out))) (Kd.Q_lt (by (with_reducible repeat (first | apply QK | apply QL | apply QM)); exact HO561.out))) (Kd.R_lt (by (with_reducible repeat (first | apply QE | apply QF | apply QH)); exact HO564.out))) (Kd.Q_lt (by (with_reducible repeat (first | apply QK | apply QL | apply QM)); exact HO573.out))) (Kd.R_lt (by (with_reducible repeat (first | apply QE | apply QF | apply QH)); exact HO576.out))) (Qm (by repeat (first | (with_reducible first | exact HB.out | apply QT | apply QO | apply QS | refine QJ ?_ GE523.out | refine QJ ?_ GE553.out | refine QJ ?_ GE579.out | refine QJ ?_ GE580.out) | exact HB.out))))
            have n9_ := Qr (Kd.R_lower (Qb (Qb (Qb (Qb (Qb (Qb (Qb (Qb ho1 (Kd.Q_lt (by (with_reducible repeat (first | apply QK | apply QL | apply QM)); exact HO_524004.out))) (Kd.R_lt (by (with_reducible repeat (first | apply QE | apply QF | apply QH)); exact HO_524005.out))) (Kd.Q_lt (by (with_reducible repeat (first | apply QK | apply QL | apply QM)); exact HO546.out))) (Kd.R_lt (by (with_reducible repeat (first | apply QE | apply QF | apply QH)); exact HO549.out))) (Kd.Q_lt (by (with_reducible repeat (first | apply QK | apply QL | apply QM)); exact HO561.out))) (Kd.R_lt (by (with_reducible repeat (first | apply QE | apply QF | apply QH)); exact HO564.out))) (Kd.Q_lt (by (with_reducible repeat (first | apply QK | apply QL | apply QM)); exact HO573.out))) (Kd.R_lt (by (with_reducible repeat (first | apply QE | apply QF | apply QH)); exact HO576.out))) (Qm (by repeat (first | (with_reducible first | exact HB.out | apply QT | apply QO | apply QS | refine QJ ?_ GE523.out | refine QJ ?_ GE553.out | refine QJ ?_ GE579.out | refine QJ ?_ GE580.out) | exact HB.out))))
            have n10_ := Qr (QV (g := gb523) (o := .cells #[.int .i64 t509,.int .i64 t510,.bool t511,.bool t512,.slice Ao10 t513.length co10,.slice Ao11 t516.length co11,.int .i64 t519,.int .i64 t520] 74 (0,0)) (by (with_reducible repeat (first | refine QC ?_ _ | refine QG ?_ | refine QD ?_ _)); exact BK523.out) hb)
            have n11_ := Qr (QV (g := gb553) (o := .cells #[.int .i64 t540,.int .i64 t541,.bool t542,.bool t543,.slice Ao151 t544.length co151,.slice Ao152 t547.length co152,.int .i64 t550,.int .i64 t551] 74 (0,0)) (by (with_reducible repeat (first | refine QC ?_ _ | refine QG ?_ | refine QD ?_ _)); exact BK553.out) hb)
            have n12_ := Qr (QV (g := gb579) (o := .cells #[.int .i64 t555,.int .i64 t556,.bool t557,.bool t558,.slice Ao161 t559.length co161,.slice Ao162 t562.length co162,.int .i64 t565,.int .i64 t566] 74 (0,0)) (by (with_reducible repeat (first | refine QC ?_ _ | refine QG ?_ | refine QD ?_ _)); exact BK579.out) hb)
            have n13_ := Qr (QV (g := gb580) (o := .cells #[.int .i64 t567,.int .i64 t568,.bool t569,.bool t570,.slice Ao166 t571.length co166,.slice Ao167 t574.length co167,.int .i64 t577,.int .i64 t578] 74 (0,0)) (by (with_reducible repeat (first | refine QC ?_ _ | refine QG ?_ | refine QD ?_ _)); exact BK580.out) hb)
            have n14_ := Qr (Qc (by repeat (first | (with_reducible first | exact HB.out | apply QT | apply QO | apply QS | refine QJ ?_ GE523.out | refine QJ ?_ GE553.out | refine QJ ?_ GE579.out | refine QJ ?_ GE580.out) | exact HB.out)) hb)
            clear HO_524004
            clear HO_524005
            clear HO546
            clear HO549
            clear HO561
            clear HO564
            clear HO573
            clear HO576
            clear BK523
            clear BK553
            clear BK579
            clear BK580
            clear HB
            revert n0_ n1_ n2_ n3_ n4_ n5_ n6_ n7_ n8_ n9_ n10_ n11_ n12_ n13_ n14_
            intro HO_524004 HO_524005 HO546 HO549 HO561 HO564 HO573 HO576 HO607 HO610 BK523 BK553 BK579 BK580 HB
            (try clear hb)
            (try clear hb2)
            (try clear hk)
            (try clear hi)
            (try clear ho0)
            (try clear ho1)
            obtain ⟨Ao362,co362,eo362⟩ := Kd.R_slice HO607.out
            (first | subst eo362 | (injection eo362 with f1_ f2_ f3_; have f4_ := f1_.symm; have f5_ := f3_.symm; clear f1_ f2_ f3_; subst f4_; subst f5_))
            obtain ⟨Ao363,co363,eo363⟩ := Kd.R_slice HO610.out
            (first | subst eo363 | (injection eo363 with f1_ f2_ f3_; have f4_ := f1_.symm; have f5_ := f3_.symm; clear f1_ f2_ f3_; subst f4_; subst f5_))
            refine hK.out _ _ (by (repeat' apply And.intro) <;> first | exact (QB BK553.out _).trans rfl | exact (QB BK579.out _).trans rfl | exact (QB BK580.out _).trans rfl | exact (QB BK523.out _).trans rfl) (fun hHeld => ?_)
            clear hK K
            refine norm_ (a' := ?_) ?_ ?_
            rotate_left
            ·show Act.put _ (some 93) _ = _
             simp only [Act.put,Qo,Qp,Qq,Qe,Qf]
             rfl
            refine one_ (i := 19) (N := some 94) #[Y1,Y1,Y1,Y1,Y1,Y1,Y1,Y1,Y1,Y1,Y1,Y1,Y1,Y1,Y1,Y1,Y1,Y1,Y1,Y1,Y0,Y0,Y0,Y0,Y0,Y0,Y0,Y0,Y0,Y0,Y0,Y0,Y0,Y0,Y0,Y0,Y0,Y0,Y0,Y0,Y0,Y0,Y0,Y0,Y0,Y0] rfl rfl (one_of HT_.out (by kernel_rfl)) (by decide) (fun K hK => ?_)
            refine goes_ Try.func64 (by kernel_rfl) rfl #[.agg #[.int .i64 t583,.int .i64 t584,.bool t585,.bool t586,.slice Ao362 t587.length co362,.slice Ao363 t590.length co363,.int .i64 t593,.int .i64 t594]] (by rfl) rfl rfl (by (try simp only [List.map_toArray,List.map_cons,List.map_nil]); first | done | rfl | (simp only [List.length_drop,List.length_take]; rfl)) ?_
            with_reducible refine (impl_IsRules.calls kj5 t583 t584 t585 t586 _ _ t587 _ _ t590 t593 t594 true _ ?side1 ?side2 ?side3 ?side4 A137.out).mono ?_
            (case side1 => repeat (first | exact (QU HO607.out).2.2 | (with_reducible refine QX ?_ _) | (with_reducible refine QY ?_ _) | (with_reducible refine QZ ?_)))
            (case side2 => exact (QU HO607.out).2.1)
            (case side3 => repeat (first | exact (QU HO610.out).2.2 | (with_reducible refine QX ?_ _) | (with_reducible refine QY ?_ _) | (with_reducible refine QZ ?_)))
            (case side4 => exact (QU HO610.out).2.1)
            rintro e w364 ⟨rfl,hb⟩
            refine ⟨_,rfl,?_⟩
            have n0_ := Qr (QP (by (with_reducible repeat (first | apply QK | apply QL | apply QM)); exact HO_524004.out) hb)
            have n1_ := Qr (QN (by (with_reducible repeat (first | apply QE | apply QF | apply QH)); exact HO_524005.out) hb)
            have n2_ := Qr (QP (by (with_reducible repeat (first | apply QK | apply QL | apply QM)); exact HO546.out) hb)
            have n3_ := Qr (QN (by (with_reducible repeat (first | apply QE | apply QF | apply QH)); exact HO549.out) hb)
            have n4_ := Qr (QP (by (with_reducible repeat (first | apply QK | apply QL | apply QM)); exact HO561.out) hb)
            have n5_ := Qr (QN (by (with_reducible repeat (first | apply QE | apply QF | apply QH)); exact HO564.out) hb)
            have n6_ := Qr (QP (by (with_reducible repeat (first | apply QK | apply QL | apply QM)); exact HO573.out) hb)
            have n7_ := Qr (QN (by (with_reducible repeat (first | apply QE | apply QF | apply QH)); exact HO576.out) hb)
            have n8_ := Qr (QN (by (with_reducible repeat (first | apply QE | apply QF | apply QH)); exact HO607.out) hb)
            have n9_ := Qr (QN (by (with_reducible repeat (first | apply QE | apply QF | apply QH)); exact HO610.out) hb)
            have n10_ := Qr (QV (g := gb523) (o := .cells #[.int .i64 t509,.int .i64 t510,.bool t511,.bool t512,.slice Ao10 t513.length co10,.slice Ao11 t516.length co11,.int .i64 t519,.int .i64 t520] 74 (0,0)) (by (with_reducible repeat (first | refine QC ?_ _ | refine QG ?_ | refine QD ?_ _)); exact BK523.out) hb)
            have n11_ := Qr (QV (g := gb553) (o := .cells #[.int .i64 t540,.int .i64 t541,.bool t542,.bool t543,.slice Ao151 t544.length co151,.slice Ao152 t547.length co152,.int .i64 t550,.int .i64 t551] 74 (0,0)) (by (with_reducible repeat (first | refine QC ?_ _ | refine QG ?_ | refine QD ?_ _)); exact BK553.out) hb)
            have n12_ := Qr (QV (g := gb579) (o := .cells #[.int .i64 t555,.int .i64 t556,.bool t557,.bool t558,.slice Ao161 t559.length co161,.slice Ao162 t562.length co162,.int .i64 t565,.int .i64 t566] 74 (0,0)) (by (with_reducible repeat (first | refine QC ?_ _ | refine QG ?_ | refine QD ?_ _)); exact BK579.out) hb)
            have n13_ := Qr (QV (g := gb580) (o := .cells #[.int .i64 t567,.int .i64 t568,.bool t569,.bool t570,.slice Ao166 t571.length co166,.slice Ao167 t574.length co167,.int .i64 t577,.int .i64 t578] 74 (0,0)) (by (with_reducible repeat (first | refine QC ?_ _ | refine QG ?_ | refine QD ?_ _)); exact BK580.out) hb)
            have n14_ := Qr (Qc (by repeat (first | (with_reducible first | exact HB.out | apply QT | apply QO | apply QS | refine QJ ?_ GE523.out | refine QJ ?_ GE553.out | refine QJ ?_ GE579.out | refine QJ ?_ GE580.out) | exact HB.out)) hb)
            clear HO_524004
            clear HO_524005
            clear HO546
            clear HO549
            clear HO561
            clear HO564
            clear HO573
            clear HO576
            clear HO607
            clear HO610
            clear BK523
            clear BK553
            clear BK579
            clear BK580
            clear HB
            revert n0_ n1_ n2_ n3_ n4_ n5_ n6_ n7_ n8_ n9_ n10_ n11_ n12_ n13_ n14_
            intro HO_524004 HO_524005 HO546 HO549 HO561 HO564 HO573 HO576 HO607 HO610 BK523 BK553 BK579 BK580 HB
            (try clear hb)
            (try clear hb2)
            (try clear hk)
            (try clear hi)
            refine hK.out _ _ (by (repeat' apply And.intro) <;> first | exact (QB BK553.out _).trans rfl | exact (QB BK579.out _).trans rfl | exact (QB BK580.out _).trans rfl | exact (QB BK523.out _).trans rfl) (fun hHeld => ?_)
            clear hK K
            refine norm_ (a' := ?_) ?_ ?_
            rotate_left
            ·show Act.put _ (some 94) _ = _
             simp only [Act.put,Qo,Qp,Qq,Qe,Qf]
             rfl
            refine Ql (i := 20) (N := some 95) (v := ?_) (a' := ?_) #[Y1,Y1,Y1,Y1,Y1,Y1,Y1,Y1,Y1,Y1,Y1,Y1,Y1,Y1,Y1,Y1,Y1,Y1,Y1,Y1,Y1,Y0,Y0,Y0,Y0,Y0,Y0,Y0,Y0,Y0,Y0,Y0,Y0,Y0,Y0,Y0,Y0,Y0,Y0,Y0,Y0,Y0,Y0,Y0,Y0,Y0] rfl rfl (Qg HT_.out (by kernel_rfl)) (fun _ _ _ h => h) (Or.inl ⟨by rfl,?_⟩) ?_ ?_
            rotate_left
            ·intro w'
             go_simp
             with_reducible rfl
            rotate_left
            ·simp only [Act.put,Qo,Qp,Qq,Qe,Qf]
             rfl
            refine Ql (i := 21) (N := some 96) (v := ?_) (a' := ?_) #[Y1,Y1,Y1,Y1,Y1,Y1,Y1,Y1,Y1,Y1,Y1,Y1,Y1,Y1,Y1,Y1,Y1,Y1,Y1,Y1,Y1,Y1,Y0,Y0,Y0,Y0,Y0,Y0,Y0,Y0,Y0,Y0,Y0,Y0,Y0,Y0,Y0,Y0,Y0,Y0,Y0,Y0,Y0,Y0,Y0,Y0] rfl rfl (Qg HT_.out (by kernel_rfl)) (fun _ _ _ h => h) (Or.inl ⟨by rfl,?_⟩) ?_ ?_
            rotate_left
            ·intro w'
             go_simp
             with_reducible rfl
            rotate_left
            ·simp only [Act.put,Qo,Qp,Qq,Qe,Qf]
             rfl
            refine take_ (i := 22) (N := some 97) (v := ?_) (a' := ?_) #[Y1,Y1,Y1,Y1,Y1,Y1,Y1,Y1,Y1,Y1,Y1,Y1,Y1,Y1,Y1,Y1,Y1,Y1,Y1,Y1,Y1,Y1,Y1,Y0,Y0,Y0,Y0,Y0,Y0,Y0,Y0,Y0,Y0,Y0,Y0,Y0,Y0,Y0,Y0,Y0,Y0,Y0,Y0,Y0,Y0,Y0] rfl rfl (take_ofW HT_.out HW_.out (by kernel_rfl)) (fun _ _ _ h => h) (Or.inl ⟨by rfl,?_⟩) hHeld ?_ ?_
            rotate_left
            ·rintro w' ⟨s0,s1,s2,s3,s4,s5,s6,s7,s8,s9,s10,s11,s12,s13,s14,s15,s16,s17,s18,s19,s20,s21,s22,s23,s24,s25,s26,s27,s28,s29,s30,s31⟩
             go_simp
             with_reducible rfl
            rotate_left
            ·simp only [Act.put,Qo,Qp,Qq,Qe,Qf]
             rfl
            refine take_ (i := 23) (N := some 98) (v := ?_) (a' := ?_) #[Y1,Y1,Y1,Y1,Y1,Y1,Y1,Y1,Y1,Y1,Y1,Y1,Y1,Y1,Y1,Y1,Y1,Y1,Y1,Y1,Y1,Y1,Y1,Y1,Y0,Y0,Y0,Y0,Y0,Y0,Y0,Y0,Y0,Y0,Y0,Y0,Y0,Y0,Y0,Y0,Y0,Y0,Y0,Y0,Y0,Y0] rfl rfl (take_ofW HT_.out HW_.out (by kernel_rfl)) (fun _ _ _ h => h) (Or.inl ⟨by rfl,?_⟩) hHeld ?_ ?_
            rotate_left
            ·rintro w' ⟨s0,s1,s2,s3,s4,s5,s6,s7,s8,s9,s10,s11,s12,s13,s14,s15,s16,s17,s18,s19,s20,s21,s22,s23,s24,s25,s26,s27,s28,s29,s30,s31⟩
             go_simp
             with_reducible rfl
            rotate_left
            ·simp only [Act.put,Qo,Qp,Qq,Qe,Qf]
             rfl
            refine take_ (i := 25) (N := some 100) (v := ?_) (a' := ?_) #[Y1,Y1,Y1,Y1,Y1,Y1,Y1,Y1,Y1,Y1,Y1,Y1,Y1,Y1,Y1,Y1,Y1,Y1,Y1,Y1,Y1,Y1,Y1,Y1,Y0,Y1,Y0,Y0,Y0,Y0,Y0,Y0,Y0,Y0,Y0,Y0,Y0,Y0,Y0,Y0,Y0,Y0,Y0,Y0,Y0,Y0] rfl rfl (take_ofW HT_.out HW_.out (by kernel_rfl)) (fun _ _ _ h => h) (Or.inl ⟨by rfl,?_⟩) hHeld ?_ ?_
            rotate_left
            ·rintro w' ⟨s0,s1,s2,s3,s4,s5,s6,s7,s8,s9,s10,s11,s12,s13,s14,s15,s16,s17,s18,s19,s20,s21,s22,s23,s24,s25,s26,s27,s28,s29,s30,s31⟩
             go_simp
             with_reducible rfl
            rotate_left
            ·simp only [Act.put,Qo,Qp,Qq,Qe,Qf]
             rfl
            refine take_ (i := 26) (N := some 101) (v := ?_) (a' := ?_) #[Y1,Y1,Y1,Y1,Y1,Y1,Y1,Y1,Y1,Y1,Y1,Y1,Y1,Y1,Y1,Y1,Y1,Y1,Y1,Y1,Y1,Y1,Y1,Y1,Y0,Y1,Y1,Y0,Y0,Y0,Y0,Y0,Y0,Y0,Y0,Y0,Y0,Y0,Y0,Y0,Y0,Y0,Y0,Y0,Y0,Y0] rfl rfl (take_ofW HT_.out HW_.out (by kernel_rfl)) (fun _ _ _ h => h) (Or.inl ⟨by rfl,?_⟩) hHeld ?_ ?_
            rotate_left
            ·rintro w' ⟨s0,s1,s2,s3,s4,s5,s6,s7,s8,s9,s10,s11,s12,s13,s14,s15,s16,s17,s18,s19,s20,s21,s22,s23,s24,s25,s26,s27,s28,s29,s30,s31⟩
             go_simp
             with_reducible rfl
            rotate_left
            ·simp only [Act.put,Qo,Qp,Qq,Qe,Qf]
             rfl
            refine one_ (i := 24) (N := some 99) #[Y1,Y1,Y1,Y1,Y1,Y1,Y1,Y1,Y1,Y1,Y1,Y1,Y1,Y1,Y1,Y1,Y1,Y1,Y1,Y1,Y1,Y1,Y1,Y1,Y1,Y1,Y1,Y0,Y0,Y0,Y0,Y0,Y0,Y0,Y0,Y0,Y0,Y0,Y0,Y0,Y0,Y0,Y0,Y0,Y0,Y0] rfl rfl (one_of HT_.out (by kernel_rfl)) (by decide) (fun K hK => ?_)
            refine goes_ Try.func70 (by kernel_rfl) rfl #[.agg #[.int .i64 t555,.int .i64 t556,.bool t557,.bool t558,.slice Ao161 t559.length co161,.slice Ao162 t562.length co162,.int .i64 t565,.int .i64 t566],.agg #[.int .i64 t567,.int .i64 t568,.bool t569,.bool t570,.slice Ao166 t571.length co166,.slice Ao167 t574.length co167,.int .i64 t577,.int .i64 t578]] (by rfl) rfl rfl (by (try simp only [List.map_toArray,List.map_cons,List.map_nil]); first | done | rfl | (simp only [List.length_drop,List.length_take]; rfl)) ?_
            with_reducible refine (impl_EqualRules.calls kj5 t555 t556 t557 t558 _ _ t559 _ _ t562 t565 t566 t567 t568 t569 t570 _ _ t571 _ _ t574 t577 t578 t596 _ ?side1 ?side2 ?side3 ?side4 ?side5 ?side6 ?side7 ?side8 A139.out).mono ?_
            (case side1 => repeat (first | exact (QW HO561.out).2.2 | (with_reducible refine QX ?_ _) | (with_reducible refine QY ?_ _) | (with_reducible refine QZ ?_)))
            (case side2 => exact (QW HO561.out).2.1)
            (case side3 => repeat (first | exact (QU HO564.out).2.2 | (with_reducible refine QX ?_ _) | (with_reducible refine QY ?_ _) | (with_reducible refine QZ ?_)))
            (case side4 => exact (QU HO564.out).2.1)
            (case side5 => repeat (first | exact (QW HO573.out).2.2 | (with_reducible refine QX ?_ _) | (with_reducible refine QY ?_ _) | (with_reducible refine QZ ?_)))
            (case side6 => exact (QW HO573.out).2.1)
            (case side7 => repeat (first | exact (QU HO576.out).2.2 | (with_reducible refine QX ?_ _) | (with_reducible refine QY ?_ _) | (with_reducible refine QZ ?_)))
            (case side8 => exact (QU HO576.out).2.1)
            rintro e w365 ⟨rfl,hb⟩
            refine ⟨_,rfl,?_⟩
            have n0_ := Qr (QP (by (with_reducible repeat (first | apply QK | apply QL | apply QM)); exact HO_524004.out) hb)
            have n1_ := Qr (QN (by (with_reducible repeat (first | apply QE | apply QF | apply QH)); exact HO_524005.out) hb)
            have n2_ := Qr (QP (by (with_reducible repeat (first | apply QK | apply QL | apply QM)); exact HO546.out) hb)
            have n3_ := Qr (QN (by (with_reducible repeat (first | apply QE | apply QF | apply QH)); exact HO549.out) hb)
            have n4_ := Qr (QP (by (with_reducible repeat (first | apply QK | apply QL | apply QM)); exact HO561.out) hb)
            have n5_ := Qr (QN (by (with_reducible repeat (first | apply QE | apply QF | apply QH)); exact HO564.out) hb)
            have n6_ := Qr (QP (by (with_reducible repeat (first | apply QK | apply QL | apply QM)); exact HO573.out) hb)
            have n7_ := Qr (QN (by (with_reducible repeat (first | apply QE | apply QF | apply QH)); exact HO576.out) hb)
            have n8_ := Qr (QN (by (with_reducible repeat (first | apply QE | apply QF | apply QH)); exact HO607.out) hb)
            have n9_ := Qr (QN (by (with_reducible repeat (first | apply QE | apply QF | apply QH)); exact HO610.out) hb)
            have n10_ := Qr (QV (g := gb523) (o := .cells #[.int .i64 t509,.int .i64 t510,.bool t511,.bool t512,.slice Ao10 t513.length co10,.slice Ao11 t516.length co11,.int .i64 t519,.int .i64 t520] 74 (0,0)) (by (with_reducible repeat (first | refine QC ?_ _ | refine QG ?_ | refine QD ?_ _)); exact BK523.out) hb)
            have n11_ := Qr (QV (g := gb553) (o := .cells #[.int .i64 t540,.int .i64 t541,.bool t542,.bool t543,.slice Ao151 t544.length co151,.slice Ao152 t547.length co152,.int .i64 t550,.int .i64 t551] 74 (0,0)) (by (with_reducible repeat (first | refine QC ?_ _ | refine QG ?_ | refine QD ?_ _)); exact BK553.out) hb)
            have n12_ := Qr (QV (g := gb579) (o := .cells #[.int .i64 t555,.int .i64 t556,.bool t557,.bool t558,.slice Ao161 t559.length co161,.slice Ao162 t562.length co162,.int .i64 t565,.int .i64 t566] 74 (0,0)) (by (with_reducible repeat (first | refine QC ?_ _ | refine QG ?_ | refine QD ?_ _)); exact BK579.out) hb)
            have n13_ := Qr (QV (g := gb580) (o := .cells #[.int .i64 t567,.int .i64 t568,.bool t569,.bool t570,.slice Ao166 t571.length co166,.slice Ao167 t574.length co167,.int .i64 t577,.int .i64 t578] 74 (0,0)) (by (with_reducible repeat (first | refine QC ?_ _ | refine QG ?_ | refine QD ?_ _)); exact BK580.out) hb)
            have n14_ := Qr (Qc (by repeat (first | (with_reducible first | exact HB.out | apply QT | apply QO | apply QS | refine QJ ?_ GE523.out | refine QJ ?_ GE553.out | refine QJ ?_ GE579.out | refine QJ ?_ GE580.out) | exact HB.out)) hb)
            clear HO_524004
            clear HO_524005
            clear HO546
            clear HO549
            clear HO561
            clear HO564
            clear HO573
            clear HO576
            clear HO607
            clear HO610
            clear BK523
            clear BK553
            clear BK579
            clear BK580
            clear HB
            revert n0_ n1_ n2_ n3_ n4_ n5_ n6_ n7_ n8_ n9_ n10_ n11_ n12_ n13_ n14_
            intro HO_524004 HO_524005 HO546 HO549 HO561 HO564 HO573 HO576 HO607 HO610 BK523 BK553 BK579 BK580 HB
            (try clear hb)
            (try clear hb2)
            (try clear hk)
            (try clear hi)
            refine hK.out _ _ (by (repeat' apply And.intro) <;> first | exact (QB BK553.out _).trans rfl | exact (QB BK579.out _).trans rfl | exact (QB BK580.out _).trans rfl | exact (QB BK523.out _).trans rfl) (fun hHeld => ?_)
            clear hK K
            refine norm_ (a' := ?_) ?_ ?_
            rotate_left
            ·show Act.put _ (some 99) _ = _
             simp only [Act.put,Qo,Qp,Qq,Qe,Qf]
             rfl
            refine one_ (i := 27) (N := some 102) #[Y1,Y1,Y1,Y1,Y1,Y1,Y1,Y1,Y1,Y1,Y1,Y1,Y1,Y1,Y1,Y1,Y1,Y1,Y1,Y1,Y1,Y1,Y1,Y1,Y1,Y1,Y1,Y1,Y0,Y0,Y0,Y0,Y0,Y0,Y0,Y0,Y0,Y0,Y0,Y0,Y0,Y0,Y0,Y0,Y0,Y0] rfl rfl (one_of HT_.out (by kernel_rfl)) (by decide) (fun K hK => ?_)
            refine goes_ Try.func70 (by kernel_rfl) rfl #[.agg #[.int .i64 t567,.int .i64 t568,.bool t569,.bool t570,.slice Ao166 t571.length co166,.slice Ao167 t574.length co167,.int .i64 t577,.int .i64 t578],.agg #[.int .i64 t555,.int .i64 t556,.bool t557,.bool t558,.slice Ao161 t559.length co161,.slice Ao162 t562.length co162,.int .i64 t565,.int .i64 t566]] (by rfl) rfl rfl (by (try simp only [List.map_toArray,List.map_cons,List.map_nil]); first | done | rfl | (simp only [List.length_drop,List.length_take]; rfl)) ?_
            with_reducible refine (impl_EqualRules.calls kj5 t567 t568 t569 t570 _ _ t571 _ _ t574 t577 t578 t555 t556 t557 t558 _ _ t559 _ _ t562 t565 t566 t597 _ ?side1 ?side2 ?side3 ?side4 ?side5 ?side6 ?side7 ?side8 A140.out).mono ?_
            (case side1 => repeat (first | exact (QW HO573.out).2.2 | (with_reducible refine QX ?_ _) | (with_reducible refine QY ?_ _) | (with_reducible refine QZ ?_)))
            (case side2 => exact (QW HO573.out).2.1)
            (case side3 => repeat (first | exact (QU HO576.out).2.2 | (with_reducible refine QX ?_ _) | (with_reducible refine QY ?_ _) | (with_reducible refine QZ ?_)))
            (case side4 => exact (QU HO576.out).2.1)
            (case side5 => repeat (first | exact (QW HO561.out).2.2 | (with_reducible refine QX ?_ _) | (with_reducible refine QY ?_ _) | (with_reducible refine QZ ?_)))
            (case side6 => exact (QW HO561.out).2.1)
            (case side7 => repeat (first | exact (QU HO564.out).2.2 | (with_reducible refine QX ?_ _) | (with_reducible refine QY ?_ _) | (with_reducible refine QZ ?_)))
            (case side8 => exact (QU HO564.out).2.1)
            rintro e w366 ⟨rfl,hb⟩
            refine ⟨_,rfl,?_⟩
            have n0_ := Qr (QP (by (with_reducible repeat (first | apply QK | apply QL | apply QM)); exact HO_524004.out) hb)
            have n1_ := Qr (QN (by (with_reducible repeat (first | apply QE | apply QF | apply QH)); exact HO_524005.out) hb)
            have n2_ := Qr (QP (by (with_reducible repeat (first | apply QK | apply QL | apply QM)); exact HO546.out) hb)
            have n3_ := Qr (QN (by (with_reducible repeat (first | apply QE | apply QF | apply QH)); exact HO549.out) hb)
            have n4_ := Qr (QP (by (with_reducible repeat (first | apply QK | apply QL | apply QM)); exact HO561.out) hb)
            have n5_ := Qr (QN (by (with_reducible repeat (first | apply QE | apply QF | apply QH)); exact HO564.out) hb)
            have n6_ := Qr (QP (by (with_reducible repeat (first | apply QK | apply QL | apply QM)); exact HO573.out) hb)
            have n7_ := Qr (QN (by (with_reducible repeat (first | apply QE | apply QF | apply QH)); exact HO576.out) hb)
            have n8_ := Qr (QN (by (with_reducible repeat (first | apply QE | apply QF | apply QH)); exact HO607.out) hb)
            have n9_ := Qr (QN (by (with_reducible repeat (first | apply QE | apply QF | apply QH)); exact HO610.out) hb)
            have n10_ := Qr (QV (g := gb523) (o := .cells #[.int .i64 t509,.int .i64 t510,.bool t511,.bool t512,.slice Ao10 t513.length co10,.slice Ao11 t516.length co11,.int .i64 t519,.int .i64 t520] 74 (0,0)) (by (with_reducible repeat (first | refine QC ?_ _ | refine QG ?_ | refine QD ?_ _)); exact BK523.out) hb)
            have n11_ := Qr (QV (g := gb553) (o := .cells #[.int .i64 t540,.int .i64 t541,.bool t542,.bool t543,.slice Ao151 t544.length co151,.slice Ao152 t547.length co152,.int .i64 t550,.int .i64 t551] 74 (0,0)) (by (with_reducible repeat (first | refine QC ?_ _ | refine QG ?_ | refine QD ?_ _)); exact BK553.out) hb)
            have n12_ := Qr (QV (g := gb579) (o := .cells #[.int .i64 t555,.int .i64 t556,.bool t557,.bool t558,.slice Ao161 t559.length co161,.slice Ao162 t562.length co162,.int .i64 t565,.int .i64 t566] 74 (0,0)) (by (with_reducible repeat (first | refine QC ?_ _ | refine QG ?_ | refine QD ?_ _)); exact BK579.out) hb)
            have n13_ := Qr (QV (g := gb580) (o := .cells #[.int .i64 t567,.int .i64 t568,.bool t569,.bool t570,.slice Ao166 t571.length co166,.slice Ao167 t574.length co167,.int .i64 t577,.int .i64 t578] 74 (0,0)) (by (with_reducible repeat (first | refine QC ?_ _ | refine QG ?_ | refine QD ?_ _)); exact BK580.out) hb)
            have n14_ := Qr (Qc (by repeat (first | (with_reducible first | exact HB.out | apply QT | apply QO | apply QS | refine QJ ?_ GE523.out | refine QJ ?_ GE553.out | refine QJ ?_ GE579.out | refine QJ ?_ GE580.out) | exact HB.out)) hb)
            clear HO_524004
            clear HO_524005
            clear HO546
            clear HO549
            clear HO561
            clear HO564
            clear HO573
            clear HO576
            clear HO607
            clear HO610
            clear BK523
            clear BK553
            clear BK579
            clear BK580
            clear HB
            revert n0_ n1_ n2_ n3_ n4_ n5_ n6_ n7_ n8_ n9_ n10_ n11_ n12_ n13_ n14_
            intro HO_524004 HO_524005 HO546 HO549 HO561 HO564 HO573 HO576 HO607 HO610 BK523 BK553 BK579 BK580 HB
            (try clear hb)
            (try clear hb2)
            (try clear hk)
            (try clear hi)
            refine hK.out _ _ (by (repeat' apply And.intro) <;> first | exact (QB BK553.out _).trans rfl | exact (QB BK579.out _).trans rfl | exact (QB BK580.out _).trans rfl | exact (QB BK523.out _).trans rfl) (fun hHeld => ?_)
            clear hK K
            refine norm_ (a' := ?_) ?_ ?_
            rotate_left
            ·show Act.put _ (some 102) _ = _
             simp only [Act.put,Qo,Qp,Qq,Qe,Qf]
             rfl
            refine Ql (i := 28) (N := some 103) (v := ?_) (a' := ?_) #[Y1,Y1,Y1,Y1,Y1,Y1,Y1,Y1,Y1,Y1,Y1,Y1,Y1,Y1,Y1,Y1,Y1,Y1,Y1,Y1,Y1,Y1,Y1,Y1,Y1,Y1,Y1,Y1,Y1,Y0,Y0,Y0,Y0,Y0,Y0,Y0,Y0,Y0,Y0,Y0,Y0,Y0,Y0,Y0,Y0,Y0] rfl rfl (Qg HT_.out (by kernel_rfl)) (fun _ _ _ h => h) (Or.inl ⟨by rfl,?_⟩) ?_ ?_
            rotate_left
            ·intro w'
             go_simp
             with_reducible rfl
            rotate_left
            ·simp only [Act.put,Qo,Qp,Qq,Qe,Qf]
             rfl
            refine Ql (i := 29) (N := some 104) (v := ?_) (a' := ?_) #[Y1,Y1,Y1,Y1,Y1,Y1,Y1,Y1,Y1,Y1,Y1,Y1,Y1,Y1,Y1,Y1,Y1,Y1,Y1,Y1,Y1,Y1,Y1,Y1,Y1,Y1,Y1,Y1,Y1,Y1,Y0,Y0,Y0,Y0,Y0,Y0,Y0,Y0,Y0,Y0,Y0,Y0,Y0,Y0,Y0,Y0] rfl rfl (Qg HT_.out (by kernel_rfl)) (fun _ _ _ h => h) (Or.inl ⟨by rfl,?_⟩) ?_ ?_
            rotate_left
            ·intro w'
             go_simp
             with_reducible rfl
            rotate_left
            ·simp only [Act.put,Qo,Qp,Qq,Qe,Qf]
             rfl
            refine Ql (i := 30) (N := some 105) (v := ?_) (a' := ?_) #[Y1,Y1,Y1,Y1,Y1,Y1,Y1,Y1,Y1,Y1,Y1,Y1,Y1,Y1,Y1,Y1,Y1,Y1,Y1,Y1,Y1,Y1,Y1,Y1,Y1,Y1,Y1,Y1,Y1,Y1,Y1,Y0,Y0,Y0,Y0,Y0,Y0,Y0,Y0,Y0,Y0,Y0,Y0,Y0,Y0,Y0] rfl rfl (Qg HT_.out (by kernel_rfl)) (fun _ _ _ h => h) (Or.inl ⟨by rfl,?_⟩) ?_ ?_
            rotate_left
            ·intro w'
             go_simp
             with_reducible rfl
            rotate_left
            ·simp only [Act.put,Qo,Qp,Qq,Qe,Qf]
             rfl
            refine take_ (i := 31) (N := some 106) (v := ?_) (a' := ?_) #[Y1,Y1,Y1,Y1,Y1,Y1,Y1,Y1,Y1,Y1,Y1,Y1,Y1,Y1,Y1,Y1,Y1,Y1,Y1,Y1,Y1,Y1,Y1,Y1,Y1,Y1,Y1,Y1,Y1,Y1,Y1,Y1,Y0,Y0,Y0,Y0,Y0,Y0,Y0,Y0,Y0,Y0,Y0,Y0,Y0,Y0] rfl rfl (take_ofW HT_.out HW_.out (by kernel_rfl)) (fun _ _ _ h => h) (Or.inl ⟨by rfl,?_⟩) hHeld ?_ ?_
            rotate_left
            ·rintro w' ⟨s0,s1,s2,s3,s4,s5,s6,s7,s8,s9,s10,s11,s12,s13,s14,s15,s16,s17,s18,s19,s20,s21,s22,s23,s24,s25,s26,s27,s28,s29,s30,s31⟩
             go_simp
             with_reducible rfl
            rotate_left
            ·simp only [Act.put,Qo,Qp,Qq,Qe,Qf]
             rfl
            refine take_ (i := 32) (N := some 107) (v := ?_) (a' := ?_) #[Y1,Y1,Y1,Y1,Y1,Y1,Y1,Y1,Y1,Y1,Y1,Y1,Y1,Y1,Y1,Y1,Y1,Y1,Y1,Y1,Y1,Y1,Y1,Y1,Y1,Y1,Y1,Y1,Y1,Y1,Y1,Y1,Y1,Y0,Y0,Y0,Y0,Y0,Y0,Y0,Y0,Y0,Y0,Y0,Y0,Y0] rfl rfl (take_ofW HT_.out HW_.out (by kernel_rfl)) (fun _ _ _ h => h) (Or.inl ⟨by rfl,?_⟩) hHeld ?_ ?_
            rotate_left
            ·rintro w' ⟨s0,s1,s2,s3,s4,s5,s6,s7,s8,s9,s10,s11,s12,s13,s14,s15,s16,s17,s18,s19,s20,s21,s22,s23,s24,s25,s26,s27,s28,s29,s30,s31⟩
             go_simp
             with_reducible rfl
            rotate_left
            ·simp only [Act.put,Qo,Qp,Qq,Qe,Qf]
             rfl
            refine one_ (i := 33) (N := some 108) #[Y1,Y1,Y1,Y1,Y1,Y1,Y1,Y1,Y1,Y1,Y1,Y1,Y1,Y1,Y1,Y1,Y1,Y1,Y1,Y1,Y1,Y1,Y1,Y1,Y1,Y1,Y1,Y1,Y1,Y1,Y1,Y1,Y1,Y1,Y0,Y0,Y0,Y0,Y0,Y0,Y0,Y0,Y0,Y0,Y0,Y0] rfl rfl (one_of HT_.out (by kernel_rfl)) (by decide) (fun K hK => ?_)
            refine goes_ Try.func70 (by kernel_rfl) rfl #[.agg #[.int .i64 t555,.int .i64 t556,.bool t557,.bool t558,.slice Ao161 t559.length co161,.slice Ao162 t562.length co162,.int .i64 t565,.int .i64 t566],.agg #[.int .i64 t555,.int .i64 t556,.bool t557,.bool t558,.slice Ao161 t559.length co161,.slice Ao162 t562.length co162,.int .i64 t565,.int .i64 t566]] (by rfl) rfl rfl (by (try simp only [List.map_toArray,List.map_cons,List.map_nil]); first | done | rfl | (simp only [List.length_drop,List.length_take]; rfl)) ?_
            with_reducible refine (impl_EqualRules.calls kj5 t555 t556 t557 t558 _ _ t559 _ _ t562 t565 t566 t555 t556 t557 t558 _ _ t559 _ _ t562 t565 t566 true _ ?side1 ?side2 ?side3 ?side4 ?side5 ?side6 ?side7 ?side8 A142.out).mono ?_
            (case side1 => repeat (first | exact (QW HO561.out).2.2 | (with_reducible refine QX ?_ _) | (with_reducible refine QY ?_ _) | (with_reducible refine QZ ?_)))
            (case side2 => exact (QW HO561.out).2.1)
            (case side3 => repeat (first | exact (QU HO564.out).2.2 | (with_reducible refine QX ?_ _) | (with_reducible refine QY ?_ _) | (with_reducible refine QZ ?_)))
            (case side4 => exact (QU HO564.out).2.1)
            (case side5 => repeat (first | exact (QW HO561.out).2.2 | (with_reducible refine QX ?_ _) | (with_reducible refine QY ?_ _) | (with_reducible refine QZ ?_)))
            (case side6 => exact (QW HO561.out).2.1)
            (case side7 => repeat (first | exact (QU HO564.out).2.2 | (with_reducible refine QX ?_ _) | (with_reducible refine QY ?_ _) | (with_reducible refine QZ ?_)))
            (case side8 => exact (QU HO564.out).2.1)
            rintro e w367 ⟨rfl,hb⟩
            refine ⟨_,rfl,?_⟩
            have n0_ := Qr (QP (by (with_reducible repeat (first | apply QK | apply QL | apply QM)); exact HO_524004.out) hb)
            have n1_ := Qr (QN (by (with_reducible repeat (first | apply QE | apply QF | apply QH)); exact HO_524005.out) hb)
            have n2_ := Qr (QP (by (with_reducible repeat (first | apply QK | apply QL | apply QM)); exact HO546.out) hb)
            have n3_ := Qr (QN (by (with_reducible repeat (first | apply QE | apply QF | apply QH)); exact HO549.out) hb)
            have n4_ := Qr (QP (by (with_reducible repeat (first | apply QK | apply QL | apply QM)); exact HO561.out) hb)
            have n5_ := Qr (QN (by (with_reducible repeat (first | apply QE | apply QF | apply QH)); exact HO564.out) hb)
            have n6_ := Qr (QP (by (with_reducible repeat (first | apply QK | apply QL | apply QM)); exact HO573.out) hb)
            have n7_ := Qr (QN (by (with_reducible repeat (first | apply QE | apply QF | apply QH)); exact HO576.out) hb)
            have n8_ := Qr (QN (by (with_reducible repeat (first | apply QE | apply QF | apply QH)); exact HO607.out) hb)
            have n9_ := Qr (QN (by (with_reducible repeat (first | apply QE | apply QF | apply QH)); exact HO610.out) hb)
            have n10_ := Qr (QV (g := gb523) (o := .cells #[.int .i64 t509,.int .i64 t510,.bool t511,.bool t512,.slice Ao10 t513.length co10,.slice Ao11 t516.length co11,.int .i64 t519,.int .i64 t520] 74 (0,0)) (by (with_reducible repeat (first | refine QC ?_ _ | refine QG ?_ | refine QD ?_ _)); exact BK523.out) hb)
            have n11_ := Qr (QV (g := gb553) (o := .cells #[.int .i64 t540,.int .i64 t541,.bool t542,.bool t543,.slice Ao151 t544.length co151,.slice Ao152 t547.length co152,.int .i64 t550,.int .i64 t551] 74 (0,0)) (by (with_reducible repeat (first | refine QC ?_ _ | refine QG ?_ | refine QD ?_ _)); exact BK553.out) hb)
            have n12_ := Qr (QV (g := gb579) (o := .cells #[.int .i64 t555,.int .i64 t556,.bool t557,.bool t558,.slice Ao161 t559.length co161,.slice Ao162 t562.length co162,.int .i64 t565,.int .i64 t566] 74 (0,0)) (by (with_reducible repeat (first | refine QC ?_ _ | refine QG ?_ | refine QD ?_ _)); exact BK579.out) hb)
            have n13_ := Qr (QV (g := gb580) (o := .cells #[.int .i64 t567,.int .i64 t568,.bool t569,.bool t570,.slice Ao166 t571.length co166,.slice Ao167 t574.length co167,.int .i64 t577,.int .i64 t578] 74 (0,0)) (by (with_reducible repeat (first | refine QC ?_ _ | refine QG ?_ | refine QD ?_ _)); exact BK580.out) hb)
            have n14_ := Qr (Qc (by repeat (first | (with_reducible first | exact HB.out | apply QT | apply QO | apply QS | refine QJ ?_ GE523.out | refine QJ ?_ GE553.out | refine QJ ?_ GE579.out | refine QJ ?_ GE580.out) | exact HB.out)) hb)
            clear HO_524004
            clear HO_524005
            clear HO546
            clear HO549
            clear HO561
            clear HO564
            clear HO573
            clear HO576
            clear HO607
            clear HO610
            clear BK523
            clear BK553
            clear BK579
            clear BK580
            clear HB
            revert n0_ n1_ n2_ n3_ n4_ n5_ n6_ n7_ n8_ n9_ n10_ n11_ n12_ n13_ n14_
            intro HO_524004 HO_524005 HO546 HO549 HO561 HO564 HO573 HO576 HO607 HO610 BK523 BK553 BK579 BK580 HB
            (try clear hb)
            (try clear hb2)
            (try clear hk)
            (try clear hi)
            refine hK.out _ _ (by (repeat' apply And.intro) <;> first | exact (QB BK553.out _).trans rfl | exact (QB BK579.out _).trans rfl | exact (QB BK580.out _).trans rfl | exact (QB BK523.out _).trans rfl) (fun hHeld => ?_)
            clear hK K
            refine norm_ (a' := ?_) ?_ ?_
            rotate_left
            ·show Act.put _ (some 108) _ = _
             simp only [Act.put,Qo,Qp,Qq,Qe,Qf]
             rfl
            refine Ql (i := 34) (N := some 109) (v := ?_) (a' := ?_) #[Y1,Y1,Y1,Y1,Y1,Y1,Y1,Y1,Y1,Y1,Y1,Y1,Y1,Y1,Y1,Y1,Y1,Y1,Y1,Y1,Y1,Y1,Y1,Y1,Y1,Y1,Y1,Y1,Y1,Y1,Y1,Y1,Y1,Y1,Y1,Y0,Y0,Y0,Y0,Y0,Y0,Y0,Y0,Y0,Y0,Y0] rfl rfl (Qg HT_.out (by kernel_rfl)) (fun _ _ _ h => h) (Or.inl ⟨by rfl,?_⟩) ?_ ?_
            rotate_left
            ·intro w'
             go_simp
             with_reducible rfl
            rotate_left
            ·simp only [Act.put,Qo,Qp,Qq,Qe,Qf]
             rfl
            refine Ql (i := 35) (N := some 110) (v := ?_) (a' := ?_) #[Y1,Y1,Y1,Y1,Y1,Y1,Y1,Y1,Y1,Y1,Y1,Y1,Y1,Y1,Y1,Y1,Y1,Y1,Y1,Y1,Y1,Y1,Y1,Y1,Y1,Y1,Y1,Y1,Y1,Y1,Y1,Y1,Y1,Y1,Y1,Y1,Y0,Y0,Y0,Y0,Y0,Y0,Y0,Y0,Y0,Y0] rfl rfl (Qg HT_.out (by kernel_rfl)) (fun _ _ _ h => h) (Or.inl ⟨by rfl,?_⟩) ?_ ?_
            rotate_left
            ·intro w'
             go_simp
             with_reducible rfl
            rotate_left
            ·simp only [Act.put,Qo,Qp,Qq,Qe,Qf]
             rfl
            refine Ql (i := 37) (N := some 112) (v := ?_) (a' := ?_) #[Y1,Y1,Y1,Y1,Y1,Y1,Y1,Y1,Y1,Y1,Y1,Y1,Y1,Y1,Y1,Y1,Y1,Y1,Y1,Y1,Y1,Y1,Y1,Y1,Y1,Y1,Y1,Y1,Y1,Y1,Y1,Y1,Y1,Y1,Y1,Y1,Y0,Y1,Y0,Y0,Y0,Y0,Y0,Y0,Y0,Y0] rfl rfl (Qg HT_.out (by kernel_rfl)) (fun _ _ _ h => h) (Or.inl ⟨by rfl,?_⟩) ?_ ?_
            rotate_left
            ·intro w'
             go_simp
             with_reducible rfl
            rotate_left
            ·simp only [Act.put,Qo,Qp,Qq,Qe,Qf]
             rfl
            refine take_ (i := 36) (N := some 111) (v := ?_) (a' := ?_) #[Y1,Y1,Y1,Y1,Y1,Y1,Y1,Y1,Y1,Y1,Y1,Y1,Y1,Y1,Y1,Y1,Y1,Y1,Y1,Y1,Y1,Y1,Y1,Y1,Y1,Y1,Y1,Y1,Y1,Y1,Y1,Y1,Y1,Y1,Y1,Y1,Y1,Y1,Y0,Y0,Y0,Y0,Y0,Y0,Y0,Y0] rfl rfl (take_ofW HT_.out HW_.out (by kernel_rfl)) (fun _ _ _ h => h) (Or.inl ⟨by rfl,?_⟩) hHeld ?_ ?_
            rotate_left
            ·rintro w' ⟨s0,s1,s2,s3,s4,s5,s6,s7,s8,s9,s10,s11,s12,s13,s14,s15,s16,s17,s18,s19,s20,s21,s22,s23,s24,s25,s26,s27,s28,s29,s30,s31⟩
             go_simp
             with_reducible rfl
            rotate_left
            ·simp only [Act.put,Qo,Qp,Qq,Qe,Qf]
             rfl
            refine one_ (i := 38) (N := some 113) #[Y1,Y1,Y1,Y1,Y1,Y1,Y1,Y1,Y1,Y1,Y1,Y1,Y1,Y1,Y1,Y1,Y1,Y1,Y1,Y1,Y1,Y1,Y1,Y1,Y1,Y1,Y1,Y1,Y1,Y1,Y1,Y1,Y1,Y1,Y1,Y1,Y1,Y1,Y1,Y0,Y0,Y0,Y0,Y0,Y0,Y0] rfl rfl (one_of HT_.out (by kernel_rfl)) (by decide) (fun K hK => ?_)
            refine goes_ Try.func71 (by kernel_rfl) rfl #[.agg #[.int .i64 t509,.int .i64 t510,.bool t511,.bool t512,.slice Ao10 t513.length co10,.slice Ao11 t516.length co11,.int .i64 t519,.int .i64 t520],.int .i64 t521] (by rfl) rfl rfl (by (try simp only [List.map_toArray,List.map_cons,List.map_nil]); first | done | rfl | (simp only [List.length_drop,List.length_take]; rfl)) ?_
            with_reducible refine (impl_DoesSkip.calls kj5 t509 t510 t511 t512 _ _ t513 _ _ t516 t519 t520 t521 t599 _ ?side1 ?side2 ?side3 ?side4 A144.out).mono ?_
            (case side1 => repeat (first | exact (QW HO_524004.out).2.2 | (with_reducible refine QX ?_ _) | (with_reducible refine QY ?_ _) | (with_reducible refine QZ ?_)))
            (case side2 => exact (QW HO_524004.out).2.1)
            (case side3 => repeat (first | exact (QU HO_524005.out).2.2 | (with_reducible refine QX ?_ _) | (with_reducible refine QY ?_ _) | (with_reducible refine QZ ?_)))
            (case side4 => exact (QU HO_524005.out).2.1)
            rintro e w368 ⟨rfl,hb⟩
            refine ⟨_,rfl,?_⟩
            have n0_ := Qr (QP (by (with_reducible repeat (first | apply QK | apply QL | apply QM)); exact HO_524004.out) hb)
            have n1_ := Qr (QN (by (with_reducible repeat (first | apply QE | apply QF | apply QH)); exact HO_524005.out) hb)
            have n2_ := Qr (QP (by (with_reducible repeat (first | apply QK | apply QL | apply QM)); exact HO546.out) hb)
            have n3_ := Qr (QN (by (with_reducible repeat (first | apply QE | apply QF | apply QH)); exact HO549.out) hb)
            have n4_ := Qr (QP (by (with_reducible repeat (first | apply QK | apply QL | apply QM)); exact HO561.out) hb)
            have n5_ := Qr (QN (by (with_reducible repeat (first | apply QE | apply QF | apply QH)); exact HO564.out) hb)
            have n6_ := Qr (QP (by (with_reducible repeat (first | apply QK | apply QL | apply QM)); exact HO573.out) hb)
            have n7_ := Qr (QN (by (with_reducible repeat (first | apply QE | apply QF | apply QH)); exact HO576.out) hb)
            have n8_ := Qr (QN (by (with_reducible repeat (first | apply QE | apply QF | apply QH)); exact HO607.out) hb)
            have n9_ := Qr (QN (by (with_reducible repeat (first | apply QE | apply QF | apply QH)); exact HO610.out) hb)
            have n10_ := Qr (QV (g := gb523) (o := .cells #[.int .i64 t509,.int .i64 t510,.bool t511,.bool t512,.slice Ao10 t513.length co10,.slice Ao11 t516.length co11,.int .i64 t519,.int .i64 t520] 74 (0,0)) (by (with_reducible repeat (first | refine QC ?_ _ | refine QG ?_ | refine QD ?_ _)); exact BK523.out) hb)
            have n11_ := Qr (QV (g := gb553) (o := .cells #[.int .i64 t540,.int .i64 t541,.bool t542,.bool t543,.slice Ao151 t544.length co151,.slice Ao152 t547.length co152,.int .i64 t550,.int .i64 t551] 74 (0,0)) (by (with_reducible repeat (first | refine QC ?_ _ | refine QG ?_ | refine QD ?_ _)); exact BK553.out) hb)
            have n12_ := Qr (QV (g := gb579) (o := .cells #[.int .i64 t555,.int .i64 t556,.bool t557,.bool t558,.slice Ao161 t559.length co161,.slice Ao162 t562.length co162,.int .i64 t565,.int .i64 t566] 74 (0,0)) (by (with_reducible repeat (first | refine QC ?_ _ | refine QG ?_ | refine QD ?_ _)); exact BK579.out) hb)
            have n13_ := Qr (QV (g := gb580) (o := .cells #[.int .i64 t567,.int .i64 t568,.bool t569,.bool t570,.slice Ao166 t571.length co166,.slice Ao167 t574.length co167,.int .i64 t577,.int .i64 t578] 74 (0,0)) (by (with_reducible repeat (first | refine QC ?_ _ | refine QG ?_ | refine QD ?_ _)); exact BK580.out) hb)
            have n14_ := Qr (Qc (by repeat (first | (with_reducible first | exact HB.out | apply QT | apply QO | apply QS | refine QJ ?_ GE523.out | refine QJ ?_ GE553.out | refine QJ ?_ GE579.out | refine QJ ?_ GE580.out) | exact HB.out)) hb)
            clear HO_524004
            clear HO_524005
            clear HO546
            clear HO549
            clear HO561
            clear HO564
            clear HO573
            clear HO576
            clear HO607
            clear HO610
            clear BK523
            clear BK553
            clear BK579
            clear BK580
            clear HB
            revert n0_ n1_ n2_ n3_ n4_ n5_ n6_ n7_ n8_ n9_ n10_ n11_ n12_ n13_ n14_
            intro HO_524004 HO_524005 HO546 HO549 HO561 HO564 HO573 HO576 HO607 HO610 BK523 BK553 BK579 BK580 HB
            (try clear hb)
            (try clear hb2)
            (try clear hk)
            (try clear hi)
            refine hK.out _ _ (by (repeat' apply And.intro) <;> first | exact (QB BK553.out _).trans rfl | exact (QB BK579.out _).trans rfl | exact (QB BK580.out _).trans rfl | exact (QB BK523.out _).trans rfl) (fun hHeld => ?_)
            clear hK K
            refine norm_ (a' := ?_) ?_ ?_
            rotate_left
            ·show Act.put _ (some 113) _ = _
             simp only [Act.put,Qo,Qp,Qq,Qe,Qf]
             rfl
            refine Ql (i := 39) (N := some 114) (v := ?_) (a' := ?_) #[Y1,Y1,Y1,Y1,Y1,Y1,Y1,Y1,Y1,Y1,Y1,Y1,Y1,Y1,Y1,Y1,Y1,Y1,Y1,Y1,Y1,Y1,Y1,Y1,Y1,Y1,Y1,Y1,Y1,Y1,Y1,Y1,Y1,Y1,Y1,Y1,Y1,Y1,Y1,Y1,Y0,Y0,Y0,Y0,Y0,Y0] rfl rfl (Qg HT_.out (by kernel_rfl)) (fun _ _ _ h => h) (Or.inl ⟨by rfl,?_⟩) ?_ ?_
            rotate_left
            ·intro w'
             go_simp
             with_reducible rfl
            rotate_left
            ·simp only [Act.put,Qo,Qp,Qq,Qe,Qf]
             rfl
            refine Ql (i := 40) (N := some 115) (v := ?_) (a' := ?_) #[Y1,Y1,Y1,Y1,Y1,Y1,Y1,Y1,Y1,Y1,Y1,Y1,Y1,Y1,Y1,Y1,Y1,Y1,Y1,Y1,Y1,Y1,Y1,Y1,Y1,Y1,Y1,Y1,Y1,Y1,Y1,Y1,Y1,Y1,Y1,Y1,Y1,Y1,Y1,Y1,Y1,Y0,Y0,Y0,Y0,Y0] rfl rfl (Qg HT_.out (by kernel_rfl)) (fun _ _ _ h => h) (Or.inl ⟨by rfl,?_⟩) ?_ ?_
            rotate_left
            ·intro w'
             go_simp
             with_reducible rfl
            rotate_left
            ·simp only [Act.put,Qo,Qp,Qq,Qe,Qf]
             rfl
            by_cases c145 : t599 = true
            ·subst c145
             rw [if_pos rfl] at H
             replace H := Qs.mp H
             obtain ⟨t600,A1460,H⟩ := H
             have A146 := Qr A1460
             clear A1460
             obtain rfl := Option.some.inj H
             refine take_ (i := 41) (N := some 116) (v := ?_) (a' := ?_) #[Y1,Y1,Y1,Y1,Y1,Y1,Y1,Y1,Y1,Y1,Y1,Y1,Y1,Y1,Y1,Y1,Y1,Y1,Y1,Y1,Y1,Y1,Y1,Y1,Y1,Y1,Y1,Y1,Y1,Y1,Y1,Y1,Y1,Y1,Y1,Y1,Y1,Y1,Y1,Y1,Y1,Y1,Y0,Y0,Y0,Y0] rfl rfl (take_ofW HT_.out HW_.out (by kernel_rfl)) (fun _ _ _ h => h) (Or.inl ⟨by rfl,?_⟩) hHeld ?_ ?_
             rotate_left
             ·rintro w' ⟨s0,s1,s2,s3,s4,s5,s6,s7,s8,s9,s10,s11,s12,s13,s14,s15,s16,s17,s18,s19,s20,s21,s22,s23,s24,s25,s26,s27,s28,s29,s30,s31⟩
              go_simp
              with_reducible rfl
             rotate_left
             ·simp only [Act.put,Qo,Qp,Qq,Qe,Qf]
              rfl
             refine one_ (i := 42) (N := some 117) #[Y1,Y1,Y1,Y1,Y1,Y1,Y1,Y1,Y1,Y1,Y1,Y1,Y1,Y1,Y1,Y1,Y1,Y1,Y1,Y1,Y1,Y1,Y1,Y1,Y1,Y1,Y1,Y1,Y1,Y1,Y1,Y1,Y1,Y1,Y1,Y1,Y1,Y1,Y1,Y1,Y1,Y1,Y1,Y0,Y0,Y0] rfl rfl (one_of HT_.out (by kernel_rfl)) (by decide) (fun K hK => ?_)
             refine goes_ Try.func64 (by kernel_rfl) rfl #[.agg #[.int .i64 t509,.int .i64 t510,.bool t511,.bool t512,.slice Ao10 t513.length co10,.slice Ao11 t516.length co11,.int .i64 t519,.int .i64 t520]] (by rfl) rfl rfl (by (try simp only [List.map_toArray,List.map_cons,List.map_nil]); first | done | rfl | (simp only [List.length_drop,List.length_take]; rfl)) ?_
             with_reducible refine (impl_IsRules.calls kj5 t509 t510 t511 t512 _ _ t513 _ _ t516 t519 t520 t600 _ ?side1 ?side2 ?side3 ?side4 A146.out).mono ?_
             (case side1 => repeat (first | exact (QW HO_524004.out).2.2 | (with_reducible refine QX ?_ _) | (with_reducible refine QY ?_ _) | (with_reducible refine QZ ?_)))
             (case side2 => exact (QW HO_524004.out).2.1)
             (case side3 => repeat (first | exact (QU HO_524005.out).2.2 | (with_reducible refine QX ?_ _) | (with_reducible refine QY ?_ _) | (with_reducible refine QZ ?_)))
             (case side4 => exact (QU HO_524005.out).2.1)
             rintro e w369 ⟨rfl,hb⟩
             refine ⟨_,rfl,?_⟩
             have n0_ := Qr (QP (by (with_reducible repeat (first | apply QK | apply QL | apply QM)); exact HO_524004.out) hb)
             have n1_ := Qr (QN (by (with_reducible repeat (first | apply QE | apply QF | apply QH)); exact HO_524005.out) hb)
             have n2_ := Qr (QP (by (with_reducible repeat (first | apply QK | apply QL | apply QM)); exact HO546.out) hb)
             have n3_ := Qr (QN (by (with_reducible repeat (first | apply QE | apply QF | apply QH)); exact HO549.out) hb)
             have n4_ := Qr (QP (by (with_reducible repeat (first | apply QK | apply QL | apply QM)); exact HO561.out) hb)
             have n5_ := Qr (QN (by (with_reducible repeat (first | apply QE | apply QF | apply QH)); exact HO564.out) hb)
             have n6_ := Qr (QP (by (with_reducible repeat (first | apply QK | apply QL | apply QM)); exact HO573.out) hb)
             have n7_ := Qr (QN (by (with_reducible repeat (first | apply QE | apply QF | apply QH)); exact HO576.out) hb)
             have n8_ := Qr (QN (by (with_reducible repeat (first | apply QE | apply QF | apply QH)); exact HO607.out) hb)
             have n9_ := Qr (QN (by (with_reducible repeat (first | apply QE | apply QF | apply QH)); exact HO610.out) hb)
             have n10_ := Qr (QV (g := gb523) (o := .cells #[.int .i64 t509,.int .i64 t510,.bool t511,.bool t512,.slice Ao10 t513.length co10,.slice Ao11 t516.length co11,.int .i64 t519,.int .i64 t520] 74 (0,0)) (by (with_reducible repeat (first | refine QC ?_ _ | refine QG ?_ | refine QD ?_ _)); exact BK523.out) hb)
             have n11_ := Qr (QV (g := gb553) (o := .cells #[.int .i64 t540,.int .i64 t541,.bool t542,.bool t543,.slice Ao151 t544.length co151,.slice Ao152 t547.length co152,.int .i64 t550,.int .i64 t551] 74 (0,0)) (by (with_reducible repeat (first | refine QC ?_ _ | refine QG ?_ | refine QD ?_ _)); exact BK553.out) hb)
             have n12_ := Qr (QV (g := gb579) (o := .cells #[.int .i64 t555,.int .i64 t556,.bool t557,.bool t558,.slice Ao161 t559.length co161,.slice Ao162 t562.length co162,.int .i64 t565,.int .i64 t566] 74 (0,0)) (by (with_reducible repeat (first | refine QC ?_ _ | refine QG ?_ | refine QD ?_ _)); exact BK579.out) hb)
             have n13_ := Qr (QV (g := gb580) (o := .cells #[.int .i64 t567,.int .i64 t568,.bool t569,.bool t570,.slice Ao166 t571.length co166,.slice Ao167 t574.length co167,.int .i64 t577,.int .i64 t578] 74 (0,0)) (by (with_reducible repeat (first | refine QC ?_ _ | refine QG ?_ | refine QD ?_ _)); exact BK580.out) hb)
             have n14_ := Qr (Qc (by repeat (first | (with_reducible first | exact HB.out | apply QT | apply QO | apply QS | refine QJ ?_ GE523.out | refine QJ ?_ GE553.out | refine QJ ?_ GE579.out | refine QJ ?_ GE580.out) | exact HB.out)) hb)
             clear HO_524004
             clear HO_524005
             clear HO546
             clear HO549
             clear HO561
             clear HO564
             clear HO573
             clear HO576
             clear HO607
             clear HO610
             clear BK523
             clear BK553
             clear BK579
             clear BK580
             clear HB
             revert n0_ n1_ n2_ n3_ n4_ n5_ n6_ n7_ n8_ n9_ n10_ n11_ n12_ n13_ n14_
             intro HO_524004 HO_524005 HO546 HO549 HO561 HO564 HO573 HO576 HO607 HO610 BK523 BK553 BK579 BK580 HB
             (try clear hb)
             (try clear hb2)
             (try clear hk)
             (try clear hi)
             refine hK.out _ _ (by (repeat' apply And.intro) <;> first | exact (QB BK553.out _).trans rfl | exact (QB BK579.out _).trans rfl | exact (QB BK580.out _).trans rfl | exact (QB BK523.out _).trans rfl) (fun hHeld => ?_)
             clear hK K
             refine norm_ (a' := ?_) ?_ ?_
             rotate_left
             ·show Act.put _ (some 117) _ = _
              simp only [Act.put,Qo,Qp,Qq,Qe,Qf]
              rfl
             refine Ql (i := 43) (N := some 118) (v := ?_) (a' := ?_) #[Y1,Y1,Y1,Y1,Y1,Y1,Y1,Y1,Y1,Y1,Y1,Y1,Y1,Y1,Y1,Y1,Y1,Y1,Y1,Y1,Y1,Y1,Y1,Y1,Y1,Y1,Y1,Y1,Y1,Y1,Y1,Y1,Y1,Y1,Y1,Y1,Y1,Y1,Y1,Y1,Y1,Y1,Y1,Y1,Y0,Y0] rfl rfl (Qg HT_.out (by kernel_rfl)) (fun _ _ _ h => h) (Or.inl ⟨by rfl,?_⟩) ?_ ?_
             rotate_left
             ·intro w'
              go_simp
              with_reducible rfl
             rotate_left
             ·simp only [Act.put,Qo,Qp,Qq,Qe,Qf]
              rfl
             refine Ql (i := 44) (N := some 119) (v := ?_) (a' := ?_) #[Y1,Y1,Y1,Y1,Y1,Y1,Y1,Y1,Y1,Y1,Y1,Y1,Y1,Y1,Y1,Y1,Y1,Y1,Y1,Y1,Y1,Y1,Y1,Y1,Y1,Y1,Y1,Y1,Y1,Y1,Y1,Y1,Y1,Y1,Y1,Y1,Y1,Y1,Y1,Y1,Y1,Y1,Y1,Y1,Y1,Y0] rfl rfl (Qg HT_.out (by kernel_rfl)) (fun _ _ _ h => h) (Or.inl ⟨by rfl,?_⟩) ?_ ?_
             rotate_left
             ·intro w'
              go_simp
              with_reducible rfl
             rotate_left
             ·simp only [Act.put,Qo,Qp,Qq,Qe,Qf]
              rfl
             refine Ql (i := 45) (N := some 2) (v := ?_) (a' := ?_) #[Y1,Y1,Y1,Y1,Y1,Y1,Y1,Y1,Y1,Y1,Y1,Y1,Y1,Y1,Y1,Y1,Y1,Y1,Y1,Y1,Y1,Y1,Y1,Y1,Y1,Y1,Y1,Y1,Y1,Y1,Y1,Y1,Y1,Y1,Y1,Y1,Y1,Y1,Y1,Y1,Y1,Y1,Y1,Y1,Y1,Y1] rfl rfl (Qg HT_.out (by kernel_rfl)) (fun _ _ _ h => h) (Or.inl ⟨by rfl,?_⟩) ?_ ?_
             rotate_left
             ·intro w'
              go_simp
              with_reducible rfl
             rotate_left
             ·simp only [Act.put,Qo,Qp,Qq,Qe,Qf]
              rfl
             refine done_ (done_of HT_.out (by kernel_rfl)) ?_
             try go_wp2
             go_ret
             exact ⟨by first | rfl | (simp [errW_none,errW_some] <;> rfl) | (simp [*,errW_none,errW_some] <;> rfl),by repeat (first | (with_reducible first | exact HB.out | apply QT | apply QO | apply QS | refine QJ ?_ GE523.out | refine QJ ?_ GE553.out | refine QJ ?_ GE579.out | refine QJ ?_ GE580.out) | exact HB.out)⟩
            ·replace c145 := Bool.eq_false_iff.mpr c145
             subst c145
             rw [if_neg (show ¬ (false = true) by decide)] at H
             obtain rfl := Option.some.inj H
             refine Ql (i := 41) (N := some 116) (v := undef) (a' := ?_) #[Y1,Y1,Y1,Y1,Y1,Y1,Y1,Y1,Y1,Y1,Y1,Y1,Y1,Y1,Y1,Y1,Y1,Y1,Y1,Y1,Y1,Y1,Y1,Y1,Y1,Y1,Y1,Y1,Y1,Y1,Y1,Y1,Y1,Y1,Y1,Y1,Y1,Y1,Y1,Y1,Y1,Y1,Y0,Y0,Y0,Y0] rfl rfl (Qg HT_.out (by kernel_rfl)) (fun _ _ _ h => h) (Or.inr ⟨by rfl,rfl⟩) ?_ ?_
             rotate_left
             ·simp only [Act.put,Qo,Qp,Qq,Qe,Qf]
              rfl
             refine Ql (i := 42) (N := some 117) (v := undef) (a' := ?_) #[Y1,Y1,Y1,Y1,Y1,Y1,Y1,Y1,Y1,Y1,Y1,Y1,Y1,Y1,Y1,Y1,Y1,Y1,Y1,Y1,Y1,Y1,Y1,Y1,Y1,Y1,Y1,Y1,Y1,Y1,Y1,Y1,Y1,Y1,Y1,Y1,Y1,Y1,Y1,Y1,Y1,Y1,Y1,Y0,Y0,Y0] rfl rfl (Qg HT_.out (by kernel_rfl)) (fun _ _ _ h => h) (Or.inr ⟨by rfl,rfl⟩) ?_ ?_
             rotate_left
             ·simp only [Act.put,Qo,Qp,Qq,Qe,Qf]
              rfl
             refine Ql (i := 43) (N := some 118) (v := ?_) (a' := ?_) #[Y1,Y1,Y1,Y1,Y1,Y1,Y1,Y1,Y1,Y1,Y1,Y1,Y1,Y1,Y1,Y1,Y1,Y1,Y1,Y1,Y1,Y1,Y1,Y1,Y1,Y1,Y1,Y1,Y1,Y1,Y1,Y1,Y1,Y1,Y1,Y1,Y1,Y1,Y1,Y1,Y1,Y1,Y1,Y1,Y0,Y0] rfl rfl (Qg HT_.out (by kernel_rfl)) (fun _ _ _ h => h) (Or.inl ⟨by rfl,?_⟩) ?_ ?_
             rotate_left
             ·intro w'
              go_simp
              with_reducible rfl
             rotate_left
             ·simp only [Act.put,Qo,Qp,Qq,Qe,Qf]
              rfl
             refine Ql (i := 44) (N := some 119) (v := ?_) (a' := ?_) #[Y1,Y1,Y1,Y1,Y1,Y1,Y1,Y1,Y1,Y1,Y1,Y1,Y1,Y1,Y1,Y1,Y1,Y1,Y1,Y1,Y1,Y1,Y1,Y1,Y1,Y1,Y1,Y1,Y1,Y1,Y1,Y1,Y1,Y1,Y1,Y1,Y1,Y1,Y1,Y1,Y1,Y1,Y1,Y1,Y1,Y0] rfl rfl (Qg HT_.out (by kernel_rfl)) (fun _ _ _ h => h) (Or.inl ⟨by rfl,?_⟩) ?_ ?_
             rotate_left
             ·intro w'
              go_simp
              with_reducible rfl
             rotate_left
             ·simp only [Act.put,Qo,Qp,Qq,Qe,Qf]
              rfl
             refine Ql (i := 45) (N := some 2) (v := ?_) (a' := ?_) #[Y1,Y1,Y1,Y1,Y1,Y1,Y1,Y1,Y1,Y1,Y1,Y1,Y1,Y1,Y1,Y1,Y1,Y1,Y1,Y1,Y1,Y1,Y1,Y1,Y1,Y1,Y1,Y1,Y1,Y1,Y1,Y1,Y1,Y1,Y1,Y1,Y1,Y1,Y1,Y1,Y1,Y1,Y1,Y1,Y1,Y1] rfl rfl (Qg HT_.out (by kernel_rfl)) (fun _ _ _ h => h) (Or.inl ⟨by rfl,?_⟩) ?_ ?_
             rotate_left
             ·intro w'
              go_simp
              with_reducible rfl
             rotate_left
             ·simp only [Act.put,Qo,Qp,Qq,Qe,Qf]
              rfl
             refine done_ (done_of HT_.out (by kernel_rfl)) ?_
             try go_wp2
             go_ret
             exact ⟨by first | rfl | (simp [errW_none,errW_some] <;> rfl) | (simp [*,errW_none,errW_some] <;> rfl),by repeat (first | (with_reducible first | exact HB.out | apply QT | apply QO | apply QS | refine QJ ?_ GE523.out | refine QJ ?_ GE553.out | refine QJ ?_ GE579.out | refine QJ ?_ GE580.out) | exact HB.out)⟩
           ·replace c143 := Bool.eq_false_iff.mpr c143
            subst c143
            rw [if_neg (show ¬ (false = true) by decide)] at H
            exact absurd (Option.some.inj H) (by rw [HT.out]; decide)
          ·rw [if_neg c141] at H
           have c141b0 : (t596 == t597) = false := by simpa using c141
           (try (have c141b1 : decide (t596 = t597) = false := by simpa using c141))
           (try (have c141b2 : (t596 == t597) = false := by simpa using c141))
           (try (have c141b3 : ¬ (t596 = t597) := by simpa using c141))
           clear c141
           exact absurd (Option.some.inj H) (by rw [HT.out]; decide)
         ·replace c138 := Bool.eq_false_iff.mpr c138
          subst c138
          rw [if_neg (show ¬ (false = true) by decide)] at H
          exact absurd (Option.some.inj H) (by rw [HT.out]; decide)
        ·rw [if_neg c325] at H
         have c325b0 : ((decide (t554 > 0)) == false) = false := by simpa using c325
         (try (have c325b1 : decide ((decide (t554 > 0)) = false) = false := by simpa using c325))
         (try (have c325b2 : ((decide (t554 > 0)) == false) = false := by simpa using c325))
         (try (have c325b3 : ¬ ((decide (t554 > 0)) = false) := by simpa using c325))
         clear c325
         exact absurd (Option.some.inj H) (by rw [HT.out]; decide)
      ·rw [if_neg c131] at H
       have c131b0 : decide (t554 < 52) = false := decide_eq_false c131
       clear c131
       exact absurd (Option.some.inj H) (by rw [HT.out]; decide)
     ·rw [if_neg c130] at H
      have c130b0 : decide (0 ≤ t554) = false := decide_eq_false c130
      clear c130
      exact absurd (Option.some.inj H) (by rw [HT.out]; decide)

/-- THE ONE PURE STATEMENT of laws_FnRules: yours. -/
def laws_FnRules.Pure : Prop := ∀ (l0 : List Int), l0.length ≤ maxLen → l0.length * 1 ≤ 140737488351232 → (∀ x ∈ l0, (Lit.int .u8 x).wf = true) → ∃ k, laws_FnRules.f k l0 = some true
theorem laws_FnRules.walk (P : laws_FnRules.Pure) (a0 : Option Addr) (len0 cap0 : Nat) (z0 : List Int) (w : World) (w0 : (a0 = none ∧ len0 = 0 ∧ cap0 = 0 ∧ z0 = []) ∨ ∃ x, a0 = some x ∧ len0 ≤ cap0 ∧ cap0 ≤ maxLen ∧ z0.length = cap0 ∧ (∀ i, i < z0.length → w.cell? (x.add i) = some (.int .u8 (z0.getD i 0))) ∧ ∀ n ∈ z0, (Lit.int .u8 n).wf = true) (y0 : len0 * 1 ≤ 140737488351232) :
  Calls Try.prog 11 #[.slice a0 len0 cap0] w fun e w' => e = .returned (.bool true) ∧ Below w.heap.size w w' := by
 obtain ⟨l0,rfl,hr0,hm0,hw0,hc0⟩ := ReadsInt.ofRowC w0
 obtain ⟨k,h⟩ := P l0 hm0 y0 hw0
 refine (laws_FnRules.calls k _ _ l0 true w (Kd.C_of_reads (d := (0 : Int)) (h1 := fun _ => rfl) hr0) hc0 h rfl).mono ?_
 rintro e w' ⟨rfl,hd⟩
 exact ⟨rfl,hd⟩

end Go.Proofs.Ytdakhelapeojgaa.QFnRules
