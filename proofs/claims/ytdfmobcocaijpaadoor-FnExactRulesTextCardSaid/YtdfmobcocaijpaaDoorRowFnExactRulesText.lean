/- The row of FnExactRulesText: the statement, over the pure statement and the walk. No condition of its own. -/
import Derived.Test.YtdfmobcocaijpaaDoorRows
import Derived.Test.YtdfmobcocaijpaaDoorQFnExactRulesTextx4
import Derived.Test.YtdfmobcocaijpaaDoorPureFnExactRulesText
import Derived.WalkKit
import Derived.ProofKit
import Derived.OpenShut
import Derived.ShutString
import Derived.ChangeOld
import Derived.Below
import Derived.SizedLaws
import Derived.Test.YtdfmobcocaijpaaDoorCards
import Derived.Test.YtdfmobcocaijpaaDoorTie
import Derived.SevenTiedAt
import Derived.Lib.LaidIn
import Derived.Lib.LaidU8
import Derived.Lib.LaidTab
import Derived.LaidLaws
import Derived.Handed
import Derived.Test.YtdfmobcocaijpaaDoorVSized
import Derived.Test.YtdfmobcocaijpaaDoorVLibO
namespace Go.Proofs.YtdfmobcocaijpaaDoor.fnExactRulesText
open Go.ChangeShapes Go.WideShapes Go.ChangeAt Go.RowKit Go.Proofs.YtdfmobcocaijpaaDoorW.PrintWords Go.Proofs.YtdfmobcocaijpaaDoor.Lib Go.Proofs.YtdfmobcocaijpaaDoor.QFnExactRulesText
open Go.ChangeMaps (open_string shut_string)
set_option linter.unusedVariables false
set_option linter.unusedSimpArgs false
theorem own : ownKnob Tryd.prog.godebug = none := by kernel_rfl
theorem laidOut : laidOutB Tryd.prog = true := by kernel_rfl
/-- The numbers of a datum that is a row of numbers. -/
def numsOf : DataW Unit → List Int
  | .agg l => l.map fun
    | .lit (.int _ z) => z
    | _ => 0
  | _ => []
/-- The settled world with the library's three tables as their initialisers lay them. -/
noncomputable def laidWorld (os : Os) : World :=
  let w0 := World.holding Tryd.prog os ⟨#[], #[], []⟩
  let put (h : Array Obj) (g : Nat) (cs : Array Value) : Array Obj := h.modify g fun
    | .cells _ t frozen => .cells cs t frozen
    | o => o
  { w0 with heap := put (put (put w0.heap 3 ((numsOf Rows.laid_internal_strconv_uint64pow10).map fun z => Value.int .u64 z).toArray) 4 ((numsOf Rows.laid_math_bits_deBruijn32tab).map fun z => Value.int .u8 z).toArray) 5 ((numsOf Rows.laid_math_bits_deBruijn64tab).map fun z => Value.int .u8 z).toArray }
theorem laid_met (os : Os) (args : Array Value) : laidMet Tryd.prog Rows.fnExactRulesTextRow.laid ((laidWorld os).forCall (fun _ _ => 0) ⟨#[], args, []⟩).memory :=
  (LaidIn.of_run (l := Rows.fnExactRulesTextRow.laid) [4, 5, 3] 8 (by kernel_rfl) (by kernel_rfl) (by kernel_rfl) (by kernel_rfl)).met
theorem laid_tab {W : World} (h : laidMet Tryd.prog Rows.fnExactRulesTextRow.laid W) : Laid W := by
  obtain ⟨g, t, cs, fuel, p, hg, ht, hv, hd⟩ := Go.Lib.laidMet.reads h (n := "internal/strconv.uint64pow10") (d := Rows.laid_internal_strconv_uint64pow10) (.tail _ (.tail _ (.head _)))
  have hg3 : Tryd.prog.globalNamed "internal/strconv.uint64pow10" = some 3 := by kernel_rfl
  obtain rfl := Option.some.inj (hg3.symm.trans hg)
  have ht3 : (Tryd.prog.globals[3]?).map (·.type) = some 123 := by kernel_rfl
  obtain rfl := Option.some.inj (ht3.symm.trans ht)
  have hz : (Rows.laid_internal_strconv_uint64pow10 : DataW Unit) = Go.Lib.tabData .u64 Go.Lib.pow10Tab := by kernel_rfl
  rw [hz] at hd
  unfold Laid Go.Lib.TabIs
  rw [hv, ← Go.Lib.cells_of_tab (n := 20) Tryd.underlying123 (by kernel_rfl) (by kernel_rfl) (by kernel_rfl) hd]
set_option maxRecDepth 100000 in
theorem lifted (os : Os) (started : os.Started) (H : Type) (enc : TypeId × Value → H) :
    ReturnsInHanded {} Tryd.checked os 5 .any (fun w args => (Rows.fnExactRulesTextSpec.pre enc Tryd.prog Tryd.f5 Rows.fnExactRulesTextRow.domain false w args ∧ laidMet Tryd.prog Rows.fnExactRulesTextRow.laid w) ∧ sizedMet enc Tryd.prog Tryd.f5 (OpenSpec.ofChange Rows.fnExactRulesTextSpec) false w args) (Rows.fnExactRulesTextSpec.post enc Tryd.prog Tryd.f5 false true false false) := by
  refine returnsInHanded_of_change_and (C := Tryd.checked) (X := fun w _ => laidMet Tryd.prog Rows.fnExactRulesTextRow.laid w) (fun _ _ _ hh h => h.of_heap hh) own started (by kernel_rfl) Tryd.func5
    (ChangeSpec.witness_at (enc := enc) (C := Tryd.checked) (os := os) (X := fun w _ => laidMet Tryd.prog Rows.fnExactRulesTextRow.laid w) false (laidWorld os) #[.agg #[.int .i64 0, .int .i64 0, .bool false, .bool false, .slice none 0 0, .slice none 0 0, .int .i64 0, .int .i64 0]] 8 rfl (by kernel_rfl) (by kernel_rfl) (by kernel_rfl) (by kernel_rfl) (by kernel_rfl) (laid_met os _)) ?_
  intro W base args ds gs before hval0 hW hcnd hsz0 hL _
  have hval : ∀ (j : Nat) t v, Tryd.f5.params[j]? = some t → args[j]? = some v → Value.okWide Tryd.prog W .any base t v := hval0
  have hW' := hW
  obtain ⟨p, q, hA0, hV, rfl, hfz, hnd⟩ := hW
  have hA : DataW.TrodAll enc Tryd.prog W 0 (fun _ => true) true Tryd.f5.params.toList args.toList ds p := hA0
  rw [Tryd.params5] at hA hval
  obtain ⟨v0, vs0, d0, ds0, p0, q0, hargs, rfl, rfl, h0, r0⟩ := trodAll_cons hA
  obtain ⟨rfl, rfl, rfl⟩ := trodAll_nil r0
  obtain rfl : args = #[v0] := by cases args; simp_all
  obtain ⟨rfl, rfl⟩ := trodVars_none hV
  obtain ⟨cs0, rfl, hz0⟩ := okWide_struct Tryd.underlying44 (hval 0 44 v0 rfl rfl)
  have k0 := h0
  have lt0 : ∀ x ∈ p0, x.block < W.heap.size := by obtain ⟨m, hm⟩ := k0; exact DataW.trod_lt m _ _ _ hm
  obtain ⟨fuel0, hf0⟩ := h0
  obtain ⟨⟨a0_0, ⟨a0_1, ⟨a0_2, ⟨a0_3, ⟨a0_4, ⟨a0_5, ⟨a0_6, a0_7⟩⟩⟩⟩⟩⟩⟩, K0, O0⟩ := ((opens_struct Tryd.underlying44 (by kernel_rfl) (opensF_cons rfl (by kernel_rfl) (opens_int Tryd.underlying3) (opensF_cons rfl (by kernel_rfl) (opens_int Tryd.underlying3) (opensF_cons rfl (by kernel_rfl) (opens_bool Tryd.underlying4) (opensF_cons rfl (by kernel_rfl) (opens_bool Tryd.underlying4) (opensF_cons rfl (by kernel_rfl) (opens_slice Tryd.underlying24 (by kernel_rfl) (opens_int Tryd.underlying3)) (opensF_cons rfl (by kernel_rfl) (opens_slice Tryd.underlying24 (by kernel_rfl) (opens_int Tryd.underlying3)) (opensF_cons rfl (by kernel_rfl) (opens_int Tryd.underlying3) (opensF_last rfl (by kernel_rfl) (opens_int Tryd.underlying3)))))))))) : Opens Tryd.prog 44 (Kd.pair (Kd.int .i64) (Kd.pair (Kd.int .i64) (Kd.pair Kd.bool (Kd.pair Kd.bool (Kd.pair (Kd.slice 3 (Kd.int .i64)) (Kd.pair (Kd.slice 3 (Kd.int .i64)) (Kd.pair (Kd.int .i64) (Kd.int .i64)))))))) _) hf0
  obtain ⟨_, _, E0, rfl, ⟨_, _, rfl, rfl, ⟨_, _, rfl, rfl, ⟨_, _, rfl, rfl, ⟨_, _, rfl, ⟨Aa0_4, ca0_4, rfl, la0_4, Ca0_4⟩, ⟨_, _, rfl, ⟨Aa0_5, ca0_5, rfl, la0_5, Ca0_5⟩, ⟨_, _, rfl, rfl, rfl⟩⟩⟩⟩⟩⟩⟩ := K0
  obtain ⟨oa0_0, ⟨oa0_1, ⟨-, ⟨-, ⟨⟨ma0_4, oa0_4⟩, ⟨⟨ma0_5, oa0_5⟩, ⟨oa0_6, oa0_7⟩⟩⟩⟩⟩⟩⟩ := O0
  obtain rfl : cs0 = #[.int .i64 a0_0, .int .i64 a0_1, .bool a0_2, .bool a0_3, .slice Aa0_4 a0_4.length ca0_4, .slice Aa0_5 a0_5.length ca0_5, .int .i64 a0_6, .int .i64 a0_7] := Array.ext' (E0.trans rfl)
  clear hA0 hval0 hsz0
  obtain ⟨k, hp⟩ := Pure.FnExactRulesText a0_0 a0_1 a0_2 a0_3 a0_4 a0_5 a0_6 a0_7 oa0_0 oa0_1 ma0_4 oa0_4 ma0_5 oa0_5 oa0_6 oa0_7
  refine (laws_FnExactRulesText.calls k _ _ _ _ _ _ _ _ _ _ _ _ true W (laid_tab hL) (by assumption) (by assumption) (by assumption) (by assumption) hp rfl).mono fun e W' ⟨he, bel0⟩ => ?_
  have bel : Below W.heap.size W W' := (by first | exact bel0 | exact bel0.below)
  subst he
  exact ⟨_, rfl, _, _, _, [], _, [], hW', trodAll_mk1 (shut_bool Tryd.underlying4 _), (trodAll_cons_mk (Below.trod laidOut (by kernel_rfl) (of_decide_eq_true (by kernel_rfl)) k0 bel lt0) trodAll_mk0), rfl, bel.frame _, fun h => by cases h⟩
theorem over : Rows.fnExactRulesTextRow.holds Tryd.pinned (OpenSpec.ofChange Rows.fnExactRulesTextSpec) :=
  OpenClaim.holds_of_wide 5 Tryd.f5 rfl rfl rfl rfl rfl rfl rfl ⟨rfl, rfl, rfl, rfl, rfl⟩ rfl rfl rfl rfl rfl (by kernel_rfl) Tryd.func5 (by kernel_rfl)
    (of_decide_eq_true (by kernel_rfl)) (by unfold Func.isWrapper; first | (rw [if_pos (by decide +kernel)]; kernel_rfl) | (rw [if_neg (by decide +kernel)]; exact ⟨rfl, rfl⟩))
    (fun os started H enc _ => lifted os started H enc)
theorem proved : Rows.FnExactRulesTextSaid := over
end Go.Proofs.YtdfmobcocaijpaaDoor.fnExactRulesText
namespace Go.Proofs.YtdfmobcocaijpaaDoor
/-- The row, under a short name, for the claim. -/
theorem fnExactRulesText_holds : Rows.FnExactRulesTextSaid := fnExactRulesText.proved
/-- The tied card. -/
theorem fnExactRulesText_card : Rows.FnExactRulesTextCardSaid :=
  Claim7.holds_tied_plain_at .later [] [.data, .data, .data] true (true, "727c6bdfd3029a2b78d817d0b25c024e465daacb91b5dbe0dca022455f79ff50") true fnExactRulesText_holds (fun _ h => by cases h) (by kernel_rfl) (fun _ h => by cases h) fnExactRulesText_row_tie rfl ⟨rfl, rfl⟩ (by kernel_rfl) rfl
    (fun f fn hf hfn => ⟨by kernel_rfl, fun j t ht => by
      have e : Tryd.pinned.checked.prog.funcNamed Rows.fnExactRulesTextRow.func = some 5 := by kernel_rfl
      obtain rfl := Option.some.inj (e.symm.trans hf)
      obtain rfl : Tryd.f5 = fn := Option.some.inj (Tryd.func5.symm.trans hfn)
      rw [Tryd.params5] at ht
      match j, ht with
      | 0, ht => obtain rfl := Option.some.inj ht; show Tryd.pinned.checked.prog.wantsStandIn _ = false; kernel_rfl
      | j + 1, ht => simp at ht⟩) (by kernel_rfl)
#print axioms fnExactRulesText_card
end Go.Proofs.YtdfmobcocaijpaaDoor
