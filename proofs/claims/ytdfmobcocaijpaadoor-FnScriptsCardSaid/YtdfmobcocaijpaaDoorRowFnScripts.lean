/- The row of FnScripts: the statement, over the pure statement and the walk. No condition of its own. -/
import Derived.Test.YtdfmobcocaijpaaDoorRows
import Derived.Test.YtdfmobcocaijpaaDoorQFnScriptsx6
import Derived.Test.YtdfmobcocaijpaaDoorPureFnScripts
import Derived.WalkKit
import Derived.ProofKit
import Derived.OpenShut
import Derived.ShutString
import Derived.ChangeOld
import Derived.Below
import Derived.SizedLaws
import Derived.Test.YtdfmobcocaijpaaDoorCards
import Derived.Test.YtdfmobcocaijpaaDoorTie
import Derived.SevenTiedAt
import Derived.Lib.LaidIn
import Derived.Lib.LaidU8
import Derived.Lib.LaidTab
import Derived.LaidLaws
import Derived.Handed
import Derived.Test.YtdfmobcocaijpaaDoorVSized
namespace Go.Proofs.YtdfmobcocaijpaaDoor.fnScripts
open Go.ChangeShapes Go.WideShapes Go.ChangeAt Go.RowKit Go.Proofs.YtdfmobcocaijpaaDoor.QFnScripts
open Go.ChangeMaps (open_string shut_string)
set_option linter.unusedVariables false
theorem own : ownKnob Tryd.prog.godebug = none := by kernel_rfl
theorem laidOut : laidOutB Tryd.prog = true := by kernel_rfl
def IsRow (k : IntKind) (w : World) (a : Option Addr) (len cap : Nat) (zs : List Int) : Prop :=
  (a = none ∧ len = 0 ∧ cap = 0 ∧ zs = []) ∨
  ∃ x, a = some x ∧ len ≤ cap ∧ cap ≤ maxLen ∧ zs.length = cap ∧ (∀ i, i < zs.length → w.cell? (x.add i) = some (.int k (zs.getD i 0))) ∧ ∀ n ∈ zs, (Lit.int k n).wf = true
/-- The numbers of a datum that is a row of numbers. -/
def numsOf : DataW Unit → List Int
  | .agg l => l.map fun
    | .lit (.int _ z) => z
    | _ => 0
  | _ => []
/-- So many blocks has the settled world. -/
noncomputable def low : Nat := (World.holding Tryd.prog default ⟨#[], #[], []⟩).heap.size
/-- The settled world with the library's three tables and its two errors as their initialisers lay them. -/
noncomputable def laidWorld (os : Os) : World :=
  let w0 := World.holding Tryd.prog os ⟨#[.cells #[.string { data := #[105, 110, 118, 97, 108, 105, 100, 32, 115, 121, 110, 116, 97, 120] }] 120, .cells #[.string { data := #[118, 97, 108, 117, 101, 32, 111, 117, 116, 32, 111, 102, 32, 114, 97, 110, 103, 101] }] 120], #[], []⟩
  let put (h : Array Obj) (g : Nat) (cs : Array Value) : Array Obj := h.modify g fun
    | .cells _ t frozen => .cells cs t frozen
    | o => o
  { w0 with heap := put (put (put (put (put w0.heap 3 ((numsOf Rows.laid_internal_strconv_uint64pow10).map fun z => Value.int .u64 z).toArray) 4 ((numsOf Rows.laid_math_bits_deBruijn32tab).map fun z => Value.int .u8 z).toArray) 5 ((numsOf Rows.laid_math_bits_deBruijn64tab).map fun z => Value.int .u8 z).toArray) 0 #[.iface 118 (.pointer (some ⟨low, 0, none⟩))]) 1 #[.iface 118 (.pointer (some ⟨low + 1, 0, none⟩))] }
theorem laid_met (os : Os) (args : Array Value) : laidMet Tryd.prog Rows.fnScriptsRow.laid ((laidWorld os).forCall (fun _ _ => 0) ⟨#[], args, []⟩).memory :=
  (LaidIn.of_run (l := Rows.fnScriptsRow.laid) [4, 5, 3, 0, 1, low, low + 1] 8 (by kernel_rfl) (by kernel_rfl) (by kernel_rfl) (by kernel_rfl)).met
theorem laid_tab0 {W : World} (h : laidMet Tryd.prog Rows.fnScriptsRow.laid W) : Laid W := by
  obtain ⟨g, t, cs, fuel, p, hg, ht, hv, hd⟩ := Go.Lib.laidMet.reads h (n := "internal/strconv.uint64pow10") (d := Rows.laid_internal_strconv_uint64pow10) (.tail _ (.tail _ (.head _)))
  have hg3 : Tryd.prog.globalNamed "internal/strconv.uint64pow10" = some 3 := by kernel_rfl
  obtain rfl := Option.some.inj (hg3.symm.trans hg)
  have ht3 : (Tryd.prog.globals[3]?).map (·.type) = some 123 := by kernel_rfl
  obtain rfl := Option.some.inj (ht3.symm.trans ht)
  have hz : (Rows.laid_internal_strconv_uint64pow10 : DataW Unit) = Go.Lib.tabData .u64 Go.Lib.pow10Tab := by kernel_rfl
  rw [hz] at hd
  unfold Laid Go.Lib.TabIs
  rw [hv, ← Go.Lib.cells_of_tab (n := 20) Tryd.underlying123 (by kernel_rfl) (by kernel_rfl) (by kernel_rfl) hd]
theorem laid_err {W : World} {n : String} {g : Nat} {name : String} {x : DataW Unit} (h : laidMet Tryd.prog Rows.fnScriptsRow.laid W) (hm : (n, .iface name x) ∈ Rows.fnScriptsRow.laid) (hg : Tryd.prog.globalNamed n = some g) (ht : (Tryd.prog.globals[g]?).map (·.type) = some 67) : ∃ tp p, W.var? Tryd.prog n = some #[.iface tp p] := by
  obtain ⟨g1, t, cs, fuel, p, hg1, ht1, hv, hd⟩ := Go.Lib.laidMet.reads h hm
  obtain rfl := Option.some.inj (hg.symm.trans hg1)
  obtain rfl := Option.some.inj (ht.symm.trans ht1)
  obtain ⟨_, u, v, e, _, _⟩ := iface_of_trod Tryd.underlying67 hd
  exact ⟨u, v, by rw [hv, ← Array.toArray_toList (xs := cs), e]⟩
theorem laid_tab {W : World} (h : laidMet Tryd.prog Rows.fnScriptsRow.laid W) : LaidE W :=
  ⟨laid_tab0 h, laid_err h (.tail _ (.tail _ (.tail _ (.tail _ (.head _))))) (g := 0) (by kernel_rfl) (by kernel_rfl), laid_err h (.tail _ (.tail _ (.tail _ (.head _)))) (g := 1) (by kernel_rfl) (by kernel_rfl)⟩
set_option maxRecDepth 100000 in
theorem lifted (os : Os) (started : os.Started) (H : Type) (enc : TypeId × Value → H) :
    ReturnsInHanded {} Tryd.checked os 3 .any (fun w args => (Rows.fnScriptsSpec.pre enc Tryd.prog Tryd.f3 Rows.fnScriptsRow.domain false w args ∧ laidMet Tryd.prog Rows.fnScriptsRow.laid w) ∧ sizedMet enc Tryd.prog Tryd.f3 (OpenSpec.ofChange Rows.fnScriptsSpec) false w args) (Rows.fnScriptsSpec.post enc Tryd.prog Tryd.f3 false true false false) := by
  refine returnsInHanded_of_change_and (C := Tryd.checked) (X := fun w _ => laidMet Tryd.prog Rows.fnScriptsRow.laid w) (fun _ _ _ hh h => h.of_heap hh) own started (by kernel_rfl) Tryd.func3
    (ChangeSpec.witness_at (enc := enc) (C := Tryd.checked) (os := os) (X := fun w _ => laidMet Tryd.prog Rows.fnScriptsRow.laid w) false (laidWorld os) #[.slice none 0 0] 8 rfl (by kernel_rfl) (by kernel_rfl) (by kernel_rfl) (by kernel_rfl) (by kernel_rfl) (laid_met os _)) ?_
  intro W base args ds gs before hval0 hW hcnd hsz0 hL _
  have hsz : (DataW.weightsEach Tryd.prog (Tryd.f3.params.toList ++ Rows.fnScriptsSpec.plain.varTypes Tryd.prog) (ds ++ gs)).all (· ≤ reachBytes) = true := hsz0
  have hval : ∀ (j : Nat) t v, Tryd.f3.params[j]? = some t → args[j]? = some v → Value.okWide Tryd.prog W .any base t v := hval0
  have hW' := hW
  obtain ⟨p, q, hA0, hV, rfl, hfz, hnd⟩ := hW
  have hA : DataW.TrodAll enc Tryd.prog W 0 (fun _ => true) true Tryd.f3.params.toList args.toList ds p := hA0
  rw [Tryd.params3] at hA hval hsz
  obtain ⟨v0, vs0, d0, ds0, p0, q0, hargs, rfl, rfl, h0, r0⟩ := trodAll_cons hA
  obtain ⟨rfl, rfl, rfl⟩ := trodAll_nil r0
  obtain rfl : args = #[v0] := by cases args; simp_all
  obtain ⟨rfl, rfl⟩ := trodVars_none hV
  obtain ⟨a0, len0, cap0, rfl⟩ := okWide_slice Tryd.underlying22 (hval 0 22 v0 rfl rfl)
  have k0 := h0
  have lt0 : ∀ x ∈ p0, x.block < W.heap.size := by obtain ⟨m, hm⟩ := k0; exact DataW.trod_lt m _ _ _ hm
  obtain ⟨z0, w0⟩ : ∃ zs, IsRow .u8 W a0 len0 cap0 zs := by
    obtain ⟨fuel, hf⟩ := h0
    rcases open_ints Tryd.underlying22 Tryd.underlying5 (by kernel_rfl) hf with ⟨hcs, _⟩ | ⟨x, l, c, zs, hcs, _, hl, hm, hz, _, hcell, hwz⟩
    · simp [Value.cells] at hcs
      obtain ⟨rfl, rfl, rfl⟩ := hcs
      exact ⟨[], .inl ⟨rfl, rfl, rfl, rfl⟩⟩
    · simp [Value.cells] at hcs
      obtain ⟨rfl, rfl, rfl⟩ := hcs
      exact ⟨zs, .inr ⟨_, rfl, hl, hm, by simpa using hz, hcell, hwz⟩⟩
  have y0 : len0 * 1 ≤ 140737488351232 := PrintWords.sized_ints hsz (j := 0) (t := 22) rfl rfl Tryd.underlying22 Tryd.underlying5 (by kernel_rfl) (by kernel_rfl) h0
  clear hA0 hval0 hsz0 hsz
  refine (QFnScripts.laws_FnScripts.walk Pure.FnScripts a0 len0 cap0 z0 W (laid_tab hL) w0 y0).mono fun e W' ⟨he, bel⟩ => ?_
  subst he
  exact ⟨_, rfl, _, _, _, [], _, [], hW', trodAll_mk1 (shut_bool Tryd.underlying4 _), (trodAll_cons_mk (Below.trod laidOut (by kernel_rfl) (of_decide_eq_true (by kernel_rfl)) k0 bel lt0) trodAll_mk0), rfl, bel.frame _, fun h => by cases h⟩
theorem over : Rows.fnScriptsRow.holds Tryd.pinned (OpenSpec.ofChange Rows.fnScriptsSpec) :=
  OpenClaim.holds_of_wide 3 Tryd.f3 rfl rfl rfl rfl rfl rfl rfl ⟨rfl, rfl, rfl, rfl, rfl⟩ rfl rfl rfl rfl rfl (by kernel_rfl) Tryd.func3 (by kernel_rfl)
    (of_decide_eq_true (by kernel_rfl)) (by unfold Func.isWrapper; first | (rw [if_pos (by decide +kernel)]; kernel_rfl) | (rw [if_neg (by decide +kernel)]; exact ⟨rfl, rfl⟩))
    (fun os started H enc _ => lifted os started H enc)
theorem proved : Rows.FnScriptsSaid := over
end Go.Proofs.YtdfmobcocaijpaaDoor.fnScripts
namespace Go.Proofs.YtdfmobcocaijpaaDoor
/-- The row, under a short name, for the claim. -/
theorem fnScripts_holds : Rows.FnScriptsSaid := fnScripts.proved
/-- The tied card. -/
theorem fnScripts_card : Rows.FnScriptsCardSaid :=
  Claim7.holds_tied_plain_at .later [] [.data, .data, .data, .sentinel, .sentinel] true (true, "727c6bdfd3029a2b78d817d0b25c024e465daacb91b5dbe0dca022455f79ff50") true fnScripts_holds (fun _ h => by cases h) (by kernel_rfl) (fun _ h => by cases h) fnScripts_row_tie rfl ⟨rfl, rfl⟩ (by kernel_rfl) rfl
    (fun f fn hf hfn => ⟨by kernel_rfl, fun j t ht => by
      have e : Tryd.pinned.checked.prog.funcNamed Rows.fnScriptsRow.func = some 3 := by kernel_rfl
      obtain rfl := Option.some.inj (e.symm.trans hf)
      obtain rfl : Tryd.f3 = fn := Option.some.inj (Tryd.func3.symm.trans hfn)
      rw [Tryd.params3] at ht
      match j, ht with
      | 0, ht => obtain rfl := Option.some.inj ht; show Tryd.pinned.checked.prog.wantsStandIn _ = false; kernel_rfl
      | j + 1, ht => simp at ht⟩) (by kernel_rfl)
#print axioms fnScripts_card
end Go.Proofs.YtdfmobcocaijpaaDoor
