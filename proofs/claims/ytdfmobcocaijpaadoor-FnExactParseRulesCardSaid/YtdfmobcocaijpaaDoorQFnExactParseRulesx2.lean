/- What a call of each Go function that FnExactParseRules reaches comes to, as a Lean function: texts of the kit's print, turned by wip/remake.py. No condition beyond what each names. -/
import Derived.Test.YtdfmobcocaijpaaDoorQFnExactParseRulesx1
namespace Go.Proofs.YtdfmobcocaijpaaDoor.QFnExactParseRules
open Go.RowKit Go.Proofs.YtdfmobcocaijpaaDoorW.PrintWords Go.Proofs.YtdfmobcocaijpaaDoorW.PrintLast Go.Proofs.YtdfmobcocaijpaaDoorW.PrintMore
open Go.Proofs.YtdfmobcocaijpaaDoorW.PrintWords renaming blk_frozen → QB, pw_below_drewN → QC
open Go.Proofs.YtdfmobcocaijpaaDoorW.PrintWords.Aside0 renaming mk → QD
attribute [local go_sem] max2_int min2_int max_two min_two max_three min_three max_four min_four   -- for this text's walks alone
set_option linter.unusedVariables false
set_option linter.unusedSimpArgs false

/-! ### impl_ParseInt: function 26 -/
/-- The library's table, and its two errors as the start-up makes them. -/
def LaidE (w : World) : Prop := Laid w ∧ (∃ tp p, w.var? Tryd.prog "strconv.ErrSyntax" = some #[.iface tp p]) ∧ ∃ tp p, w.var? Tryd.prog "strconv.ErrRange" = some #[.iface tp p]
theorem LaidE.at {w w' : World} (h : LaidE w) (hb : Below w.heap.size w w') : LaidE w' := by
 have hv : ∀ (n : String) (x : Array Value), w.var? Tryd.prog n = some x → w'.var? Tryd.prog n = some x := by
  intro n x h
  unfold World.var? at h ⊢
  cases hg : Tryd.prog.globalNamed n with
  | none => rw [hg] at h; exact absurd h (by simp)
  | some g =>
   rw [hg] at h
   simp only [Option.bind_some] at h ⊢
   have hl : g < w.heap.size := by
    refine Nat.lt_of_not_le fun hle => ?_
    rw [Array.getElem?_eq_none hle] at h
    exact absurd h (by simp)
   rw [hb.block g hl]
   exact h
 obtain ⟨h1, ⟨t2, p2, h2⟩, ⟨t3, p3, h3⟩⟩ := h
 exact ⟨h1.at hb, ⟨t2, p2, hv _ _ h2⟩, ⟨t3, p3, hv _ _ h3⟩⟩
def impl_ParseInt.f (s : ByteArray) : Option (Int × Bool) :=
 if (s.size : Int) > 13 then some (0, false) else match Go.Lib.atoiAll s.data.toList with
  | .ok v => if 0 ≤ v ∧ v ≤ 1000000000000 ∧ (⟨(Go.Lib.itoa v).toArray⟩ : ByteArray).toList = s.toList then some (v, true) else some (0, false)
  | _ => some (0, false)
set_option maxHeartbeats 8000000 in
set_option maxRecDepth 100000 in
theorem impl_ParseInt.long (s : ByteArray) (w : World) (hl : (s.size : Int) > 13) :
  Calls Tryd.prog 26 #[.string s] w fun e w' => e = .returned (.tuple #[.int .i64 0, .bool false]) ∧ Below w.heap.size w w' := by
 have h0 : decide (13 < (s.size : Int)) = true := decide_eq_true hl
 have h1 : decide (13 < s.size) = true := decide_eq_true (by omega)
 clear hl
 go_enter Tryd.func26, Tryd.ntmps26
 go_wp2
 refine bodyPost_ret (results_tmp2 rfl _ _ _) rfl ?_
 exact ⟨rfl, Below.refl _ _⟩
set_option maxHeartbeats 8000000 in
set_option maxRecDepth 100000 in
theorem impl_ParseInt.no (s : ByteArray) (w : World) (ht : LaidE w) (hl : ¬ (s.size : Int) > 13) (ha : ∀ v, Go.Lib.atoiAll s.data.toList ≠ .ok v) :
  Calls Tryd.prog 26 #[.string s] w fun e w' => e = .returned (.tuple #[.int .i64 0, .bool false]) ∧ Below w.heap.size w w' := by
 have h0 : decide (13 < (s.size : Int)) = false := decide_eq_false hl
 have h1 : decide (13 < s.size) = false := decide_eq_false (by omega)
 have HS : Aside0 (s.size ≤ 281474976710656) := ⟨by omega⟩
 have HT := QD ht
 clear hl ht
 cases hc : Go.Lib.atoiAll s.data.toList with
 | ok v => exact absurd hc (ha v)
 | _ =>
  have HC := QD hc
  clear hc ha
  go_enter Tryd.func26, Tryd.ntmps26
  go_wp2_with (fail)
  first
   | (obtain ⟨tp, p, hv⟩ := HT.out.2.1; refine (Go.Proofs.Tryd.strconv_Atoi_syntax_var s HS.out HC.out tp p _ hv).mono ?_)
   | (obtain ⟨tp, p, hv⟩ := HT.out.2.2; refine (Go.Proofs.Tryd.strconv_Atoi_range_var s HS.out HC.out tp p _ hv).mono ?_)
  rintro e w1 ⟨N, rfl, _, _, hb⟩
  have HB := QD hb
  clear hv hb
  go_wp2
  refine bodyPost_ret (results_tmp2 rfl _ _ _) rfl ?_
  exact ⟨rfl, HB.out⟩
set_option maxHeartbeats 8000000 in
set_option maxRecDepth 100000 in
theorem impl_ParseInt.out (s : ByteArray) (v : Int) (w : World) (hl : ¬ (s.size : Int) > 13) (ha : Go.Lib.atoiAll s.data.toList = .ok v) (hr : ¬ (0 ≤ v ∧ v ≤ 1000000000000)) :
  Calls Tryd.prog 26 #[.string s] w fun e w' => e = .returned (.tuple #[.int .i64 0, .bool false]) ∧ Below w.heap.size w w' := by
 have h0 : decide (13 < (s.size : Int)) = false := decide_eq_false hl
 have h1 : decide (13 < s.size) = false := decide_eq_false (by omega)
 have HS : Aside0 (s.size ≤ 9223372036854775806) := ⟨by omega⟩
 have HA := QD ha
 have HF : Aside0 (impl_InRange.f v 0 1000000000000 = some false) := ⟨by unfold impl_InRange.f; by_cases h : v ≥ 0 <;> simp [h] <;> omega⟩
 clear hl ha hr
 go_enter Tryd.func26, Tryd.ntmps26
 go_wp2_with (fail)
 refine (Go.Proofs.Tryd.strconv_Atoi_ok s HS.out v HA.out _).mono ?_
 rintro e w1 ⟨rfl, hw⟩
 have HB : Aside0 (Below w.heap.size w w1) := ⟨hw.elim (fun e => e ▸ Below.refl _ _) (fun ⟨_, e⟩ => e ▸ Go.Lib.bytesWorld_below _ _ _)⟩
 clear hw
 go_wp2_with (fail)
 refine (impl_InRange.calls v 0 1000000000000 false _ HF.out).mono ?_
 rintro e w2 ⟨rfl, nd, rfl⟩
 go_wp2
 refine bodyPost_ret (results_tmp2 rfl _ _ _) rfl ?_
 exact ⟨rfl, QC HB.out _⟩
set_option maxHeartbeats 8000000 in
set_option maxRecDepth 100000 in
theorem impl_ParseInt.in_ (s : ByteArray) (v : Int) (t : ByteArray) (b : Bool) (w : World) (ht : Laid w) (hl : ¬ (s.size : Int) > 13) (ha : Go.Lib.atoiAll s.data.toList = .ok v) (hr : 0 ≤ v ∧ v ≤ 1000000000000) (hf : impl_FormatInt.f v = some t) (hb : (t.toList == s.toList) = b) :
  Calls Tryd.prog 26 #[.string s] w fun e w' => e = .returned (.tuple #[.int .i64 (if b then v else 0), .bool b]) ∧ Below w.heap.size w w' := by
 have h0 : decide (13 < (s.size : Int)) = false := decide_eq_false hl
 have h1 : decide (13 < s.size) = false := decide_eq_false (by omega)
 have HS : Aside0 (s.size ≤ 9223372036854775806) := ⟨by omega⟩
 have HA := QD ha
 have HT := QD ht
 have HN := QD hf
 have HF : Aside0 (impl_InRange.f v 0 1000000000000 = some true) := ⟨by unfold impl_InRange.f; rw [if_pos hr.1, decide_eq_true hr.2]⟩
 clear hl ha hr ht hf
 cases b
 all_goals
  have hb2 : (t.toList != s.toList) = _ := congrArg (fun x => !x) hb
  simp only [Bool.not_false, Bool.not_true] at hb2
  go_enter Tryd.func26, Tryd.ntmps26
  go_wp2_with (fail)
  refine (Go.Proofs.Tryd.strconv_Atoi_ok s HS.out v HA.out _).mono ?_
  rintro e w1 ⟨rfl, hw⟩
  have HB : Aside0 (Below w.heap.size w w1) := ⟨hw.elim (fun e => e ▸ Below.refl _ _) (fun ⟨_, e⟩ => e ▸ Go.Lib.bytesWorld_below _ _ _)⟩
  clear hw
  go_wp2_with (fail)
  refine (impl_InRange.calls v 0 1000000000000 true _ HF.out).mono ?_
  rintro e w2 ⟨rfl, nd, rfl⟩
  have HB2 := QD (QC HB.out nd)
  go_wp2_with (fail)
  refine (impl_FormatInt.calls v t _ (HT.out.at HB2.out) HN.out).mono ?_
  rintro e w3 ⟨rfl, hb3⟩
  have HB3 := QD (below_step HB2.out hb3)
  clear hb3
  go_wp2
  refine bodyPost_ret (results_tmp2 rfl _ _ _) rfl ?_
  exact ⟨by first | rfl | (simp only [Bool.false_eq_true, ↓reduceIte]; rfl), HB3.out⟩
theorem impl_ParseInt.calls (a0 : ByteArray) (r1 : Int) (r2 : Bool) (w : World) (ht : LaidE w) (h : impl_ParseInt.f a0 = some (r1, r2)) :
  Calls Tryd.prog 26 #[.string a0] w fun e w' => e = .returned (.tuple #[.int .i64 r1, .bool r2]) ∧ Below w.heap.size w w' := by
 unfold impl_ParseInt.f at h
 by_cases hl : (a0.size : Int) > 13
 ·rw [if_pos hl] at h
  obtain ⟨rfl, rfl⟩ := Prod.mk.inj (Option.some.inj h)
  exact impl_ParseInt.long a0 w hl
 rw [if_neg hl] at h
 cases ha : Go.Lib.atoiAll a0.data.toList with
 | ok v =>
  rw [ha] at h
  simp only at h
  by_cases hr : 0 ≤ v ∧ v ≤ 1000000000000
  ·have hf : impl_FormatInt.f v = some ⟨(Go.Lib.itoa v).toArray⟩ := by unfold impl_FormatInt.f; rw [if_pos ⟨by omega, by omega⟩]
   by_cases hc : (⟨(Go.Lib.itoa v).toArray⟩ : ByteArray).toList = a0.toList
   ·rw [if_pos ⟨hr.1, hr.2, hc⟩] at h
    obtain ⟨rfl, rfl⟩ := Prod.mk.inj (Option.some.inj h)
    exact impl_ParseInt.in_ a0 _ _ true w ht.1 hl ha hr hf (beq_iff_eq.mpr hc)
   ·rw [if_neg (fun c => hc c.2.2)] at h
    obtain ⟨rfl, rfl⟩ := Prod.mk.inj (Option.some.inj h)
    exact impl_ParseInt.in_ a0 v _ false w ht.1 hl ha hr hf (beq_eq_false_iff_ne.mpr hc)
  ·rw [if_neg (fun c => hr ⟨c.1, c.2.1⟩)] at h
   obtain ⟨rfl, rfl⟩ := Prod.mk.inj (Option.some.inj h)
   exact impl_ParseInt.out a0 v w hl ha hr
 | _ =>
  rw [ha] at h
  obtain ⟨rfl, rfl⟩ := Prod.mk.inj (Option.some.inj h)
  exact impl_ParseInt.no a0 w ht hl (fun v e => by rw [ha] at e; cases e)

/-! ### impl_ParsePattern: function 27 -/
/-- The reader of patterns at block g: its text, its place, what it has read, in memory of its own. -/
def Note (w0 W : World) (g : Nat) (s : ByteArray) (at_ : Int) (out : List Int) : Prop := ∃ A c, W.heap[g]? = some (.cells #[.string s, .int .i64 at_, .slice A out.length c] 72 (0, 0)) ∧ Kd.R (Kd.int .i64) 3 W w0.heap.size (fun k => k ≠ g) (.slice A out.length c) out
theorem Note.drewN {w0 W : World} {g : Nat} {s : ByteArray} {at_ : Int} {out : List Int} (h : Note w0 W g s at_ out) (n : Nat) : Note w0 (W.drewN n) g s at_ out := h
theorem Note.set1 {w0 W : World} {g : Nat} {s : ByteArray} {at_ : Int} {out : List Int} (h : Note w0 W g s at_ out) (x : Int) : Note w0 (W.setCell ⟨g, 1, none⟩ (.int .i64 x)) g s x out := by
 obtain ⟨A, c, hb, hr⟩ := h
 exact ⟨A, c, by simpa using blk_set hb 1 (.int .i64 x), Kd.R_far hr (fun k hk => hk) _⟩
theorem Note.set2 {w0 W W1 : World} {g : Nat} {s : ByteArray} {at_ : Int} {out out1 : List Int} {A : Option Addr} {c : Nat} {v : Value} {row : Option Nat} (hb : W.heap[g]? = some (.cells #[.string s, .int .i64 at_, .slice A out.length c] 72 (0, 0))) (hw : W.grownBy W1 row) (hne : ∀ k, row = some k → k ≠ g) (h : Kd.R (Kd.int .i64) 3 W1 w0.heap.size (fun k => k ≠ g) v out1) : Note w0 (W1.setCell ⟨g, 2, none⟩ v) g s at_ out1 := by
 obtain ⟨A1, c1, rfl⟩ := Kd.R_slice h
 refine ⟨A1, c1, ?_, Kd.R_far h (fun k hk => hk) _⟩
 have := blk_set (blk_grown hb hw (fun e => hne g e.symm rfl)) 2 (.slice A1 out1.length c1)
 simpa using this
theorem note_cell {W : World} {g : Nat} {s : ByteArray} {at_ : Int} {out : List Int} {A : Option Addr} {c : Nat} (h : W.heap[g]? = some (.cells #[.string s, .int .i64 at_, .slice A out.length c] 72 (0, 0))) : W.cell? ⟨g, 0, none⟩ = some (.string s) ∧ W.cell? ⟨g, 1, none⟩ = some (.int .i64 at_) ∧ W.cell? ⟨g, 2, none⟩ = some (.slice A out.length c) := ⟨(blk_cell h 0).trans rfl, (blk_cell h 1).trans rfl, (blk_cell h 2).trans rfl⟩
/-- The byte at the place; 0 at the end. -/
def noteB (s : ByteArray) (x : Int) : Int := if x < (s.size : Int) then bt s x else 0
set_option maxHeartbeats 8000000 in
set_option maxRecDepth 100000 in
theorem note_next (g : Nat) (s : ByteArray) (at_ : Int) (out : List Int) (w0 w : World) (h : Note w0 w g s at_ out) (hp : 0 ≤ at_) :
  Calls Tryd.prog 72 #[.pointer (some ⟨g, 0, none⟩)] w fun e w' => e = .returned (.int .u8 (noteB s at_)) ∧ ∃ n, w' = w.drewN n := by
 obtain ⟨A, c, hb, hr⟩ := h
 obtain ⟨hc0, hc1, hc2⟩ := note_cell hb
 have hf0 := QB hb 0
 have hf1 := QB hb 1
 clear hb hr
 have p4 : 0 ≤ at_ := hp
 by_cases q4 : at_ < (s.size : Int)
 ·have c2b0 : decide (at_ < (s.size : Int)) = true := decide_eq_true q4
  have e : noteB s at_ = bt s at_ := if_pos q4
  rw [e]
  clear e hp
  have hx4 := bt_at s at_
  replace p4 := eq_true p4
  replace q4 := eq_true q4
  go_enter Tryd.func72, Tryd.ntmps72
  go_wp2
  repeat (go_quiet (fail); try go_wp2)
  go_ret
  exact ⟨rfl, _, by first | rfl | exact World.drewN_drewN _ _ _⟩
 ·have c2b0 : decide (at_ < (s.size : Int)) = false := decide_eq_false q4
  have e : noteB s at_ = 0 := if_neg q4
  rw [e]
  clear e hp q4
  go_enter Tryd.func72, Tryd.ntmps72
  go_wp2
  repeat (go_quiet (fail); try go_wp2)
  go_ret
  exact ⟨rfl, _, by first | rfl | exact World.drewN_drewN _ _ _⟩
abbrev NoteR := Bool × Int × List Int
/-- What two patterns behind a bracket come to, over what one comes to. -/
def pairM (rd : Int → List Int → Option NoteR) (s : ByteArray) (x : Int) (o : List Int) : Option NoteR :=
 (rd x o).bind fun r => if r.1 = true then
  (if 0 ≤ r.2.1 ∧ r.2.1 ≤ 1000000 then
   (if noteB s r.2.1 = 38 ∨ noteB s r.2.1 = 124 then (rd (r.2.1 + 1) r.2.2).bind fun q => if q.1 = true then
     (if 0 ≤ q.2.1 ∧ q.2.1 ≤ 1000000 ∧ q.2.2.length ≤ 1000000 then
      (if noteB s q.2.1 = 41 then some (true, q.2.1 + 1, q.2.2 ++ [if noteB s r.2.1 = 38 then -2 else -3]) else some (false, q.2.1, q.2.2)) else none)
    else some (false, q.2.1, q.2.2)
   else some (false, r.2.1, r.2.2)) else none)
 else some (false, r.2.1, r.2.2)
/-- A call of read or pair at block g. -/
def NoteCalls (f : FuncId) (w0 : World) (g : Nat) (s : ByteArray) (x : Int) (o : List Int) (r : NoteR) : Prop := ∀ w, Note w0 w g s x o → Below w0.heap.size w0 w → w0.heap.size ≤ g →
 Calls Tryd.prog f #[.pointer (some ⟨g, 0, none⟩)] w fun e w' => e = .returned (.bool r.1) ∧ Note w0 w' g s r.2.1 r.2.2 ∧ Below w0.heap.size w0 w'
theorem wrap_small (x : Int) (h0 : 0 ≤ x) (h1 : x ≤ 1000000) : wrap64 (x + 1) = x + 1 := by unfold wrap64; omega
set_option maxHeartbeats 8000000 in
set_option maxRecDepth 100000 in
theorem note_pair (w0 : World) (g : Nat) (s : ByteArray) (rd : Int → List Int → Option NoteR) (hrd : ∀ x o r, rd x o = some r → NoteCalls 54 w0 g s x o r) (x : Int) (o : List Int) (r : NoteR) (h : pairM rd s x o = some r) : NoteCalls 73 w0 g s x o r := by
 intro w hN hB hg
 unfold pairM at h
 obtain ⟨⟨b1, x1, o1⟩, h1, h⟩ := Option.bind_eq_some_iff.mp h
 have HC1 := QD (hrd _ _ _ h1)
 have HN := QD hN
 have HB := QD hB
 have HG := QD hg
 clear h1 hN hB hg
 simp only at h
 cases b1
 ·obtain rfl := Option.some.inj h
  clear hrd h
  go_enter Tryd.func73, Tryd.ntmps73
  go_wp2_with (fail)
  refine (HC1.out _ HN.out HB.out HG.out).mono ?_
  rintro e w1 ⟨rfl, hn1, hb1⟩
  have HN1 := QD hn1
  have HB1 := QD hb1
  clear hn1 hb1
  go_wp2
  go_ret
  exact ⟨rfl, HN1.out, HB1.out⟩
 rw [if_pos rfl] at h
 by_cases hx1 : 0 ≤ x1 ∧ x1 ≤ 1000000
 case neg => rw [if_neg hx1] at h; exact absurd h (by simp)
 rw [if_pos hx1] at h
 have hw1 : wrap64 (x1 + 1) = x1 + 1 := wrap_small x1 hx1.1 hx1.2
 by_cases hd : noteB s x1 = 38 ∨ noteB s x1 = 124
 case neg =>
  rw [if_neg hd] at h
  obtain rfl := Option.some.inj h
  have d1 : (noteB s x1 == 38) = false := beq_eq_false_iff_ne.mpr (fun e => hd (.inl e))
  have d2 : (noteB s x1 == 124) = false := beq_eq_false_iff_ne.mpr (fun e => hd (.inr e))
  have HX := QD hx1.1
  clear hrd h hd hx1 hw1
  go_enter Tryd.func73, Tryd.ntmps73
  go_wp2_with (fail)
  refine (HC1.out _ HN.out HB.out HG.out).mono ?_
  rintro e w1 ⟨rfl, hn1, hb1⟩
  have HN1 := QD hn1
  have HB1 := QD hb1
  clear hn1 hb1
  go_wp2_with (fail)
  refine (note_next g s x1 o1 w0 _ HN1.out HX.out).mono ?_
  rintro e w2 ⟨rfl, n2, rfl⟩
  go_wp2
  go_ret
  exact ⟨rfl, HN1.out.drewN _, QC HB1.out _⟩
 rw [if_pos hd] at h
 obtain ⟨⟨b2, x2, o2⟩, h2, h⟩ := Option.bind_eq_some_iff.mp h
 have HC2 := QD (hrd _ _ _ h2)
 clear h2 hrd
 simp only at h
 have HX := QD hx1.1
 clear hx1
 -- what follows, for either sign
 have key : ∀ (d1 : Bool) (hd1 : (noteB s x1 == 38) = d1) (hd2 : d1 = false → (noteB s x1 == 124) = true), Calls Tryd.prog 73 #[.pointer (some ⟨g, 0, none⟩)] w fun e w' => e = .returned (.bool r.1) ∧ Note w0 w' g s r.2.1 r.2.2 ∧ Below w0.heap.size w0 w' := by
  intro d1 hd1 hd2
  have hsg : (if noteB s x1 = 38 then (-2 : Int) else -3) = if d1 then -2 else -3 := by
   cases d1
   ·rw [if_neg (beq_eq_false_iff_ne.mp hd1)]; rfl
   ·rw [if_pos (beq_iff_eq.mp hd1)]; rfl
  rw [hsg] at h
  clear hsg hd
  have HH := QD h
  clear h
  cases d1
  all_goals
   have hd3 := hd2
   try have hd3 := hd2 rfl
   clear hd2
   go_enter Tryd.func73, Tryd.ntmps73
   go_wp2_with (fail)
   refine (HC1.out _ HN.out HB.out HG.out).mono ?_
   rintro e w1 ⟨rfl, hn1, hb1⟩
   have HN1 := QD hn1
   have HB1 := QD hb1
   clear hn1 hb1
   go_wp2_with (fail)
   refine (note_next g s x1 o1 w0 _ HN1.out HX.out).mono ?_
   rintro e w2 ⟨rfl, n2, rfl⟩
   have HN2 := QD (HN1.out.drewN n2)
   have HB2 := QD (QC HB1.out n2)
   clear HN1 HB1
   generalize w1.drewN n2 = w2 at *
   obtain ⟨A, c, hb, hr⟩ := HN2.out
   obtain ⟨hc0, hc1, hc2⟩ := note_cell hb
   have hf1 := QB hb 1
   clear hb hr
   go_wp2_with (fail)
   rw [hw1]
   have HN3 := QD ((HN2.out.drewN 0).set1 (x1 + 1))
   have HB3 := QD (below_set (QC HB2.out 0) HG.out (j := 1) (v := .int .i64 (x1 + 1)))
   clear hc0 hc1 hc2 hf1
   refine (HC2.out _ HN3.out HB3.out HG.out).mono ?_
   rintro e w4 ⟨rfl, hn4, hb4⟩
   have HN4 := QD hn4
   have HB4 := QD hb4
   clear hn4 hb4 HC1 HC2 HN HB HN2 HB2 HN3 HB3
   have h := HH.out
   clear HH
   cases b2
   ·obtain rfl := Option.some.inj h
    clear h
    go_wp2
    go_ret
    exact ⟨rfl, HN4.out.drewN 0, QC HB4.out 0⟩
   rw [if_pos rfl] at h
   by_cases hx2 : 0 ≤ x2 ∧ x2 ≤ 1000000 ∧ o2.length ≤ 1000000
   case neg => rw [if_neg hx2] at h; exact absurd h (by simp)
   rw [if_pos hx2] at h
   have hw2 : wrap64 (x2 + 1) = x2 + 1 := wrap_small x2 hx2.1 hx2.2.1
   have HX2 := QD hx2.1
   have HL2 := QD hx2.2.2
   clear hx2
   by_cases hq : noteB s x2 = 41
   case neg =>
    rw [if_neg hq] at h
    obtain rfl := Option.some.inj h
    have q1 : (noteB s x2 != 41) = true := bne_iff_ne.mpr hq
    have q2 : (noteB s x2 == 41) = false := beq_eq_false_iff_ne.mpr hq
    clear h hq
    go_wp2_with (fail)
    refine (note_next g s x2 o2 w0 _ HN4.out HX2.out).mono ?_
    rintro e w5 ⟨rfl, n5, rfl⟩
    go_wp2
    go_ret
    exact ⟨rfl, HN4.out.drewN _, QC HB4.out _⟩
   rw [if_pos hq] at h
   obtain rfl := Option.some.inj h
   have q1 : (noteB s x2 != 41) = false := bne_eq_false_iff_eq.mpr hq
   have q2 : (noteB s x2 == 41) = true := beq_iff_eq.mpr hq
   clear h hq
   go_wp2_with (fail)
   refine (note_next g s x2 o2 w0 _ HN4.out HX2.out).mono ?_
   rintro e w5 ⟨rfl, n5, rfl⟩
   have HN5 := QD (HN4.out.drewN n5)
   have HB5 := QD (QC HB4.out n5)
   clear HN4 HB4
   generalize w4.drewN n5 = w5 at *
   obtain ⟨A5, c5, hb5, hr5⟩ := HN5.out
   obtain ⟨hc50, hc51, hc52⟩ := note_cell hb5
   have hf51 := QB hb5 1
   have HB6 := QD (by simpa using blk_set hb5 1 (.int .i64 (x2 + 1)) : (w5.setCell ⟨g, 1, none⟩ (.int .i64 (x2 + 1))).heap[g]? = some (.cells #[.string s, .int .i64 (x2 + 1), .slice A5 o2.length c5] 72 (0, 0)))
   have HR6 := QD (Kd.R_far (p := ⟨g, 1, none⟩) hr5 (fun k hk => hk) (.int .i64 (x2 + 1)))
   have HW6 := QD (below_set (j := 1) (v := .int .i64 (x2 + 1)) HB5.out HG.out)
   clear hb5 hr5
   go_wp2_with (first | ((with_reducible refine gate_builtin (b := .append) (xs := #[.tmp 39, .tmp 41]) rfl ?_); at_builtin; refine Kd.R_append (Kd.int .i64) (w0 := w0) w0.heap.size rfl (.tmp 39) (.tmp 41) 24 3 (.int .i64 0) 8 rfl Tryd.underlying24 info3 rfl (by decide) (by omega) (.slice A5 o2.length c5) o2 (-2) [.int .i64 (-2)] (fun k => k ≠ g) (fun _ => False) rfl (by first | rfl | exact congrArg (fun n => Value.slice (some ⟨n, 0, none⟩) 1 1) (World.size_setCell _ _ _).symm) ?aP (fun _ hk => hk.elim) ?aF ?aO ?aB ?aS ?aL ?_; (case aP => exact rfl); (case aB => exact HW6.out); (case aF => exact Kd.freshB HB6.out); (case aO => exact HR6.out); (case aS => exact below_size HW6.out); (case aL => have := HL2.out; omega); intro v7 w7 ho hb hg hat; obtain ⟨A7, c7, rfl⟩ := Kd.R_slice ho; have hb7 := blk_grown HB6.out hg (fun e => HR6.out.1 g e.symm rfl); have hc72 := (note_cell hb7).2.2; have hf72 := QB hb7 2; have HN7 := QD (Note.set2 (w0 := w0) HB6.out hg HR6.out.1 ho); have HB7 := QD (fun v : Value => below_set (j := 2) (v := v) hb HG.out); clear hb7 hb hg hat ho HB6 HR6 HW6 HB5 HN5 hc50 hc51 hc52 hf51) | ((with_reducible refine gate_builtin (b := .append) (xs := #[.tmp 39, .tmp 41]) rfl ?_); at_builtin; refine Kd.R_append (Kd.int .i64) (w0 := w0) w0.heap.size rfl (.tmp 39) (.tmp 41) 24 3 (.int .i64 0) 8 rfl Tryd.underlying24 info3 rfl (by decide) (by omega) (.slice A5 o2.length c5) o2 (-3) [.int .i64 (-3)] (fun k => k ≠ g) (fun _ => False) rfl (by first | rfl | exact congrArg (fun n => Value.slice (some ⟨n, 0, none⟩) 1 1) (World.size_setCell _ _ _).symm) ?aP (fun _ hk => hk.elim) ?aF ?aO ?aB ?aS ?aL ?_; (case aP => exact rfl); (case aB => exact HW6.out); (case aF => exact Kd.freshB HB6.out); (case aO => exact HR6.out); (case aS => exact below_size HW6.out); (case aL => have := HL2.out; omega); intro v7 w7 ho hb hg hat; obtain ⟨A7, c7, rfl⟩ := Kd.R_slice ho; have hb7 := blk_grown HB6.out hg (fun e => HR6.out.1 g e.symm rfl); have hc72 := (note_cell hb7).2.2; have hf72 := QB hb7 2; have HN7 := QD (Note.set2 (w0 := w0) HB6.out hg HR6.out.1 ho); have HB7 := QD (fun v : Value => below_set (j := 2) (v := v) hb HG.out); clear hb7 hb hg hat ho HB6 HR6 HW6 HB5 HN5 hc50 hc51 hc52 hf51))
   go_ret
   exact ⟨rfl, by simpa only [List.length_append, List.length_cons, List.length_nil, Nat.zero_add] using HN7.out, HB7.out _⟩
 by_cases hd1 : noteB s x1 = 38
 ·exact key true (beq_iff_eq.mpr hd1) (fun e => by cases e)
 ·exact key false (beq_eq_false_iff_ne.mpr hd1) (fun _ => beq_iff_eq.mpr (hd.resolve_left hd1))
/-- The place of a byte among the letters of the suits, of the ranks. -/
def suitI (b : Int) : Int := Go.Lib.indexByte [99, 100, 104, 115] b.toNat.toUInt8
def rankI (b : Int) : Int := Go.Lib.indexByte [50, 51, 52, 53, 54, 55, 56, 57, 84, 74, 81, 75, 65] b.toNat.toUInt8
/-- What a pattern comes to: whether there is one, the place behind it, the signs. -/
def readM : Nat → ByteArray → Int → List Int → Option NoteR
 | 0, _, _, _ => none
 | k + 1, s, x, o => if 0 ≤ x ∧ x ≤ 1000 ∧ o.length ≤ 1000000 then
   (if noteB s x = 0 then some (false, x + 1, o)
   else if noteB s x = 33 then (readM k s (x + 1) o).bind fun r => if r.1 = true then (if r.2.2.length ≤ 1000000 then some (true, r.2.1, r.2.2 ++ [-1]) else none) else some (false, r.2.1, r.2.2)
   else if noteB s x = 40 then pairM (readM k s) s (x + 1) o
   else if noteB s x = 114 then some (true, x + 1, o ++ [400])
   else if 0 ≤ suitI (noteB s x) then some (true, x + 1, o ++ [wrap64 (100 + suitI (noteB s x))])
   else if rankI (noteB s x) < 0 then some (false, x + 1, o)
   else if noteB s (x + 1) = 43 then some (true, x + 1 + 1, o ++ [wrap64 (300 + rankI (noteB s x))])
   else some (true, x + 1, o ++ [wrap64 (200 + rankI (noteB s x))])) else none
theorem suit_at (b : Int) (w : World) : Calls Tryd.prog 74 #[.string ⟨#[99, 100, 104, 115]⟩, .int .u8 b] w fun e w' => e = .returned (.int .i64 (suitI b)) ∧ w' = w := Go.Proofs.Tryd.strings_IndexByte _ b w
theorem rank_at (b : Int) (w : World) : Calls Tryd.prog 74 #[.string ⟨#[50, 51, 52, 53, 54, 55, 56, 57, 84, 74, 81, 75, 65]⟩, .int .u8 b] w fun e w' => e = .returned (.int .i64 (rankI b)) ∧ w' = w := Go.Proofs.Tryd.strings_IndexByte _ b w
set_option maxHeartbeats 8000000 in
set_option maxRecDepth 100000 in
theorem note_read (w0 : World) (g : Nat) (s : ByteArray) : ∀ (k : Nat) (x : Int) (o : List Int) (r : NoteR), readM k s x o = some r → NoteCalls 54 w0 g s x o r := by
 intro k
 induction k with
 | zero => intro x o r h; exact absurd h (by simp [readM])
 | succ k ih =>
  intro x o r h w hN hB hg
  unfold readM at h
  by_cases hx : 0 ≤ x ∧ x ≤ 1000 ∧ o.length ≤ 1000000
  case neg => rw [if_neg hx] at h; exact absurd h (by simp)
  rw [if_pos hx] at h
  have hw1 : wrap64 (x + 1) = x + 1 := wrap_small x hx.1 (by omega)
  have hw2 : wrap64 (x + 1 + 1) = x + 1 + 1 := wrap_small (x + 1) (by omega) (by omega)
  have HX := QD hx.1
  have HX1 : Aside0 (0 ≤ x + 1) := ⟨by omega⟩
  have HL := QD hx.2.2
  have HN := QD hN
  have HB := QD hB
  have HG := QD hg
  have IH := QD ih
  clear hN hB hg hx ih
  by_cases e0 : noteB s x = 0
  ·rw [if_pos e0] at h
   obtain rfl := Option.some.inj h
   have b0 : (noteB s x == 0) = true := beq_iff_eq.mpr e0
   clear h IH e0
   go_enter Tryd.func54, Tryd.ntmps54
   go_wp2_with (fail)
   refine (note_next g s x o w0 _ HN.out HX.out).mono ?_
   rintro e w1 ⟨rfl, n1, rfl⟩
   have HN1 := QD (HN.out.drewN n1)
   have HB1 := QD (QC HB.out n1)
   clear HN HB
   generalize w.drewN n1 = w1 at *
   obtain ⟨A, c, hb, hr⟩ := HN1.out
   obtain ⟨hc0, hc1, hc2⟩ := note_cell hb
   have hf1 := QB hb 1
   have hf2 := QB hb 2
   have HN2 := QD (HN1.out.set1 (x + 1))
   have HB2 := QD (below_set (j := 1) (v := .int .i64 (x + 1)) HB1.out HG.out)
   have HB6 := QD (by simpa using blk_set hb 1 (.int .i64 (x + 1)) : (w1.setCell ⟨g, 1, none⟩ (.int .i64 (x + 1))).heap[g]? = some (.cells #[.string s, .int .i64 (x + 1), .slice A o.length c] 72 (0, 0)))
   have HR6 := QD (Kd.R_far (p := ⟨g, 1, none⟩) hr (fun k hk => hk) (.int .i64 (x + 1)))
   have HW6 := HB2
   have HL6 := HL
   clear hb hr HN1 HB1
   go_wp2
   go_ret
   exact ⟨rfl, HN2.out, HB2.out⟩
  rw [if_neg e0] at h
  by_cases e33 : noteB s x = 33
  ·rw [if_pos e33] at h
   obtain ⟨⟨b1, x1, o1⟩, h1, h⟩ := Option.bind_eq_some_iff.mp h
   have HC := QD (IH.out _ _ _ h1)
   simp only at h
   have b0 : (noteB s x == 0) = false := beq_eq_false_iff_ne.mpr e0
   have b33 : (noteB s x == 33) = true := beq_iff_eq.mpr e33
   clear h1 IH e0 e33
   cases b1
   ·obtain rfl := Option.some.inj h
    clear h
    go_enter Tryd.func54, Tryd.ntmps54
    go_wp2_with (fail)
    refine (note_next g s x o w0 _ HN.out HX.out).mono ?_
    rintro e w1 ⟨rfl, n1, rfl⟩
    have HN1 := QD (HN.out.drewN n1)
    have HB1 := QD (QC HB.out n1)
    clear HN HB
    generalize w.drewN n1 = w1 at *
    obtain ⟨A, c, hb, hr⟩ := HN1.out
    obtain ⟨hc0, hc1, hc2⟩ := note_cell hb
    have hf1 := QB hb 1
    have hf2 := QB hb 2
    have HN2 := QD (HN1.out.set1 (x + 1))
    have HB2 := QD (below_set (j := 1) (v := .int .i64 (x + 1)) HB1.out HG.out)
    have HB6 := QD (by simpa using blk_set hb 1 (.int .i64 (x + 1)) : (w1.setCell ⟨g, 1, none⟩ (.int .i64 (x + 1))).heap[g]? = some (.cells #[.string s, .int .i64 (x + 1), .slice A o.length c] 72 (0, 0)))
    have HR6 := QD (Kd.R_far (p := ⟨g, 1, none⟩) hr (fun k hk => hk) (.int .i64 (x + 1)))
    have HW6 := HB2
    have HL6 := HL
    clear hb hr HN1 HB1
    go_wp2_with (fail)
    refine (HC.out _ HN2.out HB2.out HG.out).mono ?_
    rintro e w3 ⟨rfl, hn3, hb3⟩
    have HN3 := QD hn3
    have HB3 := QD hb3
    clear hn3 hb3
    go_wp2
    go_ret
    exact ⟨rfl, HN3.out, HB3.out⟩
   rw [if_pos rfl] at h
   by_cases hl : o1.length ≤ 1000000
   case neg => rw [if_neg hl] at h; exact absurd h (by simp)
   rw [if_pos hl] at h
   obtain rfl := Option.some.inj h
   clear h
   go_enter Tryd.func54, Tryd.ntmps54
   go_wp2_with (fail)
   refine (note_next g s x o w0 _ HN.out HX.out).mono ?_
   rintro e w1 ⟨rfl, n1, rfl⟩
   have HN1 := QD (HN.out.drewN n1)
   have HB1 := QD (QC HB.out n1)
   clear HN HB
   generalize w.drewN n1 = w1 at *
   obtain ⟨A, c, hb, hr⟩ := HN1.out
   obtain ⟨hc0, hc1, hc2⟩ := note_cell hb
   have hf1 := QB hb 1
   have hf2 := QB hb 2
   have HN2 := QD (HN1.out.set1 (x + 1))
   have HB2 := QD (below_set (j := 1) (v := .int .i64 (x + 1)) HB1.out HG.out)
   have HB6 := QD (by simpa using blk_set hb 1 (.int .i64 (x + 1)) : (w1.setCell ⟨g, 1, none⟩ (.int .i64 (x + 1))).heap[g]? = some (.cells #[.string s, .int .i64 (x + 1), .slice A o.length c] 72 (0, 0)))
   have HR6 := QD (Kd.R_far (p := ⟨g, 1, none⟩) hr (fun k hk => hk) (.int .i64 (x + 1)))
   have HW6 := HB2
   have HL6 := HL
   clear hb hr HN1 HB1
   go_wp2_with (fail)
   refine (HC.out _ HN2.out HB2.out HG.out).mono ?_
   rintro e w3 ⟨rfl, hn3, hb3⟩
   clear HB6 HR6 HW6 HL6 HN2 HB2 hc0 hc1 hc2 hf1 hf2 HC
   have HW6 := QD hb3
   obtain ⟨A3, c3, hb3c, hr3⟩ := hn3
   have hc32 := (note_cell hb3c).2.2
   have HB6 := QD hb3c
   have HR6 := QD hr3
   have HL6 := QD hl
   clear hb3 hb3c hr3 hl
   go_wp2_with (first | ((with_reducible refine gate_builtin (b := .append) (xs := #[.tmp 28, .tmp 29]) rfl ?_); at_builtin; refine Kd.R_append (Kd.int .i64) (w0 := w0) w0.heap.size rfl (.tmp 28) (.tmp 29) 24 3 (.int .i64 0) 8 rfl Tryd.underlying24 info3 rfl (by decide) (by omega) (.slice A3 o1.length c3) o1 (-1) [.int .i64 (-1)] (fun k => k ≠ g) (fun _ => False) rfl (by first | rfl | exact congrArg (fun n => Value.slice (some ⟨n, 0, none⟩) 1 1) (World.size_setCell _ _ _).symm) ?aP (fun _ hk => hk.elim) ?aF ?aO ?aB ?aS ?aL ?_; (case aP => exact rfl); (case aB => exact HW6.out); (case aF => exact Kd.freshB HB6.out); (case aO => exact HR6.out); (case aS => exact below_size HW6.out); (case aL => have := HL6.out; omega); intro v7 w7 ho hb hg hat; obtain ⟨A7, c7, rfl⟩ := Kd.R_slice ho; have hb7 := blk_grown HB6.out hg (fun e => HR6.out.1 g e.symm rfl); have hc72 := (note_cell hb7).2.2; have hf72 := QB hb7 2; have HN7 := QD (Note.set2 (w0 := w0) HB6.out hg HR6.out.1 ho); have HB7 := QD (fun v : Value => below_set (j := 2) (v := v) hb HG.out); clear hb7 hb hg hat ho HB6 HR6 HW6))
   go_ret
   exact ⟨rfl, by simpa only [List.length_append, List.length_cons, List.length_nil, Nat.zero_add] using HN7.out, HB7.out _⟩
  rw [if_neg e33] at h
  by_cases e40 : noteB s x = 40
  ·rw [if_pos e40] at h
   have HC := QD (note_pair w0 g s (readM k s) IH.out _ _ _ h)
   have b0 : (noteB s x == 0) = false := beq_eq_false_iff_ne.mpr e0
   have b33 : (noteB s x == 33) = false := beq_eq_false_iff_ne.mpr e33
   have b40 : (noteB s x == 40) = true := beq_iff_eq.mpr e40
   clear h IH e0 e33 e40
   go_enter Tryd.func54, Tryd.ntmps54
   go_wp2_with (fail)
   refine (note_next g s x o w0 _ HN.out HX.out).mono ?_
   rintro e w1 ⟨rfl, n1, rfl⟩
   have HN1 := QD (HN.out.drewN n1)
   have HB1 := QD (QC HB.out n1)
   clear HN HB
   generalize w.drewN n1 = w1 at *
   obtain ⟨A, c, hb, hr⟩ := HN1.out
   obtain ⟨hc0, hc1, hc2⟩ := note_cell hb
   have hf1 := QB hb 1
   have hf2 := QB hb 2
   have HN2 := QD (HN1.out.set1 (x + 1))
   have HB2 := QD (below_set (j := 1) (v := .int .i64 (x + 1)) HB1.out HG.out)
   have HB6 := QD (by simpa using blk_set hb 1 (.int .i64 (x + 1)) : (w1.setCell ⟨g, 1, none⟩ (.int .i64 (x + 1))).heap[g]? = some (.cells #[.string s, .int .i64 (x + 1), .slice A o.length c] 72 (0, 0)))
   have HR6 := QD (Kd.R_far (p := ⟨g, 1, none⟩) hr (fun k hk => hk) (.int .i64 (x + 1)))
   have HW6 := HB2
   have HL6 := HL
   clear hb hr HN1 HB1
   go_wp2_with (fail)
   refine (HC.out _ HN2.out HB2.out HG.out).mono ?_
   rintro e w3 ⟨rfl, hn3, hb3⟩
   have HN3 := QD hn3
   have HB3 := QD hb3
   clear hn3 hb3
   go_wp2
   go_ret
   exact ⟨rfl, HN3.out, HB3.out⟩
  rw [if_neg e40] at h
  clear IH
  by_cases e114 : noteB s x = 114
  ·rw [if_pos e114] at h
   obtain rfl := Option.some.inj h
   have b0 : (noteB s x == 0) = false := beq_eq_false_iff_ne.mpr e0
   have b33 : (noteB s x == 33) = false := beq_eq_false_iff_ne.mpr e33
   have b40 : (noteB s x == 40) = false := beq_eq_false_iff_ne.mpr e40
   have b114 : (noteB s x == 114) = true := beq_iff_eq.mpr e114
   clear h e0 e33 e40 e114
   go_enter Tryd.func54, Tryd.ntmps54
   go_wp2_with (fail)
   refine (note_next g s x o w0 _ HN.out HX.out).mono ?_
   rintro e w1 ⟨rfl, n1, rfl⟩
   have HN1 := QD (HN.out.drewN n1)
   have HB1 := QD (QC HB.out n1)
   clear HN HB
   generalize w.drewN n1 = w1 at *
   obtain ⟨A, c, hb, hr⟩ := HN1.out
   obtain ⟨hc0, hc1, hc2⟩ := note_cell hb
   have hf1 := QB hb 1
   have hf2 := QB hb 2
   have HN2 := QD (HN1.out.set1 (x + 1))
   have HB2 := QD (below_set (j := 1) (v := .int .i64 (x + 1)) HB1.out HG.out)
   have HB6 := QD (by simpa using blk_set hb 1 (.int .i64 (x + 1)) : (w1.setCell ⟨g, 1, none⟩ (.int .i64 (x + 1))).heap[g]? = some (.cells #[.string s, .int .i64 (x + 1), .slice A o.length c] 72 (0, 0)))
   have HR6 := QD (Kd.R_far (p := ⟨g, 1, none⟩) hr (fun k hk => hk) (.int .i64 (x + 1)))
   have HW6 := HB2
   have HL6 := HL
   clear hb hr HN1 HB1
   go_wp2_with (first | ((with_reducible refine gate_builtin (b := .append) (xs := #[.tmp 45, .tmp 46]) rfl ?_); at_builtin; refine Kd.R_append (Kd.int .i64) (w0 := w0) w0.heap.size rfl (.tmp 45) (.tmp 46) 24 3 (.int .i64 0) 8 rfl Tryd.underlying24 info3 rfl (by decide) (by omega) (.slice A o.length c) o (400) [.int .i64 (400)] (fun k => k ≠ g) (fun _ => False) rfl (by first | rfl | exact congrArg (fun n => Value.slice (some ⟨n, 0, none⟩) 1 1) (World.size_setCell _ _ _).symm) ?aP (fun _ hk => hk.elim) ?aF ?aO ?aB ?aS ?aL ?_; (case aP => exact rfl); (case aB => exact HW6.out); (case aF => exact Kd.freshB HB6.out); (case aO => exact HR6.out); (case aS => exact below_size HW6.out); (case aL => have := HL6.out; omega); intro v7 w7 ho hb hg hat; obtain ⟨A7, c7, rfl⟩ := Kd.R_slice ho; have hb7 := blk_grown HB6.out hg (fun e => HR6.out.1 g e.symm rfl); have hc72 := (note_cell hb7).2.2; have hf72 := QB hb7 2; have HN7 := QD (Note.set2 (w0 := w0) HB6.out hg HR6.out.1 ho); have HB7 := QD (fun v : Value => below_set (j := 2) (v := v) hb HG.out); clear hb7 hb hg hat ho HB6 HR6 HW6))
   go_ret
   exact ⟨rfl, by simpa only [List.length_append, List.length_cons, List.length_nil, Nat.zero_add] using HN7.out, HB7.out _⟩
  rw [if_neg e114] at h
  have b0 : (noteB s x == 0) = false := beq_eq_false_iff_ne.mpr e0
  have b33 : (noteB s x == 33) = false := beq_eq_false_iff_ne.mpr e33
  have b40 : (noteB s x == 40) = false := beq_eq_false_iff_ne.mpr e40
  have b114 : (noteB s x == 114) = false := beq_eq_false_iff_ne.mpr e114
  clear e0 e33 e40 e114
  by_cases es : 0 ≤ suitI (noteB s x)
  ·rw [if_pos es] at h
   obtain rfl := Option.some.inj h
   have es1 : decide (0 ≤ suitI (noteB s x)) = true := decide_eq_true es
   clear h es
   go_enter Tryd.func54, Tryd.ntmps54
   go_wp2_with (fail)
   refine (note_next g s x o w0 _ HN.out HX.out).mono ?_
   rintro e w1 ⟨rfl, n1, rfl⟩
   have HN1 := QD (HN.out.drewN n1)
   have HB1 := QD (QC HB.out n1)
   clear HN HB
   generalize w.drewN n1 = w1 at *
   obtain ⟨A, c, hb, hr⟩ := HN1.out
   obtain ⟨hc0, hc1, hc2⟩ := note_cell hb
   have hf1 := QB hb 1
   have hf2 := QB hb 2
   have HN2 := QD (HN1.out.set1 (x + 1))
   have HB2 := QD (below_set (j := 1) (v := .int .i64 (x + 1)) HB1.out HG.out)
   have HB6 := QD (by simpa using blk_set hb 1 (.int .i64 (x + 1)) : (w1.setCell ⟨g, 1, none⟩ (.int .i64 (x + 1))).heap[g]? = some (.cells #[.string s, .int .i64 (x + 1), .slice A o.length c] 72 (0, 0)))
   have HR6 := QD (Kd.R_far (p := ⟨g, 1, none⟩) hr (fun k hk => hk) (.int .i64 (x + 1)))
   have HW6 := HB2
   have HL6 := HL
   clear hb hr HN1 HB1
   go_wp2_with (fail)
   refine (suit_at (noteB s x) _).mono ?_
   rintro e w2 ⟨rfl, rfl⟩
   go_wp2_with (first | ((with_reducible refine gate_builtin (b := .append) (xs := #[.tmp 58, .tmp 61]) rfl ?_); at_builtin; refine Kd.R_append (Kd.int .i64) (w0 := w0) w0.heap.size rfl (.tmp 58) (.tmp 61) 24 3 (.int .i64 0) 8 rfl Tryd.underlying24 info3 rfl (by decide) (by omega) (.slice A o.length c) o (wrap64 (100 + suitI (noteB s x))) [.int .i64 (wrap64 (100 + suitI (noteB s x)))] (fun k => k ≠ g) (fun _ => False) rfl (by first | rfl | exact congrArg (fun n => Value.slice (some ⟨n, 0, none⟩) 1 1) (World.size_setCell _ _ _).symm) ?aP (fun _ hk => hk.elim) ?aF ?aO ?aB ?aS ?aL ?_; (case aP => exact rfl); (case aB => exact HW6.out); (case aF => exact Kd.freshB HB6.out); (case aO => exact HR6.out); (case aS => exact below_size HW6.out); (case aL => have := HL6.out; omega); intro v7 w7 ho hb hg hat; obtain ⟨A7, c7, rfl⟩ := Kd.R_slice ho; have hb7 := blk_grown HB6.out hg (fun e => HR6.out.1 g e.symm rfl); have hc72 := (note_cell hb7).2.2; have hf72 := QB hb7 2; have HN7 := QD (Note.set2 (w0 := w0) HB6.out hg HR6.out.1 ho); have HB7 := QD (fun v : Value => below_set (j := 2) (v := v) hb HG.out); clear hb7 hb hg hat ho HB6 HR6 HW6))
   go_ret
   exact ⟨rfl, by simpa only [List.length_append, List.length_cons, List.length_nil, Nat.zero_add] using HN7.out, HB7.out _⟩
  rw [if_neg es] at h
  have es1 : decide (0 ≤ suitI (noteB s x)) = false := decide_eq_false es
  clear es
  by_cases er : rankI (noteB s x) < 0
  ·rw [if_pos er] at h
   obtain rfl := Option.some.inj h
   have er1 : decide (rankI (noteB s x) < 0) = true := decide_eq_true er
   clear h er
   go_enter Tryd.func54, Tryd.ntmps54
   go_wp2_with (fail)
   refine (note_next g s x o w0 _ HN.out HX.out).mono ?_
   rintro e w1 ⟨rfl, n1, rfl⟩
   have HN1 := QD (HN.out.drewN n1)
   have HB1 := QD (QC HB.out n1)
   clear HN HB
   generalize w.drewN n1 = w1 at *
   obtain ⟨A, c, hb, hr⟩ := HN1.out
   obtain ⟨hc0, hc1, hc2⟩ := note_cell hb
   have hf1 := QB hb 1
   have hf2 := QB hb 2
   have HN2 := QD (HN1.out.set1 (x + 1))
   have HB2 := QD (below_set (j := 1) (v := .int .i64 (x + 1)) HB1.out HG.out)
   have HB6 := QD (by simpa using blk_set hb 1 (.int .i64 (x + 1)) : (w1.setCell ⟨g, 1, none⟩ (.int .i64 (x + 1))).heap[g]? = some (.cells #[.string s, .int .i64 (x + 1), .slice A o.length c] 72 (0, 0)))
   have HR6 := QD (Kd.R_far (p := ⟨g, 1, none⟩) hr (fun k hk => hk) (.int .i64 (x + 1)))
   have HW6 := HB2
   have HL6 := HL
   clear hb hr HN1 HB1
   go_wp2_with (fail)
   refine (suit_at (noteB s x) _).mono ?_
   rintro e w2 ⟨rfl, rfl⟩
   go_wp2_with (fail)
   refine (rank_at (noteB s x) _).mono ?_
   rintro e w2 ⟨rfl, rfl⟩
   go_wp2
   go_ret
   exact ⟨rfl, HN2.out, HB2.out⟩
  rw [if_neg er] at h
  have er1 : decide (rankI (noteB s x) < 0) = false := decide_eq_false er
  clear er
  by_cases ep : noteB s (x + 1) = 43
  ·rw [if_pos ep] at h
   obtain rfl := Option.some.inj h
   have ep1 : (noteB s (x + 1) == 43) = true := beq_iff_eq.mpr ep
   clear h ep
   go_enter Tryd.func54, Tryd.ntmps54
   go_wp2_with (fail)
   refine (note_next g s x o w0 _ HN.out HX.out).mono ?_
   rintro e w1 ⟨rfl, n1, rfl⟩
   have HN1 := QD (HN.out.drewN n1)
   have HB1 := QD (QC HB.out n1)
   clear HN HB
   generalize w.drewN n1 = w1 at *
   obtain ⟨A, c, hb, hr⟩ := HN1.out
   obtain ⟨hc0, hc1, hc2⟩ := note_cell hb
   have hf1 := QB hb 1
   have hf2 := QB hb 2
   have HN2 := QD (HN1.out.set1 (x + 1))
   have HB2 := QD (below_set (j := 1) (v := .int .i64 (x + 1)) HB1.out HG.out)
   have HB6 := QD (by simpa using blk_set hb 1 (.int .i64 (x + 1)) : (w1.setCell ⟨g, 1, none⟩ (.int .i64 (x + 1))).heap[g]? = some (.cells #[.string s, .int .i64 (x + 1), .slice A o.length c] 72 (0, 0)))
   have HR6 := QD (Kd.R_far (p := ⟨g, 1, none⟩) hr (fun k hk => hk) (.int .i64 (x + 1)))
   have HW6 := HB2
   have HL6 := HL
   clear hb hr HN1 HB1
   go_wp2_with (fail)
   refine (suit_at (noteB s x) _).mono ?_
   rintro e w2 ⟨rfl, rfl⟩
   go_wp2_with (fail)
   refine (rank_at (noteB s x) _).mono ?_
   rintro e w2 ⟨rfl, rfl⟩
   go_wp2_with (fail)
   refine (note_next g s (x + 1) o w0 _ HN2.out HX1.out).mono ?_
   rintro e w3 ⟨rfl, n3, rfl⟩
   have HN3 := QD (HN2.out.drewN n3)
   have HB3 := QD (QC HB2.out n3)
   clear HB6 HR6 HW6 HN2 HB2 hc0 hc1 hc2 hf1 hf2
   generalize (w1.setCell _ _).drewN n3 = w3 at *
   obtain ⟨A3, c3, hb3, hr3⟩ := HN3.out
   obtain ⟨hc30, hc31, hc32⟩ := note_cell hb3
   have hf31 := QB hb3 1
   have hf32 := QB hb3 2
   have HB6 := QD (by simpa using blk_set hb3 1 (.int .i64 (x + 1 + 1)) : (w3.setCell ⟨g, 1, none⟩ (.int .i64 (x + 1 + 1))).heap[g]? = some (.cells #[.string s, .int .i64 (x + 1 + 1), .slice A3 o.length c3] 72 (0, 0)))
   have HR6 := QD (Kd.R_far (p := ⟨g, 1, none⟩) hr3 (fun k hk => hk) (.int .i64 (x + 1 + 1)))
   have HW6 := QD (below_set (j := 1) (v := .int .i64 (x + 1 + 1)) HB3.out HG.out)
   clear hb3 hr3 HN3 HB3
   go_wp2_with (first | ((with_reducible refine gate_builtin (b := .append) (xs := #[.tmp 83, .tmp 86]) rfl ?_); at_builtin; refine Kd.R_append (Kd.int .i64) (w0 := w0) w0.heap.size rfl (.tmp 83) (.tmp 86) 24 3 (.int .i64 0) 8 rfl Tryd.underlying24 info3 rfl (by decide) (by omega) (.slice A3 o.length c3) o (wrap64 (300 + rankI (noteB s x))) [.int .i64 (wrap64 (300 + rankI (noteB s x)))] (fun k => k ≠ g) (fun _ => False) rfl (by first | rfl | exact congrArg (fun n => Value.slice (some ⟨n, 0, none⟩) 1 1) (World.size_setCell _ _ _).symm) ?aP (fun _ hk => hk.elim) ?aF ?aO ?aB ?aS ?aL ?_; (case aP => exact rfl); (case aB => exact HW6.out); (case aF => exact Kd.freshB HB6.out); (case aO => exact HR6.out); (case aS => exact below_size HW6.out); (case aL => have := HL6.out; omega); intro v7 w7 ho hb hg hat; obtain ⟨A7, c7, rfl⟩ := Kd.R_slice ho; have hb7 := blk_grown HB6.out hg (fun e => HR6.out.1 g e.symm rfl); have hc72 := (note_cell hb7).2.2; have hf72 := QB hb7 2; have HN7 := QD (Note.set2 (w0 := w0) HB6.out hg HR6.out.1 ho); have HB7 := QD (fun v : Value => below_set (j := 2) (v := v) hb HG.out); clear hb7 hb hg hat ho HB6 HR6 HW6))
   go_ret
   exact ⟨rfl, by simpa only [List.length_append, List.length_cons, List.length_nil, Nat.zero_add] using HN7.out, HB7.out _⟩
  ·rw [if_neg ep] at h
   obtain rfl := Option.some.inj h
   have ep1 : (noteB s (x + 1) == 43) = false := beq_eq_false_iff_ne.mpr ep
   clear h ep
   go_enter Tryd.func54, Tryd.ntmps54
   go_wp2_with (fail)
   refine (note_next g s x o w0 _ HN.out HX.out).mono ?_
   rintro e w1 ⟨rfl, n1, rfl⟩
   have HN1 := QD (HN.out.drewN n1)
   have HB1 := QD (QC HB.out n1)
   clear HN HB
   generalize w.drewN n1 = w1 at *
   obtain ⟨A, c, hb, hr⟩ := HN1.out
   obtain ⟨hc0, hc1, hc2⟩ := note_cell hb
   have hf1 := QB hb 1
   have hf2 := QB hb 2
   have HN2 := QD (HN1.out.set1 (x + 1))
   have HB2 := QD (below_set (j := 1) (v := .int .i64 (x + 1)) HB1.out HG.out)
   have HB6 := QD (by simpa using blk_set hb 1 (.int .i64 (x + 1)) : (w1.setCell ⟨g, 1, none⟩ (.int .i64 (x + 1))).heap[g]? = some (.cells #[.string s, .int .i64 (x + 1), .slice A o.length c] 72 (0, 0)))
   have HR6 := QD (Kd.R_far (p := ⟨g, 1, none⟩) hr (fun k hk => hk) (.int .i64 (x + 1)))
   have HW6 := HB2
   have HL6 := HL
   clear hb hr HN1 HB1
   go_wp2_with (fail)
   refine (suit_at (noteB s x) _).mono ?_
   rintro e w2 ⟨rfl, rfl⟩
   go_wp2_with (fail)
   refine (rank_at (noteB s x) _).mono ?_
   rintro e w2 ⟨rfl, rfl⟩
   go_wp2_with (fail)
   refine (note_next g s (x + 1) o w0 _ HN2.out HX1.out).mono ?_
   rintro e w3 ⟨rfl, n3, rfl⟩
   have HN3 := QD (HN2.out.drewN n3)
   have HB3 := QD (QC HB2.out n3)
   clear HB6 HR6 HW6 HN2 HB2 hc0 hc1 hc2 hf1 hf2
   generalize (w1.setCell _ _).drewN n3 = w3 at *
   obtain ⟨A3, c3, hb3, hr3⟩ := HN3.out
   obtain ⟨hc30, hc31, hc32⟩ := note_cell hb3
   have hf31 := QB hb3 1
   have hf32 := QB hb3 2
   have HB6 := QD hb3
   have HR6 := QD hr3
   have HW6 := HB3
   clear hb3 hr3 HN3
   go_wp2_with (first | ((with_reducible refine gate_builtin (b := .append) (xs := #[.tmp 94, .tmp 97]) rfl ?_); at_builtin; refine Kd.R_append (Kd.int .i64) (w0 := w0) w0.heap.size rfl (.tmp 94) (.tmp 97) 24 3 (.int .i64 0) 8 rfl Tryd.underlying24 info3 rfl (by decide) (by omega) (.slice A3 o.length c3) o (wrap64 (200 + rankI (noteB s x))) [.int .i64 (wrap64 (200 + rankI (noteB s x)))] (fun k => k ≠ g) (fun _ => False) rfl (by first | rfl | exact congrArg (fun n => Value.slice (some ⟨n, 0, none⟩) 1 1) (World.size_setCell _ _ _).symm) ?aP (fun _ hk => hk.elim) ?aF ?aO ?aB ?aS ?aL ?_; (case aP => exact rfl); (case aB => exact HW6.out); (case aF => exact Kd.freshB HB6.out); (case aO => exact HR6.out); (case aS => exact below_size HW6.out); (case aL => have := HL6.out; omega); intro v7 w7 ho hb hg hat; obtain ⟨A7, c7, rfl⟩ := Kd.R_slice ho; have hb7 := blk_grown HB6.out hg (fun e => HR6.out.1 g e.symm rfl); have hc72 := (note_cell hb7).2.2; have hf72 := QB hb7 2; have HN7 := QD (Note.set2 (w0 := w0) HB6.out hg HR6.out.1 ho); have HB7 := QD (fun v : Value => below_set (j := 2) (v := v) hb HG.out); clear hb7 hb hg hat ho HB6 HR6 HW6))
   go_ret
   exact ⟨rfl, by simpa only [List.length_append, List.length_cons, List.length_nil, Nat.zero_add] using HN7.out, HB7.out _⟩
def impl_ParsePattern.f (k : Nat) (a0 : ByteArray) : Option (List Int × Bool) :=
 if 100 < (a0.size : Int) then some ([], false) else (readM k a0 0 []).bind fun r => if r.1 = true then (impl_PatternText.f k r.2.2).bind fun t => if t.toList = a0.toList then some (r.2.2, true) else some ([], false) else some ([], false)
theorem readM_mono : ∀ (k : Nat) (s : ByteArray) (x : Int) (o : List Int), LeO (readM k s x o) (readM (k + 1) s x o) := by
 intro k
 induction k with
 | zero => intro s x o r h; simp [readM] at h
 | succ k ih =>
  intro s x o
  have hp : ∀ x o, LeO (pairM (readM k s) s x o) (pairM (readM (k + 1) s) s x o) := by
   intro x o
   unfold pairM
   refine LeO.bind (ih s x o) fun r => ?_
   refine LeO.ite (LeO.ite (LeO.ite (LeO.bind (ih s _ _) fun q => LeO.refl _) (LeO.refl _)) (LeO.refl _)) (LeO.refl _)
  unfold readM
  refine LeO.ite (LeO.ite (LeO.refl _) (LeO.ite (LeO.bind (ih s _ _) fun r => LeO.refl _) (LeO.ite (hp _ _) (LeO.refl _)))) (LeO.refl _)
theorem impl_ParsePattern.mono : ∀ a0 k, LeO (impl_ParsePattern.f k a0) (impl_ParsePattern.f (k + 1) a0) := by
 intro a0 k
 unfold impl_ParsePattern.f
 exact LeO.ite (LeO.refl _) (LeO.bind (readM_mono k a0 0 []) fun r => LeO.ite (LeO.bind (impl_PatternText.mono _ k) fun t => LeO.refl _) (LeO.refl _))
set_option maxHeartbeats 8000000 in
set_option maxRecDepth 100000 in
theorem impl_ParsePattern.long (a0 : ByteArray) (w : World) (hl : 100 < (a0.size : Int)) :
  Calls Tryd.prog 27 #[.string a0] w fun e w' => ∃ v0_ : Value, e = .returned (.tuple #[v0_, .bool false]) ∧ Kd.R (Kd.int .i64) 3 w' w.heap.size (fun _ => True) v0_ [] ∧ Below w.heap.size w w' := by
 have h0 : decide (100 < (a0.size : Int)) = true := decide_eq_true hl
 have h1 : decide (100 < a0.size) = true := decide_eq_true (by omega)
 clear hl
 go_enter Tryd.func27, Tryd.ntmps27
 go_wp2_with (first | ((with_reducible refine gate_dst (N := 7) rfl ?_); refine box_event ?hg (N := 7) ?hd (cs := #[.string a0, .int .i64 0, .slice none 0 0]) (t := 72) ?hr ?_; (case hd => rfl); (case hg => rfl); (case hr => first | (go_simp; done) | (go_simp; rfl)); intro gb hg w4 hbox hb; have HN4 : Aside0 (Note w w4 gb a0 0 []) := ⟨⟨none, 0, hbox, Kd.R_nil _ _ _ _ _⟩⟩; have HB4 := QD hb; have HG4 : Aside0 (w.heap.size ≤ gb) := ⟨Nat.le_of_eq hg.symm⟩; clear hg hbox hb) | ((with_reducible refine gate_dst (N := 25) rfl ?_); refine Kd.R_lit (Kd.int .i64) _ 3 ?hg (N := 25) ?hd (xs := ([] : List Int)) (inner := []) (ok := fun _ => True) (okp := fun _ => True) ?hr ?hp (fun _ hk => hk) trivial (Below.refl _ _) (Nat.le_refl _) (by simp) ?_; (case hd => rfl); (case hg => rfl); (case hr => first | (go_simp; done) | (go_simp; rfl)); (case hp => exact (Reps.none _ _)); intro v8 w8 ho8 hb8 hg8 hnew8; have HO8 := QD (Kd.R_lower ho8 (below_size HB4.out)); have HB8 := QD (below_step HB4.out hb8); clear ho8 hb8 hg8 hnew8))
 go_ret2
 exact ⟨_, rfl, HO8.out, HB8.out⟩
set_option maxHeartbeats 8000000 in
set_option maxRecDepth 100000 in
theorem impl_ParsePattern.no (k : Nat) (a0 : ByteArray) (x : Int) (o : List Int) (w : World) (hl : ¬ 100 < (a0.size : Int)) (hr : readM k a0 0 [] = some (false, x, o)) :
  Calls Tryd.prog 27 #[.string a0] w fun e w' => ∃ v0_ : Value, e = .returned (.tuple #[v0_, .bool false]) ∧ Kd.R (Kd.int .i64) 3 w' w.heap.size (fun _ => True) v0_ [] ∧ Below w.heap.size w w' := by
 have h0 : decide (100 < (a0.size : Int)) = false := decide_eq_false hl
 have h1 : decide (100 < a0.size) = false := decide_eq_false (by omega)
 have HR := QD hr
 clear hl hr
 go_enter Tryd.func27, Tryd.ntmps27
 go_wp2_with (first | ((with_reducible refine gate_dst (N := 7) rfl ?_); refine box_event ?hg (N := 7) ?hd (cs := #[.string a0, .int .i64 0, .slice none 0 0]) (t := 72) ?hr ?_; (case hd => rfl); (case hg => rfl); (case hr => first | (go_simp; done) | (go_simp; rfl)); intro gb hg w4 hbox hb; have HN4 : Aside0 (Note w w4 gb a0 0 []) := ⟨⟨none, 0, hbox, Kd.R_nil _ _ _ _ _⟩⟩; have HB4 := QD hb; have HG4 : Aside0 (w.heap.size ≤ gb) := ⟨Nat.le_of_eq hg.symm⟩; clear hg hbox hb))
 go_wp2_with (fail)
 refine (note_read w gb a0 k 0 [] _ HR.out _ HN4.out HB4.out HG4.out).mono ?_
 rintro e w5 ⟨rfl, hn5, hb5⟩
 have HB5 := QD hb5
 clear hn5 hb5
 go_wp2_with (first | ((with_reducible refine gate_dst (N := 25) rfl ?_); refine Kd.R_lit (Kd.int .i64) _ 3 ?hg (N := 25) ?hd (xs := ([] : List Int)) (inner := []) (ok := fun _ => True) (okp := fun _ => True) ?hr ?hp (fun _ hk => hk) trivial (Below.refl _ _) (Nat.le_refl _) (by simp) ?_; (case hd => rfl); (case hg => rfl); (case hr => first | (go_simp; done) | (go_simp; rfl)); (case hp => exact (Reps.none _ _)); intro v8 w8 ho8 hb8 hg8 hnew8; have HO8 := QD (Kd.R_lower ho8 (below_size HB5.out)); have HB8 := QD (below_step HB5.out hb8); clear ho8 hb8 hg8 hnew8))
 go_ret2
 exact ⟨_, rfl, HO8.out, HB8.out⟩
set_option maxHeartbeats 8000000 in
set_option maxRecDepth 100000 in
theorem impl_ParsePattern.ne (k : Nat) (a0 : ByteArray) (x : Int) (o : List Int) (t : ByteArray) (w : World) (hl : ¬ 100 < (a0.size : Int)) (hr : readM k a0 0 [] = some (true, x, o)) (ht : impl_PatternText.f k o = some t) (he : ¬ t.toList = a0.toList) :
  Calls Tryd.prog 27 #[.string a0] w fun e w' => ∃ v0_ : Value, e = .returned (.tuple #[v0_, .bool false]) ∧ Kd.R (Kd.int .i64) 3 w' w.heap.size (fun _ => True) v0_ [] ∧ Below w.heap.size w w' := by
 have e0 : (t.toList == a0.toList) = false := beq_eq_false_iff_ne.mpr he
 have e1 : (t.toList != a0.toList) = true := bne_iff_ne.mpr he
 have HT := QD ht
 clear he ht
 have h0 : decide (100 < (a0.size : Int)) = false := decide_eq_false hl
 have h1 : decide (100 < a0.size) = false := decide_eq_false (by omega)
 have HR := QD hr
 clear hl hr
 go_enter Tryd.func27, Tryd.ntmps27
 go_wp2_with (first | ((with_reducible refine gate_dst (N := 7) rfl ?_); refine box_event ?hg (N := 7) ?hd (cs := #[.string a0, .int .i64 0, .slice none 0 0]) (t := 72) ?hr ?_; (case hd => rfl); (case hg => rfl); (case hr => first | (go_simp; done) | (go_simp; rfl)); intro gb hg w4 hbox hb; have HN4 : Aside0 (Note w w4 gb a0 0 []) := ⟨⟨none, 0, hbox, Kd.R_nil _ _ _ _ _⟩⟩; have HB4 := QD hb; have HG4 : Aside0 (w.heap.size ≤ gb) := ⟨Nat.le_of_eq hg.symm⟩; clear hg hbox hb))
 go_wp2_with (fail)
 refine (note_read w gb a0 k 0 [] _ HR.out _ HN4.out HB4.out HG4.out).mono ?_
 rintro e w5 ⟨rfl, hn5, hb5⟩
 have HB5 := QD hb5
 obtain ⟨A5, c5, hbc5, hr5⟩ := hn5
 have hc52 := (note_cell hbc5).2.2
 have HC5 := QD hbc5
 have HO5 := QD hr5
 clear hbc5 hr5 hb5
 go_wp2_with (fail)
 refine (impl_PatternText.calls k A5 c5 o t _ (Kd.R_reads' HO5.out).2.2 (Kd.R_reads' HO5.out).2.1 HT.out).mono ?_
 rintro e w6 ⟨rfl, hb6⟩
 have HB6 := QD (below_step HB5.out hb6)
 have HO6 := QD (Kd.R_below HO5.out hb6)
 have hc62 := (note_cell (blk_below HC5.out hb6)).2.2
 clear hb6 HC5 HO5 HB5 hc52
 go_wp2_with (first | ((with_reducible refine gate_dst (N := 25) rfl ?_); refine Kd.R_lit (Kd.int .i64) _ 3 ?hg (N := 25) ?hd (xs := ([] : List Int)) (inner := []) (ok := fun _ => True) (okp := fun _ => True) ?hr ?hp (fun _ hk => hk) trivial (Below.refl _ _) (Nat.le_refl _) (by simp) ?_; (case hd => rfl); (case hg => rfl); (case hr => first | (go_simp; done) | (go_simp; rfl)); (case hp => exact (Reps.none _ _)); intro v8 w8 ho8 hb8 hg8 hnew8; have HO8 := QD (Kd.R_lower ho8 (below_size HB6.out)); have HB8 := QD (below_step HB6.out hb8); clear ho8 hb8 hg8 hnew8))
 go_ret2
 exact ⟨_, rfl, HO8.out, HB8.out⟩
set_option maxHeartbeats 8000000 in
set_option maxRecDepth 100000 in
theorem impl_ParsePattern.yes (k : Nat) (a0 : ByteArray) (x : Int) (o : List Int) (t : ByteArray) (w : World) (hl : ¬ 100 < (a0.size : Int)) (hr : readM k a0 0 [] = some (true, x, o)) (ht : impl_PatternText.f k o = some t) (he : t.toList = a0.toList) :
  Calls Tryd.prog 27 #[.string a0] w fun e w' => ∃ v0_ : Value, e = .returned (.tuple #[v0_, .bool true]) ∧ Kd.R (Kd.int .i64) 3 w' w.heap.size (fun _ => True) v0_ o ∧ Below w.heap.size w w' := by
 have e0 : (t.toList == a0.toList) = true := beq_iff_eq.mpr he
 have e1 : (t.toList != a0.toList) = false := bne_eq_false_iff_eq.mpr he
 have HT := QD ht
 clear he ht
 have h0 : decide (100 < (a0.size : Int)) = false := decide_eq_false hl
 have h1 : decide (100 < a0.size) = false := decide_eq_false (by omega)
 have HR := QD hr
 clear hl hr
 go_enter Tryd.func27, Tryd.ntmps27
 go_wp2_with (first | ((with_reducible refine gate_dst (N := 7) rfl ?_); refine box_event ?hg (N := 7) ?hd (cs := #[.string a0, .int .i64 0, .slice none 0 0]) (t := 72) ?hr ?_; (case hd => rfl); (case hg => rfl); (case hr => first | (go_simp; done) | (go_simp; rfl)); intro gb hg w4 hbox hb; have HN4 : Aside0 (Note w w4 gb a0 0 []) := ⟨⟨none, 0, hbox, Kd.R_nil _ _ _ _ _⟩⟩; have HB4 := QD hb; have HG4 : Aside0 (w.heap.size ≤ gb) := ⟨Nat.le_of_eq hg.symm⟩; clear hg hbox hb))
 go_wp2_with (fail)
 refine (note_read w gb a0 k 0 [] _ HR.out _ HN4.out HB4.out HG4.out).mono ?_
 rintro e w5 ⟨rfl, hn5, hb5⟩
 have HB5 := QD hb5
 obtain ⟨A5, c5, hbc5, hr5⟩ := hn5
 have hc52 := (note_cell hbc5).2.2
 have HC5 := QD hbc5
 have HO5 := QD hr5
 clear hbc5 hr5 hb5
 go_wp2_with (fail)
 refine (impl_PatternText.calls k A5 c5 o t _ (Kd.R_reads' HO5.out).2.2 (Kd.R_reads' HO5.out).2.1 HT.out).mono ?_
 rintro e w6 ⟨rfl, hb6⟩
 have HB6 := QD (below_step HB5.out hb6)
 have HO6 := QD (Kd.R_below HO5.out hb6)
 have hc62 := (note_cell (blk_below HC5.out hb6)).2.2
 clear hb6 HC5 HO5 HB5 hc52
 go_wp2
 go_ret2
 exact ⟨_, rfl, Kd.R_mono HO6.out (fun _ _ => trivial), HB6.out⟩
theorem impl_ParsePattern.calls (k : Nat) (a0 : ByteArray) (r1 : List Int) (r2 : Bool) (w : World) (h : impl_ParsePattern.f k a0 = some (r1, r2)) :
  Calls Tryd.prog 27 #[.string a0] w fun e w' => ∃ v0_ : Value, e = .returned (.tuple #[v0_, .bool r2]) ∧ Kd.R (Kd.int .i64) 3 w' w.heap.size (fun _ => True) v0_ r1 ∧ Below w.heap.size w w' := by
 unfold impl_ParsePattern.f at h
 by_cases hl : 100 < (a0.size : Int)
 ·rw [if_pos hl] at h
  obtain ⟨rfl, rfl⟩ := Prod.mk.inj (Option.some.inj h)
  exact impl_ParsePattern.long a0 w hl
 rw [if_neg hl] at h
 obtain ⟨⟨b, x, o⟩, hr, h⟩ := Option.bind_eq_some_iff.mp h
 simp only at h
 cases b
 ·obtain ⟨rfl, rfl⟩ := Prod.mk.inj (Option.some.inj h)
  exact impl_ParsePattern.no k a0 x o w hl hr
 rw [if_pos rfl] at h
 obtain ⟨t, ht, h⟩ := Option.bind_eq_some_iff.mp h
 by_cases he : t.toList = a0.toList
 ·rw [if_pos he] at h
  obtain ⟨rfl, rfl⟩ := Prod.mk.inj (Option.some.inj h)
  exact impl_ParsePattern.yes k a0 x o t w hl hr ht he
 ·rw [if_neg he] at h
  obtain ⟨rfl, rfl⟩ := Prod.mk.inj (Option.some.inj h)
  exact impl_ParsePattern.ne k a0 x o t w hl hr ht he

end Go.Proofs.YtdfmobcocaijpaaDoor.QFnExactParseRules
