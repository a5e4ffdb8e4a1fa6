/- Lemmas of this place's own for the plain laws. No condition beyond what each names. -/
import Derived.Test.YtdfmobcocaijpaaDoorVMore
import Derived.Test.YtdfmobcocaijpaaDoorVSized
namespace Go.Proofs.YtdfmobcocaijpaaDoor.Lib
open Go.RowKit Go.Proofs.YtdfmobcocaijpaaDoorW.PrintWords Go.Proofs.YtdfmobcocaijpaaDoorW.PrintLast Go.Proofs.YtdfmobcocaijpaaDoorW.PrintMore
set_option linter.unusedVariables false
set_option linter.unusedSimpArgs false
theorem w64 {n : Int} (h : -9223372036854775808 ≤ n) (h' : n ≤ 9223372036854775807) : wrap64 n = n := by unfold wrap64; omega
section ev
variable {α β : Type}
theorem ev_succ {g : Nat → Option α} {r : α} (h : Ev (fun k => g (k + 1)) r) : Ev g r := Ev.step (fun _ => rfl) h
theorem ev_of_eq {g : Nat → Option α} {r : α} (h : ∀ k, g k = some r) : Ev g r := ⟨0, fun k _ => h k⟩
end ev
section loops
variable {α : Type}
theorem loop_pre (l : List α) (d : α) (hl : l.length ≤ 1099511627776) {P : Int → List α → List α → Prop}
    (hend : P (l.length : Int) l [])
    (hstep : ∀ (i : Int) (pre : List α) (x : α) (rest : List α), l = pre ++ x :: rest → i = pre.length → 0 ≤ i → i < (l.length : Int) → l.getD i.toNat d = x → wrap64 (i + 1) = i + 1 → P (i + 1) (pre ++ [x]) rest → P i pre (x :: rest)) : P 0 [] l := by
  suffices H : ∀ (rest pre : List α), l = pre ++ rest → P (pre.length : Int) pre rest by simpa using H l [] rfl
  intro rest
  induction rest with
  | nil => intro pre h; simp at h; subst h; exact hend
  | cons x rest ih =>
    intro pre h
    have hlen : l.length = pre.length + (rest.length + 1) := by rw [h]; simp
    refine hstep _ pre x rest h rfl (by omega) (by omega) ?_ (w64 (by omega) (by omega)) ?_
    · rw [h]; simp [List.getD_eq_getElem?_getD]
    · have := ih (pre ++ [x]) (by simp [h])
      simpa using this
theorem loop_of (l : List α) (d : α) (hl : l.length ≤ 1099511627776) {P : Int → List α → Prop}
    (hend : P (l.length : Int) [])
    (hstep : ∀ (i : Int) (x : α) (rest : List α), 0 ≤ i → i < (l.length : Int) → rdOf d l i = x → x ∈ l → wrap64 (i + 1) = i + 1 → P (i + 1) rest → P i (x :: rest)) : P 0 l :=
  loop_pre l d hl (P := fun i _ rest => P i rest) hend (fun i pre x rest h _ h0 h1 h2 h3 h4 => hstep i x rest h0 h1 h2 (by rw [h]; simp) h3 h4)
theorem loop_int (l : List Int) (hl : l.length ≤ 1099511627776) {P : Int → List Int → Prop}
    (hend : P (l.length : Int) [])
    (hstep : ∀ (i : Int) (x : Int) (rest : List Int), 0 ≤ i → i < (l.length : Int) → rd l i = x → x ∈ l → wrap64 (i + 1) = i + 1 → P (i + 1) rest → P i (x :: rest)) : P 0 l :=
  loop_of l 0 hl hend hstep
theorem loop_int_pre (l : List Int) (hl : l.length ≤ 1099511627776) {P : Int → List Int → List Int → Prop}
    (hend : P (l.length : Int) l [])
    (hstep : ∀ (i : Int) (pre : List Int) (x : Int) (rest : List Int), l = pre ++ x :: rest → i = pre.length → 0 ≤ i → i < (l.length : Int) → rd l i = x → wrap64 (i + 1) = i + 1 → P (i + 1) (pre ++ [x]) rest → P i pre (x :: rest)) : P 0 [] l :=
  loop_pre l 0 hl hend hstep
theorem getD_mid (pre rest : List α) (i : Int) (hi : i = pre.length) (y d : α) : (pre ++ y :: rest).getD i.toNat d = y := by
  subst hi
  simp [List.getD_eq_getElem?_getD]
theorem rdOf_mid (d : α) (pre rest : List α) (i : Int) (hi : i = pre.length) (y : α) : rdOf d (pre ++ y :: rest) i = y := getD_mid pre rest i hi y d
theorem rdOf_mem (d : α) (l : List α) (i : Int) (h0 : 0 ≤ i) (h : i < (l.length : Int)) : rdOf d l i ∈ l := by
  unfold rdOf
  have : i.toNat < l.length := by omega
  simp [List.getD_eq_getElem?_getD, List.getElem?_eq_getElem this]
end loops
def rulesWordM (a b : Bool) : ByteArray := if (a && b) = true then ⟨#[98, 111, 116, 104]⟩ else if a = true then ⟨#[115, 117, 105, 116]⟩ else if b = true then ⟨#[114, 97, 110, 107]⟩ else ⟨#[]⟩
def leafM (s : Int) : Bool := decide (100 ≤ s ∧ s ≤ 103) || decide (200 ≤ s ∧ s ≤ 212) || decide (300 ≤ s ∧ s ≤ 312) || (s == 400)
def patF : List Int → Int → Option Int
  | [], n => some n
  | s :: r, n => if leafM s = true then patF r (n + 1) else if s = -1 ∧ 1 ≤ n then patF r n else if (s = -2 ∨ s = -3) ∧ 2 ≤ n then patF r (n - 1) else none
def patEnd (len : Nat) : Option Int → Bool
  | some n => decide (n = 1) && decide (len ≤ 20)
  | none => false
def isPatM (p : List Int) : Bool := patEnd p.length (patF p 0)
def maybeM (p : List Int) : Bool := decide (p.length = 0) || isPatM p
def isRulesM (a0 a1 : Int) (a2 a3 : Bool) (l4 l5 : List Int) (a6 a7 : Int) : Bool :=
  decide (2 ≤ a0 ∧ a0 ≤ 6) && (decide (1 ≤ a1 ∧ a1 ≤ 8) && ((a2 || a3) && (maybeM l4 && (maybeM l5 && (decide (1 ≤ a6 ∧ a6 ≤ 4) && decide (1 ≤ a7 ∧ a7 ≤ 400))))))
theorem data_inj {a b : ByteArray} (h : a.data.toList = b.data.toList) : a = b := by
  obtain ⟨⟨x⟩⟩ := a
  obtain ⟨⟨y⟩⟩ := b
  simp at h
  rw [h]
theorem toList_iff (a b : ByteArray) : a.toList = b.toList ↔ a = b := by
  constructor
  · intro h
    rw [ByteArray.toList_eq, ByteArray.toList_eq] at h
    exact data_inj h
  · intro h; rw [h]
theorem size_data (s : ByteArray) : s.data.toList.length = s.size := Array.length_toList
theorem bt_data (s : ByteArray) (i : Nat) (h : i < s.size) : bt s (i : Int) = ((s.data.toList[i]'(by rw [size_data]; exact h)).toNat : Int) := by
  unfold bt
  rw [dif_pos (by simpa using h)]
  rfl
theorem extract_data' (s : ByteArray) (a b : Nat) : (s.extract a b).data.toList = (s.data.toList.take b).drop a := by
  rw [ByteArray.data_extract, Array.toList_extract, List.extract_eq_drop_take', List.drop_take]
theorem bt_eq (s : ByteArray) (i : Nat) (h : i < s.size) (c : UInt8) : bt s (i : Int) = (c.toNat : Int) ↔ s.data.toList[i]'(by rw [size_data]; exact h) = c := by
  rw [bt_data s i h]
  constructor
  · intro e
    exact UInt8.toNat_inj.1 (by omega)
  · intro e; rw [e]
def splitF (s : ByteArray) (c : Int) : Nat → List ByteArray → Int → Int → List ByteArray
  | 0, out, fr, _ => out ++ [s.extract fr.toNat s.size]
  | n + 1, out, fr, i => if bt s i = c then splitF s c n (out ++ [s.extract fr.toNat i.toNat]) (i + 1) (i + 1) else splitF s c n out fr (i + 1)
end Go.Proofs.YtdfmobcocaijpaaDoor.Lib
namespace Go.Proofs.YtdfmobcocaijpaaDoor.PrintWords
open Go.ChangeShapes Go.WideShapes
theorem sized_ints {H : Type} {enc : TypeId × Value → H} {P : Program} {W : World} {base : Nat} {spare : Nat → Bool} {held : Bool} {t e : TypeId} {k : IntKind} {a : Option Addr} {len cap : Nat} {d : DataW H} {ps : List MemPlace} {ts : List TypeId} {ds : List (DataW H)} {j : Nat}
    (hsz : (DataW.weightsEach P ts ds).all (· ≤ reachBytes) = true) (ht : ts[j]? = some t) (hd : ds[j]? = some d) (hu : P.underlying t = some (.slice e)) (he : P.underlying e = some (.int k)) (hc : P.cellsOf e = 1) {B : Nat} (hB : P.bytesOf e = B)
    (h : DataW.Trod enc P W base spare held t (.slice a len cap) d ps) : len * B ≤ 140737488351232 :=
  Go.Proofs.YtdfmobcocaijpaaDoorW.PrintWords.sized_ints hsz ht hd hu he hc hB h
end Go.Proofs.YtdfmobcocaijpaaDoor.PrintWords
