/- Lemmas about lists, numbers and loops that the pure statements of this seat use. No condition of its own. -/
import Derived.Test.YtdfmobcocaijpaaDoorVMore
import Derived.Test.YtdfmobcocaijpaaDoorVSized
namespace Go.Proofs.YtdfmobcocaijpaaDoor.Lib
open Go.RowKit Go.Proofs.YtdfmobcocaijpaaDoorW.PrintWords Go.Proofs.YtdfmobcocaijpaaDoorW.PrintLast Go.Proofs.YtdfmobcocaijpaaDoorW.PrintMore
set_option linter.unusedVariables false
set_option linter.unusedSimpArgs false

theorem w64 {n : Int} (h : -9223372036854775808 ≤ n) (h' : n ≤ 9223372036854775807) : wrap64 n = n := by unfold wrap64; omega

section ev
variable {α β : Type}
theorem ev_succ {g : Nat → Option α} {r : α} (h : Ev (fun k => g (k + 1)) r) : Ev g r := Ev.step (fun _ => rfl) h
theorem ev_of_eq {g : Nat → Option α} {r : α} (h : ∀ k, g k = some r) : Ev g r := ⟨0, fun k _ => h k⟩
theorem ev_eq {g : Nat → Option α} {r r' : α} (h : Ev g r) (e : r = r') : Ev g r' := e ▸ h
end ev

section loops
variable {α : Type}
theorem loop_pre (l : List α) (d : α) (hl : l.length ≤ 1099511627776) {P : Int → List α → List α → Prop}
    (hend : P (l.length : Int) l [])
    (hstep : ∀ (i : Int) (pre : List α) (x : α) (rest : List α), l = pre ++ x :: rest → i = pre.length → 0 ≤ i → i < (l.length : Int) → l.getD i.toNat d = x → wrap64 (i + 1) = i + 1 → P (i + 1) (pre ++ [x]) rest → P i pre (x :: rest)) : P 0 [] l := by
  suffices H : ∀ (rest pre : List α), l = pre ++ rest → P (pre.length : Int) pre rest by simpa using H l [] rfl
  intro rest
  induction rest with
  | nil => intro pre h; simp at h; subst h; exact hend
  | cons x rest ih =>
    intro pre h
    have hlen : l.length = pre.length + (rest.length + 1) := by rw [h]; simp
    refine hstep _ pre x rest h rfl (by omega) (by omega) ?_ (w64 (by omega) (by omega)) ?_
    · rw [h]; simp [List.getD_eq_getElem?_getD]
    · have := ih (pre ++ [x]) (by simp [h])
      simpa using this
theorem loop_of (l : List α) (d : α) (hl : l.length ≤ 1099511627776) {P : Int → List α → Prop}
    (hend : P (l.length : Int) [])
    (hstep : ∀ (i : Int) (x : α) (rest : List α), 0 ≤ i → i < (l.length : Int) → rdOf d l i = x → x ∈ l → wrap64 (i + 1) = i + 1 → P (i + 1) rest → P i (x :: rest)) : P 0 l :=
  loop_pre l d hl (P := fun i _ rest => P i rest) hend (fun i pre x rest h _ h0 h1 h2 h3 h4 => hstep i x rest h0 h1 h2 (by rw [h]; simp) h3 h4)
theorem loop_int (l : List Int) (hl : l.length ≤ 1099511627776) {P : Int → List Int → Prop}
    (hend : P (l.length : Int) [])
    (hstep : ∀ (i : Int) (x : Int) (rest : List Int), 0 ≤ i → i < (l.length : Int) → rd l i = x → x ∈ l → wrap64 (i + 1) = i + 1 → P (i + 1) rest → P i (x :: rest)) : P 0 l :=
  loop_of l 0 hl hend hstep
theorem loop_int_pre (l : List Int) (hl : l.length ≤ 1099511627776) {P : Int → List Int → List Int → Prop}
    (hend : P (l.length : Int) l [])
    (hstep : ∀ (i : Int) (pre : List Int) (x : Int) (rest : List Int), l = pre ++ x :: rest → i = pre.length → 0 ≤ i → i < (l.length : Int) → rd l i = x → wrap64 (i + 1) = i + 1 → P (i + 1) (pre ++ [x]) rest → P i pre (x :: rest)) : P 0 [] l :=
  loop_pre l 0 hl hend hstep
/-- Counting up to n. -/
theorem loop_up (n : Nat) (hn : n ≤ 1099511627776) {P : Int → Nat → Prop} (hend : P (n : Int) 0)
    (hstep : ∀ (i : Int) (m : Nat), 0 ≤ i → i < (n : Int) → i + (m + 1 : Nat) = n → wrap64 (i + 1) = i + 1 → P (i + 1) m → P i (m + 1)) : P 0 n := by
  suffices H : ∀ (m : Nat) (i : Int), 0 ≤ i → i + m = n → P i m from H n 0 (by omega) (by omega)
  intro m
  induction m with
  | zero => intro i h0 h; obtain rfl : i = n := by omega
            exact hend
  | succ m ih => intro i h0 h; exact hstep i m h0 (by omega) h (w64 (by omega) (by omega)) (ih (i + 1) (by omega) (by omega))
theorem set_mid (pre rest : List α) (i : Int) (hi : i = pre.length) (y x : α) : (pre ++ y :: rest).set i.toNat x = (pre ++ [x]) ++ rest := by
  subst hi
  simp [List.set_append]
theorem getD_mid (pre rest : List α) (i : Int) (hi : i = pre.length) (y d : α) : (pre ++ y :: rest).getD i.toNat d = y := by
  subst hi
  simp [List.getD_eq_getElem?_getD]
theorem rd_mid (pre rest : List Int) (i : Int) (hi : i = pre.length) (y : Int) : rd (pre ++ y :: rest) i = y := getD_mid pre rest i hi y 0
theorem rdOf_mid (d : α) (pre rest : List α) (i : Int) (hi : i = pre.length) (y : α) : rdOf d (pre ++ y :: rest) i = y := getD_mid pre rest i hi y d
theorem rd_mem (l : List Int) (i : Int) (h0 : 0 ≤ i) (h : i < (l.length : Int)) : rd l i ∈ l := by
  unfold rd
  have : i.toNat < l.length := by omega
  simp [List.getD_eq_getElem?_getD, List.getElem?_eq_getElem this]
theorem rdOf_mem (d : α) (l : List α) (i : Int) (h0 : 0 ≤ i) (h : i < (l.length : Int)) : rdOf d l i ∈ l := by
  unfold rdOf
  have : i.toNat < l.length := by omega
  simp [List.getD_eq_getElem?_getD, List.getElem?_eq_getElem this]
end loops

/-! Cards -/
def isCardM (c : Int) : Bool := decide (0 ≤ c ∧ c ≤ 51)
def suitM (c : Int) : Int := if 0 ≤ c ∧ c ≤ 51 then c / 13 else -1
def rankM (c : Int) : Int := if 0 ≤ c ∧ c ≤ 51 then c % 13 else -1
def stepM (c : Int) : Int := if 0 ≤ c ∧ c ≤ 51 then (c % 13 + 1) % 13 + 1 else 0
theorem tdiv13 (c : Int) (h0 : 0 ≤ c) (h : c ≤ 51) : wrap64 (Int.tdiv c 13) = c / 13 := by
  rw [Int.tdiv_eq_ediv_of_nonneg h0]
  exact w64 (by omega) (by omega)
theorem tmod13 (c : Int) (h0 : 0 ≤ c) : Int.tmod c 13 = c % 13 := Int.tmod_eq_emod_of_nonneg h0
theorem suitM_range (c : Int) : -1 ≤ suitM c ∧ suitM c ≤ 3 := by unfold suitM; split <;> omega
theorem rankM_range (c : Int) : -1 ≤ rankM c ∧ rankM c ≤ 12 := by unfold rankM; split <;> omega
theorem suitM_nonneg (c : Int) : 0 ≤ suitM c ↔ 0 ≤ c ∧ c ≤ 51 := by unfold suitM; split <;> omega
theorem stepM_range (c : Int) : 0 ≤ stepM c ∧ stepM c ≤ 13 := by unfold stepM; split <;> omega

/-! Remainders and hashes -/
def modM (a b : Int) : Int := if 1 ≤ b ∧ b ≤ 1000000000000 then Int.tmod (wrap64 (Int.tmod a b + b)) b else 0
theorem modM_range (a b : Int) (h1 : 1 ≤ b) (h2 : b ≤ 1000000000000) : 0 ≤ modM a b ∧ modM a b < b := by
  unfold modM
  rw [if_pos ⟨h1, h2⟩]
  have h3 : -b < Int.tmod a b := by
    have := Int.lt_tmod_of_pos a (show (0:Int) < b by omega)
    omega
  have h4 : Int.tmod a b < b := Int.tmod_lt_of_pos a (by omega)
  rw [w64 (by omega) (by omega), Int.tmod_eq_emod_of_nonneg (by omega)]
  exact ⟨Int.emod_nonneg _ (by omega), Int.emod_lt_of_pos _ (by omega)⟩
def hashStep (d v : Int) : Int := Int.tmod (wrap64 ((wrap64 ((wrap64 (d * 1000003)) + modM v 2147483647)) + 13)) 2147483647
def hashM (l : List Int) : Int := l.foldl hashStep 11
def jointStep (n s : Int) : Int := Int.tmod (wrap64 (n + modM s 1000001)) 1000001
def jointM (l : List Int) : Int := l.foldl jointStep 0

/-! Foundations -/
def isBaseM (l : List Int) : Bool := decide (l.length = 4) && l.all (fun x => decide (0 ≤ x ∧ x ≤ 13))
def mayBuildM (l : List Int) (c : Int) : Bool := isBaseM l && isCardM c && (stepM c == wrap64 (rd l (suitM c) + 1))
def isRedM (c : Int) : Bool := decide (1 ≤ suitM c ∧ suitM c ≤ 2)
def builtM (l : List Int) (c : Int) : List Int × Bool := if mayBuildM l c = true then (l.set (suitM c).toNat (wrap64 (rd l (suitM c) + 1)), true) else (l, false)
def inBaseM (l : List Int) (c : Int) : Bool := decide (stepM c ≤ rd l (suitM c))
def isSafeM (l : List Int) (c : Int) : Bool :=
  mayBuildM l c && (decide (stepM c ≤ 2) || if isRedM c = true then decide (stepM c - 1 ≤ rd l 0) && decide (stepM c - 1 ≤ rd l 3) else decide (stepM c - 1 ≤ rd l 1) && decide (stepM c - 1 ≤ rd l 2))
/-- The cards from c on that lie on a foundation. -/
def baseF (l : List Int) : Nat → Int → List Int
  | 0, _ => []
  | n + 1, c => if inBaseM l c = true then c :: baseF l n (c + 1) else baseF l n (c + 1)
def baseCardsM (l : List Int) : List Int := if isBaseM l = true then baseF l 52 0 else []
theorem baseF_len (l : List Int) : ∀ (n : Nat) (c : Int), (baseF l n c).length ≤ n := by
  intro n
  induction n with
  | zero => intro c; simp [baseF]
  | succ n ih => intro c; unfold baseF; have := ih (c + 1); split <;> simp <;> omega
theorem isBaseM_len {l : List Int} (h : isBaseM l = true) : l.length = 4 := by unfold isBaseM at h; simp at h; exact h.1
theorem isCardM_iff (c : Int) : isCardM c = true ↔ 0 ≤ c ∧ c ≤ 51 := by simp [isCardM]
def openF (seeds salts : List Int) : Int → List Int → Bool
  | _, [] => true
  | i, s :: rest => decide (0 ≤ rd seeds i ∧ rd seeds i ≤ 1000000) && decide (0 ≤ rd salts i ∧ rd salts i ≤ 1000000) && (hashM [i, rd seeds i, rd salts i] == s) && openF seeds salts (i + 1) rest
def areOpenedM (seals seeds salts : List Int) : Bool := decide (1 ≤ seals.length ∧ seals.length ≤ 6) && decide (seeds.length = seals.length) && decide (salts.length = seals.length) && openF seeds salts 0 seals
def mostF (l : List Int) : Int → Int → List Int → Int
  | best, _, [] => best
  | best, i, x :: rest => if best < 0 then mostF l i (i + 1) rest else if x > rd l best then mostF l i (i + 1) rest else mostF l best (i + 1) rest
def countStep (l : List Int) (c : Int) : List Int := if 0 ≤ suitM c then l.set (suitM c).toNat (wrap64 (rd l (suitM c) + 1)) else l
theorem countStep_length (l : List Int) (c : Int) : (countStep l c).length = l.length := by unfold countStep; split <;> simp
def countsM (l : List Int) : List Int := l.foldl countStep [0, 0, 0, 0]

/-! Hands and piles -/
theorem getD_replicate_false (n i : Nat) : (List.replicate n false).getD i false = false := by
  rw [List.getD_eq_getElem?_getD, List.getElem?_replicate]
  split <;> rfl
def handP : List Int → List Int → Bool
  | _, [] => true
  | pre, c :: r => isCardM c && (!pre.contains c && handP (pre ++ [c]) r)
def isHandM (l : List Int) : Bool := handP [] l
def goesM (a b : Int) : Bool := decide (rankM a = rankM b + 1) && (isRedM a != isRedM b)
def pileF (l : List Int) : Nat → Int → Bool
  | 0, _ => true
  | n + 1, i => goesM (rd l (i - 1)) (rd l i) && pileF l n (i + 1)
def isPileM (l : List Int) (h : Int) : Bool := isHandM l && (decide (0 ≤ h ∧ h ≤ (l.length : Int)) && pileF l ((l.length : Int) - (h + 1)).toNat (h + 1))
def openM (l : List Int) (h : Int) : Int := if isPileM l h = true then (l.length : Int) - h else 0
def topM (l : List Int) : Int := if l.length = 0 then -1 else rd l ((l.length : Int) - 1)
def mayStackM (l : List Int) (h c : Int) : Bool :=
  isPileM l h && (isCardM c && (!l.contains c && (if l.length = 0 then decide (rankM c = 11) else decide (h < (l.length : Int)) && goesM (topM l) c)))

/-! Decks -/
def missF (l : List Int) : Nat → Int → List Int
  | 0, _ => []
  | n + 1, c => if l.contains c = true then missF l n (c + 1) else c :: missF l n (c + 1)
def missingM (l : List Int) : List Int := missF l 52 0
theorem missF_len (l : List Int) : ∀ (n : Nat) (c : Int), (missF l n c).length ≤ n := by
  intro n
  induction n with
  | zero => intro c; simp [missF]
  | succ n ih => intro c; unfold missF; have := ih (c + 1); split <;> simp <;> omega
theorem missingM_len (l : List Int) : (missingM l).length ≤ 52 := missF_len l 52 0
def shufStep (seed : Int) (l : List Int) (i : Int) : List Int := (l.set i.toNat (rd l (modM (hashM [seed, i]) (i + 1)))).set (modM (hashM [seed, i]) (i + 1)).toNat (rd l i)
def shufF (seed : Int) : Nat → List Int → List Int
  | 0, l => l
  | n + 1, l => shufF seed n (shufStep seed l ((n : Int) + 1))
def shuffledM (l : List Int) (seed : Int) : List Int := shufF seed (l.length - 1) l
theorem shufStep_length (seed : Int) (l : List Int) (i : Int) : (shufStep seed l i).length = l.length := by simp [shufStep]
theorem shufF_length (seed : Int) : ∀ (n : Nat) (l : List Int), (shufF seed n l).length = l.length := by
  intro n
  induction n with
  | zero => intro l; rfl
  | succ n ih => intro l; unfold shufF; rw [ih, shufStep_length]
def jointDeckM (a b c : List Int) : List Int × Bool := if areOpenedM a b c = true then (shuffledM (missingM []) (jointM b), true) else ([], false)
theorem shuffledM_length (l : List Int) (seed : Int) : (shuffledM l seed).length = l.length := by rw [shuffledM, shufF_length]
theorem ite_len (p : Prop) [Decidable p] (l : List Int) (h : l.length ≤ 52) : (if p then (l, true) else ([], false)).1.length ≤ 52 := by
  by_cases hp : p
  · rw [if_pos hp]; exact h
  · rw [if_neg hp]; exact Nat.zero_le _
theorem jointDeckM_len (a b c : List Int) : (jointDeckM a b c).1.length ≤ 52 := by
  unfold jointDeckM
  refine ite_len _ _ ?_
  rw [shuffledM_length]
  exact missingM_len []

/-! Rules -/
def rulesWordM (a b : Bool) : ByteArray := if (a && b) = true then ⟨#[98, 111, 116, 104]⟩ else if a = true then ⟨#[115, 117, 105, 116]⟩ else if b = true then ⟨#[114, 97, 110, 107]⟩ else ⟨#[]⟩

/-! Patterns -/
def leafM (s : Int) : Bool := decide (100 ≤ s ∧ s ≤ 103) || decide (200 ≤ s ∧ s ≤ 212) || decide (300 ≤ s ∧ s ≤ 312) || (s == 400)
def patF : List Int → Int → Option Int
  | [], n => some n
  | s :: r, n => if leafM s = true then patF r (n + 1) else if s = -1 ∧ 1 ≤ n then patF r n else if (s = -2 ∨ s = -3) ∧ 2 ≤ n then patF r (n - 1) else none
def patEnd (len : Nat) : Option Int → Bool
  | some n => decide (n = 1) && decide (len ≤ 20)
  | none => false
def isPatM (p : List Int) : Bool := patEnd p.length (patF p 0)
def maybeM (p : List Int) : Bool := decide (p.length = 0) || isPatM p
def isRulesM (a0 a1 : Int) (a2 a3 : Bool) (l4 l5 : List Int) (a6 a7 : Int) : Bool :=
  decide (2 ≤ a0 ∧ a0 ≤ 6) && (decide (1 ≤ a1 ∧ a1 ≤ 8) && ((a2 || a3) && (maybeM l4 && (maybeM l5 && (decide (1 ≤ a6 ∧ a6 ≤ 4) && decide (1 ≤ a7 ∧ a7 ≤ 400))))))

/-! Texts -/
theorem data_inj {a b : ByteArray} (h : a.data.toList = b.data.toList) : a = b := by
  obtain ⟨⟨x⟩⟩ := a
  obtain ⟨⟨y⟩⟩ := b
  simp at h
  rw [h]
theorem toList_iff (a b : ByteArray) : a.toList = b.toList ↔ a = b := by
  constructor
  · intro h
    rw [ByteArray.toList_eq, ByteArray.toList_eq] at h
    exact data_inj h
  · intro h; rw [h]
theorem size_data (s : ByteArray) : s.data.toList.length = s.size := Array.length_toList
theorem bt_data (s : ByteArray) (i : Nat) (h : i < s.size) : bt s (i : Int) = ((s.data.toList[i]'(by rw [size_data]; exact h)).toNat : Int) := by
  unfold bt
  rw [dif_pos (by simpa using h)]
  rfl
theorem extract_data' (s : ByteArray) (a b : Nat) : (s.extract a b).data.toList = (s.data.toList.take b).drop a := by
  rw [ByteArray.data_extract, Array.toList_extract, List.extract_eq_drop_take', List.drop_take]
theorem bt_eq (s : ByteArray) (i : Nat) (h : i < s.size) (c : UInt8) : bt s (i : Int) = (c.toNat : Int) ↔ s.data.toList[i]'(by rw [size_data]; exact h) = c := by
  rw [bt_data s i h]
  constructor
  · intro e
    exact UInt8.toNat_inj.1 (by omega)
  · intro e; rw [e]
/-- What begins with a text and then a byte. -/
theorem cut_word (s t : ByteArray) (c : UInt8) (h : t.size < s.size) : s.extract 0 (t.size + 1) = t ++ (⟨#[c]⟩ : ByteArray) ↔ s.extract 0 t.size = t ∧ bt s (t.size : Int) = (c.toNat : Int) := by
  rw [bt_eq s t.size h c]
  have hl : t.size < s.data.toList.length := by rw [size_data]; exact h
  have e1 : ∀ n, (s.extract 0 n).data.toList = s.data.toList.take n := fun n => by rw [extract_data']; simp
  constructor
  · intro e
    have e2 := congrArg (fun b : ByteArray => b.data.toList) e
    simp only [e1, ByteArray.toList_data_append] at e2
    rw [List.take_succ_eq_append_getElem hl] at e2
    have e3 := List.append_inj' e2 rfl
    refine ⟨data_inj (by rw [e1]; exact e3.1), by simpa using e3.2⟩
  · rintro ⟨e2, e3⟩
    apply data_inj
    rw [e1, ByteArray.toList_data_append, List.take_succ_eq_append_getElem hl, e3, ← e1, e2]

/-! Texts cut at a byte -/
def splitF (s : ByteArray) (c : Int) : Nat → List ByteArray → Int → Int → List ByteArray
  | 0, out, fr, _ => out ++ [s.extract fr.toNat s.size]
  | n + 1, out, fr, i => if bt s i = c then splitF s c n (out ++ [s.extract fr.toNat i.toNat]) (i + 1) (i + 1) else splitF s c n out fr (i + 1)

end Go.Proofs.YtdfmobcocaijpaaDoor.Lib

namespace Go.Proofs.YtdfmobcocaijpaaDoor.PrintWords
open Go.ChangeShapes Go.WideShapes
/-- The word of the print, under the name by which the printed rows call it. -/
theorem sized_ints {H : Type} {enc : TypeId × Value → H} {P : Program} {W : World} {base : Nat} {spare : Nat → Bool} {held : Bool} {t e : TypeId} {k : IntKind} {a : Option Addr} {len cap : Nat} {d : DataW H} {ps : List MemPlace} {ts : List TypeId} {ds : List (DataW H)} {j : Nat}
    (hsz : (DataW.weightsEach P ts ds).all (· ≤ reachBytes) = true) (ht : ts[j]? = some t) (hd : ds[j]? = some d) (hu : P.underlying t = some (.slice e)) (he : P.underlying e = some (.int k)) (hc : P.cellsOf e = 1) {B : Nat} (hB : P.bytesOf e = B)
    (h : DataW.Trod enc P W base spare held t (.slice a len cap) d ps) : len * B ≤ 140737488351232 :=
  Go.Proofs.YtdfmobcocaijpaaDoorW.PrintWords.sized_ints hsz ht hd hu he hc hB h
end Go.Proofs.YtdfmobcocaijpaaDoor.PrintWords
