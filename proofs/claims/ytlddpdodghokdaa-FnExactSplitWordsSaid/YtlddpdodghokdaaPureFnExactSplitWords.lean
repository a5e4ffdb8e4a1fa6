/- The program's SplitWords answers what the reference's answers, for all arguments. No condition but those that the statement itself names. -/
import Derived.Test.YtlddpdodghokdaaPFnExactSplitWordsx2
import Derived.Test.YtlddpdodghokdaaLib
namespace Go.Proofs.Ytlddpdodghokdaa.Pure
open Go.RowKit Go.Proofs.Ytlddpdodghokdaa.PFnExactSplitWords Go.Proofs.YtlddpdodghokdaaW.PrintWords Go.Proofs.YtlddpdodghokdaaW.PrintLast Go.Proofs.YtlddpdodghokdaaW.PrintMore Go.Proofs.Ytlddpdodghokdaa.Lib
set_option linter.unusedVariables false
set_option linter.unusedSimpArgs false

/-! spec_SplitWords -/
theorem spec_SplitWords_ev (s : ByteArray) (c : Int) (hs : s.size ≤ 1048576) : Ev (fun k => spec_SplitWords.f k s c) (splitF s c s.size [] 0 0) := by
  simp only [spec_SplitWords.f]
  suffices H : ∀ (n : Nat) (out : List ByteArray) (fr i : Int), 0 ≤ fr → fr ≤ i → i + n = s.size → out.length ≤ i → Ev (fun k => spec_SplitWords.l0 k s c out fr i) (splitF s c n out fr i) from H s.size [] 0 0 (by omega) (by omega) (by omega) (by simp)
  intro n
  induction n with
  | zero =>
    intro out fr i h0 h1 h2 h3
    obtain rfl : i = s.size := by omega
    have e1 : out.length < 8796093022208 := by omega
    refine ev_succ (ev_succ (ev_of_eq fun k => ?_))
    have e2 : wrap64 ((s.size : Int) + 1) = (s.size : Int) + 1 := w64 (by omega) (by omega)
    have e3 : ¬ (s.size : Int) + 1 ≤ (s.size : Int) := by omega
    simp only [spec_SplitWords.l0, Int.le_refl, ↓reduceIte, h0, h1, e1, e2, e3, splitF, Int.toNat_natCast]
  | succ n ih =>
    intro out fr i h0 h1 h2 h3
    have e1 : out.length < 8796093022208 := by omega
    have e2 : wrap64 (i + 1) = i + 1 := w64 (by omega) (by omega)
    have e3 : i ≤ (s.size : Int) := by omega
    have e4 : ¬ i = (s.size : Int) := by omega
    have e5 : 0 ≤ i := by omega
    have e6 : i < (s.size : Int) := by omega
    refine ev_succ ?_
    simp only [spec_SplitWords.l0, e1, e2, e3, e4, e5, e6, h0, h1, ↓reduceIte, splitF]
    by_cases g : bt s i = c
    · simp only [g, ↓reduceIte]
      exact ih _ _ _ (by omega) (by omega) (by omega) (by simp; omega)
    · simp only [g, ↓reduceIte]
      exact ih _ _ _ (by omega) (by omega) (by omega) (by omega)

/-! impl_SplitWords -/
theorem splitF_len (s : ByteArray) (c : Int) : ∀ (n : Nat) (out : List ByteArray) (fr i : Int), (splitF s c n out fr i).length ≤ out.length + n + 1 := by
  intro n
  induction n with
  | zero => intro out fr i; simp [splitF]
  | succ n ih =>
    intro out fr i
    unfold splitF
    split
    · have := ih (out ++ [s.extract fr.toNat i.toNat]) (i + 1) (i + 1)
      simp at this
      omega
    · have := ih out fr (i + 1)
      omega
theorem impl_SplitWords_ev (s : ByteArray) (c : Int) (hs : s.size ≤ 1048576) : Ev (fun k => impl_SplitWords.f k s c) (splitF s c s.size [] 0 0) := by
  simp only [impl_SplitWords.f]
  suffices H : ∀ (n : Nat) (out : List ByteArray) (fr i : Int), 0 ≤ fr → fr ≤ i → i + n = s.size → out.length ≤ i → Ev (fun k => impl_SplitWords.l0 k s c out fr (s.size : Int) i) (splitF s c n out fr i) from H s.size [] 0 0 (by omega) (by omega) (by omega) (by simp)
  intro n
  induction n with
  | zero =>
    intro out fr i h0 h1 h2 h3
    obtain rfl : i = s.size := by omega
    have e1 : out.length < 8796093022208 := by omega
    refine ev_succ (ev_of_eq fun k => ?_)
    simp only [impl_SplitWords.l0, Int.lt_irrefl, ↓reduceIte, h0, h1, e1, splitF]
  | succ n ih =>
    intro out fr i h0 h1 h2 h3
    have e1 : out.length < 8796093022208 := by omega
    have e2 : wrap64 (i + 1) = i + 1 := w64 (by omega) (by omega)
    have e3 : i ≤ (s.size : Int) := by omega
    have e5 : 0 ≤ i := by omega
    have e6 : i < (s.size : Int) := by omega
    refine ev_succ ?_
    simp only [impl_SplitWords.l0, e1, e2, e3, e5, e6, h0, h1, ↓reduceIte, splitF]
    by_cases g : bt s i = c
    · simp only [g, ↓reduceIte]
      exact ih _ _ _ (by omega) (by omega) (by omega) (by simp; omega)
    · simp only [g, ↓reduceIte]
      exact ih _ _ _ (by omega) (by omega) (by omega) (by omega)

/-! laws_eqStringS -/
theorem laws_eqStringS_ev (l : List ByteArray) (hl : l.length ≤ 1099511627776) : Ev (fun k => laws_eqStringS.f k l l) true := by
  simp only [laws_eqStringS.f, ↓reduceIte]
  refine loop_of l ByteArray.empty hl (P := fun i _ => Ev (fun k => laws_eqStringS.l0 k l l i) true) ?_ ?_
  · refine ev_succ (ev_of_eq fun k => ?_)
    simp only [laws_eqStringS.l0, Int.lt_irrefl, ↓reduceIte]
  · intro i x rest h0 h1 hx _ hw ih
    refine ev_succ ?_
    simp only [laws_eqStringS.l0, h1, h0, ↓reduceIte, hw]
    exact ih

/-! laws_markText -/
theorem laws_markText_some (a : Int) (h : a ≤ 1099511627776) : ∃ t, Ev (fun k => laws_markText.f k a) t := by
  simp only [laws_markText.f]
  by_cases h0 : a ≤ 0
  · simp only [h0, ↓reduceIte]
    exact ⟨_, Ev.now _⟩
  · simp only [h0, ↓reduceIte]
    suffices H : ∀ (n : Nat) (a : Int) (t : ByteArray), 0 ≤ a → a ≤ n → t.size + n ≤ 4611686018427387904 → ∃ r, Ev (fun k => laws_markText.l0 k a t) r from H 1099511627776 a _ (by omega) (by omega) (by decide)
    intro n
    induction n with
    | zero =>
      intro a t h1 h2 h3
      have e1 : ¬ a > 0 := by omega
      have e2 : 1 + t.size ≤ 9223372036854775807 := by omega
      exact ⟨_, ev_succ (ev_of_eq fun k => by simp only [laws_markText.l0, e1, e2, ↓reduceIte]; rfl)⟩
    | succ n ih =>
      intro a t h1 h2 h3
      by_cases e1 : a > 0
      · have e2 : (strOfNums [(wrap64 (48 + (Int.tmod a 10))) % 256]).size = 1 := rfl
        have e3 : (strOfNums [(wrap64 (48 + (Int.tmod a 10))) % 256]).size + t.size ≤ 9223372036854775807 := by omega
        have e4 : wrap64 (Int.tdiv a 10) = a / 10 := by
          rw [Int.tdiv_eq_ediv_of_nonneg h1]
          exact w64 (by omega) (by omega)
        obtain ⟨r, hr⟩ := ih (a / 10) (strOfNums [(wrap64 (48 + (Int.tmod a 10))) % 256] ++ t) (by omega) (by omega) (by rw [ByteArray.size_append]; omega)
        refine ⟨r, ev_succ ?_⟩
        simp only [laws_markText.l0, e1, e3, e4, ↓reduceIte, Option.bind_some]
        exact hr
      · have e2 : 1 + t.size ≤ 9223372036854775807 := by omega
        exact ⟨_, ev_succ (ev_of_eq fun k => by simp only [laws_markText.l0, e1, e2, ↓reduceIte]; rfl)⟩
noncomputable def markTextM (a : Int) : ByteArray := if h : a ≤ 1099511627776 then (laws_markText_some a h).choose else ⟨#[]⟩
theorem laws_markText_ev (a : Int) (h : a ≤ 1099511627776) : Ev (fun k => laws_markText.f k a) (markTextM a) := by
  unfold markTextM
  rw [dif_pos h]
  exact (laws_markText_some a h).choose_spec

/-! laws_markStringS -/
theorem laws_markStringS_ev (l : List ByteArray) (hl : l.length ≤ 268435456) (a : Int) (ha : 0 ≤ a) (ha2 : a ≤ 268435456) : Ev (fun k => laws_markStringS.f k l a) (a + l.length, (List.range l.length).map fun j : Nat => markTextM (a + (j : Int))) := by
  simp only [laws_markStringS.f]
  suffices H : ∀ (n : Nat) (pre rest : List ByteArray) (i : Int), i = pre.length → rest.length = n → (pre ++ rest).length = l.length → Ev (fun k => laws_markStringS.l0 k (pre ++ rest) (a + i) i) (a + l.length, pre ++ (List.range n).map fun j : Nat => markTextM (a + i + (j : Int))) by
    have := H l.length [] l 0 rfl rfl rfl
    simpa using this
  intro n
  induction n with
  | zero =>
    intro pre rest i hi hr ht
    obtain rfl : rest = [] := List.eq_nil_of_length_eq_zero hr
    refine ev_succ (ev_of_eq fun k => ?_)
    have e : i = (l.length : Int) := by simp at ht; omega
    have e2 : ¬ i < ((pre ++ [] : List ByteArray).length : Int) := by simp; omega
    simp only [laws_markStringS.l0, e2, ↓reduceIte]
    simp [e]
  | succ n ih =>
    intro pre rest i hi hr ht
    obtain ⟨x, rest, rfl⟩ : ∃ x r, rest = x :: r := by cases rest with | nil => simp at hr | cons x r => exact ⟨x, r, rfl⟩
    have h1 : i < ((pre ++ x :: rest : List ByteArray).length : Int) := by simp; omega
    have h0 : 0 ≤ i := by omega
    have hb : i + 1 ≤ (l.length : Int) := by rw [← ht]; omega
    refine ev_succ ?_
    simp only [laws_markStringS.l0, h1, h0, ↓reduceIte]
    refine Ev.bind (laws_markText_ev (a + i) (by omega)) ?_
    rw [set_mid pre rest i hi, w64 (n := a + i + 1) (by omega) (by omega), w64 (n := i + 1) (by omega) (by omega)]
    have := ih (pre ++ [markTextM (a + i)]) rest (i + 1) (by simp; omega) (by simpa using hr) (by simpa using ht)
    rw [show a + (i + 1) = a + i + 1 by omega] at this
    refine ev_eq this ?_
    rw [List.range_succ_eq_map]
    simp [Function.comp_def]
    intro j _
    congr 1
    omega

/-! laws_heldStringS -/
theorem laws_heldStringS_ev (n : Nat) (hl : n ≤ 268435456) (a : Int) (ha : 0 ≤ a) (ha2 : a ≤ 268435456) : Ev (fun k => laws_heldStringS.f k ((List.range n).map fun j : Nat => markTextM (a + (j : Int))) a) (a + n) := by
  simp only [laws_heldStringS.f]
  have hlen : ((List.range n).map fun j : Nat => markTextM (a + (j : Int))).length = n := by simp
  have hget : ∀ i : Int, 0 ≤ i → i < (n : Int) → rdOf ByteArray.empty ((List.range n).map fun j : Nat => markTextM (a + (j : Int))) i = markTextM (a + i) := by
    intro i h0 h1
    have : i.toNat < n := by omega
    unfold rdOf
    have e : ((i.toNat : Nat) : Int) = i := by omega
    simp [List.getD_eq_getElem?_getD, this, Int.max_eq_left h0]
  generalize (List.range n).map (fun j : Nat => markTextM (a + (j : Int))) = l at *
  subst hlen
  have := loop_up l.length (by omega) (P := fun i m => Ev (fun k => laws_heldStringS.l0 k l (a + i) i) (a + l.length)) ?_ ?_
  · simpa using this
  · refine ev_succ (ev_of_eq fun k => ?_)
    simp only [laws_heldStringS.l0, Int.lt_irrefl, ↓reduceIte]
  · intro i m h0 h1 _ hw ih
    refine ev_succ ?_
    simp only [laws_heldStringS.l0, h1, h0, ↓reduceIte, hget i h0 h1, hw]
    refine Ev.bind (laws_markText_ev (a + i) (by omega)) ?_
    simp only [↓reduceIte]
    rw [w64 (n := a + i + 1) (by omega) (by omega), show a + i + 1 = a + (i + 1) by omega]
    exact ih

theorem FnExactSplitWords : laws_FnExactSplitWords.Pure := by
  intro s c h1 h2
  refine Ev.rounds (g := fun k => laws_FnExactSplitWords.f k s c) ?_
  by_cases hb : (s.size : Int) > 1048576
  · exact ev_of_eq fun k => by simp only [laws_FnExactSplitWords.f, hb, ↓reduceIte]
  · have hs : s.size ≤ 1048576 := by omega
    have hn : (splitF s c s.size [] 0 0).length ≤ 268435456 := by
      have := splitF_len s c s.size [] 0 0
      simp at this
      omega
    have hn' : (splitF s c s.size [] 0 0).length ≤ 1099511627776 := by omega
    simp only [laws_FnExactSplitWords.f, hb, ↓reduceIte]
    refine Ev.bind (spec_SplitWords_ev s c hs) ?_
    refine Ev.bind (impl_SplitWords_ev s c hs) ?_
    refine Ev.bind (laws_eqStringS_ev _ hn') ?_
    simp only [↓reduceIte]
    refine Ev.bind (laws_markStringS_ev _ hn 1 (by omega) (by omega)) ?_
    refine Ev.bind (laws_heldStringS_ev _ hn 1 (by omega) (by omega)) ?_
    have n2 : ¬ (1 : Int) + ((splitF s c s.size [] 0 0).length : Int) < 0 := by omega
    simp only [n2, ↓reduceIte]
    refine Ev.bind (impl_SplitWords_ev s c hs) ?_
    refine Ev.bind (laws_eqStringS_ev _ hn') ?_
    simp only [↓reduceIte]
    refine Ev.bind (laws_heldStringS_ev _ hn 1 (by omega) (by omega)) ?_
    exact ev_of_eq fun k => by simp only [n2, ↓reduceIte]

end Go.Proofs.Ytlddpdodghokdaa.Pure
