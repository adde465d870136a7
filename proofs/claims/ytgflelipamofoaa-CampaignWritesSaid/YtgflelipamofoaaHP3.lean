/- Chapter 43: what the printed reference of MustRun computes, plainly. -/
import Derived.Test.YtgflelipamofoaaHP2
import Derived.Test.YtgflelipamofoaaHC
import Derived.Test.YtgflelipamofoaaPAx5
import Derived.Laws.Strings
namespace Go.Proofs.Ytgflelipamofoaa.PA
open Go Go.RowKit Go.Proofs.YtgflelipamofoaaW.PrintWords Go.Proofs.YtgflelipamofoaaW.PrintLast Go.Proofs.YtgflelipamofoaaW.PrintMore
theorem toList_inj {a b : ByteArray} : a.toList = b.toList ↔ a = b := by
  rw [ByteArray.toList_eq, ByteArray.toList_eq]
  exact ⟨fun h => ByteArray.ext (Array.ext' h), fun h => by rw [h]⟩
theorem ev_succ {α : Type} {g : Nat → Option α} {r : α} (h : Ev (fun k => g (k + 1)) r) : Ev g r := Ev.step (fun _ => rfl) h
theorem ev_some {α : Type} {g : Nat → Option α} {r : α} (K : Nat) (h : ∀ k, K ≤ k → g k = some r) : Ev g r := ⟨K, h⟩
theorem rd38 (l : List S38) (i : Nat) (h : i < l.length) : rd_T38 l (i : Int) = l[i] := by simp [rd_T38, h]
theorem rd61 (l : List S61) (i : Nat) (h : i < l.length) : rd_T61 l (i : Int) = l[i] := by simp [rd_T61, h]
theorem names_drop (l : List S38) (i j : Nat) (hj : j < i) (hi : i < l.length) : names ((l.take i).drop j) = l[j].f0 :: names ((l.take i).drop (j + 1)) := by
  have h : j < (l.take i).length := by simp; omega
  rw [List.drop_eq_getElem_cons h]
  simp [names]
theorem terr_in (l : List S38) (i : Nat) (hi : i < l.length) (hl : l.length ≤ 60) (r : Int)
    (ha : Ev (fun k => (examinerbase_Within.f l[i].f1 0 1099511627775).bind fun t169 => (if t169 = true then (examinerref43_TestsErr.l0 k l (wrap64 ((i : Int) + 1))) else (some 3))) r) :
    ∀ (d j : Nat), j + d = i → Ev (fun k => examinerref43_TestsErr.l1 k l i j) (if inB l[i].f0 (names ((l.take i).drop j)) = true then 13 else r) := by
  intro d
  induction d with
  | zero =>
    intro j hj
    refine Ev.step (f := fun k => (examinerbase_Within.f l[i].f1 0 1099511627775).bind fun t169 => (if t169 = true then (examinerref43_TestsErr.l0 k l (wrap64 ((i : Int) + 1))) else (some 3))) (fun k => ?_) ?_
    · simp only [examinerref43_TestsErr.l1]
      rw [if_neg (by omega), if_pos (by omega), if_pos (by omega), rd38 l i hi]
    · rw [List.drop_eq_nil_of_le (by simp; omega)]
      simpa [names, inB] using ha
  | succ d ih =>
    intro j hj
    rw [names_drop l i j (by omega) hi]
    by_cases e : l[j].f0 = l[i].f0
    · rw [if_pos (by simp [inB, e])]
      refine Ev.step (f := fun k => some 13) (fun k => ?_) (Ev.now _)
      simp only [examinerref43_TestsErr.l1]
      rw [if_pos (by omega), if_pos (by omega), if_pos (by omega), if_pos (by omega), if_pos (by omega), rd38 l i hi, rd38 l j (by omega), if_pos (by rw [e])]
    · have := ih (j + 1) (by omega)
      rw [show inB l[i].f0 (l[j].f0 :: names ((l.take i).drop (j + 1))) = inB l[i].f0 (names ((l.take i).drop (j + 1))) by simp [inB, e]]
      refine Ev.step (f := fun k => examinerref43_TestsErr.l1 k l i ((j + 1 : Nat) : Int)) (fun k => ?_) this
      simp only [examinerref43_TestsErr.l1]
      rw [if_pos (by omega), if_pos (by omega), if_pos (by omega), if_pos (by omega), if_pos (by omega), rd38 l i hi, rd38 l j (by omega), if_neg (by rw [toList_inj]; exact e), wrap_succ (show j < l.length by omega) (by omega)]
theorem terr_loop (l : List S38) (hl : l.length ≤ 60) : ∀ (d i : Nat), i + d = l.length → Ev (fun k => examinerref43_TestsErr.l0 k l i) (tErr (names (l.take i)) (l.drop i)) := by
  intro d
  induction d with
  | zero =>
    intro i hi
    refine Ev.step (f := fun k => some 0) (fun k => ?_) ?_
    · simp only [examinerref43_TestsErr.l0]
      rw [if_neg (by omega)]
    · rw [List.drop_eq_nil_of_le (by omega)]
      exact Ev.now _
  | succ d ih =>
    intro i hi
    have hlt : i < l.length := by omega
    rw [tErr_step l i hlt]
    refine Ev.step (f := fun k => (examinerref43_IsTest.f k l[i].f0).bind fun t165 => (if t165 = true then (examinerref43_TestsErr.l1 k l i 0) else (some 7))) (fun k => ?_) ?_
    · simp only [examinerref43_TestsErr.l0]
      rw [if_pos (by omega), if_pos (by omega), rd38 l i hlt]
    · refine Ev.bind (ev_some 24 (fun k hk => test_eq l[i].f0 k hk)) ?_
      by_cases hn : nameB l[i].f0 = true
      · simp only [hn, if_true]
        have := terr_in l i hlt hl (if 0 ≤ l[i].f1 ∧ l[i].f1 ≤ 1099511627775 then tErr (names (l.take (i + 1))) (l.drop (i + 1)) else 3) (by
          rw [within_eq]
          simp only [Option.bind_some, decide_eq_true_eq]
          by_cases hr : 0 ≤ l[i].f1 ∧ l[i].f1 ≤ 1099511627775
          · simp only [if_pos hr]
            rw [wrap_succ hlt (by omega)]
            exact ih (i + 1) (by omega)
          · simp only [if_neg hr]
            exact Ev.now _) i 0 (by omega)
        simpa using this
      · simp only [if_neg hn]
        exact Ev.now _
def tErrB (l : List S38) : Int := if (l.length : Int) > 60 then 2 else tErr [] l
theorem terr_eq (l : List S38) : Ev (fun k => examinerref43_TestsErr.f k l) (tErrB l) := by
  unfold examinerref43_TestsErr.f tErrB
  by_cases h : (l.length : Int) > 60
  · simp only [if_pos h]
    exact Ev.now _
  · simp only [if_neg h]
    have := terr_loop l (by omega) l.length 0 (by omega)
    simpa [names] using this
theorem same_texts_loop (a b : List ByteArray) (hab : a = b) (hl : a.length ≤ 9223372036854775807) : ∀ (d i : Nat), i + d = a.length → Ev (fun k => examinerbase_SameTexts.l0 k a b i) true := by
  subst hab
  intro d
  induction d with
  | zero =>
    intro i hi
    refine Ev.step (f := fun k => some true) (fun k => ?_) (Ev.now _)
    simp only [examinerbase_SameTexts.l0]
    rw [if_neg (by omega)]
  | succ d ih =>
    intro i hi
    refine Ev.step (f := fun k => examinerbase_SameTexts.l0 k a a ((i + 1 : Nat) : Int)) (fun k => ?_) (ih (i + 1) (by omega))
    simp only [examinerbase_SameTexts.l0]
    rw [if_pos (by omega), if_pos (by omega), if_pos (by omega), if_pos trivial, wrap_succ (show i < a.length by omega) hl]
theorem same_texts (a : List ByteArray) (hl : a.length ≤ 9223372036854775807) : Ev (fun k => examinerbase_SameTexts.f k a a) true := by
  unfold examinerbase_SameTexts.f
  simp only [if_true]
  exact same_texts_loop a a rfl hl a.length 0 (by omega)
/-- The index of the last entry of a test, or -1. -/
def lastIx (l : List S61) (s : ByteArray) : Int := match ((List.range l.length).reverse.find? fun i => decide ((l.getD i z61).f0 = s)) with
  | none => -1
  | some i => i
def lastBelow (l : List S61) (s : ByteArray) : Nat → Int
  | 0 => -1
  | i + 1 => if (l.getD i z61).f0 = s then (i : Int) else lastBelow l s i
theorem last_loop (l : List S61) (s : ByteArray) (hl : l.length ≤ 9223372036854775807) : ∀ (i : Nat), i ≤ l.length → Ev (fun k => examinerref43_last.l0 k l s ((i : Int) - 1)) (lastBelow l s i) := by
  intro i
  induction i with
  | zero =>
    intro _
    refine Ev.step (f := fun k => some (-1)) (fun k => ?_) (Ev.now _)
    simp only [examinerref43_last.l0]
    rw [if_neg (by omega)]
  | succ i ih =>
    intro hi
    have hr : rd_T61 l (((i + 1 : Nat) : Int) - 1) = l.getD i z61 := by
      rw [show ((i + 1 : Nat) : Int) - 1 = (i : Int) by omega]; rfl
    simp only [lastBelow]
    by_cases e : (l.getD i z61).f0 = s
    · rw [if_pos e]
      refine Ev.step (f := fun k => some (i : Int)) (fun k => ?_) (Ev.now _)
      simp only [examinerref43_last.l0]
      rw [if_pos (by omega), if_pos (by omega), if_pos (by omega), hr, if_pos (by rw [e])]
      congr 1
      omega
    · rw [if_neg e]
      refine Ev.step (f := fun k => examinerref43_last.l0 k l s ((i : Int) - 1)) (fun k => ?_) (ih (by omega))
      simp only [examinerref43_last.l0]
      rw [if_pos (by omega), if_pos (by omega), if_pos (by omega), hr, if_neg (by rw [toList_inj]; exact e)]
      congr 1
      unfold wrap64
      omega
theorem last_eq (l : List S61) (s : ByteArray) (hl : l.length ≤ 9223372036854775807) : Ev (fun k => examinerref43_last.f k l s) (lastBelow l s l.length) := by
  unfold examinerref43_last.f
  have := last_loop l s hl l.length (Nat.le_refl _)
  rw [show wrap64 ((l.length : Int) - 1) = (l.length : Int) - 1 by unfold wrap64; omega]
  exact this
theorem lastBelow_spec (l : List S61) (s : ByteArray) : ∀ i, i ≤ l.length → (lastBelow l s i = -1 ∧ lastOf (l.take i) s = none) ∨ (∃ j : Nat, ∃ h : j < l.length, lastBelow l s i = j ∧ j < i ∧ lastOf (l.take i) s = some l[j] ∧ l[j].f0 = s) := by
  intro i
  induction i with
  | zero => intro _; exact .inl ⟨rfl, rfl⟩
  | succ i ih =>
    intro hi
    rw [lastOf_snoc l i (by omega)]
    simp only [lastBelow]
    have hg : l.getD i z61 = l[i] := by simp [List.getD, show i < l.length by omega]
    rw [hg]
    by_cases e : l[i].f0 = s
    · rw [if_pos e, if_pos e.symm]
      exact .inr ⟨i, by omega, rfl, by omega, rfl, e⟩
    · rw [if_neg e, if_neg (fun h => e h.symm)]
      rcases ih (by omega) with h | ⟨j, hj, h1, h2, h3, h4⟩
      · exact .inl h
      · exact .inr ⟨j, hj, h1, by omega, h3, h4⟩
theorem ref_must_loop (l : List S61) (ts : List S38) (hl : l.length ≤ 60) (ht : ts.length ≤ 60) : ∀ (d i : Nat), i + d = ts.length → Ev (fun k => examinerref43_Must.l0 k l ts (mustOf l (ts.take i)) i) (mustOf l ts) := by
  intro d
  induction d with
  | zero =>
    intro i hi
    refine Ev.step (f := fun k => some (mustOf l (ts.take i))) (fun k => ?_) ?_
    · simp only [examinerref43_Must.l0]
      rw [if_neg (by omega)]
    · rw [List.take_of_length_le (by omega)]
      exact Ev.now _
  | succ d ih =>
    intro i hi
    have hlt : i < ts.length := by omega
    have hlen : (mustOf l (ts.take i)).length ≤ 60 := by
      have := mustOf_length l (ts.take i)
      simp at this
      omega
    refine ev_succ ?_
    simp only [examinerref43_Must.l0, if_pos (show (i : Int) < (ts.length : Int) by omega), if_pos (show 0 ≤ (i : Int) by omega), rd38 ts i hlt]
    refine Ev.bind (last_eq l ts[i].f0 (by omega)) ?_
    have hlen' : (mustOf l (ts.take i)).length < 8796093022208 := by omega
    have hstep := mustOf_snoc l ts i hlt
    have hih := ih (i + 1) (by omega)
    rw [wrap_succ hlt (by omega)]
    rcases lastBelow_spec l ts[i].f0 l.length (Nat.le_refl _) with ⟨h1, h2⟩ | ⟨j, hj, h1, _, h3, h4⟩
    · rw [List.take_length] at h2
      rw [mustT_none h2, if_pos rfl] at hstep
      simp only [h1, if_true, if_pos hlen']
      rw [← hstep]
      exact hih
    · rw [List.take_length] at h3
      rw [mustT_some h3] at hstep
      simp only [h1, if_neg (show ¬ (j : Int) = -1 by omega), if_pos (show 0 ≤ (j : Int) by omega), if_pos (show (j : Int) < (l.length : Int) by omega), rd61 l j hj, if_pos hlen']
      by_cases e1 : l[j].f1 = ts[i].f1
      · by_cases e2 : l[j].f2 = 1
        · simp only [if_pos e1, if_pos e2]
          rw [if_neg (by simp [e1, e2])] at hstep
          rw [← hstep]
          exact hih
        · simp only [if_pos e1, if_neg e2]
          rw [if_pos (by simp [e2])] at hstep
          rw [← hstep]
          exact hih
      · simp only [if_neg e1]
        rw [if_pos (by simp [e1])] at hstep
        rw [← hstep]
        exact hih
theorem ref_must_eq (l : List S61) (ts : List S38) (hl : l.length ≤ 60) (ht : ts.length ≤ 60) : Ev (fun k => examinerref43_Must.f k l ts) (mustOf l ts) := by
  unfold examinerref43_Must.f
  exact ref_must_loop l ts hl ht ts.length 0 (by omega)
end Go.Proofs.Ytgflelipamofoaa.PA
