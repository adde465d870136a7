/- Chapter 43: histories and last entries, plainly: the printed program and the printed reference. -/
import Derived.Test.YtgflelipamofoaaHP3
import Derived.Test.YtgflelipamofoaaHD
import Derived.Test.YtgflelipamofoaaPAx7
import Derived.Test.YtgflelipamofoaaPAx8
import Derived.Test.YtgflelipamofoaaPAx8
import Derived.Test.YtgflelipamofoaaPAx7
namespace Go.Proofs.Ytgflelipamofoaa.PA
open Go Go.RowKit Go.Proofs.YtgflelipamofoaaW.PrintWords Go.Proofs.YtgflelipamofoaaW.PrintLast Go.Proofs.YtgflelipamofoaaW.PrintMore
set_option linter.unusedVariables false
def hist (l : List S61) (s : ByteArray) : List Int := (l.filter (sameTest s)).map (·.f2)
theorem hist_snoc (l : List S61) (s : ByteArray) (i : Nat) (h : i < l.length) : hist (l.take (i + 1)) s = if l[i].f0 = s then hist (l.take i) s ++ [l[i].f2] else hist (l.take i) s := by
  unfold hist
  rw [List.take_succ_eq_append_getElem h, List.filter_append]
  by_cases e : l[i].f0 = s
  · simp [e, sameTest]
  · simp [e, sameTest]
theorem hist_length (l : List S61) (s : ByteArray) : (hist l s).length ≤ l.length := by
  unfold hist
  rw [List.length_map]
  exact List.length_filter_le _ _
theorem hist_loop (l : List S61) (s : ByteArray) (hl : l.length ≤ 60) : ∀ (d i : Nat), i + d = l.length → Ev (fun k => campaign_HistoryOf.l0 k s (hist (l.take i) s) l (l.length : Int) i) (hist l s, 0) := by
  intro d
  induction d with
  | zero =>
    intro i hi
    refine ev_succ ?_
    simp only [campaign_HistoryOf.l0, if_neg (show ¬ (i : Int) < (l.length : Int) by omega)]
    rw [List.take_of_length_le (by omega)]
    exact Ev.now _
  | succ d ih =>
    intro i hi
    have hlt : i < l.length := by omega
    have hlen : (hist (l.take i) s).length < 17592186044416 := by have := hist_length (l.take i) s; simp at this; omega
    have hst := hist_snoc l s i hlt
    have hih := ih (i + 1) (by omega)
    refine ev_succ ?_
    simp only [campaign_HistoryOf.l0, if_pos (show (i : Int) < (l.length : Int) by omega), if_pos (show 0 ≤ (i : Int) by omega), rd61 l i hlt, if_pos hlen, wrap_succ hlt (show l.length ≤ 9223372036854775807 by omega), toList_inj]
    by_cases e : l[i].f0 = s
    · rw [if_pos e] at hst
      simp only [if_pos e]
      rw [← hst]
      exact hih
    · rw [if_neg e] at hst
      simp only [if_neg e]
      rw [← hst]
      exact hih
theorem ref_hist_loop (l : List S61) (s : ByteArray) (hl : l.length ≤ 60) : ∀ (d i : Nat), i + d = l.length → Ev (fun k => examinerref43_History.l0 k l s (hist (l.take i) s) i) (hist l s) := by
  intro d
  induction d with
  | zero =>
    intro i hi
    refine ev_succ ?_
    simp only [examinerref43_History.l0, if_neg (show ¬ (i : Int) < (l.length : Int) by omega)]
    rw [List.take_of_length_le (by omega)]
    exact Ev.now _
  | succ d ih =>
    intro i hi
    have hlt : i < l.length := by omega
    have hlen : (hist (l.take i) s).length < 17592186044416 := by have := hist_length (l.take i) s; simp at this; omega
    have hst := hist_snoc l s i hlt
    have hih := ih (i + 1) (by omega)
    refine ev_succ ?_
    simp only [examinerref43_History.l0, if_pos (show (i : Int) < (l.length : Int) by omega), if_pos (show 0 ≤ (i : Int) by omega), rd61 l i hlt, if_pos hlen, wrap_succ hlt (show l.length ≤ 9223372036854775807 by omega), toList_inj]
    by_cases e : l[i].f0 = s
    · rw [if_pos e] at hst
      simp only [if_pos e]
      rw [← hst]
      exact hih
    · rw [if_neg e] at hst
      simp only [if_neg e]
      rw [← hst]
      exact hih
def histB (l : List S61) (s : ByteArray) : List Int × Int := if (checkB l).2 = 0 then (if nameB s = true then (hist l s, 0) else ([], 7)) else ([], (checkB l).2)
theorem historyOf_eq (l : List S61) (s : ByteArray) : Ev (fun k => campaign_HistoryOf.f k l s) (histB l s) := by
  unfold campaign_HistoryOf.f histB campaign_isName.f
  refine Ev.bind (ev_some 63 (fun k hk => check_eq k hk l)) ?_
  by_cases hc : (checkB l).2 = 0
  · obtain ⟨h60, _⟩ := check_ok hc
    simp only [if_pos hc, Option.bind_some]
    by_cases hn : nameB s = true
    · simp only [if_pos hn]
      exact hist_loop l s h60 l.length 0 (by omega)
    · simp only [if_neg hn]
      exact Ev.now _
  · simp only [if_neg hc]
    exact Ev.now _
theorem ref_history_eq (l : List S61) (s : ByteArray) (hl : l.length ≤ 60) : Ev (fun k => examinerref43_History.f k l s) (hist l s) := by
  unfold examinerref43_History.f
  exact ref_hist_loop l s hl l.length 0 (by omega)
theorem same_ints (a : List Int) (hl : a.length ≤ 9223372036854775807) : Ev (fun k => examinerbase_SameInts.f k a a) true := by
  unfold examinerbase_SameInts.f
  simp only [if_true]
  have : ∀ (d i : Nat), i + d = a.length → Ev (fun k => examinerbase_SameInts.l0 k a a i) true := by
    intro d
    induction d with
    | zero =>
      intro i hi
      refine ev_succ ?_
      simp only [examinerbase_SameInts.l0, if_neg (show ¬ (i : Int) < (a.length : Int) by omega)]
      exact Ev.now _
    | succ d ih =>
      intro i hi
      refine ev_succ ?_
      simp only [examinerbase_SameInts.l0, if_pos (show (i : Int) < (a.length : Int) by omega), if_pos (show 0 ≤ (i : Int) by omega), if_true, wrap_succ (show i < a.length by omega) hl]
      exact ih (i + 1) (by omega)
  exact this a.length 0 (by omega)
theorem same_entries (a : List S61) (hl : a.length ≤ 9223372036854775807) : Ev (fun k => examinerref43_SameEntries.f k a a) true := by
  unfold examinerref43_SameEntries.f
  simp only [if_true]
  have : ∀ (d i : Nat), i + d = a.length → Ev (fun k => examinerref43_SameEntries.l0 k a a i) true := by
    intro d
    induction d with
    | zero =>
      intro i hi
      refine ev_succ ?_
      simp only [examinerref43_SameEntries.l0, if_neg (show ¬ (i : Int) < (a.length : Int) by omega)]
      exact Ev.now _
    | succ d ih =>
      intro i hi
      refine ev_succ ?_
      simp only [examinerref43_SameEntries.l0, if_pos (show (i : Int) < (a.length : Int) by omega), if_pos (show 0 ≤ (i : Int) by omega), beq_self_eq_true, Bool.not_true, Bool.or_self, Bool.false_eq_true, if_false, wrap_succ (show i < a.length by omega) hl]
      exact ih (i + 1) (by omega)
  exact this a.length 0 (by omega)
/-! ### last entries -/
theorem lastOf_cons (x : S61) (r : List S61) (s : ByteArray) : lastOf (x :: r) s = (lastOf r s).or (if x.f0 = s then some x else none) := by
  unfold lastOf
  rw [List.reverse_cons, List.find?_append]
  congr 1
  by_cases e : x.f0 = s
  · simp [e]
  · simp [e]
theorem any_last (l : List S61) (s : ByteArray) : l.any (sameTest s) = (lastOf l s).isSome := by
  induction l with
  | nil => rfl
  | cons x r ih =>
    rw [List.any_cons, ih, lastOf_cons]
    unfold sameTest
    by_cases e : x.f0 = s
    · rw [if_pos e, decide_eq_true e]
      cases lastOf r s <;> rfl
    · rw [if_neg e, decide_eq_false e]
      cases lastOf r s <;> rfl
theorem lastOf_comp (s : ByteArray) : ∀ l : List S61, lastOf (compF l) s = lastOf l s
  | [] => rfl
  | x :: r => by
    simp only [compF]
    have ih := lastOf_comp s r
    by_cases h : r.any (sameTest x.f0) = true
    · rw [if_pos h, ih, lastOf_cons]
      by_cases e : x.f0 = s
      · subst e
        rw [any_last] at h
        cases hl : lastOf r x.f0 with
        | none => rw [hl] at h; cases h
        | some y => rfl
      · rw [if_neg e]
        cases lastOf r s <;> rfl
    · rw [if_neg h, lastOf_cons, lastOf_cons, ih]
theorem compF_mem : ∀ (l : List S61) (y : S61), y ∈ compF l → y ∈ l
  | [], _, h => h
  | x :: r, y, h => by
    simp only [compF] at h
    split at h
    · exact List.mem_cons_of_mem _ (compF_mem r y h)
    · rcases List.mem_cons.1 h with rfl | h
      · exact List.mem_cons_self
      · exact List.mem_cons_of_mem _ (compF_mem r y h)
theorem compF_any (l : List S61) (s : ByteArray) : (compF l).any (sameTest s) = l.any (sameTest s) := by rw [any_last, any_last, lastOf_comp]
theorem compF_idem : ∀ l : List S61, compF (compF l) = compF l
  | [] => rfl
  | x :: r => by
    have ih := compF_idem r
    simp only [compF]
    by_cases h : r.any (sameTest x.f0) = true
    · rw [if_pos h]; exact ih
    · rw [if_neg h]
      simp only [compF]
      rw [compF_any, if_neg h, ih]
theorem compF_apart : ∀ l : List S61, (compF l).Pairwise (fun a b => a.f0 ≠ b.f0)
  | [] => List.Pairwise.nil
  | x :: r => by
    simp only [compF]
    by_cases h : r.any (sameTest x.f0) = true
    · rw [if_pos h]; exact compF_apart r
    · rw [if_neg h]
      refine List.Pairwise.cons (fun y hy e => h ?_) (compF_apart r)
      rw [List.any_eq_true]
      exact ⟨y, compF_mem r y hy, by simp [sameTest, e]⟩
theorem chk_of_all : ∀ (l : List S61) (i : Int), (∀ x ∈ l, entE x = 0) → chkFrom l i = (0, 0)
  | [], _, _ => rfl
  | x :: r, i, h => by
    simp only [chkFrom]
    rw [if_pos (h x List.mem_cons_self)]
    exact chk_of_all r _ (fun y hy => h y (List.mem_cons_of_mem _ hy))
theorem check_comp {l : List S61} (h : (checkB l).2 = 0) : checkB (compF l) = (0, 0) := by
  obtain ⟨h60, hok⟩ := check_ok h
  unfold checkB
  have := compF_length l
  rw [if_neg (by omega)]
  exact chk_of_all _ _ (fun x hx => hok x (compF_mem l x hx))
theorem mustOf_comp (l : List S61) (ts : List S38) : mustOf (compF l) ts = mustOf l ts := by
  unfold mustOf
  congr 1
  apply List.filter_congr
  intro t _
  unfold mustT
  rw [lastOf_comp]
theorem mustRun_comp {l : List S61} (h : (checkB l).2 = 0) (ts : List S38) : mustRun (compF l) ts = mustRun l ts := by
  unfold mustRun
  rw [check_comp h, h, mustOf_comp]
/-! ### the reference's last entries -/
theorem lastBelow_ge (l : List S61) (s : ByteArray) (j : Nat) (hj : (l.getD j z61).f0 = s) : ∀ n, j < n → (j : Int) ≤ lastBelow l s n := by
  intro n
  induction n with
  | zero => intro h; omega
  | succ n ih =>
    intro h
    simp only [lastBelow]
    by_cases e : (l.getD n z61).f0 = s
    · rw [if_pos e]; omega
    · rw [if_neg e]
      by_cases hn : j = n
      · subst hn; exact absurd hj e
      · exact ih (by omega)
theorem lastBelow_at (l : List S61) (s : ByteArray) : ∀ n, lastBelow l s n = -1 ∨ ∃ j : Nat, lastBelow l s n = j ∧ j < n ∧ (l.getD j z61).f0 = s := by
  intro n
  induction n with
  | zero => exact .inl rfl
  | succ n ih =>
    simp only [lastBelow]
    by_cases e : (l.getD n z61).f0 = s
    · rw [if_pos e]; exact .inr ⟨n, rfl, by omega, e⟩
    · rw [if_neg e]
      rcases ih with h | ⟨j, h1, h2, h3⟩
      · exact .inl h
      · exact .inr ⟨j, h1, by omega, h3⟩
theorem getD61 (l : List S61) (i : Nat) (h : i < l.length) : l.getD i z61 = l[i] := by simp [List.getD, h]
theorem last_is (l : List S61) (i : Nat) (hi : i < l.length) : (lastBelow l l[i].f0 l.length = (i : Int)) ↔ ¬ (l.drop (i + 1)).any (sameTest l[i].f0) = true := by
  have hge := lastBelow_ge l l[i].f0 i (by rw [getD61 l i hi]) l.length hi
  constructor
  · intro h ha
    rw [List.any_eq_true] at ha
    obtain ⟨y, hy, hs⟩ := ha
    obtain ⟨j, hj, hjy⟩ := List.mem_iff_getElem.1 hy
    simp at hj
    have hge2 := lastBelow_ge l l[i].f0 (i + 1 + j) (by
      rw [getD61 l _ (by omega)]
      rw [List.getElem_drop] at hjy
      rw [hjy]
      simpa [sameTest] using hs) l.length (by omega)
    omega
  · intro hn
    rcases lastBelow_at l l[i].f0 l.length with h | ⟨j, h1, h2, h3⟩
    · omega
    · by_cases e : j = i
      · subst e; exact h1
      · exfalso
        apply hn
        rw [List.any_eq_true]
        rw [getD61 l j h2] at h3
        refine ⟨l[j], ?_, by simp [sameTest, h3]⟩
        rw [List.mem_iff_getElem]
        refine ⟨j - (i + 1), by simp; omega, ?_⟩
        rw [List.getElem_drop]
        congr 1
        omega
theorem ref_comp_loop (l : List S61) (hl : l.length ≤ 60) : ∀ (d i : Nat) (acc : List S61), i + d = l.length → acc.length ≤ i → Ev (fun k => examinerref43_Compacted.l0 k l acc i) (acc ++ compF (l.drop i)) := by
  intro d
  induction d with
  | zero =>
    intro i acc hi ha
    refine ev_succ ?_
    simp only [examinerref43_Compacted.l0, if_neg (show ¬ (i : Int) < (l.length : Int) by omega)]
    rw [List.drop_eq_nil_of_le (by omega)]
    simp only [compF, List.append_nil]
    exact Ev.now _
  | succ d ih =>
    intro i acc hi ha
    have hlt : i < l.length := by omega
    refine ev_succ ?_
    simp only [examinerref43_Compacted.l0, if_pos (show (i : Int) < (l.length : Int) by omega), if_pos (show 0 ≤ (i : Int) by omega), rd61 l i hlt, if_pos (show acc.length < 3518437208883 by omega), wrap_succ hlt (show l.length ≤ 9223372036854775807 by omega)]
    refine Ev.bind (last_eq l l[i].f0 (by omega)) ?_
    rw [List.drop_eq_getElem_cons hlt]
    simp only [compF]
    by_cases h : (l.drop (i + 1)).any (sameTest l[i].f0) = true
    · have hne : ¬ lastBelow l l[i].f0 l.length = (i : Int) := fun e => (last_is l i hlt).1 e h
      simp only [if_pos h, if_neg hne]
      exact ih (i + 1) acc (by omega) (by omega)
    · have he := (last_is l i hlt).2 h
      simp only [if_neg h, if_pos he]
      have := ih (i + 1) (acc ++ [l[i]]) (by omega) (by simp; omega)
      simpa using this
theorem ref_comp_eq (l : List S61) (hl : l.length ≤ 60) : Ev (fun k => examinerref43_Compacted.f k l) (compF l) := by
  unfold examinerref43_Compacted.f
  have := ref_comp_loop l hl l.length 0 [] (by omega) (by simp)
  simpa using this
end Go.Proofs.Ytgflelipamofoaa.PA
