/- Chapter 43: what the printed functions compute, plainly: entries checked, records, journals. -/
import Derived.Test.YtgflelipamofoaaDoorHP2
import Derived.Test.YtgflelipamofoaaDoorPAx10
import Derived.Test.YtgflelipamofoaaDoorPAx9
namespace Go.Proofs.YtgflelipamofoaaDoor.PA
open Go.RowKit Go.Proofs.YtgflelipamofoaaDoorW.PrintWords Go.Proofs.YtgflelipamofoaaDoorW.PrintLast Go.Proofs.YtgflelipamofoaaDoorW.PrintMore
set_option linter.unusedVariables false
set_option linter.unusedSimpArgs false
theorem ref_check_loop (l : List S57) (hl : l.length ≤ 60) : ∀ (d k i : Nat), i + d = l.length → d + 24 < k → examinerref43_Check.l0 k l i = some (chkFrom (l.drop i) i) := by
  intro d
  induction d with
  | zero =>
    intro k i hi hk
    obtain ⟨k, rfl⟩ : ∃ m, k = m + 1 := ⟨k - 1, by omega⟩
    simp only [examinerref43_Check.l0]
    rw [if_neg (by omega), List.drop_eq_nil_of_le (by omega)]
    rfl
  | succ d ih =>
    intro k i hi hk
    obtain ⟨k, rfl⟩ : ∃ m, k = m + 1 := ⟨k - 1, by omega⟩
    have hlt : i < l.length := by omega
    simp only [examinerref43_Check.l0]
    rw [if_pos (by omega), if_pos (by omega)]
    have hr : rd_T57 l (i : Int) = l[i] := by simp [rd_T57, hlt]
    rw [hr, ref_entryErr_eq k (by omega), Option.bind_some, List.drop_eq_getElem_cons hlt]
    simp only [chkFrom]
    by_cases e : entE l[i] = 0
    · rw [if_pos e, if_pos e, wrap_succ hlt (by omega), ih k (i + 1) (by omega) (by omega)]
      rfl
    · rw [if_neg e, if_neg e]
theorem ref_check_eq (k : Nat) (hk : 90 ≤ k) (l : List S57) : examinerref43_Check.f k l = some (checkB l) := by
  unfold examinerref43_Check.f checkB
  by_cases h : (l.length : Int) > 60
  · rw [if_pos h, if_pos h]
  · rw [if_neg h, if_neg h]
    have := ref_check_loop l (by omega) l.length k 0 (by omega) (by omega)
    simpa using this
theorem ref_err_eq (k : Nat) (hk : 90 ≤ k) (l : List S57) : examinerref43_Err.f k l = some (checkB l).2 := by
  unfold examinerref43_Err.f
  rw [ref_check_eq k hk, Option.bind_some]
/-- The guard of the statements: at most 70 entries, names of at most 100. -/
theorem few_loop (l : List S57) (hl : l.length ≤ maxLen) : ∀ (d k i : Nat), i + d = 71 → 2 * d + 2 < k → ∃ b, examinerlaw43_few.l0 k l i = some b ∧ (b = true → l.length ≤ 70) := by
  unfold maxLen at hl
  intro d
  induction d with
  | zero =>
    intro k i hi hk
    obtain ⟨k, rfl⟩ : ∃ m, k = m + 2 := ⟨k - 2, by omega⟩
    simp only [examinerlaw43_few.l0, examinerlaw43_few.j1]
    rw [decide_eq_false (by omega)]
    by_cases c : (i : Int) < (l.length : Int)
    · rw [if_pos c]; exact ⟨_, rfl, by simp; omega⟩
    · rw [if_neg c]; exact ⟨_, rfl, by simp; omega⟩
  | succ d ih =>
    intro k i hi hk
    obtain ⟨k, rfl⟩ : ∃ m, k = m + 2 := ⟨k - 2, by omega⟩
    simp only [examinerlaw43_few.l0, examinerlaw43_few.j1]
    rw [decide_eq_true (by omega)]
    by_cases c : (i : Int) < (l.length : Int)
    · rw [if_pos c, if_pos rfl, if_pos (by omega), if_pos c, wrap_succ (show i < l.length by omega) (by omega)]
      obtain ⟨b, hb, hb2⟩ := ih k (i + 1) (by omega) (by omega)
      split
      · exact ⟨_, rfl, by simp⟩
      · exact ⟨b, hb, hb2⟩
    · rw [if_neg c]; exact ⟨_, rfl, by simp; omega⟩
theorem few_eq (l : List S57) (hl : l.length ≤ maxLen) (k : Nat) (hk : 200 ≤ k) : ∃ b, examinerlaw43_few.f k l = some b ∧ (b = true → l.length ≤ 70) := by
  have := few_loop l hl 71 k 0 (by omega) (by omega)
  exact this
theorem own_eq (l : List S57) (hl : l.length ≤ 70) : examinerlaw43_own.f l = some l := by
  unfold examinerlaw43_own.f
  simp only [Option.bind_some, List.length_nil, List.nil_append]
  rw [if_pos (by omega)]
/-- The record of an entry. -/
def recNums (s : ByteArray) (d v t : Int) : List Int := [165, (s.size : Int)] ++ bytesOf s ++ [bkNum d 0, bkNum d 1, bkNum d 2, bkNum d 3, bkNum d 4, v, t, 90]
theorem recNums_length (s : ByteArray) (d v t : Int) : (recNums s d v t).length = 10 + s.size := by simp [recNums, bytesOf_length]; omega
theorem blk_rec (s : ByteArray) (d v t : Int) : blkNums s d v t = recNums s d v t ++ List.replicate (22 - s.size) 0 := by simp [blkNums, recNums]
end Go.Proofs.YtgflelipamofoaaDoor.PA
