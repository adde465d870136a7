/- Chapter 43: what the printed entryErr and CheckEntries compute, plainly. -/
import Derived.Test.YtgflelipamofoaaDoorPAx3
namespace Go.Proofs.YtgflelipamofoaaDoor.PA
open Go.RowKit Go.Proofs.YtgflelipamofoaaDoorW.PrintWords Go.Proofs.YtgflelipamofoaaDoorW.PrintLast Go.Proofs.YtgflelipamofoaaDoorW.PrintMore
/-- The error of an entry. -/
def entE (x : S57) : Int := if nameB x.f0 = true then (if 0 ≤ x.f1 ∧ x.f1 ≤ 1099511627775 ∧ 0 ≤ x.f2 ∧ x.f2 ≤ 4 ∧ 0 ≤ x.f3 ∧ x.f3 ≤ 200 then 0 else 3) else 7
theorem entryErr_eq (k : Nat) (hk : 2 ≤ k) (x : S57) : campaign_entryErr.f k x.f0 x.f1 x.f2 x.f3 = some (entE x) := by
  obtain ⟨k, rfl⟩ : ∃ m, k = m + 2 := ⟨k - 2, by omega⟩
  unfold campaign_entryErr.f entE campaign_isName.f
  simp only [Option.bind_some]
  cases nameB x.f0
  · simp
  · simp only [if_true]
    unfold campaign_entryErr.j0 campaign_entryErr.j1
    simp only [decide_eq_true_eq, if_true]
    repeat' split
    all_goals first
      | rfl
      | (exfalso; omega)
      | (rw [if_neg (by omega)])
      | (rw [if_pos (by omega)])
      | skip
/-- The first bad entry from index i on. -/
def chkFrom : List S57 → Int → Int × Int
  | [], _ => (0, 0)
  | x :: r, i => if entE x = 0 then chkFrom r (i + 1) else (i, entE x)
def checkB (l : List S57) : Int × Int := if (l.length : Int) > 60 then (0, 2) else chkFrom l 0
theorem check_loop (l : List S57) (hl : l.length ≤ 60) : ∀ (d k i : Nat), i + d = l.length → d + 2 < k → campaign_CheckEntries.l0 k l (l.length : Int) i = some (chkFrom (l.drop i) i) := by
  intro d
  induction d with
  | zero =>
    intro k i hi hk
    obtain ⟨k, rfl⟩ : ∃ m, k = m + 1 := ⟨k - 1, by omega⟩
    simp only [campaign_CheckEntries.l0]
    rw [if_neg (by omega), List.drop_eq_nil_of_le (by omega)]
    rfl
  | succ d ih =>
    intro k i hi hk
    obtain ⟨k, rfl⟩ : ∃ m, k = m + 1 := ⟨k - 1, by omega⟩
    have hlt : i < l.length := by omega
    simp only [campaign_CheckEntries.l0]
    rw [if_pos (by omega), if_pos (by omega), if_pos (by omega)]
    have hr : rd_T57 l (i : Int) = l[i] := by simp [rd_T57, hlt]
    rw [hr, entryErr_eq k (by omega), Option.bind_some, List.drop_eq_getElem_cons hlt]
    simp only [chkFrom]
    by_cases e : entE l[i] = 0
    · rw [if_pos e, if_pos e]
      have hw : wrap64 ((i : Int) + 1) = ((i + 1 : Nat) : Int) := by unfold wrap64; omega
      rw [hw, ih k (i + 1) (by omega) (by omega)]
      rfl
    · rw [if_neg e, if_neg e]
theorem check_eq (k : Nat) (hk : 63 ≤ k) (l : List S57) : campaign_CheckEntries.f k l = some (checkB l) := by
  unfold campaign_CheckEntries.f checkB
  by_cases h : (l.length : Int) > 60
  · rw [if_pos h, if_pos h]
  · rw [if_neg h, if_neg h]
    have := check_loop l (by omega) l.length k 0 (by omega) (by omega)
    simpa using this
end Go.Proofs.YtgflelipamofoaaDoor.PA
