/- Chapter 43: appending entries, plainly: the program's writes and the reference's. -/
import Derived.Test.YtgflelipamofoaaDoorHP3
import Derived.Test.YtgflelipamofoaaDoorHP5
import Derived.Test.YtgflelipamofoaaDoorPAx10
import Derived.Test.YtgflelipamofoaaDoorPAx10
import Derived.Test.YtgflelipamofoaaDoorPAx10
namespace Go.Proofs.YtgflelipamofoaaDoor.PA
open Go Go.RowKit Go.Proofs.YtgflelipamofoaaDoorW.PrintWords Go.Proofs.YtgflelipamofoaaDoorW.PrintLast Go.Proofs.YtgflelipamofoaaDoorW.PrintMore
set_option linter.unusedVariables false
set_option linter.unusedSimpArgs false
theorem strOfNums_extract (xs : List Int) (a b : Nat) : (strOfNums xs).extract a b = strOfNums ((xs.take b).drop a) := by
  apply ByteArray.ext
  rw [ByteArray.data_extract]
  apply Array.toList_inj.1
  simp [strOfNums, List.extract_eq_take_drop, List.drop_take]
/-- The writes that append entries behind n blocks. -/
def wrFrom (n : Nat) : List S57 → Nat → List S66
  | [], _ => []
  | x :: r, i => ⟨((n + i : Nat) : Int), blockB x.f0 x.f1 x.f2 x.f3⟩ :: wrFrom n r (i + 1)
theorem wrFrom_length (n : Nat) : ∀ (l : List S57) (i : Nat), (wrFrom n l i).length = l.length
  | [], _ => rfl
  | x :: r, i => by rw [wrFrom, List.length_cons, wrFrom_length n r (i + 1), List.length_cons]
theorem writes_loop (n : Nat) (hn : n ≤ 48) (l : List S57) (hl : l.length ≤ 60) (hok : ∀ x ∈ l, entE x = 0) : ∀ (d k i : Nat) (acc : List S66), i + d = l.length → d < k → acc.length ≤ i →
    campaign_WritesFor.l0 k (n : Int) acc l (l.length : Int) (i : Int) = some (acc ++ wrFrom n (l.drop i) i, 0) := by
  intro d
  induction d with
  | zero =>
    intro k i acc hi hk ha
    obtain ⟨k, rfl⟩ : ∃ m, k = m + 1 := ⟨k - 1, by omega⟩
    rw [campaign_WritesFor.l0, if_neg (by omega), List.drop_eq_nil_of_le (by omega), wrFrom, List.append_nil]
  | succ d ih =>
    intro k i acc hi hk ha
    obtain ⟨k, rfl⟩ : ∃ m, k = m + 1 := ⟨k - 1, by omega⟩
    have hil : i < l.length := by omega
    have hx : rd_T57 l (i : Int) = l[i] := by simp [rd_T57, hil]
    have e := ent_ok (hok _ (List.getElem_mem hil))
    rw [campaign_WritesFor.l0, if_pos (by omega), if_pos (by omega), if_pos (by omega), hx, campaign_blockOf.f, if_pos ⟨e.2.1, e.2.2.1, e.2.2.2.1, e.2.2.2.2.1, e.2.2.2.2.2.1, e.2.2.2.2.2.2.1, e.2.2.2.2.2.2.2.1⟩, Option.bind_some,
      if_pos (by omega), show wrap64 ((n : Int) + (i : Int)) = ((n + i : Nat) : Int) by unfold wrap64; omega, show wrap64 ((i : Int) + 1) = ((i + 1 : Nat) : Int) by unfold wrap64; omega,
      ih k (i + 1) _ (by omega) (by omega) (by simp; omega), List.drop_eq_getElem_cons hil, wrFrom, List.append_assoc]
    rfl
/-- What WritesFor answers. -/
def wrOf (s : ByteArray) (l : List S57) : List S66 × Int :=
  if s.size % 32 = 0 then (if s.size ≤ 1536 then (if (entsB s).length = s.size / 32 then (if (checkB l).2 = 0 then (if s.size / 32 + l.length > 48 then ([], 32) else (wrFrom (s.size / 32) l 0, 0)) else ([], (checkB l).2)) else ([], 33)) else ([], 2)) else ([], 19)
theorem writesFor_eq (s : ByteArray) (l : List S57) (hl : l.length ≤ 100) (k : Nat) (hk : 200 ≤ k) : campaign_WritesFor.f k s l = some (wrOf s l) := by
  unfold campaign_WritesFor.f wrOf
  rw [bytesErr_eq, Option.bind_some]
  by_cases h : s.size % 32 = 0
  · rw [if_pos h, if_pos h]
    by_cases h2 : s.size ≤ 1536
    · rw [if_pos h2, if_pos h2, if_pos rfl, entries_eq s h (by omega) k (by omega), Option.bind_some, campaign_blocks.f, if_pos (by omega), Option.bind_some, blocks_len s h]
      by_cases h3 : (entsB s).length = s.size / 32
      · rw [if_pos (by omega), if_pos h3, check_eq k (by omega), Option.bind_some]
        by_cases h4 : (checkB l).2 = 0
        · obtain ⟨h60, hok⟩ := check_ok h4
          rw [if_pos h4, if_pos h4, h3, show wrap64 (((s.size / 32 : Nat) : Int) + (l.length : Int)) = ((s.size / 32 + l.length : Nat) : Int) by unfold wrap64; omega]
          by_cases h5 : s.size / 32 + l.length > 48
          · rw [if_pos (by omega), if_pos h5]
          · rw [if_neg (by omega), if_neg h5]
            have := writes_loop (s.size / 32) (by omega) l h60 hok l.length k 0 [] (by omega) (by omega) (by simp)
            rw [List.drop_zero, List.nil_append] at this
            exact this
        · rw [if_neg h4, if_neg h4]
      · rw [if_neg (by omega), if_neg h3]
    · rw [if_neg h2, if_neg h2, if_neg (by decide)]
  · rw [if_neg h, if_neg h, if_neg (by decide)]
/-! ### the reference -/
end Go.Proofs.YtgflelipamofoaaDoor.PA
