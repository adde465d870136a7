/- Chapter 43: reading a journal, plainly: the reference's entries, its cleaning; equal lists. -/
import Derived.Test.YtgflelipamofoaaDoorHP2
import Derived.Test.YtgflelipamofoaaDoorHRc
import Derived.Test.YtgflelipamofoaaDoorPAx4
import Derived.Test.YtgflelipamofoaaDoorPAx8
namespace Go.Proofs.YtgflelipamofoaaDoor.PA
open Go Go.RowKit Go.Proofs.YtgflelipamofoaaDoorW.PrintWords Go.Proofs.YtgflelipamofoaaDoorW.PrintLast Go.Proofs.YtgflelipamofoaaDoorW.PrintMore
set_option linter.unusedVariables false
set_option linter.unusedSimpArgs false
theorem toList_inj {a b : ByteArray} : a.toList = b.toList ↔ a = b := by
  rw [ByteArray.toList_eq, ByteArray.toList_eq]
  exact ⟨fun e => ByteArray.ext (Array.toList_inj.1 e), fun e => by rw [e]⟩
theorem ev_succ {α : Type} {g : Nat → Option α} {r : α} (h : Ev (fun k => g (k + 1)) r) : Ev g r := Ev.step (fun _ => rfl) h
theorem ev_some {α : Type} {g : Nat → Option α} {r : α} (K : Nat) (h : ∀ k, K ≤ k → g k = some r) : Ev g r := ⟨K, h⟩
theorem same_entries (a : List S57) (hl : a.length ≤ 9223372036854775807) : Ev (fun k => examinerref43_SameEntries.f k a a) true := by
  unfold examinerref43_SameEntries.f
  simp only [if_true]
  have : ∀ (d i : Nat), i + d = a.length → Ev (fun k => examinerref43_SameEntries.l0 k a a i) true := by
    intro d
    induction d with
    | zero =>
      intro i hi
      refine ev_succ ?_
      simp only [examinerref43_SameEntries.l0, if_neg (show ¬ (i : Int) < (a.length : Int) by omega)]
      exact Ev.now _
    | succ d ih =>
      intro i hi
      refine ev_succ ?_
      simp only [examinerref43_SameEntries.l0, if_pos (show (i : Int) < (a.length : Int) by omega), if_pos (show 0 ≤ (i : Int) by omega), beq_self_eq_true, Bool.not_true, Bool.or_self, Bool.false_eq_true, if_false, wrap_succ (show i < a.length by omega) hl]
      exact ih (i + 1) (by omega)
  exact this a.length 0 (by omega)
/-! ### one entry -/
theorem all0_zeros (s : ByteArray) (n : Nat) (hn : s.size = n) : (s.toList == (strOfNums (List.replicate n 0)).toList) = all0 s := by
  subst hn
  rw [Bool.eq_iff_iff, beq_iff_eq, ByteArray.toList_eq, ByteArray.toList_eq, all0_iff]
  have hz : (strOfNums (List.replicate s.size 0)).data.toList = List.replicate s.size 0 := by simp [strOfNums]
  have hl : s.data.toList.length = s.size := by simp
  rw [hz]
  constructor
  · intro e j h
    simp only [e, List.getElem_replicate]
  · intro h
    refine List.ext_getElem (by simp) fun j h1 h2 => ?_
    rw [h j h1, List.getElem_replicate]
theorem extract_extract (s : ByteArray) (a b c : Nat) (h : a ≤ b) (hb : b ≤ s.size) : (s.extract a b).extract c (s.extract a b).size = s.extract (a + c) b := by
  apply ByteArray.ext
  rw [ByteArray.size_extract, ByteArray.data_extract, ByteArray.data_extract, ByteArray.data_extract, Array.extract_extract]
  congr 1
  omega
/-! ### all entries -/
theorem blocks_len (s : ByteArray) (h : s.size % 32 = 0) : (blocksB s).length = s.size / 32 := by rw [blocks_length]; omega
theorem blocks_get (s : ByteArray) (j : Nat) (hj : j < (blocksB s).length) : (blocksB s)[j] = chunkB s j := by simp [blocksB]
/-! ### cleaning -/
end Go.Proofs.YtgflelipamofoaaDoor.PA
