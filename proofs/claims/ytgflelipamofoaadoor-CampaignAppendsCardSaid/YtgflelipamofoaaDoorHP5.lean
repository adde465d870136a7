/- Chapter 43: what the printed functions compute, plainly: entries checked, records, journals. -/
import Derived.Test.YtgflelipamofoaaDoorHP2
import Derived.Test.YtgflelipamofoaaDoorPAx10
import Derived.Test.YtgflelipamofoaaDoorPAx9
namespace Go.Proofs.YtgflelipamofoaaDoor.PA
open Go.RowKit Go.Proofs.YtgflelipamofoaaDoorW.PrintWords Go.Proofs.YtgflelipamofoaaDoorW.PrintLast Go.Proofs.YtgflelipamofoaaDoorW.PrintMore
set_option linter.unusedVariables false
set_option linter.unusedSimpArgs false
theorem ref_check_loop (l : List S57) (hl : l.length ≤ 60) : ∀ (d k i : Nat), i + d = l.length → d + 24 < k → examinerref43_Check.l0 k l i = some (chkFrom (l.drop i) i) := by
  intro d
  induction d with
  | zero =>
    intro k i hi hk
    obtain ⟨k, rfl⟩ : ∃ m, k = m + 1 := ⟨k - 1, by omega⟩
    simp only [examinerref43_Check.l0]
    rw [if_neg (by omega), List.drop_eq_nil_of_le (by omega)]
    rfl
  | succ d ih =>
    intro k i hi hk
    obtain ⟨k, rfl⟩ : ∃ m, k = m + 1 := ⟨k - 1, by omega⟩
    have hlt : i < l.length := by omega
    simp only [examinerref43_Check.l0]
    rw [if_pos (by omega), if_pos (by omega)]
    have hr : rd_T57 l (i : Int) = l[i] := by simp [rd_T57, hlt]
    rw [hr, ref_entryErr_eq k (by omega), Option.bind_some, List.drop_eq_getElem_cons hlt]
    simp only [chkFrom]
    by_cases e : entE l[i] = 0
    · rw [if_pos e, if_pos e, wrap_succ hlt (by omega), ih k (i + 1) (by omega) (by omega)]
      rfl
    · rw [if_neg e, if_neg e]
theorem ref_check_eq (k : Nat) (hk : 90 ≤ k) (l : List S57) : examinerref43_Check.f k l = some (checkB l) := by
  unfold examinerref43_Check.f checkB
  by_cases h : (l.length : Int) > 60
  · rw [if_pos h, if_pos h]
  · rw [if_neg h, if_neg h]
    have := ref_check_loop l (by omega) l.length k 0 (by omega) (by omega)
    simpa using this
theorem ref_err_eq (k : Nat) (hk : 90 ≤ k) (l : List S57) : examinerref43_Err.f k l = some (checkB l).2 := by
  unfold examinerref43_Err.f
  rw [ref_check_eq k hk, Option.bind_some]
/-- The guard of the statements: at most 70 entries, names of at most 100. -/
theorem few_loop (l : List S57) (hl : l.length ≤ maxLen) : ∀ (d k i : Nat), i + d = 71 → 2 * d + 2 < k → ∃ b, examinerlaw43_few.l0 k l i = some b ∧ (b = true → l.length ≤ 70) := by
  unfold maxLen at hl
  intro d
  induction d with
  | zero =>
    intro k i hi hk
    obtain ⟨k, rfl⟩ : ∃ m, k = m + 2 := ⟨k - 2, by omega⟩
    simp only [examinerlaw43_few.l0, examinerlaw43_few.j1]
    rw [decide_eq_false (by omega)]
    by_cases c : (i : Int) < (l.length : Int)
    · rw [if_pos c]; exact ⟨_, rfl, by simp; omega⟩
    · rw [if_neg c]; exact ⟨_, rfl, by simp; omega⟩
  | succ d ih =>
    intro k i hi hk
    obtain ⟨k, rfl⟩ : ∃ m, k = m + 2 := ⟨k - 2, by omega⟩
    simp only [examinerlaw43_few.l0, examinerlaw43_few.j1]
    rw [decide_eq_true (by omega)]
    by_cases c : (i : Int) < (l.length : Int)
    · rw [if_pos c, if_pos rfl, if_pos (by omega), if_pos c, wrap_succ (show i < l.length by omega) (by omega)]
      obtain ⟨b, hb, hb2⟩ := ih k (i + 1) (by omega) (by omega)
      split
      · exact ⟨_, rfl, by simp⟩
      · exact ⟨b, hb, hb2⟩
    · rw [if_neg c]; exact ⟨_, rfl, by simp; omega⟩
theorem few_eq (l : List S57) (hl : l.length ≤ maxLen) (k : Nat) (hk : 200 ≤ k) : ∃ b, examinerlaw43_few.f k l = some b ∧ (b = true → l.length ≤ 70) := by
  have := few_loop l hl 71 k 0 (by omega) (by omega)
  exact this
theorem own_eq (l : List S57) (hl : l.length ≤ 70) : examinerlaw43_own.f l = some l := by
  unfold examinerlaw43_own.f
  simp only [Option.bind_some, List.length_nil, List.nil_append]
  rw [if_pos (by omega)]
/-- The record of an entry. -/
def recNums (s : ByteArray) (d v t : Int) : List Int := [165, (s.size : Int)] ++ bytesOf s ++ [bkNum d 0, bkNum d 1, bkNum d 2, bkNum d 3, bkNum d 4, v, t, 90]
theorem shr_num (d : Int) (n : Nat) (hn : n ≤ 32) : shr .i64 d (n : Int) % 256 = d / 2 ^ n % 256 := by
  unfold shr
  rw [Int.toNat_natCast, show IntKind.i64.bits = 64 from rfl, Nat.min_eq_left (by omega)]
theorem record_eq (k : Nat) (hk : 7 ≤ k) (s : ByteArray) (d v t : Int) (hs : s.size ≤ 20) (h0 : 0 ≤ d) (hd : d ≤ 1099511627775) (hv0 : 0 ≤ v) (hv : v ≤ 4) (ht0 : 0 ≤ t) (ht : t ≤ 200) :
    examinerref43_Record.f k s d v t = some (strOfNums (recNums s d v t)) := by
  obtain ⟨k, rfl⟩ : ∃ m, k = m + 7 := ⟨k - 7, by omega⟩
  unfold examinerref43_Record.f
  have e1 : ((s.size : Int)) % 256 = s.size := by omega
  have e165 : (⟨#[165]⟩ : ByteArray) = strOfNums [165] := by rfl
  have es : ∀ a : List Int, strOfNums a ++ s = strOfNums (a ++ bytesOf s) := by
    intro a
    rw [← strOfNums_append, strOfNums_bytes]
  simp only [Option.bind_some, e1, e165]
  rw [if_pos (by rw [strOfNums_size]; simp), strOfNums_append, if_pos (by rw [strOfNums_size]; simp; omega), es]
  have w1 : wrap64 (32 - 8) = 24 := by unfold wrap64; omega
  have w2 : wrap64 (24 - 8) = 16 := by unfold wrap64; omega
  have w3 : wrap64 (16 - 8) = 8 := by unfold wrap64; omega
  have w4 : wrap64 (8 - 8) = 0 := by unfold wrap64; omega
  have w5 : wrap64 (0 - 8) = -8 := by unfold wrap64; omega
  have s0 := shr_num d 32 (by omega)
  have s1 := shr_num d 24 (by omega)
  have s2 := shr_num d 16 (by omega)
  have s3 := shr_num d 8 (by omega)
  have s4 := shr_num d 0 (by omega)
  have hb := bytesOf_length s
  rw [examinerref43_Record.l0, if_pos (by omega), if_pos (by omega)]
  simp only [Option.bind_some, w1]
  rw [if_pos (by rw [strOfNums_size, strOfNums_size]; simp [hb]; omega), strOfNums_append]
  rw [examinerref43_Record.l0, if_pos (by omega), if_pos (by omega)]
  simp only [Option.bind_some, w2]
  rw [if_pos (by rw [strOfNums_size, strOfNums_size]; simp [hb]; omega), strOfNums_append]
  rw [examinerref43_Record.l0, if_pos (by omega), if_pos (by omega)]
  simp only [Option.bind_some, w3]
  rw [if_pos (by rw [strOfNums_size, strOfNums_size]; simp [hb]; omega), strOfNums_append]
  rw [examinerref43_Record.l0, if_pos (by omega), if_pos (by omega)]
  simp only [Option.bind_some, w4]
  rw [if_pos (by rw [strOfNums_size, strOfNums_size]; simp [hb]; omega), strOfNums_append]
  rw [examinerref43_Record.l0, if_pos (by omega), if_pos (by omega)]
  simp only [Option.bind_some, w5]
  rw [if_pos (by rw [strOfNums_size, strOfNums_size]; simp [hb]; omega), strOfNums_append]
  rw [examinerref43_Record.l0, if_neg (by omega)]
  simp only [Option.bind_some]
  rw [if_pos (by rw [strOfNums_size, strOfNums_size]; simp [hb]; omega), strOfNums_append]
  have ev : v % 256 = v := by omega
  have et : t % 256 = t := by omega
  have c32 : ((32 : Nat) : Int) = 32 := rfl
  rw [show shr .i64 d 32 % 256 = d / 2 ^ 32 % 256 from s0, show shr .i64 d 24 % 256 = d / 2 ^ 24 % 256 from s1, show shr .i64 d 16 % 256 = d / 2 ^ 16 % 256 from s2, show shr .i64 d 8 % 256 = d / 2 ^ 8 % 256 from s3, show shr .i64 d 0 % 256 = d / 2 ^ 0 % 256 from s4, ev, et]
  simp [recNums, bkNum]
theorem recNums_length (s : ByteArray) (d v t : Int) : (recNums s d v t).length = 10 + s.size := by simp [recNums, bytesOf_length]; omega
theorem blk_rec (s : ByteArray) (d v t : Int) : blkNums s d v t = recNums s d v t ++ List.replicate (22 - s.size) 0 := by simp [blkNums, recNums]
theorem ref_journal_loop (l : List S57) (hl : l.length ≤ 60) (hok : ∀ x ∈ l, entE x = 0) : ∀ (d k i : Nat), i + d = l.length → d + 7 < k → examinerref43_Journal.l0 k l (strOfNums (jNums (l.take i))) i = some (strOfNums (jNums l)) := by
  intro d
  induction d with
  | zero =>
    intro k i hi hk
    obtain ⟨k, rfl⟩ : ∃ m, k = m + 1 := ⟨k - 1, by omega⟩
    simp only [examinerref43_Journal.l0]
    rw [if_neg (by omega), List.take_of_length_le (by omega)]
  | succ d ih =>
    intro k i hi hk
    obtain ⟨k, rfl⟩ : ∃ m, k = m + 1 := ⟨k - 1, by omega⟩
    have hlt : i < l.length := by omega
    have hr : rd_T57 l (i : Int) = l[i] := by simp [rd_T57, hlt]
    obtain ⟨o1, o2, o3, o4, o5, o6, o7, o8, _⟩ := ent_ok (hok l[i] (List.getElem_mem _))
    have hjl : (jNums (l.take i)).length = 32 * i := by
      have := jBytes_length l hok i (by omega)
      simpa [jBytes] using this
    simp only [examinerref43_Journal.l0]
    rw [if_pos (by omega), if_pos (by omega), hr, record_eq k (by omega) _ _ _ _ o2 o3 o4 o5 o6 o7 o8, Option.bind_some]
    rw [if_pos (by rw [strOfNums_size, strOfNums_size, recNums_length, hjl]; omega)]
    have hz : wrap64 (32 - ((strOfNums (recNums l[i].f0 l[i].f1 l[i].f2 l[i].f3)).size : Int)) = ((22 - l[i].f0.size : Nat) : Int) := by
      rw [strOfNums_size, recNums_length]; unfold wrap64; omega
    rw [hz, zeros_eq _ (by omega) (by omega), Option.bind_some]
    rw [strOfNums_append, if_pos (by rw [strOfNums_size, strOfNums_size, List.length_append, recNums_length, hjl]; simp; omega), strOfNums_append, wrap_succ hlt (by omega)]
    have : jNums (l.take i) ++ recNums l[i].f0 l[i].f1 l[i].f2 l[i].f3 ++ List.replicate ((22 - l[i].f0.size : Nat) : Int).toNat 0 = jNums (l.take (i + 1)) := by
      rw [jNums_snoc l i hlt, blk_rec, List.append_assoc, Int.toNat_natCast]
    rw [this]
    exact ih k (i + 1) (by omega) (by omega)
theorem ref_journal_eq (l : List S57) (hl : l.length ≤ 60) (hok : ∀ x ∈ l, entE x = 0) (k : Nat) (hk : 70 ≤ k) : examinerref43_Journal.f k l = some (journalB l) := by
  unfold examinerref43_Journal.f
  have := ref_journal_loop l hl hok l.length k 0 (by omega) (by omega)
  exact this
end Go.Proofs.YtgflelipamofoaaDoor.PA
