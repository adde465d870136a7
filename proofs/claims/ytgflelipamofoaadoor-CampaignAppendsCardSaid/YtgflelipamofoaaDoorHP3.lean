/- Chapter 43: reading a journal, plainly: the reference's entries, its cleaning; equal lists. -/
import Derived.Test.YtgflelipamofoaaDoorHP2
import Derived.Test.YtgflelipamofoaaDoorHRc
import Derived.Test.YtgflelipamofoaaDoorPAx4
import Derived.Test.YtgflelipamofoaaDoorPAx8
namespace Go.Proofs.YtgflelipamofoaaDoor.PA
open Go Go.RowKit Go.Proofs.YtgflelipamofoaaDoorW.PrintWords Go.Proofs.YtgflelipamofoaaDoorW.PrintLast Go.Proofs.YtgflelipamofoaaDoorW.PrintMore
set_option linter.unusedVariables false
set_option linter.unusedSimpArgs false
theorem toList_inj {a b : ByteArray} : a.toList = b.toList ↔ a = b := by
  rw [ByteArray.toList_eq, ByteArray.toList_eq]
  exact ⟨fun e => ByteArray.ext (Array.toList_inj.1 e), fun e => by rw [e]⟩
theorem ev_succ {α : Type} {g : Nat → Option α} {r : α} (h : Ev (fun k => g (k + 1)) r) : Ev g r := Ev.step (fun _ => rfl) h
theorem ev_some {α : Type} {g : Nat → Option α} {r : α} (K : Nat) (h : ∀ k, K ≤ k → g k = some r) : Ev g r := ⟨K, h⟩
theorem same_entries (a : List S57) (hl : a.length ≤ 9223372036854775807) : Ev (fun k => examinerref43_SameEntries.f k a a) true := by
  unfold examinerref43_SameEntries.f
  simp only [if_true]
  have : ∀ (d i : Nat), i + d = a.length → Ev (fun k => examinerref43_SameEntries.l0 k a a i) true := by
    intro d
    induction d with
    | zero =>
      intro i hi
      refine ev_succ ?_
      simp only [examinerref43_SameEntries.l0, if_neg (show ¬ (i : Int) < (a.length : Int) by omega)]
      exact Ev.now _
    | succ d ih =>
      intro i hi
      refine ev_succ ?_
      simp only [examinerref43_SameEntries.l0, if_pos (show (i : Int) < (a.length : Int) by omega), if_pos (show 0 ≤ (i : Int) by omega), beq_self_eq_true, Bool.not_true, Bool.or_self, Bool.false_eq_true, if_false, wrap_succ (show i < a.length by omega) hl]
      exact ih (i + 1) (by omega)
  exact this a.length 0 (by omega)
theorem same_writes (a : List S66) (hl : a.length ≤ 9223372036854775807) : Ev (fun k => examinerref43_SameWrites.f k a a) true := by
  unfold examinerref43_SameWrites.f
  simp only [if_true]
  have : ∀ (d i : Nat), i + d = a.length → Ev (fun k => examinerref43_SameWrites.l0 k a a i) true := by
    intro d
    induction d with
    | zero =>
      intro i hi
      refine ev_succ ?_
      simp only [examinerref43_SameWrites.l0, if_neg (show ¬ (i : Int) < (a.length : Int) by omega)]
      exact Ev.now _
    | succ d ih =>
      intro i hi
      refine ev_succ ?_
      simp only [examinerref43_SameWrites.l0, if_pos (show (i : Int) < (a.length : Int) by omega), if_pos (show 0 ≤ (i : Int) by omega), beq_self_eq_true, Bool.not_true, Bool.or_self, Bool.false_eq_true, if_false, wrap_succ (show i < a.length by omega) hl]
      exact ih (i + 1) (by omega)
  exact this a.length 0 (by omega)
/-! ### one entry -/
theorem bt_extract (s : ByteArray) (a b j : Nat) (hj : a + j < b) (hb : b ≤ s.size) : bt (s.extract a b) (j : Int) = bt s ((a + j : Nat) : Int) := by
  have h1 : j < (s.extract a b).size := by rw [ByteArray.size_extract]; omega
  have h2 : a + j < s.size := by omega
  rw [← bt_at (s.extract a b) (j : Int) (by simpa using h1), ← bt_at s ((a + j : Nat) : Int) (by rw [Int.toNat_natCast]; exact h2)]
  congr 1
  have : ((s.extract a b)[j]'h1) = s[a + j]'h2 := by
    show (s.extract a b).data[j]'h1 = s.data[a + j]'h2
    simp [ByteArray.data_extract]
  exact congrArg UInt8.toNat this
theorem all0_zeros (s : ByteArray) (n : Nat) (hn : s.size = n) : (s.toList == (strOfNums (List.replicate n 0)).toList) = all0 s := by
  subst hn
  rw [Bool.eq_iff_iff, beq_iff_eq, ByteArray.toList_eq, ByteArray.toList_eq, all0_iff]
  have hz : (strOfNums (List.replicate s.size 0)).data.toList = List.replicate s.size 0 := by simp [strOfNums]
  have hl : s.data.toList.length = s.size := by simp
  rw [hz]
  constructor
  · intro e j h
    simp only [e, List.getElem_replicate]
  · intro h
    refine List.ext_getElem (by simp) fun j h1 h2 => ?_
    rw [h j h1, List.getElem_replicate]
theorem extract_extract (s : ByteArray) (a b c : Nat) (h : a ≤ b) (hb : b ≤ s.size) : (s.extract a b).extract c (s.extract a b).size = s.extract (a + c) b := by
  apply ByteArray.ext
  rw [ByteArray.size_extract, ByteArray.data_extract, ByteArray.data_extract, ByteArray.data_extract, Array.extract_extract]
  congr 1
  omega
theorem idx_wrap (n j : Nat) (hn : n ≤ 100) (hj : j ≤ 100) : wrap64 (wrap64 (2 + (n : Int)) + (j : Int)) = ((2 + n + j : Nat) : Int) := by
  have e : wrap64 (2 + (n : Int)) = 2 + (n : Int) := by unfold wrap64; omega
  rw [e]
  unfold wrap64
  omega
theorem dig_step (d b : Int) (h0 : 0 ≤ d) (h1 : d ≤ 4294967295) (h2 : 0 ≤ b) (h3 : b ≤ 255) : wrap64 (wrap64 (256 * d) + wrap64 b) = d * 256 + b := by unfold wrap64; omega
theorem ref_entry_loop (s : ByteArray) (hs : s.size = 32) (n : Nat) (hn : n ≤ 22) (nm : ByteArray) (r : ByteArray) (hr : r = s.extract (2 + n) s.size) : ∀ (d k j : Nat), j + d = 5 → d + 30 < k →
    examinerref43_Entry.l0 k s (n : Int) (j : Int) nm (digB r j) 0 0 = some (nm, digB r 5, bt r 5, bt r 6, okRest r nm) := by
  have hrb : ∀ j : Nat, j < 30 - n → bt r (j : Int) = bt s ((2 + n + j : Nat) : Int) := fun j hj => by rw [hr, bt_extract s (2 + n) s.size j (by omega) (Nat.le_refl _)]
  have hrs : r.size = 30 - n := by rw [hr, ByteArray.size_extract]; omega
  intro d
  induction d with
  | zero =>
    intro k j hj hk
    obtain rfl : j = 5 := by omega
    obtain ⟨k, rfl⟩ : ∃ m, k = m + 1 := ⟨k - 1, by omega⟩
    have e7 : wrap64 ((n : Int) + 7) = ((n + 7 : Nat) : Int) := by unfold wrap64; omega
    have e8 : wrap64 ((n : Int) + 8) = ((n + 8 : Nat) : Int) := by unfold wrap64; omega
    have e9 : wrap64 ((n : Int) + 9) = ((n + 9 : Nat) : Int) := by unfold wrap64; omega
    have e10 : wrap64 ((n : Int) + 10) = ((n + 10 : Nat) : Int) := by unfold wrap64; omega
    have ez : wrap64 (wrap64 ((s.size : Int) - (n : Int)) - 10) = ((22 - n : Nat) : Int) := by rw [hs]; unfold wrap64; omega
    have b5 := hrb 5 (by omega)
    have b6 := hrb 6 (by omega)
    have b7 := hrb 7 (by omega)
    rw [show 2 + n + 5 = n + 7 by omega] at b5
    rw [show 2 + n + 6 = n + 8 by omega] at b6
    rw [show 2 + n + 7 = n + 9 by omega] at b7
    have w5 := bt_range r 5
    have w6 := bt_range r 6
    have f5 : wrap64 (bt r 5) = bt r 5 := by unfold wrap64; omega
    have f6 : wrap64 (bt r 6) = bt r 6 := by unfold wrap64; omega
    have hx := ref_entryErr_eq k (by omega) ⟨nm, digB r 5, bt r 5, bt r 6⟩
    have hext : r.extract 8 r.size = s.extract (n + 10) s.size := by
      rw [hr, extract_extract s (2 + n) s.size 8 (by omega) (Nat.le_refl _), show 2 + n + 8 = n + 10 by omega]
    have hes : (s.extract (n + 10) s.size).size = 22 - n := by rw [ByteArray.size_extract]; omega
    rw [examinerref43_Entry.l0, if_neg (by omega)]
    simp only [e7, e8, e9, e10, ez]
    rw [← show bt r 5 = bt s ((n + 7 : Nat) : Int) from b5, ← show bt r 6 = bt s ((n + 8 : Nat) : Int) from b6, ← show bt r 7 = bt s ((n + 9 : Nat) : Int) from b7, f5, f6]
    rw [if_pos (show (0 : Int) ≤ ((n + 7 : Nat) : Int) by omega), if_pos (show ((n + 7 : Nat) : Int) < (s.size : Int) by omega), if_pos (show (0 : Int) ≤ ((n + 8 : Nat) : Int) by omega), if_pos (show ((n + 8 : Nat) : Int) < (s.size : Int) by omega),
      if_pos (show (0 : Int) ≤ ((n + 9 : Nat) : Int) by omega), if_pos (show ((n + 9 : Nat) : Int) < (s.size : Int) by omega), if_pos (show (0 : Int) ≤ ((n + 10 : Nat) : Int) by omega), if_pos (show ((n + 10 : Nat) : Int) ≤ (s.size : Int) by omega)]
    simp only at hx
    rw [hx, Option.bind_some]
    unfold okRest
    by_cases h90 : bt r 7 = 90
    · rw [if_pos h90, decide_eq_true h90, Bool.true_and]
      by_cases he : entE ⟨nm, digB r 5, bt r 5, bt r 6⟩ = 0
      · rw [if_pos he, decide_eq_true he, Bool.and_true, zeros_eq _ (by omega) (by omega), Option.bind_some, hext, Int.toNat_natCast, Int.toNat_natCast, all0_zeros _ _ hes]
      · rw [if_neg he, decide_eq_false he, Bool.and_false]
    · rw [if_neg h90, decide_eq_false h90, Bool.false_and, Bool.false_and]
  | succ d ih =>
    intro k j hj hk
    obtain ⟨k, rfl⟩ : ∃ m, k = m + 1 := ⟨k - 1, by omega⟩
    have hd := digB_small r j (by omega)
    have hb := bt_range r (j : Int)
    have e1 := idx_wrap n j (by omega) (by omega)
    rw [examinerref43_Entry.l0, if_pos (by omega)]
    simp only [e1]
    rw [if_pos (by omega), if_pos (by omega), ← hrb j (by omega), dig_step _ _ hd.1 hd.2 hb.1 hb.2, ← show digB r (j + 1) = digB r j * 256 + bt r (j : Int) from rfl,
      show wrap64 ((j : Int) + 1) = ((j + 1 : Nat) : Int) by unfold wrap64; omega]
    exact ih k (j + 1) (by omega) (by omega)
theorem ref_entry_eq (s : ByteArray) (hs : s.size = 32) (k : Nat) (hk : 40 ≤ k) : examinerref43_Entry.f k s = some (entOf s) := by
  have h1 := bt_range s 1
  have e1 : wrap64 (bt s 1) = bt s 1 := by unfold wrap64; omega
  have e2 : wrap64 (bt s 1 + 10) = bt s 1 + 10 := by unfold wrap64; omega
  obtain ⟨k, rfl⟩ : ∃ m, k = m + 1 := ⟨k - 1, by omega⟩
  unfold examinerref43_Entry.f entOf nmOf
  rw [if_pos (by omega), if_pos (by omega)]
  simp only [e1, e2]
  by_cases h0 : bt s 0 = 165
  · rw [if_pos h0]
    by_cases h2 : bt s 1 ≤ 22
    · have hn : (bt s 1) = (((bt s 1).toNat : Nat) : Int) := by omega
      have hz : (s.extract (2 + (bt s 1).toNat) s.size).size = 30 - (bt s 1).toNat := by rw [ByteArray.size_extract]; omega
      rw [decide_eq_false (show ¬ bt s 1 + 10 > (s.size : Int) by omega), examinerref43_Entry.j0, if_neg (by decide)]
      rw [show wrap64 (2 + bt s 1) = 2 + bt s 1 by unfold wrap64; omega, if_pos (by omega), if_pos (by omega), show (2 + bt s 1).toNat = 2 + (bt s 1).toNat by omega]
      rw [if_pos (show bt s 0 = 165 ∧ bt s 1 ≤ 30 from ⟨h0, by omega⟩), if_pos (show true = true ∧ 8 ≤ (s.extract (2 + (bt s 1).toNat) s.size).size from ⟨rfl, by omega⟩)]
      have := ref_entry_loop s hs (bt s 1).toNat (by omega) (s.extract 2 (2 + (bt s 1).toNat)) _ rfl 5 k 0 (by omega) (by omega)
      rw [← hn] at this
      exact this
    · rw [decide_eq_true (show bt s 1 + 10 > (s.size : Int) by omega), examinerref43_Entry.j0, if_pos rfl]
      by_cases h3 : bt s 1 ≤ 30
      · have hz : (s.extract (2 + (bt s 1).toNat) s.size).size = 30 - (bt s 1).toNat := by rw [ByteArray.size_extract]; omega
        rw [if_pos (show bt s 0 = 165 ∧ bt s 1 ≤ 30 from ⟨h0, h3⟩), if_neg (by rintro ⟨_, h⟩; simp only at h; omega)]
      · rw [if_neg (show ¬ (bt s 0 = 165 ∧ bt s 1 ≤ 30) from fun h => h3 h.2), if_neg (by rintro ⟨h, _⟩; cases h)]
  · rw [if_neg h0, examinerref43_Entry.j0, if_pos rfl, if_neg (show ¬ (bt s 0 = 165 ∧ bt s 1 ≤ 30) from fun h => h0 h.1), if_neg (by rintro ⟨h, _⟩; cases h)]
/-! ### all entries -/
theorem blocks_len (s : ByteArray) (h : s.size % 32 = 0) : (blocksB s).length = s.size / 32 := by rw [blocks_length]; omega
theorem blocks_get (s : ByteArray) (j : Nat) (hj : j < (blocksB s).length) : (blocksB s)[j] = chunkB s j := by simp [blocksB]
theorem ref_block_eq (s : ByteArray) (hs : s.size ≤ 100000) (j : Nat) (h : 32 * j + 32 ≤ s.size) : examinerref43_block.f s (j : Int) = some (chunkB s j) := by
  have e1 : wrap64 ((j : Int) * 32) = ((32 * j : Nat) : Int) := by unfold wrap64; omega
  have e2 : wrap64 (wrap64 ((j : Int) + 1) * 32) = ((32 * j + 32 : Nat) : Int) := by unfold wrap64; omega
  unfold examinerref43_block.f
  rw [e1, e2, if_pos (by omega), if_pos (by omega), if_pos (by omega), Int.toNat_natCast, Int.toNat_natCast]
  rfl
theorem size_div (s : ByteArray) (hs : s.size ≤ 100000) : wrap64 ((s.size : Int) / 32) = ((s.size / 32 : Nat) : Int) := by unfold wrap64; omega
theorem ref_entries_loop (s : ByteArray) (h : s.size % 32 = 0) (hs : s.size ≤ 100000) : ∀ (d k j : Nat) (acc : List S57), j + d = s.size / 32 → d + 41 < k → acc.length ≤ j → examinerref43_Entries.l0 k s acc (j : Int) = some (acc ++ entsL ((blocksB s).drop j)) := by
  intro d
  induction d with
  | zero =>
    intro k j acc hj hk ha
    obtain ⟨k, rfl⟩ : ∃ m, k = m + 1 := ⟨k - 1, by omega⟩
    rw [examinerref43_Entries.l0, size_div s hs, if_neg (by omega), List.drop_eq_nil_of_le (by rw [blocks_len s h]; omega), entsL, List.append_nil]
  | succ d ih =>
    intro k j acc hj hk ha
    obtain ⟨k, rfl⟩ : ∃ m, k = m + 1 := ⟨k - 1, by omega⟩
    have hjb : j < (blocksB s).length := by rw [blocks_len s h]; omega
    rw [examinerref43_Entries.l0, size_div s hs, if_pos (by omega), ref_block_eq s hs j (by omega), Option.bind_some, ref_entry_eq _ (chunkB_size s h j (by omega)) k (by omega), Option.bind_some, List.drop_eq_getElem_cons hjb, entsL, blocks_get s j hjb]
    by_cases c : (entOf (chunkB s j)).2.2.2.2 = true
    · rw [if_pos c, if_pos (show acc.length < 3518437208883 by omega), if_pos c, show wrap64 ((j : Int) + 1) = ((j + 1 : Nat) : Int) by unfold wrap64; omega, ih k (j + 1) _ (by omega) (by omega) (by simp; omega), List.append_assoc]
      rfl
    · rw [if_neg c, if_neg c, List.append_nil]
theorem ref_entries_eq (s : ByteArray) (h : s.size % 32 = 0) (hs : s.size ≤ 100000) (k : Nat) (hk : s.size / 32 + 42 ≤ k) : examinerref43_Entries.f k s = some (entsB s) := by
  have := ref_entries_loop s h hs (s.size / 32) k 0 [] (by omega) (by omega) (by simp)
  simpa [examinerref43_Entries.f, entsB] using this
theorem entsL_length : ∀ l : List ByteArray, (entsL l).length ≤ l.length
  | [] => by simp [entsL]
  | b :: r => by
    have := entsL_length r
    rw [entsL]
    split <;> simp <;> omega
theorem ents_length (s : ByteArray) (h : s.size % 32 = 0) : (entsB s).length ≤ s.size / 32 := by
  have := entsL_length (blocksB s)
  rw [blocks_len s h] at this
  exact this
/-! ### cleaning -/
theorem recFrom_low (n : Nat) : ∀ (a : List ByteArray) (i : Nat), i + a.length ≤ n → recFrom n a i = []
  | [], _, _ => rfl
  | x :: a, i, h => by
    simp only [List.length_cons] at h
    rw [recFrom, if_neg (by rintro ⟨h1, _⟩; omega), recFrom_low n a (i + 1) (by omega)]
    rfl
theorem ref_clean_loop (s : ByteArray) (h : s.size % 32 = 0) (hs : s.size ≤ 100000) (n : Nat) : ∀ (d k j : Nat) (acc : List S66), n ≤ j → j + d = s.size / 32 → d < k → acc.length ≤ j → examinerref43_Cleaning.l0 k s zeroB acc (j : Int) = some (acc ++ recFrom n ((blocksB s).drop j) j) := by
  intro d
  induction d with
  | zero =>
    intro k j acc hn hj hk ha
    obtain ⟨k, rfl⟩ : ∃ m, k = m + 1 := ⟨k - 1, by omega⟩
    rw [examinerref43_Cleaning.l0, size_div s hs, if_neg (by omega), List.drop_eq_nil_of_le (by rw [blocks_len s h]; omega), recFrom, List.append_nil]
  | succ d ih =>
    intro k j acc hn hj hk ha
    obtain ⟨k, rfl⟩ : ∃ m, k = m + 1 := ⟨k - 1, by omega⟩
    have hjb : j < (blocksB s).length := by rw [blocks_len s h]; omega
    have ew : wrap64 ((j : Int) + 1) = ((j + 1 : Nat) : Int) := by unfold wrap64; omega
    rw [examinerref43_Cleaning.l0, size_div s hs, if_pos (by omega), ref_block_eq s hs j (by omega), Option.bind_some, List.drop_eq_getElem_cons hjb, recFrom, blocks_get s j hjb]
    by_cases c : chunkB s j = zeroB
    · rw [if_pos (toList_inj.2 c), if_neg (fun h => h.2 c), ew, ih k (j + 1) _ (by omega) (by omega) (by omega) (by omega), List.nil_append]
    · rw [if_neg (fun e => c (toList_inj.1 e)), if_pos (show acc.length < 5864062014805 by omega), if_pos (show n ≤ j ∧ chunkB s j ≠ zeroB from ⟨hn, c⟩), ew, ih k (j + 1) _ (by omega) (by omega) (by omega) (by simp; omega), List.append_assoc]
theorem ref_cleaning_eq (s : ByteArray) (h : s.size % 32 = 0) (hs : s.size ≤ 100000) (k : Nat) (hk : s.size / 32 + 42 ≤ k) : examinerref43_Cleaning.f k s = some (recFrom (entsB s).length (blocksB s) 0) := by
  have hl := ents_length s h
  unfold examinerref43_Cleaning.f
  rw [zeros_eq 32 (by omega) (by omega), Option.bind_some, ref_entries_eq s h hs k hk, Option.bind_some]
  have := ref_clean_loop s h hs (entsB s).length (s.size / 32 - (entsB s).length) k (entsB s).length [] (Nat.le_refl _) (by omega) (by omega) (by simp)
  rw [show (strOfNums (List.replicate (32 : Int).toNat 0)) = zeroB from rfl, this, List.nil_append]
  congr 1
  conv => rhs; rw [← List.take_append_drop (entsB s).length (blocksB s)]
  rw [recFrom_append, recFrom_low (entsB s).length ((blocksB s).take (entsB s).length) 0 (by rw [List.length_take]; omega), List.nil_append, List.length_take, Nat.min_eq_left (by rw [blocks_len s h]; omega), Nat.zero_add]
theorem jerr_eq (s : ByteArray) : examinerref43_JournalErr.f s = some (if s.size % 32 = 0 then (if s.size ≤ 1536 then 0 else 2) else 19) := bytesErr_eq s
end Go.Proofs.YtgflelipamofoaaDoor.PA
