/- Chapter 43: what the printed functions of the reference compute, plainly: names, entries; the examples. -/
import Derived.Test.YtgflelipamofoaaDoorHB
import Derived.Test.YtgflelipamofoaaDoorPAx6
import Derived.Test.YtgflelipamofoaaDoorPAx4
namespace Go.Proofs.YtgflelipamofoaaDoor.PA
open Go.RowKit Go.Proofs.YtgflelipamofoaaDoorW.PrintWords Go.Proofs.YtgflelipamofoaaDoorW.PrintLast Go.Proofs.YtgflelipamofoaaDoorW.PrintMore
theorem within_eq (a lo hi : Int) : examinerbase_Within.f a lo hi = some (decide (lo ≤ a ∧ a ≤ hi)) := by
  unfold examinerbase_Within.f
  by_cases h : lo ≤ a
  · rw [if_pos h]; simp [h]
  · rw [if_neg h]; simp [h]
theorem small_eq (c : Int) : examinerbase_IsSmall.f c = some (decide (97 ≤ c ∧ c ≤ 122)) := by
  unfold examinerbase_IsSmall.f
  by_cases h : c ≥ 97
  · rw [if_pos h]; simp [h]
  · rw [if_neg h]; have : ¬ 97 ≤ c := by omega
    simp [this]
theorem capital_eq (c : Int) : examinerbase_IsCapital.f c = some (decide (65 ≤ c ∧ c ≤ 90)) := by
  unfold examinerbase_IsCapital.f
  by_cases h : c ≥ 65
  · rw [if_pos h]; simp [h]
  · rw [if_neg h]; have : ¬ 65 ≤ c := by omega
    simp [this]
theorem digit_eq (c : Int) : examinerbase_IsDigit.f c = some (decide (48 ≤ c ∧ c ≤ 57)) := by
  unfold examinerbase_IsDigit.f
  by_cases h : c ≥ 48
  · rw [if_pos h]; simp [h]
  · rw [if_neg h]; have : ¬ 48 ≤ c := by omega
    simp [this]
theorem wrap_succ {i n : Nat} (h : i < n) (hn : n ≤ 9223372036854775807) : wrap64 ((i : Int) + 1) = ((i + 1 : Nat) : Int) := by unfold wrap64; omega
theorem test_loop (s : ByteArray) (hs : s.size ≤ 9223372036854775807) : ∀ (d k i : Nat), 1 ≤ i → i + d = s.size → d < k → examinerref43_IsTest.l0 k s i = some (nmFrom s d i) := by
  intro d
  induction d with
  | zero =>
    intro k i h1 hi hk
    obtain ⟨k, rfl⟩ : ∃ m, k = m + 1 := ⟨k - 1, by omega⟩
    simp only [examinerref43_IsTest.l0]
    rw [if_neg (by omega)]
    rfl
  | succ d ih =>
    intro k i h1 hi hk
    obtain ⟨k, rfl⟩ : ∃ m, k = m + 1 := ⟨k - 1, by omega⟩
    simp only [examinerref43_IsTest.l0]
    rw [if_pos (by omega), if_pos (by omega), small_eq, capital_eq, digit_eq]
    simp only [Option.bind_some, decide_eq_true_eq]
    rw [wrap_succ (show i < s.size by omega) hs, ih k (i + 1) (by omega) (by omega) (by omega)]
    simp only [nmFrom]
    by_cases hok : nmOk i (bt s i) = true
    · rw [hok]
      rw [nmOk_iff] at hok
      repeat' split
      all_goals first | rfl | (exfalso; omega)
    · rw [Bool.not_eq_true _ |>.mp hok]
      rw [nmOk_iff] at hok
      repeat' split
      all_goals first | rfl | (exfalso; omega)
theorem test_eq (s : ByteArray) (k : Nat) (hk : 24 ≤ k) : examinerref43_IsTest.f k s = some (nameB s) := by
  unfold examinerref43_IsTest.f
  rw [within_eq, Option.bind_some]
  obtain ⟨k, rfl⟩ : ∃ m, k = m + 2 := ⟨k - 2, by omega⟩
  by_cases h : 1 ≤ (s.size : Int) ∧ (s.size : Int) ≤ 20
  · rw [if_pos (decide_eq_true h), if_pos (by omega), small_eq, capital_eq]
    simp only [Option.bind_some, decide_eq_true_eq]
    have hn : nameB s = nmFrom s s.size 0 := by unfold nameB; rw [decide_eq_true (by omega), decide_eq_true (by omega)]; rfl
    obtain ⟨d, hd⟩ : ∃ d, s.size = d + 1 := ⟨s.size - 1, by omega⟩
    have hl : ∀ b, examinerref43_IsTest.l0 (k + 1) s 0 = some b → b = (nmOk 1 (bt s 0) && nmFrom s d 1) := by
      intro b hb
      simp only [examinerref43_IsTest.l0] at hb
      rw [if_pos (by omega), if_pos (by omega), small_eq, capital_eq, digit_eq] at hb
      simp only [Option.bind_some, decide_eq_true_eq] at hb
      rw [show wrap64 ((0 : Int) + 1) = ((1 : Nat) : Int) by unfold wrap64; omega, test_loop s (by omega) d k 1 (by omega) (by omega) (by omega)] at hb
      by_cases hok : nmOk 1 (bt s 0) = true
      · rw [hok]
        rw [nmOk_iff] at hok
        repeat' split at hb
        all_goals first | (cases hb; rfl) | (exfalso; omega)
      · rw [Bool.not_eq_true _ |>.mp hok]
        rw [nmOk_iff] at hok
        repeat' split at hb
        all_goals first | (cases hb; rfl) | (exfalso; omega)
    have hex : ∃ b, examinerref43_IsTest.l0 (k + 1) s 0 = some b := by
      simp only [examinerref43_IsTest.l0]
      rw [if_pos (by omega), if_pos (by omega), small_eq, capital_eq, digit_eq]
      simp only [Option.bind_some, decide_eq_true_eq]
      rw [show wrap64 ((0 : Int) + 1) = ((1 : Nat) : Int) by unfold wrap64; omega, test_loop s (by omega) d k 1 (by omega) (by omega) (by omega)]
      repeat' split
      all_goals exact ⟨_, rfl⟩
    obtain ⟨b, hb⟩ := hex
    have hb2 := hl b hb
    rw [hn, hd]
    simp only [nmFrom, examinerref43_IsTest.j0]
    simp only [hb, hb2]
    by_cases c1 : 97 ≤ bt s 0 ∧ bt s 0 ≤ 122
    · rw [if_pos c1]
      have e0 : nmOk 0 (bt s (0 : Nat)) = true := nmOk_iff.2 (.inl c1)
      have e1 : nmOk 1 (bt s 0) = true := nmOk_iff.2 (.inl c1)
      rw [e0, e1]; simp
    · rw [if_neg c1]
      by_cases c2 : 65 ≤ bt s 0 ∧ bt s 0 ≤ 90
      · have e0 : nmOk 0 (bt s (0 : Nat)) = true := nmOk_iff.2 (.inr (.inl c2))
        have e1 : nmOk 1 (bt s 0) = true := nmOk_iff.2 (.inr (.inl c2))
        rw [e0, e1]; simp [c2]
      · have e0 : nmOk 0 (bt s (0 : Nat)) = false := by
          rw [← Bool.not_eq_true, nmOk_iff]
          simp only [Int.natCast_zero] at *
          omega
        rw [e0]; simp [c2]
  · rw [if_neg (by simpa using h)]
    simp only [examinerref43_IsTest.j0, if_true]
    have : nameB s = false := by
      unfold nameB
      by_cases c : 1 ≤ s.size
      · rw [decide_eq_false (p := s.size ≤ 20) (by omega)]; simp
      · rw [decide_eq_false (p := 1 ≤ s.size) (by omega)]; simp
    rw [this]
theorem ref_entryErr_eq (k : Nat) (hk : 24 ≤ k) (x : S57) : examinerref43_entryErr.f k x.f0 x.f1 x.f2 x.f3 = some (entE x) := by
  unfold examinerref43_entryErr.f entE
  rw [test_eq x.f0 k hk, within_eq, within_eq, within_eq]
  simp only [Option.bind_some, decide_eq_true_eq]
  repeat' split
  all_goals first | rfl | (exfalso; omega)
theorem awake_eq : examinerlaw43_awake.f = some true := by
  kernel_rfl
theorem strOfNums_bytes (s : ByteArray) : strOfNums (bytesOf s) = s := by
  apply ByteArray.ext
  apply Array.ext'
  simp only [strOfNums, bytesOf, List.map_map]
  have : ((fun n : Int => UInt8.ofNat n.toNat) ∘ fun b : UInt8 => (b.toNat : Int)) = id := by
    funext b; simp
  rw [this, List.map_id]
theorem strOfNums_size (a : List Int) : (strOfNums a).size = a.length := by simp [strOfNums, ByteArray.size]
theorem bytesOf_length (s : ByteArray) : (bytesOf s).length = s.size := by simp [bytesOf]
theorem zeros_eq (n : Int) (h0 : 0 ≤ n) (hn : n ≤ 281474976710656) : examinerbase_Zeros.f n = some (strOfNums (List.replicate n.toNat 0)) := by
  unfold examinerbase_Zeros.f
  rw [if_pos h0, if_pos (by omega)]
end Go.Proofs.YtgflelipamofoaaDoor.PA
