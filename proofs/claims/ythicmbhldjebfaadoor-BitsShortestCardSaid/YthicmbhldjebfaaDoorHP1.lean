/- Chapter 08: what the printed functions compute, plainly: bit strings, numbers, errors. -/
import Derived.Test.YthicmbhldjebfaaDoorPAx10
import Derived.Test.YthicmbhldjebfaaDoorPAx14
namespace Go.Proofs.YthicmbhldjebfaaDoor.PA
open Go Go.RowKit Go.Proofs.YthicmbhldjebfaaDoorW.PrintWords Go.Proofs.YthicmbhldjebfaaDoorW.PrintLast Go.Proofs.YthicmbhldjebfaaDoorW.PrintMore
set_option linter.unusedVariables false
set_option linter.unusedSimpArgs false
theorem ev_succ {α : Type} {g : Nat → Option α} {r : α} (h : Ev (fun k => g (k + 1)) r) : Ev g r := Ev.step (fun _ => rfl) h
theorem ev_some {α : Type} {g : Nat → Option α} {r : α} (K : Nat) (h : ∀ k, K ≤ k → g k = some r) : Ev g r := ⟨K, h⟩
theorem wrap_succ {i n : Nat} (h : i < n) (hn : n ≤ 9223372036854775807) : wrap64 ((i : Int) + 1) = ((i + 1 : Nat) : Int) := by unfold wrap64; omega
theorem within_eq (a lo hi : Int) : examinerbase_Within.f a lo hi = some (decide (lo ≤ a ∧ a ≤ hi)) := by
  unfold examinerbase_Within.f
  by_cases h : lo ≤ a
  · rw [if_pos h]; simp [h]
  · rw [if_neg h]; simp [h]
theorem bits_within_eq (a lo hi : Int) : bits_within.f a lo hi = some (decide (lo ≤ a ∧ a ≤ hi)) := by
  unfold bits_within.f
  by_cases h : lo ≤ a
  · rw [if_pos h]; simp [h]
  · rw [if_neg h]; simp [h]
theorem count_eq (b : Bool) : examinerbase_Count.f b = some (if b = true then 1 else 0) := by
  unfold examinerbase_Count.f
  cases b <;> rfl
theorem bt_nat (s : ByteArray) (i : Nat) (h : i < s.data.toList.length) : bt s (i : Int) = (s.data.toList[i].toNat : Int) := by
  unfold bt
  have hl : i < s.size := by simpa using h
  simp [List.getD, hl]
  try rfl
theorem is01_num (x : UInt8) : is01 x = true ↔ ((x.toNat : Int) = 48 ∨ (x.toNat : Int) = 49) := by
  unfold is01
  rw [Bool.or_eq_true, beq_iff_eq, beq_iff_eq]
  constructor
  · rintro (rfl | rfl)
    · exact .inl rfl
    · exact .inr rfl
  · rintro (h | h)
    · exact .inl (UInt8.toNat_inj.1 (by simpa using (by omega : x.toNat = 48)))
    · exact .inr (UInt8.toNat_inj.1 (by simpa using (by omega : x.toNat = 49)))
theorem ref_isBits_loop (s : ByteArray) (hs : s.size ≤ 9223372036854775807) : ∀ (d i : Nat), i + d = s.size → Ev (fun k => examinerref08_IsBits.l0 k s i) ((s.data.toList.drop i).all is01) := by
  intro d
  induction d with
  | zero =>
    intro i hi
    refine ev_succ ?_
    simp only [examinerref08_IsBits.l0, if_neg (show ¬ (i : Int) < (s.size : Int) by omega)]
    rw [List.drop_of_length_le (by simp; omega)]
    exact Ev.now _
  | succ d ih =>
    intro i hi
    refine ev_succ ?_
    have hl : i < s.data.toList.length := by simp; omega
    simp only [examinerref08_IsBits.l0, if_pos (show (i : Int) < (s.size : Int) by omega), if_pos (show 0 ≤ (i : Int) by omega), wrap_succ (show i < s.size by omega) hs]
    rw [List.drop_eq_getElem_cons hl, List.all_cons, bt_nat s i hl]
    have h01 := is01_num s.data.toList[i]
    generalize s.data.toList[i] = x at *
    by_cases h1 : (x.toNat : Int) = 48
    · simp only [if_pos h1, h01.2 (.inl h1), Bool.true_and]
      exact ih (i + 1) (by omega)
    · by_cases h2 : (x.toNat : Int) = 49
      · simp only [if_neg h1, if_pos h2, h01.2 (.inr h2), Bool.true_and]
        exact ih (i + 1) (by omega)
      · have hf : is01 x = false := by rw [← Bool.not_eq_true, h01]; omega
        simp only [if_neg h1, if_neg h2, hf, Bool.false_and]
        exact Ev.now _
theorem ref_isBits (s : ByteArray) (hs : s.size ≤ 9223372036854775807) : Ev (fun k => examinerref08_IsBits.f k s) (all01 s) := by
  have := ref_isBits_loop s hs s.size 0 (by omega)
  exact this
def bitsE (s : ByteArray) : Int := if (s.size : Int) > 32000 then 2 else if all01 s = true then 0 else 5
theorem check_eq (s : ByteArray) : bits_CheckBits.f s = some (bitsE s) := by
  unfold bits_CheckBits.f bitsE bits_isBits.f
  by_cases h : (s.size : Int) > 32000
  · simp only [if_pos h]
  · simp only [if_neg h, if_pos (show s.size ≤ 9223372036854775807 by omega), Option.bind_some]
    cases all01 s <;> rfl
theorem ref_bitsErr (s : ByteArray) : Ev (fun k => examinerref08_BitsErr.f k s) (bitsE s) := by
  unfold examinerref08_BitsErr.f bitsE
  by_cases h : (s.size : Int) > 32000
  · simp only [if_pos h]
    exact Ev.now _
  · simp only [if_neg h]
    refine Ev.bind (ref_isBits s (by omega)) ?_
    simp only [count_eq, Option.bind_some]
    cases all01 s
    · exact ev_some 0 (fun _ _ => by simp [wrap64])
    · exact ev_some 0 (fun _ _ => by simp [wrap64])
def numFrom (s : ByteArray) : Nat → Int → Nat → Int
  | 0, n, _ => n
  | d + 1, n, i => numFrom s d (wrap64 ((wrap64 (2 * n)) + (((bt s (i : Int)) - 48) % 256))) (i + 1)
theorem number_loop (s : ByteArray) (hs : s.size ≤ 9223372036854775807) : ∀ (d i : Nat) (n : Int), i + d = s.size → Ev (fun k => bits_number.l0 k s n (s.size : Int) i) (numFrom s d n i) := by
  intro d
  induction d with
  | zero =>
    intro i n hi
    refine ev_succ ?_
    simp only [bits_number.l0, if_neg (show ¬ (i : Int) < (s.size : Int) by omega)]
    exact Ev.now _
  | succ d ih =>
    intro i n hi
    refine ev_succ ?_
    simp only [bits_number.l0, if_pos (show (i : Int) < (s.size : Int) by omega), if_pos (show 0 ≤ (i : Int) by omega), wrap_succ (show i < s.size by omega) hs]
    exact ih (i + 1) _ (by omega)
theorem ref_number_loop (s : ByteArray) (hs : s.size ≤ 9223372036854775807) : ∀ (d i : Nat) (n : Int), i + d = s.size → Ev (fun k => examinerref08_Number.l0 k s n i) (numFrom s d n i) := by
  intro d
  induction d with
  | zero =>
    intro i n hi
    refine ev_succ ?_
    simp only [examinerref08_Number.l0, if_neg (show ¬ (i : Int) < (s.size : Int) by omega)]
    exact Ev.now _
  | succ d ih =>
    intro i n hi
    refine ev_succ ?_
    simp only [examinerref08_Number.l0, if_pos (show (i : Int) < (s.size : Int) by omega), if_pos (show 0 ≤ (i : Int) by omega), wrap_succ (show i < s.size by omega) hs]
    exact ih (i + 1) _ (by omega)
def numB (s : ByteArray) : Int := numFrom s s.size 0 0
theorem number_eq (s : ByteArray) (hs : s.size ≤ 9223372036854775807) : Ev (fun k => bits_number.f k s) (numB s) := number_loop s hs s.size 0 0 (by omega)
theorem ref_number_eq (s : ByteArray) (hs : s.size ≤ 9223372036854775807) : Ev (fun k => examinerref08_Number.f k s) (numB s) := ref_number_loop s hs s.size 0 0 (by omega)
set_option maxRecDepth 100000 in
theorem awake_at : examinerlaw08_awake.f 60 = some true := by kernel_rfl
theorem awake_eq : Ev (fun k => examinerlaw08_awake.f k) true := ev_some 60 (fun k hk => at_rounds (fun k => examinerlaw08_awake.mono k) hk awake_at)
end Go.Proofs.YthicmbhldjebfaaDoor.PA
