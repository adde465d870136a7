/- Chapter 08: what the printed functions compute, plainly: bit strings, numbers, errors. -/
import Derived.Test.YthicmbhldjebfaaDoorPAx10
import Derived.Test.YthicmbhldjebfaaDoorPAx14
namespace Go.Proofs.YthicmbhldjebfaaDoor.PA
open Go Go.RowKit Go.Proofs.YthicmbhldjebfaaDoorW.PrintWords Go.Proofs.YthicmbhldjebfaaDoorW.PrintLast Go.Proofs.YthicmbhldjebfaaDoorW.PrintMore
set_option linter.unusedVariables false
set_option linter.unusedSimpArgs false
theorem ev_succ {α : Type} {g : Nat → Option α} {r : α} (h : Ev (fun k => g (k + 1)) r) : Ev g r := Ev.step (fun _ => rfl) h
theorem ev_some {α : Type} {g : Nat → Option α} {r : α} (K : Nat) (h : ∀ k, K ≤ k → g k = some r) : Ev g r := ⟨K, h⟩
theorem wrap_succ {i n : Nat} (h : i < n) (hn : n ≤ 9223372036854775807) : wrap64 ((i : Int) + 1) = ((i + 1 : Nat) : Int) := by unfold wrap64; omega
theorem bits_within_eq (a lo hi : Int) : bits_within.f a lo hi = some (decide (lo ≤ a ∧ a ≤ hi)) := by
  unfold bits_within.f
  by_cases h : lo ≤ a
  · rw [if_pos h]; simp [h]
  · rw [if_neg h]; simp [h]
theorem bt_nat (s : ByteArray) (i : Nat) (h : i < s.data.toList.length) : bt s (i : Int) = (s.data.toList[i].toNat : Int) := by
  unfold bt
  have hl : i < s.size := by simpa using h
  simp [List.getD, hl]
  try rfl
theorem is01_num (x : UInt8) : is01 x = true ↔ ((x.toNat : Int) = 48 ∨ (x.toNat : Int) = 49) := by
  unfold is01
  rw [Bool.or_eq_true, beq_iff_eq, beq_iff_eq]
  constructor
  · rintro (rfl | rfl)
    · exact .inl rfl
    · exact .inr rfl
  · rintro (h | h)
    · exact .inl (UInt8.toNat_inj.1 (by simpa using (by omega : x.toNat = 48)))
    · exact .inr (UInt8.toNat_inj.1 (by simpa using (by omega : x.toNat = 49)))
def bitsE (s : ByteArray) : Int := if (s.size : Int) > 32000 then 2 else if all01 s = true then 0 else 5
theorem check_eq (s : ByteArray) : bits_CheckBits.f s = some (bitsE s) := by
  unfold bits_CheckBits.f bitsE bits_isBits.f
  by_cases h : (s.size : Int) > 32000
  · simp only [if_pos h]
  · simp only [if_neg h, if_pos (show s.size ≤ 9223372036854775807 by omega), Option.bind_some]
    cases all01 s <;> rfl
def numFrom (s : ByteArray) : Nat → Int → Nat → Int
  | 0, n, _ => n
  | d + 1, n, i => numFrom s d (wrap64 ((wrap64 (2 * n)) + (((bt s (i : Int)) - 48) % 256))) (i + 1)
theorem number_loop (s : ByteArray) (hs : s.size ≤ 9223372036854775807) : ∀ (d i : Nat) (n : Int), i + d = s.size → Ev (fun k => bits_number.l0 k s n (s.size : Int) i) (numFrom s d n i) := by
  intro d
  induction d with
  | zero =>
    intro i n hi
    refine ev_succ ?_
    simp only [bits_number.l0, if_neg (show ¬ (i : Int) < (s.size : Int) by omega)]
    exact Ev.now _
  | succ d ih =>
    intro i n hi
    refine ev_succ ?_
    simp only [bits_number.l0, if_pos (show (i : Int) < (s.size : Int) by omega), if_pos (show 0 ≤ (i : Int) by omega), wrap_succ (show i < s.size by omega) hs]
    exact ih (i + 1) _ (by omega)
def numB (s : ByteArray) : Int := numFrom s s.size 0 0
theorem number_eq (s : ByteArray) (hs : s.size ≤ 9223372036854775807) : Ev (fun k => bits_number.f k s) (numB s) := number_loop s hs s.size 0 0 (by omega)
set_option maxRecDepth 100000 in
theorem awake_at : examinerlaw08_awake.f 60 = some true := by kernel_rfl
theorem awake_eq : Ev (fun k => examinerlaw08_awake.f k) true := ev_some 60 (fun k hk => at_rounds (fun k => examinerlaw08_awake.mono k) hk awake_at)
end Go.Proofs.YthicmbhldjebfaaDoor.PA
