/- Chapter 08: what the printed functions compute, plainly: fields that are read. -/
import Derived.Test.YthicmbhldjebfaaDoorPAx25
import Derived.Test.YthicmbhldjebfaaDoorPAx26
import Derived.Test.YthicmbhldjebfaaDoorPAx27
import Derived.Test.YthicmbhldjebfaaDoorHP3
import Derived.Test.YthicmbhldjebfaaDoorHG
import Derived.Lib.IndexLaws
namespace Go.Proofs.YthicmbhldjebfaaDoor.PA
open Go Go.RowKit Go.Proofs.YthicmbhldjebfaaDoorW.PrintWords Go.Proofs.YthicmbhldjebfaaDoorW.PrintLast Go.Proofs.YthicmbhldjebfaaDoorW.PrintMore
set_option linter.unusedVariables false
set_option linter.unusedSimpArgs false
theorem pad_and7 (a : Nat) (h : a ≤ 32000) : Go.bits .and .i64 (wrap64 (-(a : Int))) 7 = (((8 - a % 8) % 8 : Nat) : Int) := by
  rw [show wrap64 (-(a : Int)) = -(a : Int) by unfold wrap64; omega]
  have h1 : (BitVec.ofInt IntKind.i64.bits (-(a : Int))).toNat = (18446744073709551616 - a) % 18446744073709551616 := by
    rw [BitVec.toNat_ofInt]
    show ((-(a : Int)) % (2 ^ 64 : Nat)).toNat = _
    omega
  have h2 : (BitVec.ofInt IntKind.i64.bits 7).toNat = 2 ^ 3 - 1 := by decide
  simp only [Go.bits, BitVec.toNat_and, h1, h2, Nat.and_two_pow_sub_one_eq_mod]
  rw [Go.IntKind.wrap_i64]
  omega
/-- All characters are 0. -/
def zeroB (p : ByteArray) : Bool := p.data.toList.all fun b => b == 48
theorem zeroB_index (p : ByteArray) (h : all01 p = true) : decide (0 ≤ Lib.indexByte p.data.toList 49) = !zeroB p := by
  unfold all01 at h
  unfold zeroB
  generalize p.data.toList = l at *
  induction l with
  | nil => rfl
  | cons b l ih =>
    rw [List.all_cons, Bool.and_eq_true] at h
    have := ih h.2
    rw [List.all_cons]
    have hge := Lib.indexByte_ge l 49
    unfold Lib.indexByte
    by_cases hb : b = 49
    · subst hb
      rfl
    · have h48 : b = 48 := by
        have := h.1
        unfold is01 at this
        rw [Bool.or_eq_true, beq_iff_eq, beq_iff_eq] at this
        rcases this with h | h
        · exact h
        · exact absurd h hb
      rw [if_neg (show ¬ (b == 49) = true by simp [hb]), h48]
      have e : (l.all fun b => b == 48) = !decide (0 ≤ Lib.indexByte l 49) := by rw [this, Bool.not_not]
      rw [show ((48 : UInt8) == 48) = true by decide, Bool.true_and, e, Bool.not_not]
      by_cases hi : Lib.indexByte l 49 = -1
      · rw [hi]; rfl
      · rw [if_neg (show ¬ (Lib.indexByte l 49 == -1) = true by simp [hi])]
        rw [decide_eq_true (show 0 ≤ Lib.indexByte l 49 + 1 by omega), decide_eq_true (show 0 ≤ Lib.indexByte l 49 by omega)]
/-- In how many bits a field lies. -/
def fieldSize (x : S66) (a : Nat) : Nat := if x.f0 = 2 then 8 * x.f1.toNat else if x.f0 = 3 then (8 - a % 8) % 8 else x.f1.toNat
/-- The fields that are read, where they end, and the error. -/
def readR (s : ByteArray) : List S66 → Nat → Nat → List S66 → List S66 × Int × Int
  | [], i, a, out => (out, (a : Int), 0)
  | x :: r, i, a, out =>
    if 0 ≤ x.f0 ∧ x.f0 ≤ 3 then
      (if 0 ≤ x.f1 ∧ x.f1 ≤ mostW x.f0 then
        (if a + fieldSize x a ≤ s.size then
          (if x.f0 = 0 then (if numB (s.extract a (a + fieldSize x a)) > 1152921504606846976 then ([], (i : Int), 25) else readR s r (i + 1) (a + fieldSize x a) (out ++ [⟨x.f0, x.f1, numB (s.extract a (a + fieldSize x a)), ⟨#[]⟩⟩]))
           else if x.f0 = 1 then readR s r (i + 1) (a + fieldSize x a) (out ++ [⟨x.f0, x.f1, 0, s.extract a (a + fieldSize x a)⟩])
           else if x.f0 = 2 then readR s r (i + 1) (a + fieldSize x a) (out ++ [⟨x.f0, x.f1, 0, strOfNums (octs (s.extract a (a + fieldSize x a)))⟩])
           else if zeroB (s.extract a (a + fieldSize x a)) = true then readR s r (i + 1) (a + fieldSize x a) (out ++ [⟨x.f0, x.f1, 0, ⟨#[]⟩⟩]) else ([], (i : Int), 5))
         else ([], (i : Int), 9))
       else ([], (i : Int), 3))
    else ([], (i : Int), 4)
theorem mostW_le (k : Int) : mostW k ≤ 32000 := by
  unfold mostW
  split
  · omega
  · split
    · omega
    · split <;> omega
theorem fieldSize_le (x : S66) (a : Nat) (h : x.f1 ≤ mostW x.f0) : fieldSize x a ≤ 32000 := by
  unfold fieldSize
  unfold mostW at h
  split
  · rename_i e
    rw [if_neg (by omega), if_neg (by omega), if_pos e] at h
    omega
  · split
    · omega
    · split at h
      · omega
      · split at h
        · omega
        · first
          | omega
          | (split at h <;> omega)
theorem read_j1 (s : ByteArray) (hs01 : all01 s = true) (hs : s.size ≤ 32000) (l : List S66) (hl : l.length ≤ 1000) (x : S66) (h1 : 0 ≤ x.f0 ∧ x.f0 ≤ 3) (i : Nat) (hi : i < l.length) (a : Nat) (ha : a ≤ s.size) (z : Nat) (hz : z ≤ 32000) (out : List S66) (ho : out.length ≤ 1000) (r : List S66)
    (ih : ∀ out' : List S66, out'.length = out.length + 1 → a + z ≤ s.size → Ev (fun k => bits_ReadFields.l0 k s out' ((a + z : Nat) : Int) l (l.length : Int) ((i + 1 : Nat) : Int)) (readR s r (i + 1) (a + z) out')) :
    Ev (fun k => bits_ReadFields.j1 k s out (a : Int) (i : Int) (z : Int) l (l.length : Int) (i : Int) x.f0 x.f1 x.f2 x.f3)
      (if a + z ≤ s.size then
          (if x.f0 = 0 then (if numB (s.extract a (a + z)) > 1152921504606846976 then ([], (i : Int), 25) else readR s r (i + 1) (a + z) (out ++ [⟨x.f0, x.f1, numB (s.extract a (a + z)), ⟨#[]⟩⟩]))
           else if x.f0 = 1 then readR s r (i + 1) (a + z) (out ++ [⟨x.f0, x.f1, 0, s.extract a (a + z)⟩])
           else if x.f0 = 2 then readR s r (i + 1) (a + z) (out ++ [⟨x.f0, x.f1, 0, strOfNums (octs (s.extract a (a + z)))⟩])
           else if zeroB (s.extract a (a + z)) = true then readR s r (i + 1) (a + z) (out ++ [⟨x.f0, x.f1, 0, ⟨#[]⟩⟩]) else ([], (i : Int), 5))
         else ([], (i : Int), 9)) := by
  have e1 : wrap64 ((s.size : Int) - (a : Int)) = (s.size : Int) - (a : Int) := by unfold wrap64; omega
  have e2 : wrap64 ((a : Int) + (z : Int)) = ((a + z : Nat) : Int) := by unfold wrap64; omega
  refine ev_succ ?_
  simp only [bits_ReadFields.j1, e1, e2]
  by_cases c : a + z ≤ s.size
  · have hp := all01_extract s hs01 a (a + z)
    have hps : (s.extract a (a + z)).size ≤ 32000 := by simp; omega
    simp only [if_neg (show ¬ (z : Int) > (s.size : Int) - (a : Int) by omega), if_pos c, if_pos (show 0 ≤ (a : Int) by omega), if_pos (show (a : Int) ≤ ((a + z : Nat) : Int) by omega), if_pos (show ((a + z : Nat) : Int) ≤ (s.size : Int) by omega), Int.toNat_natCast, if_pos (show out.length < 3518437208883 by omega), wrap_succ hi (show l.length ≤ 9223372036854775807 by omega)]
    generalize s.extract a (a + z) = p at *
    by_cases f0 : x.f0 = 0
    · simp only [if_pos f0]
      refine Ev.bind (number_eq p (by omega)) ?_
      by_cases g : numB p > 1152921504606846976
      · simp only [if_pos g]; exact Ev.now _
      · simp only [if_neg g]; exact ih _ (by simp) c
    · simp only [if_neg f0]
      by_cases f1 : x.f0 = 1
      · simp only [if_pos f1]; exact ih _ (by simp) c
      · simp only [if_neg f1]
        by_cases f2 : x.f0 = 2
        · simp only [if_pos f2]
          refine Ev.bind (pack_eq p hp hps) ?_
          exact ih _ (by simp) c
        · have f3 : x.f0 = 3 := by omega
          simp only [if_neg f2, if_pos f3, strings_Contains.f, if_true, Option.bind_some, zeroB_index p hp]
          cases g : zeroB p with
          | true => simp only [Bool.not_true, Bool.false_eq_true, if_false, if_true]; exact ih _ (by simp) c
          | false => simp only [Bool.not_false, if_true, Bool.false_eq_true, if_false]; exact Ev.now _
  · simp only [if_pos (show (z : Int) > (s.size : Int) - (a : Int) by omega), if_neg c]
    exact Ev.now _
theorem readFields_loop (s : ByteArray) (hs01 : all01 s = true) (hs : s.size ≤ 32000) (l : List S66) (hl : l.length ≤ 1000) : ∀ (r : List S66) (i a : Nat) (out : List S66), l.drop i = r → a ≤ s.size → out.length = i → Ev (fun k => bits_ReadFields.l0 k s out (a : Int) l (l.length : Int) (i : Int)) (readR s r i a out) := by
  intro r
  induction r with
  | nil =>
    intro i a out h ha ho
    have hi : l.length ≤ i := List.drop_eq_nil_iff.1 h
    refine ev_succ ?_
    simp only [bits_ReadFields.l0, if_neg (show ¬ (i : Int) < (l.length : Int) by omega)]
    exact Ev.now _
  | cons x r ih =>
    intro i a out h ha ho
    obtain ⟨hi, hx, hr⟩ := rd_drop l i x r h
    refine ev_succ ?_
    simp only [bits_ReadFields.l0, if_pos (show (i : Int) < (l.length : Int) by omega), if_pos (show 0 ≤ (i : Int) by omega), hx, bits_within_eq, mostWidth_eq, Option.bind_some]
    by_cases h1 : 0 ≤ x.f0 ∧ x.f0 ≤ 3
    · simp only [decide_eq_true h1, if_true]
      by_cases h2 : 0 ≤ x.f1 ∧ x.f1 ≤ mostW x.f0
      · simp only [decide_eq_true h2, if_true]
        have hm := mostW_le x.f0
        obtain ⟨w, hw⟩ : ∃ w : Nat, x.f1 = (w : Int) := ⟨x.f1.toNat, by omega⟩
        have hfs := fieldSize_le x a h2.2
        have go : Ev (fun k => bits_ReadFields.j1 k s out (a : Int) (i : Int) ((fieldSize x a : Nat) : Int) l (l.length : Int) (i : Int) x.f0 x.f1 x.f2 x.f3) (readR s (x :: r) i a out) := by
          have g0 := read_j1 s hs01 hs l hl x h1 i hi a ha (fieldSize x a) hfs out (by omega) r (fun out' ho' hz' => ih (i + 1) (a + fieldSize x a) out' hr hz' (by omega))
          rw [readR, if_pos h1, if_pos h2]
          exact g0
        by_cases f2 : x.f0 = 2
        · simp only [if_pos f2]
          have e : fieldSize x a = 8 * w := by unfold fieldSize; rw [if_pos f2, hw, Int.toNat_natCast]
          have e3 : wrap64 (8 * x.f1) = ((fieldSize x a : Nat) : Int) := by rw [e, hw]; unfold wrap64; omega
          rw [e3]
          exact go
        · simp only [if_neg f2]
          by_cases f3 : x.f0 = 3
          · simp only [if_pos f3]
            have e : fieldSize x a = (8 - a % 8) % 8 := by unfold fieldSize; rw [if_neg f2, if_pos f3]
            rw [pad_and7 a (by omega), ← e]
            exact go
          · simp only [if_neg f3]
            have e : x.f1 = ((fieldSize x a : Nat) : Int) := by unfold fieldSize; rw [if_neg f2, if_neg f3, hw, Int.toNat_natCast]
            rw [← e] at go
            exact go
      · simp only [decide_eq_false h2, Bool.false_eq_true, if_false]
        rw [readR, if_pos h1, if_neg h2]
        exact Ev.now _
    · simp only [decide_eq_false h1, Bool.false_eq_true, if_false]
      rw [readR, if_neg h1]
      exact Ev.now _
def readB (s : ByteArray) (l : List S66) : List S66 × Int × Int := if bitsE s = 0 then (if (l.length : Int) > 1000 then ([], 0, 2) else readR s l 0 0 []) else ([], 0, bitsE s)
theorem readFields_eq (s : ByteArray) (l : List S66) : Ev (fun k => bits_ReadFields.f k s l) (readB s l) := by
  unfold bits_ReadFields.f readB
  simp only [check_eq, Option.bind_some]
  by_cases he : bitsE s = 0
  · obtain ⟨h01, hs⟩ := bitsE_zero he
    simp only [if_pos he]
    by_cases h : (l.length : Int) > 1000
    · simp only [if_pos h]; exact Ev.now _
    · simp only [if_neg h]
      exact readFields_loop s h01 hs l (by omega) l 0 0 [] rfl (by omega) rfl
  · simp only [if_neg he]; exact Ev.now _
theorem sameFields_loop (l : List S66) (hl : l.length ≤ 1000000) : ∀ (d i : Nat), i + d = l.length → Ev (fun k => examinerref08_SameFields.l0 k l l (i : Int)) true := by
  intro d
  induction d with
  | zero =>
    intro i hi
    refine ev_succ ?_
    simp only [examinerref08_SameFields.l0, if_neg (show ¬ (i : Int) < (l.length : Int) by omega)]
    exact Ev.now _
  | succ d ih =>
    intro i hi
    refine ev_succ ?_
    simp only [examinerref08_SameFields.l0, if_pos (show (i : Int) < (l.length : Int) by omega), if_pos (show 0 ≤ (i : Int) by omega), beq_self_eq_true, Bool.not_true, Bool.or_false, Bool.false_eq_true, if_false, wrap_succ (show i < l.length by omega) (show l.length ≤ 9223372036854775807 by omega)]
    exact ih (i + 1) (by omega)
theorem sameFields_self (l : List S66) (hl : l.length ≤ 1000000) : Ev (fun k => examinerref08_SameFields.f k l l) true := by
  unfold examinerref08_SameFields.f
  simp only [if_true]
  exact sameFields_loop l hl l.length 0 (by omega)
end Go.Proofs.YthicmbhldjebfaaDoor.PA
