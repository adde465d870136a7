/- BitsBack: the plain law: fields, numbers, septets, lengths and fragments that are written are read again. -/
import Derived.Test.YthicmbhldjebfaaDoorSBitsBack
import Derived.Test.YthicmbhldjebfaaDoorHP7
namespace Go.Proofs.YthicmbhldjebfaaDoor.PA
open Go Go.RowKit Go.Proofs.YthicmbhldjebfaaDoorW.PrintWords Go.Proofs.YthicmbhldjebfaaDoorW.PrintLast Go.Proofs.YthicmbhldjebfaaDoorW.PrintMore
set_option linter.unusedVariables false
set_option linter.unusedSimpArgs false
theorem back_last (n : Int) (A : ByteArray) (i : Nat) (hi : i = 4) : Ev (fun k => examinerlaw08_BitsBack.l0 k n A (i : Int)) true := by
  subst hi
  refine ev_succ ?_
  simp only [examinerlaw08_BitsBack.l0, if_neg (show ¬ ((4 : Nat) : Int) ≤ 3 by decide)]
  by_cases h : 0 ≤ n ∧ n ≤ 16383
  · obtain ⟨m, rfl⟩ := Int.eq_ofNat_of_zero_le h.1
    simp only [fragmentOf_eq m (by omega), Option.bind_some, bits_FragmentIn.f, fragment_back m (by omega), if_true, str_size, beq_self_eq_true]
    exact Ev.now _
  · simp only [fragmentOf_err n h, Option.bind_some, bits_FragmentIn.f, if_neg (show ¬ (3 : Int) = 0 by decide)]
    exact Ev.now _
theorem back_lengths (n : Int) (A : ByteArray) (hA : A.size ≤ 50) : ∀ (d i : Nat), i + d = 4 → Ev (fun k => examinerlaw08_BitsBack.l0 k n A (i : Int)) true := by
  intro d
  induction d with
  | zero => intro i hi; exact back_last n A i (by omega)
  | succ d ih =>
    intro i hi
    have next : Ev (fun k => examinerlaw08_BitsBack.l0 k n A (wrap64 ((i : Int) + 1))) true := by
      rw [show wrap64 ((i : Int) + 1) = ((i + 1 : Nat) : Int) by unfold wrap64; omega]
      exact ih (i + 1) (by omega)
    refine ev_succ ?_
    simp only [examinerlaw08_BitsBack.l0, if_pos (show (i : Int) ≤ 3 by omega)]
    by_cases h : numOk n ∧ (0 ≤ (i : Int) ∧ (i : Int) ≤ 3)
    · have h1 := h.1
      unfold numOk at h1
      obtain ⟨m, rfl⟩ := Int.eq_ofNat_of_zero_le h1.1
      refine Ev.bind (ev_some 10 (fun k hk => lengthOf_eq m i (by omega) (by omega) k hk)) ?_
      have hl : (lenB m i).length ≤ 20 := by
        have := leD_length 256 m
        unfold lenB
        split
        · simp
        · simp only [List.length_cons, List.length_append, List.length_replicate, List.length_reverse]
          split <;> omega
      simp only [if_true, str_size, ByteArray.size_append, if_pos (show A.size + (lenB m i).length ≤ 9223372036854775807 by omega), if_pos (show A.size + (lenB m i).length + A.size ≤ 9223372036854775807 by omega)]
      refine Ev.bind (lengthIn_eq _ _) ?_
      rw [length_back m i (by omega) (by omega) A hA]
      have e : wrap64 ((A.size : Int) + ((lenB m i).length : Int)) = ((A.size + (lenB m i).length : Nat) : Int) := by unfold wrap64; omega
      simp only [if_true, e]
      exact next
    · refine Ev.bind (ev_some 10 (fun k hk => lengthOf_err n i h k hk)) ?_
      simp only [if_neg (show ¬ (3 : Int) = 0 by decide)]
      exact next
theorem back_septets (n : Int) (A : ByteArray) (hA : A.size ≤ 50) : Ev (fun k => examinerlaw08_BitsBack.j4 k n A) true := by
  have next : Ev (fun k => examinerlaw08_BitsBack.j5 k n A) true := by
    refine ev_succ ?_
    simp only [examinerlaw08_BitsBack.j5]
    exact back_lengths n A hA 4 0 rfl
  refine ev_succ ?_
  simp only [examinerlaw08_BitsBack.j4]
  by_cases h : numOk n
  · have h1 := h
    unfold numOk at h1
    obtain ⟨m, rfl⟩ := Int.eq_ofNat_of_zero_le h1.1
    refine Ev.bind (ev_some 30 (fun k hk => septetsOf_eq m (by omega) k hk)) ?_
    have hl : (sepB m).length ≤ 20 := by
      have := leD_length 128 m
      rw [sepB_length, List.length_reverse]
      omega
    have e : wrap64 ((A.size : Int) + ((sepB m).length : Int)) = ((A.size + (sepB m).length : Nat) : Int) := by unfold wrap64; omega
    simp only [if_true, str_size, ByteArray.size_append, if_pos (show A.size + (sepB m).length ≤ 9223372036854775807 by omega), if_pos (show A.size + (sepB m).length + A.size ≤ 9223372036854775807 by omega), bits_SeptetsIn.f, septets_back m (by omega) A hA, Option.bind_some, e]
    exact next
  · refine Ev.bind (ev_some 0 (fun k _ => septetsOf_err n h k)) ?_
    simp only [if_neg (show ¬ (3 : Int) = 0 by decide)]
    exact next
theorem back_numbers (n : Int) (A : ByteArray) (hA : A.size ≤ 50) : Ev (fun k => examinerlaw08_BitsBack.j2 k n A) true := by
  have next : Ev (fun k => examinerlaw08_BitsBack.j3 k n A) true := by
    refine ev_succ ?_
    simp only [examinerlaw08_BitsBack.j3]
    by_cases h : numOk n
    · have h1 := h
      unfold numOk at h1
      obtain ⟨m, rfl⟩ := Int.eq_ofNat_of_zero_le h1.1
      simp only [unsignedOf_eq m (by omega), Option.bind_some, if_true]
      refine Ev.bind (unsignedIn_eq _) ?_
      simp only [unsigned_back m (by omega), if_true]
      exact back_septets (m : Int) A hA
    · simp only [unsignedOf_err n h, Option.bind_some, if_neg (show ¬ (3 : Int) = 0 by decide)]
      exact back_septets n A hA
  refine ev_succ ?_
  simp only [examinerlaw08_BitsBack.j2]
  by_cases h : sigOk n
  · refine Ev.bind (ev_some 101 (fun k hk => signedOf_eq n h k (by omega))) ?_
    simp only [if_true]
    refine Ev.bind (signedIn_eq _) ?_
    simp only [signed_back n h, if_true]
    exact next
  · refine Ev.bind (ev_some 0 (fun k _ => signedOf_err n h k)) ?_
    simp only [if_neg (show ¬ (3 : Int) = 0 by decide)]
    exact next
theorem pure_bitsBack : PureBitsBack := by
  rintro l n A ⟨hl, _⟩ hn hA
  refine Ev.rounds (g := fun k => examinerlaw08_BitsBack.f k l n A) ?_
  unfold examinerlaw08_BitsBack.f
  refine Ev.bind awake_eq ?_
  simp only [if_true]
  refine Ev.bind (few_eq l) ?_
  have out : Ev (fun k => examinerlaw08_BitsBack.j0 k l n A true) true := by
    refine ev_succ ?_
    simp only [examinerlaw08_BitsBack.j0, if_true]
    exact Ev.now _
  cases hf : fewB l with
  | false => simp only [Bool.false_eq_true, if_false]; exact out
  | true =>
    obtain ⟨hn5, hz⟩ := fewB_ok l hf
    simp only [if_true]
    by_cases c : (A.size : Int) > 50
    · simp only [decide_eq_true c]; exact out
    · have hA50 : A.size ≤ 50 := by omega
      have next := back_numbers n A hA50
      have skip : ∀ s : ByteArray, Ev (fun k => examinerlaw08_BitsBack.j1 k l n A s false) true := by
        intro s
        refine ev_succ ?_
        simp only [examinerlaw08_BitsBack.j1, Bool.false_eq_true, if_false]
        exact next
      simp only [decide_eq_false c]
      refine ev_succ ?_
      simp only [examinerlaw08_BitsBack.j0, Bool.false_eq_true, if_false, own_fields l hn5, Option.bind_some]
      by_cases h : (fieldsE l).2 = 0
      · refine Ev.bind (writeFields_ok l hz h) ?_
        unfold writeR
        by_cases g : (writeAll [] l).length > 32000
        · simp only [if_pos g, if_neg (show ¬ (2 : Int) = 0 by decide)]
          exact skip _
        · simp only [if_neg g, if_true, str_size]
          have e8 : wrap64 (((writeAll [] l).length : Int) + wrap64 (8 * (A.size : Int))) = ((writeAll [] l).length : Int) + 8 * (A.size : Int) := by
            rw [show wrap64 (8 * (A.size : Int)) = 8 * (A.size : Int) by unfold wrap64; omega]
            unfold wrap64
            omega
          rw [e8]
          by_cases q : ((writeAll [] l).length : Int) + 8 * (A.size : Int) ≤ 32000
          · rw [decide_eq_true q]
            refine ev_succ ?_
            have hu : bits_UnpackBits.f A = some (strOfNums (upk (bytesOf A)), 0) := by
              unfold bits_UnpackBits.f
              have e : octsE A = 0 := by unfold octsE; rw [if_neg (by omega)]
              simp only [octetsErr_eq, Option.bind_some, e, if_true, unpack_eq A (by omega)]
            have hul : (upk (bytesOf A)).length = 8 * A.size := by rw [upk_length, bytesOf_length]
            simp only [examinerlaw08_BitsBack.j1, if_true, hu, Option.bind_some, str_size, hul, own_fields l hn5, if_pos (show (writeAll [] l).length + 8 * A.size ≤ 9223372036854775807 by omega)]
            refine Ev.bind (readFields_eq _ _) ?_
            rw [fields_back l h A (by omega)]
            simp only [if_true]
            refine Ev.bind (sameFields_self l (by omega)) ?_
            simp only [if_true]
            exact next
          · rw [decide_eq_false q]
            exact skip _
      · refine Ev.bind (writeFields_err l hz h) ?_
        simp only [if_neg h]
        exact skip _
end Go.Proofs.YthicmbhldjebfaaDoor.PA
