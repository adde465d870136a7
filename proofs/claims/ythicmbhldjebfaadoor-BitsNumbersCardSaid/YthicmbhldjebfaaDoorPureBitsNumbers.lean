/- BitsNumbers: the plain law: numbers have the forms and widths of the printed reference. -/
import Derived.Test.YthicmbhldjebfaaDoorPAx19
import Derived.Test.YthicmbhldjebfaaDoorHP5
namespace Go.Proofs.YthicmbhldjebfaaDoor.Pure
open Go.RowKit Go.Proofs.YthicmbhldjebfaaDoor.PA Go.Proofs.YthicmbhldjebfaaDoorW.PrintWords Go.Proofs.YthicmbhldjebfaaDoorW.PrintLast
set_option linter.unusedVariables false
set_option linter.unusedSimpArgs false
theorem empty_list : (⟨#[]⟩ : ByteArray).toList = [] := by rw [ByteArray.toList_eq]
theorem at4 (n : Int) : Ev (fun k => examinerlaw08_BitsNumbers.j4 k n) true := by
  refine ev_succ ?_
  simp only [examinerlaw08_BitsNumbers.j4, within_eq, Option.bind_some]
  by_cases h : 0 ≤ n ∧ n ≤ 16383
  · obtain ⟨m, rfl⟩ := Int.eq_ofNat_of_zero_le h.1
    simp only [fragmentOf_eq m (by omega), Option.bind_some, decide_eq_true h, if_true]
    refine Ev.bind (ev_some 20 (fun k hk => ref_fragment_eq m (by omega) k hk)) ?_
    simp only [beq_self_eq_true]
    exact Ev.now _
  · simp only [fragmentOf_err n h, Option.bind_some, decide_eq_false h, Bool.false_eq_true, if_false, if_true, empty_list, beq_self_eq_true]
    exact Ev.now _
theorem at2 (n extra : Int) : Ev (fun k => examinerlaw08_BitsNumbers.j2 k n extra (decide (0 ≤ n ∧ n ≤ 1152921504606846976))) true := by
  have last := at4 n
  have good : ∀ (m e : Nat), n = (m : Int) → extra = (e : Int) → m ≤ 1152921504606846976 → e ≤ 3 → Ev (fun k => examinerlaw08_BitsNumbers.j3 k n extra (strOfNums (lenB m e)) 0 true) true := by
    intro m e hm he h1 h2
    refine ev_succ ?_
    simp only [examinerlaw08_BitsNumbers.j3, if_true]
    subst hm he
    refine Ev.bind (ev_some 40 (fun k hk => ref_length_eq m e h1 h2 k hk)) ?_
    simp only [if_true]
    exact last
  have bad : Ev (fun k => examinerlaw08_BitsNumbers.j3 k n extra (⟨#[]⟩ : ByteArray) 3 false) true := by
    refine ev_succ ?_
    simp only [examinerlaw08_BitsNumbers.j3, Bool.false_eq_true, if_false, if_true, empty_list]
    exact last
  refine ev_succ ?_
  simp only [examinerlaw08_BitsNumbers.j2, within_eq, Option.bind_some]
  by_cases h : numOk n ∧ (0 ≤ extra ∧ extra ≤ 3)
  · have h1 := h.1
    unfold numOk at h1
    obtain ⟨m, hm⟩ := Int.eq_ofNat_of_zero_le h1.1
    obtain ⟨e, he⟩ := Int.eq_ofNat_of_zero_le h.2.1
    refine Ev.bind (ev_some 10 (fun k hk => by rw [hm, he]; exact lengthOf_eq m e (by omega) (by omega) k hk)) ?_
    simp only [decide_eq_true h1, if_true, decide_eq_true h.2]
    exact good m e hm he (by omega) (by omega)
  · refine Ev.bind (ev_some 10 (fun k hk => lengthOf_err n extra h k hk)) ?_
    by_cases a : 0 ≤ n ∧ n ≤ 1152921504606846976
    · have b : ¬ (0 ≤ extra ∧ extra ≤ 3) := fun b => h ⟨a, b⟩
      simp only [decide_eq_true a, if_true, decide_eq_false b]
      exact bad
    · simp only [decide_eq_false a, Bool.false_eq_true, if_false]
      exact bad
theorem at1 (n extra : Int) : Ev (fun k => examinerlaw08_BitsNumbers.j1 k n extra (decide (0 ≤ n ∧ n ≤ 1152921504606846976))) true := by
  refine ev_succ ?_
  simp only [examinerlaw08_BitsNumbers.j1, within_eq, Option.bind_some]
  by_cases h : sigOk n
  · have h1 := h
    unfold sigOk at h1
    refine Ev.bind (ev_some 101 (fun k hk => signedOf_eq n h k (by omega))) ?_
    simp only [decide_eq_true h1, if_true]
    refine Ev.bind (ev_some 60 (fun k hk => ref_signed_eq n h k hk)) ?_
    simp only [if_true]
    exact at2 n extra
  · have h1 := h
    unfold sigOk at h1
    refine Ev.bind (ev_some 0 (fun k _ => signedOf_err n h k)) ?_
    simp only [decide_eq_false h1, Bool.false_eq_true, if_false, if_true, empty_list]
    exact at2 n extra
theorem at0 (n extra : Int) : Ev (fun k => examinerlaw08_BitsNumbers.j0 k n extra (decide (0 ≤ n ∧ n ≤ 1152921504606846976)) false) true := by
  have next := at1 n extra
  refine ev_succ ?_
  simp only [examinerlaw08_BitsNumbers.j0, Bool.false_eq_true, if_false]
  by_cases h : numOk n
  · have h1 := h
    unfold numOk at h1
    obtain ⟨m, rfl⟩ := Int.eq_ofNat_of_zero_le h1.1
    simp only [unsignedOf_eq m (by omega), Option.bind_some]
    refine Ev.bind (ev_some 30 (fun k hk => septetsOf_eq m (by omega) k hk)) ?_
    rw [decide_eq_true h1] at next ⊢
    simp only [if_true]
    refine Ev.bind (ev_some 20 (fun k hk => ref_unsigned_eq m (by omega) k hk)) ?_
    simp only [if_true]
    refine Ev.bind (ev_some 20 (fun k hk => ref_septets_eq m (by omega) k hk)) ?_
    simp only [sepB, if_true]
    exact next
  · have h1 := h
    unfold numOk at h1
    simp only [unsignedOf_err n h, Option.bind_some]
    refine Ev.bind (ev_some 0 (fun k _ => septetsOf_err n h k)) ?_
    rw [decide_eq_false h1] at next ⊢
    simp only [Bool.false_eq_true, if_false, empty_list, if_true]
    exact next
theorem BitsNumbers : examinerlaw08_BitsNumbers.Pure := by
  intro n extra hn he
  refine Ev.rounds ?_
  unfold examinerlaw08_BitsNumbers.f
  refine Ev.bind awake_eq ?_
  simp only [if_true, within_eq, Option.bind_some]
  by_cases h : 1 ≤ n ∧ n ≤ 1152921504606846976
  · obtain ⟨m, rfl⟩ := Int.eq_ofNat_of_zero_le (show 0 ≤ n by omega)
    have e : wrap64 ((m : Int) - 1) = ((m - 1 : Nat) : Int) := by unfold wrap64; omega
    simp only [widthOf_eq m (by omega) (by omega), Option.bind_some, decide_eq_true h, beq_self_eq_true, bne_self_eq_false, Bool.false_eq_true, if_false, if_true, e]
    refine Ev.bind (ev_some 70 (fun k hk => width_eq (m - 1) (by omega) k hk)) ?_
    simp only [bne_self_eq_false]
    exact at0 (m : Int) extra
  · have e3 : (false != ((3 : Int) == 0)) = false := by decide
    simp only [widthOf_err n h, Option.bind_some, decide_eq_false h, e3, Bool.false_eq_true, if_false, if_true, if_neg (show ¬ (3 : Int) = 0 by decide)]
    exact at0 n extra
end Go.Proofs.YthicmbhldjebfaaDoor.Pure
