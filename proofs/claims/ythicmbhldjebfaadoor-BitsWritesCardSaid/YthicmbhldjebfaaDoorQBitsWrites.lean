/- BitsWrites: the plain law: fields are accepted and written as by the printed reference. -/
import Derived.Test.YthicmbhldjebfaaDoorSBitsWrites
import Derived.Test.YthicmbhldjebfaaDoorHP3
namespace Go.Proofs.YthicmbhldjebfaaDoor.PA
open Go Go.RowKit Go.Proofs.YthicmbhldjebfaaDoorW.PrintWords Go.Proofs.YthicmbhldjebfaaDoorW.PrintLast Go.Proofs.YthicmbhldjebfaaDoorW.PrintMore
theorem none_list : (⟨#[]⟩ : ByteArray).toList = [] := by rw [ByteArray.toList_eq]
theorem pure_bitsWrites : PureBitsWrites := by
  rintro l ⟨hl, _⟩
  refine Ev.rounds (g := fun k => examinerlaw08_BitsWrites.f k l) ?_
  unfold examinerlaw08_BitsWrites.f
  refine Ev.bind awake_eq ?_
  simp only [if_true]
  refine Ev.bind (few_eq l) ?_
  cases hf : fewB l with
  | false => simp only [Bool.false_eq_true, if_false]; exact Ev.now _
  | true =>
    obtain ⟨hn, hz⟩ := fewB_ok l hf
    simp only [if_true, own_fields l hn, Option.bind_some]
    refine Ev.bind (checkFields_eq l hz) ?_
    refine Ev.bind (ref_fieldsErr_eq l hz) ?_
    by_cases h : (fieldsE l).2 = 0
    · refine Ev.bind (writeFields_ok l hz h) ?_
      simp only [if_true, bne_self_eq_false]
      refine ev_succ ?_
      simp only [examinerlaw08_BitsWrites.j0, Bool.false_eq_true, if_false, if_pos h]
      refine Ev.bind (ref_write_ok l h) ?_
      rw [str_size]
      unfold writeR
      by_cases c : (writeAll [] l).length > 32000
      · simp only [if_pos c, if_pos (show ((writeAll [] l).length : Int) > 32000 by omega), if_true, none_list, beq_self_eq_true]
        exact Ev.now _
      · simp only [if_neg c, if_neg (show ¬ ((writeAll [] l).length : Int) > 32000 by omega), if_true, beq_self_eq_true]
        exact Ev.now _
    · refine Ev.bind (writeFields_err l hz h) ?_
      simp only [if_true, bne_self_eq_false]
      refine ev_succ ?_
      simp only [examinerlaw08_BitsWrites.j0, Bool.false_eq_true, if_false, if_neg h, if_true, none_list, beq_self_eq_true]
      exact Ev.now _
end Go.Proofs.YthicmbhldjebfaaDoor.PA
