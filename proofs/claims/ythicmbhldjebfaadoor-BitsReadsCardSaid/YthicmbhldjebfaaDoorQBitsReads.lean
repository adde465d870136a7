/- BitsReads: the plain law: fields are read as by the printed reference. -/
import Derived.Test.YthicmbhldjebfaaDoorSBitsReads
import Derived.Test.YthicmbhldjebfaaDoorHP4
namespace Go.Proofs.YthicmbhldjebfaaDoor.PA
open Go Go.RowKit Go.Proofs.YthicmbhldjebfaaDoorW.PrintWords Go.Proofs.YthicmbhldjebfaaDoorW.PrintLast Go.Proofs.YthicmbhldjebfaaDoorW.PrintMore
theorem pure_bitsReads : PureBitsReads := by
  intro s l hs hl
  refine Ev.rounds (g := fun k => examinerlaw08_BitsReads.f k s l) ?_
  unfold examinerlaw08_BitsReads.f
  refine Ev.bind awake_eq ?_
  simp only [if_true]
  refine Ev.bind (few_eq l) ?_
  have out : Ev (fun k => examinerlaw08_BitsReads.j0 k s l true) true := by
    refine ev_succ ?_
    simp only [examinerlaw08_BitsReads.j0, if_true]
    exact Ev.now _
  cases hf : fewB l with
  | false => simp only [Bool.false_eq_true, if_false]; exact out
  | true =>
    obtain ⟨hn, hz⟩ := fewB_ok l hf
    simp only [if_true]
    by_cases c : (s.size : Int) > 1500
    · simp only [decide_eq_true c]; exact out
    · simp only [decide_eq_false c]
      refine ev_succ ?_
      simp only [examinerlaw08_BitsReads.j0, Bool.false_eq_true, if_false, own_fields l hn, Option.bind_some]
      refine Ev.bind (readFields_eq s l) ?_
      refine Ev.bind (ref_read_eq s l) ?_
      have hlen : (readB s l).1.length ≤ 1000000 := by
        unfold readB
        split
        · split
          · simp
          · have := readR_len s l 0 0 []
            simp at this
            omega
        · simp
      have herr : ¬ (readB s l).2.2 = 0 → (readB s l).1 = [] := by
        unfold readB
        intro h
        split
        · rename_i c1
          rw [if_pos c1] at h
          split
          · rfl
          · rename_i c2
            rw [if_neg c2] at h
            exact readR_err s l 0 0 [] h
        · rfl
      generalize readB s l = R at *
      by_cases h : R.2.2 = 0
      · simp only [if_pos h, if_true]
        refine Ev.bind (sameFields_self R.1 hlen) ?_
        exact Ev.now _
      · simp only [if_neg h, if_true, herr h]
        exact Ev.now _
end Go.Proofs.YthicmbhldjebfaaDoor.PA
