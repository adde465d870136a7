/- BitsFragments: the plain law: the printed program and the printed reference tell the same number, index and error. -/
import Derived.Test.YthicmbhldjebfaaDoorPAx15
import Derived.Test.YthicmbhldjebfaaDoorHR
namespace Go.Proofs.YthicmbhldjebfaaDoor.Pure
open Go.RowKit Go.Proofs.YthicmbhldjebfaaDoor.PA Go.Proofs.YthicmbhldjebfaaDoorW.PrintWords Go.Proofs.YthicmbhldjebfaaDoorW.PrintLast
set_option linter.unusedVariables false
set_option linter.unusedSimpArgs false
theorem BitsFragments : examinerlaw08_BitsFragments.Pure := by
  intro s a hs ha
  refine Ev.rounds ?_
  unfold examinerlaw08_BitsFragments.f
  refine Ev.bind awake_eq ?_
  simp only [if_true]
  have out : Ev (fun k => examinerlaw08_BitsFragments.j0 k s a true) true := by
    refine ev_succ ?_
    simp only [examinerlaw08_BitsFragments.j0, if_true]
    exact Ev.now _
  have inn : Ev (fun k => examinerlaw08_BitsFragments.j0 k s a false) true := by
    refine ev_succ ?_
    simp only [examinerlaw08_BitsFragments.j0, Bool.false_eq_true, if_false]
    simp only [bits_FragmentIn.f, examinerref08_FragmentAt.f, Option.bind_some, examinerlaw08_answers.f, if_true, beq_self_eq_true]
    exact Ev.now _
  by_cases c1 : (s.size : Int) > 500
  · simp only [if_pos c1]
    by_cases c2 : (s.size : Int) ≤ 32000
    · simp only [if_pos c2]; exact out
    · simp only [if_neg c2]
      by_cases c3 : (s.size : Int) > 32010
      · simp only [decide_eq_true c3]; exact out
      · simp only [decide_eq_false c3]; exact inn
  · simp only [if_neg c1]
    by_cases c3 : (s.size : Int) > 32010
    · simp only [decide_eq_true c3]; exact out
    · simp only [decide_eq_false c3]; exact inn
end Go.Proofs.YthicmbhldjebfaaDoor.Pure
