/- BitsForms: the plain law: numbers, septets and lengths are read as by the printed reference. -/
import Derived.Test.YthicmbhldjebfaaDoorPAx24
import Derived.Test.YthicmbhldjebfaaDoorHP6
namespace Go.Proofs.YthicmbhldjebfaaDoor.Pure
open Go.RowKit Go.Proofs.YthicmbhldjebfaaDoor.PA Go.Proofs.YthicmbhldjebfaaDoorW.PrintWords Go.Proofs.YthicmbhldjebfaaDoorW.PrintLast
set_option linter.unusedVariables false
set_option linter.unusedSimpArgs false
theorem BitsForms : examinerlaw08_BitsForms.Pure := by
  intro s a hs ha
  refine Ev.rounds ?_
  unfold examinerlaw08_BitsForms.f
  refine Ev.bind awake_eq ?_
  simp only [if_true]
  have out : Ev (fun k => examinerlaw08_BitsForms.j0 k s a true) true := by
    refine ev_succ ?_
    simp only [examinerlaw08_BitsForms.j0, if_true]
    exact Ev.now _
  have inn : Ev (fun k => examinerlaw08_BitsForms.j0 k s a false) true := by
    refine ev_succ ?_
    simp only [examinerlaw08_BitsForms.j0, Bool.false_eq_true, if_false]
    refine Ev.bind (unsignedIn_eq s) ?_
    refine Ev.bind (read64_uns s) ?_
    simp only [if_true, bne_self_eq_false]
    refine ev_succ ?_
    simp only [examinerlaw08_BitsForms.j1, Bool.false_eq_true, if_false]
    refine Ev.bind (signedIn_eq s) ?_
    refine Ev.bind (read64_sig s) ?_
    simp only [if_true, bne_self_eq_false]
    refine ev_succ ?_
    simp only [examinerlaw08_BitsForms.j2, Bool.false_eq_true, if_false, bits_SeptetsIn.f, Option.bind_some]
    refine Ev.bind (septetsAt_eq s a) ?_
    simp only [examinerlaw08_answers.f, if_true, beq_self_eq_true, Option.bind_some]
    refine Ev.bind (lengthIn_eq s a) ?_
    refine Ev.bind (lengthAt_eq s a) ?_
    simp only [if_true, beq_self_eq_true, Option.bind_some]
    exact Ev.now _
  by_cases c1 : (s.size : Int) > 300
  · simp only [if_pos c1]
    by_cases c2 : (s.size : Int) ≤ 4000
    · simp only [if_pos c2]; exact out
    · simp only [if_neg c2]
      by_cases c3 : (s.size : Int) > 4010
      · simp only [decide_eq_true c3]; exact out
      · simp only [decide_eq_false c3]; exact inn
  · simp only [if_neg c1]
    by_cases c3 : (s.size : Int) > 4010
    · simp only [decide_eq_true c3]; exact out
    · simp only [decide_eq_false c3]; exact inn
end Go.Proofs.YthicmbhldjebfaaDoor.Pure
