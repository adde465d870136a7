/- BitsPacks: the plain law: bit strings are accepted, packed and unpacked as by the printed reference, and back. -/
import Derived.Test.YthicmbhldjebfaaDoorPAx10
import Derived.Test.YthicmbhldjebfaaDoorHP2
namespace Go.Proofs.YthicmbhldjebfaaDoor.Pure
open Go.RowKit Go.Proofs.YthicmbhldjebfaaDoor.PA Go.Proofs.YthicmbhldjebfaaDoorW.PrintWords Go.Proofs.YthicmbhldjebfaaDoorW.PrintLast
set_option linter.unusedVariables false
set_option linter.unusedSimpArgs false
theorem empty_list : (⟨#[]⟩ : ByteArray).toList = [] := by rw [ByteArray.toList_eq]
theorem last_part (o : ByteArray) (ho : o.size ≤ 200 ∨ 4000 < o.size) : Ev (fun k => examinerlaw08_BitsPacks.j1 k o false) true := by
  refine ev_succ ?_
  simp only [examinerlaw08_BitsPacks.j1, Bool.false_eq_true, if_false, bits_UnpackBits.f, octetsErr_eq, ref_octetsErr_eq, Option.bind_some]
  by_cases h : (o.size : Int) > 4000
  · have e : octsE o = 2 := by unfold octsE; rw [if_pos h]
    simp only [e, if_neg (show ¬ (2 : Int) = 0 by decide), Option.bind_some, if_true, empty_list]
    exact Ev.now _
  · have e : octsE o = 0 := by unfold octsE; rw [if_neg h]
    have hsz : o.size ≤ 200 := by omega
    simp only [e, if_true, unpack_eq o (by omega), ref_unpack_eq o (by omega), Option.bind_some]
    refine Ev.bind (packBits_ok _ (str_all01 _ (upk_is _)) (by rw [str_size, upk_length, bytesOf_length]; omega)) ?_
    simp only [if_true, octs_back, beq_self_eq_true]
    exact Ev.now _
theorem BitsPacks : examinerlaw08_BitsPacks.Pure := by
  intro s o hs ho
  refine Ev.rounds ?_
  unfold examinerlaw08_BitsPacks.f
  refine Ev.bind awake_eq ?_
  simp only [if_true]
  have out : Ev (fun k => examinerlaw08_BitsPacks.j0 k s o true) true := by
    refine ev_succ ?_
    simp only [examinerlaw08_BitsPacks.j0, if_true]
    exact Ev.now _
  have inn : o.size ≤ 200 ∨ 4000 < o.size → Ev (fun k => examinerlaw08_BitsPacks.j0 k s o false) true := by
    intro hz
    have hl := last_part o hz
    refine ev_succ ?_
    simp only [examinerlaw08_BitsPacks.j0, Bool.false_eq_true, if_false, check_eq, Option.bind_some]
    rcases bitsE_cases s with ⟨he, h01, h32⟩ | he
    · refine Ev.bind (packBits_ok s h01 h32) ?_
      refine Ev.bind (ref_bitsErr s) ?_
      simp only [he, if_true]
      refine Ev.bind (ref_pack_eq s h01 h32) ?_
      simp only [bne_self_eq_false]
      exact hl
    · refine Ev.bind (packBits_err s he) ?_
      refine Ev.bind (ref_bitsErr s) ?_
      simp only [if_true, if_neg he, empty_list]
      exact hl
  have mid : Ev (fun k => if (o.size : Int) > 200 then (if (o.size : Int) ≤ 4000 then (examinerlaw08_BitsPacks.j0 k s o true) else (examinerlaw08_BitsPacks.j0 k s o (decide ((o.size : Int) > 4010)))) else (examinerlaw08_BitsPacks.j0 k s o (decide ((o.size : Int) > 4010)))) true := by
    by_cases c1 : (o.size : Int) > 200
    · simp only [if_pos c1]
      by_cases c2 : (o.size : Int) ≤ 4000
      · simp only [if_pos c2]; exact out
      · simp only [if_neg c2]
        by_cases c3 : (o.size : Int) > 4010
        · simp only [decide_eq_true c3]; exact out
        · simp only [decide_eq_false c3]; exact inn (by omega)
    · simp only [if_neg c1]
      by_cases c3 : (o.size : Int) > 4010
      · simp only [decide_eq_true c3]; exact out
      · simp only [decide_eq_false c3]; exact inn (by omega)
  by_cases c1 : (s.size : Int) > 1000
  · simp only [if_pos c1]
    by_cases c2 : (s.size : Int) ≤ 32000
    · simp only [if_pos c2]; exact out
    · simp only [if_neg c2]
      by_cases c3 : (s.size : Int) > 32010
      · simp only [if_pos c3]; exact out
      · simp only [if_neg c3]; exact mid
  · simp only [if_neg c1]
    by_cases c3 : (s.size : Int) > 32010
    · simp only [if_pos c3]; exact out
    · simp only [if_neg c3]; exact mid
end Go.Proofs.YthicmbhldjebfaaDoor.Pure
