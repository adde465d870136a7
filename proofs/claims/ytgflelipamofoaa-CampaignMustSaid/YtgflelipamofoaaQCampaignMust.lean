/- CampaignMust: the plain law: the printed program and the printed reference name the same tests, or the same error. -/
import Derived.Test.YtgflelipamofoaaSCampaignMust
import Derived.Test.YtgflelipamofoaaHP3
namespace Go.Proofs.Ytgflelipamofoaa.PA
open Go Go.RowKit Go.Proofs.YtgflelipamofoaaW.PrintWords Go.Proofs.YtgflelipamofoaaW.PrintLast Go.Proofs.YtgflelipamofoaaW.PrintMore
set_option linter.unusedVariables false
theorem must_j2 (l : List S61) (ts : List S38) (hl : l.length ≤ maxLen) (ht : ts.length ≤ 70) (h70 : l.length ≤ 70) :
    Ev (fun k => (examinerref43_Err.f k l).bind fun t208 => (if t208 = 0 then ((examinerref43_TestsErr.f k ts).bind fun t209 => (examinerlaw43_CampaignMust.j2 k (mustRun l ts).1 (mustRun l ts).2 t209 l ts)) else (examinerlaw43_CampaignMust.j2 k (mustRun l ts).1 (mustRun l ts).2 t208 l ts))) true := by
  refine Ev.bind (ev_some 90 (fun k hk => ref_err_eq k hk l)) ?_
  by_cases hc : (checkB l).2 = 0
  · obtain ⟨h60, hok⟩ := check_ok hc
    simp only [if_pos hc]
    refine Ev.bind (terr_eq ts) ?_
    refine ev_succ ?_
    simp only [examinerlaw43_CampaignMust.j2]
    unfold mustRun tErrB
    simp only [if_pos hc]
    by_cases h : ts.length ≤ 60
    · simp only [if_pos h, if_neg (show ¬ (ts.length : Int) > 60 by omega)]
      by_cases e : tErr [] ts = 0
      · simp only [if_pos e, if_true]
        refine Ev.bind (ref_must_eq l ts h60 h) ?_
        refine Ev.bind (same_texts _ (by have := mustOf_length l ts; omega)) ?_
        exact Ev.now _
      · simp only [if_neg e, if_true]
        exact Ev.now _
    · simp only [if_neg h, if_pos (show (ts.length : Int) > 60 by omega), if_true]
      exact Ev.now _
  · simp only [if_neg hc]
    refine ev_succ ?_
    simp only [examinerlaw43_CampaignMust.j2, if_neg hc]
    unfold mustRun
    simp only [if_neg hc, if_true]
    exact Ev.now _
theorem must_loop (l : List S61) (ts : List S38) (hl : l.length ≤ maxLen) (ht : ts.length ≤ 70) (h70 : l.length ≤ 70) : ∀ (d i : Nat), i + d = ts.length → Ev (fun k => examinerlaw43_CampaignMust.l0 k i l ts) true := by
  intro d
  induction d with
  | zero =>
    intro i hi
    refine ev_succ ?_
    simp only [examinerlaw43_CampaignMust.l0, if_neg (show ¬ (i : Int) < (ts.length : Int) by omega), own_eq l h70, Option.bind_some, List.length_nil, List.nil_append, if_pos (show 0 + ts.length < 5864062014805 by omega)]
    exact must_j2 l ts hl ht h70
  | succ d ih =>
    intro i hi
    refine ev_succ ?_
    simp only [examinerlaw43_CampaignMust.l0, if_pos (show (i : Int) < (ts.length : Int) by omega), if_pos (show 0 ≤ (i : Int) by omega)]
    by_cases h : ((rd_T38 ts (i : Int)).f0.size : Int) > 100
    · simp only [if_pos h]
      exact Ev.now _
    · simp only [if_neg h, wrap_succ (show i < ts.length by omega) (show ts.length ≤ 9223372036854775807 by omega)]
      exact ih (i + 1) (by omega)
theorem pure_campaignMust : PureCampaignMust := by
  rintro l ts ⟨hl, _⟩ _
  refine Ev.rounds ?_
  unfold examinerlaw43_CampaignMust.f
  rw [awake_eq]
  simp only [Option.bind_some, if_true]
  obtain ⟨b, hb, hb70⟩ := few_eq l hl 200 (by omega)
  refine Ev.bind (a := b) (ev_some 200 (fun k hk => at_rounds (fun k => examinerlaw43_few.mono l k) hk hb)) ?_
  cases b with
  | false =>
    simp only [Bool.false_eq_true, if_false]
    refine ev_succ ?_
    simp only [examinerlaw43_CampaignMust.j0, if_true]
    exact Ev.now _
  | true =>
    have h70 := hb70 rfl
    simp only [if_true]
    refine ev_succ ?_
    simp only [examinerlaw43_CampaignMust.j0]
    by_cases h : (ts.length : Int) > 70
    · simp only [decide_eq_true h, if_true]
      exact Ev.now _
    · simp only [decide_eq_false h, Bool.false_eq_true, if_false]
      have := must_loop l ts hl (by omega) h70 ts.length 0 (by omega)
      exact this
end Go.Proofs.Ytgflelipamofoaa.PA
