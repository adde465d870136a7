/- CampaignEntries: the plain law. -/
import Derived.Test.YtgflelipamofoaaSCampaignEntries
import Derived.Test.YtgflelipamofoaaHP4
namespace Go.Proofs.Ytgflelipamofoaa.PA
open Go Go.RowKit Go.Proofs.YtgflelipamofoaaW.PrintWords Go.Proofs.YtgflelipamofoaaW.PrintLast Go.Proofs.YtgflelipamofoaaW.PrintMore
set_option linter.unusedVariables false
theorem pure_campaignEntries : PureCampaignEntries := by
  rintro l s ⟨hl, _⟩ hs
  refine Ev.rounds ?_
  unfold examinerlaw43_CampaignEntries.f
  rw [awake_eq]
  simp only [Option.bind_some, if_true]
  obtain ⟨b, hb, hb70⟩ := few_eq l hl 200 (by omega)
  refine Ev.bind (a := b) (ev_some 200 (fun k hk => at_rounds (fun k => examinerlaw43_few.mono l k) hk hb)) ?_
  cases b with
  | false =>
    simp only [Bool.false_eq_true, if_false]
    refine ev_succ ?_
    simp only [examinerlaw43_CampaignEntries.j0, if_true]
    exact Ev.now _
  | true =>
    have h70 := hb70 rfl
    simp only [if_true]
    refine ev_succ ?_
    simp only [examinerlaw43_CampaignEntries.j0]
    by_cases h : (s.size : Int) > 100
    · simp only [decide_eq_true h, if_true]
      exact Ev.now _
    · simp only [decide_eq_false h, Bool.false_eq_true, if_false, own_eq l h70, Option.bind_some]
      refine Ev.bind (ev_some 63 (fun k hk => check_eq k hk l)) ?_
      refine Ev.bind (historyOf_eq l s) ?_
      unfold campaign_Compacted.f
      simp only [Option.bind_some]
      refine Ev.bind (ev_some 90 (fun k hk => ref_check_eq k hk l)) ?_
      simp only [if_true, bne_self_eq_false]
      refine ev_succ ?_
      simp only [examinerlaw43_CampaignEntries.j1, Bool.false_eq_true, if_false]
      unfold compB histB
      by_cases hc : (checkB l).2 = 0
      · obtain ⟨h60, hok⟩ := check_ok hc
        simp only [if_pos hc, if_true]
        refine Ev.bind (ref_comp_eq l h60) ?_
        refine Ev.bind (same_entries (compF l) (by have := compF_length l; omega)) ?_
        refine ev_succ ?_
        simp only [examinerlaw43_CampaignEntries.j2, Bool.not_true, Bool.false_eq_true, if_false]
        refine Ev.bind (ev_some 24 (fun k hk => test_eq s k hk)) ?_
        by_cases hn : nameB s = true
        · simp only [if_pos hn, if_true]
          refine Ev.bind (ref_history_eq l s h60) ?_
          refine Ev.bind (same_ints (hist l s) (by have := hist_length l s; omega)) ?_
          exact Ev.now _
        · simp only [if_neg hn, if_true]
          exact Ev.now _
      · simp only [if_neg hc, if_true]
        exact Ev.now _
end Go.Proofs.Ytgflelipamofoaa.PA
