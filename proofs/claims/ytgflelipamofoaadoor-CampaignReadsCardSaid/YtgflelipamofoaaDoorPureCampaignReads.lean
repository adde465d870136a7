/- CampaignReads: the plain law: the entries of a journal, its end and the blocks that make it clean are the printed reference's. -/
import Derived.Test.YtgflelipamofoaaDoorPAx9
import Derived.Test.YtgflelipamofoaaDoorHP3
namespace Go.Proofs.YtgflelipamofoaaDoor.Pure
open Go.RowKit Go.Proofs.YtgflelipamofoaaDoor.PA Go.Proofs.YtgflelipamofoaaDoorW.PrintWords Go.Proofs.YtgflelipamofoaaDoorW.PrintLast
set_option linter.unusedVariables false
set_option linter.unusedSimpArgs false
theorem CampaignReads : examinerlaw43_CampaignReads.Pure := by
  intro s hs
  refine Ev.rounds ?_
  unfold examinerlaw43_CampaignReads.f
  refine Ev.bind (ev_some 0 fun _ _ => awake_eq) ?_
  simp only [if_true]
  by_cases h2000 : (s.size : Int) > 2000
  · simp only [if_pos h2000]
    exact Ev.now _
  · simp only [if_neg h2000, campaign_EntriesIn.f, campaign_Recovered.f, jerr_eq, bytesErr_eq, Option.bind_some]
    by_cases h : s.size % 32 = 0
    · by_cases h2 : s.size ≤ 1536
      · have hl := ents_length s h
        simp only [if_pos h, if_pos h2, recOf, if_true, Option.bind_some]
        refine Ev.bind (Ev.bind (ev_some 2000 fun k hk => entries_eq s h (by omega) k (by omega)) (Ev.now _)) ?_
        refine Ev.bind (ev_some 2000 fun k hk => ref_entries_eq s h (by omega) k (by omega)) ?_
        simp only [if_true]
        refine Ev.bind (same_entries _ (by omega)) ?_
        simp only [if_true]
        refine Ev.bind (same_entries _ (by omega)) ?_
        simp only [if_true]
        refine Ev.bind (ev_some 2000 fun k hk => ref_cleaning_eq s h (by omega) k (by omega)) ?_
        have := recFrom_length (entsB s).length (blocksB s) 0
        rw [blocks_len s h] at this
        exact Ev.bind (same_writes _ (by omega)) (Ev.now _)
      · simp only [if_pos h, if_neg h2, recOf, if_neg (show ¬ (2 : Int) = 0 by decide), Option.bind_some, if_true, List.length_nil]
        exact Ev.now _
    · simp only [if_neg h, recOf, if_neg (show ¬ (19 : Int) = 0 by decide), Option.bind_some, if_true, List.length_nil]
      exact Ev.now _
end Go.Proofs.YtgflelipamofoaaDoor.Pure
