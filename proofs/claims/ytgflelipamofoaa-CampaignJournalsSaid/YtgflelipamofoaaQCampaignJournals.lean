/- CampaignJournals: the plain law: the printed program and the printed reference make the same journal, or the same error. -/
import Derived.Test.YtgflelipamofoaaSCampaignJournals
import Derived.Test.YtgflelipamofoaaHP2
namespace Go.Proofs.Ytgflelipamofoaa.PA
open Go Go.RowKit Go.Proofs.YtgflelipamofoaaW.PrintWords Go.Proofs.YtgflelipamofoaaW.PrintLast Go.Proofs.YtgflelipamofoaaW.PrintMore
theorem pure_campaignJournals : PureCampaignJournals := by
  rintro l ⟨hl, _⟩
  refine ⟨200, ?_⟩
  unfold examinerlaw43_CampaignJournals.f
  obtain ⟨b, hb, hb70⟩ := few_eq l hl 200 (by omega)
  rw [awake_eq, Option.bind_some, if_pos rfl, hb, Option.bind_some]
  cases b with
  | false => rfl
  | true =>
    have h70 := hb70 rfl
    rw [if_pos rfl, own_eq l h70, Option.bind_some]
    unfold campaign_JournalOf.f
    rw [Option.bind_some, ref_err_eq 200 (by omega), Option.bind_some]
    unfold jOf
    by_cases hc : (checkB l).2 = 0
    · obtain ⟨h60, hok⟩ := check_ok hc
      rw [if_pos hc, if_pos hc]
      by_cases h48 : l.length ≤ 48
      · rw [if_pos h48, if_neg (by omega), if_pos rfl, ref_journal_eq l h60 hok 200 (by omega), Option.bind_some]
        simp
      · rw [if_neg h48, if_pos (by omega), if_pos rfl]
        simp
    · rw [if_neg hc, if_neg hc, if_pos rfl]
      simp
end Go.Proofs.Ytgflelipamofoaa.PA
