/- CampaignAppends: the plain law: the blocks that are written to append entries are the printed reference's, or the errors. -/
import Derived.Test.YtgflelipamofoaaDoorSCampaignAppends
import Derived.Test.YtgflelipamofoaaDoorHP6
namespace Go.Proofs.YtgflelipamofoaaDoor.PA
open Go Go.RowKit Go.Proofs.YtgflelipamofoaaDoorW.PrintWords Go.Proofs.YtgflelipamofoaaDoorW.PrintLast Go.Proofs.YtgflelipamofoaaDoorW.PrintMore
set_option linter.unusedVariables false
set_option linter.unusedSimpArgs false
theorem app_end (s : ByteArray) (l : List S57) (w : List S66) (e c : Int) (hc : c ≠ 0) (he : e = c) (hw : w = []) : Ev (fun k => examinerlaw43_CampaignAppends.j5 k s w e c l) true := by
  subst he hw
  refine ev_succ ?_
  simp only [examinerlaw43_CampaignAppends.j5, if_neg hc, if_true]
  exact Ev.now _
theorem app_err4 (s : ByteArray) (l : List S57) (e : Int) (he : e ≠ 0) : Ev (fun k => examinerlaw43_CampaignAppends.j4 k s [] e e false l) true := by
  refine ev_succ ?_
  simp only [examinerlaw43_CampaignAppends.j4, Bool.false_eq_true, if_false]
  exact app_end s l [] e e he rfl rfl
theorem app_err3 (s : ByteArray) (l : List S57) (e : Int) (he : e ≠ 0) : Ev (fun k => examinerlaw43_CampaignAppends.j3 k s [] e e l) true := by
  refine ev_succ ?_
  simp only [examinerlaw43_CampaignAppends.j3, if_neg he]
  exact app_err4 s l e he
theorem app_err2 (s : ByteArray) (l : List S57) (e : Int) (he : e ≠ 0) : Ev (fun k => examinerlaw43_CampaignAppends.j2 k s [] e e l) true := by
  refine ev_succ ?_
  simp only [examinerlaw43_CampaignAppends.j2, if_neg he]
  exact app_err3 s l e he
theorem app_err1 (s : ByteArray) (l : List S57) (e : Int) (he : e ≠ 0) : Ev (fun k => examinerlaw43_CampaignAppends.j1 k s [] e e false l) true := by
  refine ev_succ ?_
  simp only [examinerlaw43_CampaignAppends.j1, Bool.false_eq_true, if_false]
  exact app_err2 s l e he
theorem app_in (s : ByteArray) (l : List S57) (hs : s.size ≤ 2000) (hl : l.length ≤ 70) : Ev (fun k => examinerlaw43_CampaignAppends.j0 k s false l) true := by
  refine ev_succ ?_
  simp only [examinerlaw43_CampaignAppends.j0, Bool.false_eq_true, if_false, own_eq l hl, Option.bind_some]
  refine Ev.bind (ev_some 200 fun k hk => writesFor_eq s l (by omega) k hk) ?_
  simp only [jerr_eq, Option.bind_some, wrOf]
  by_cases h : s.size % 32 = 0
  · by_cases h2 : s.size ≤ 1536
    · simp only [if_pos h, if_pos h2, if_true]
      refine Ev.bind (ev_some 200 fun k hk => isClean_eq s h (by omega) k (by omega)) ?_
      by_cases h3 : (entsB s).length = s.size / 32
      · simp only [if_pos h3, decide_eq_true h3, Bool.not_true]
        refine ev_succ ?_
        simp only [examinerlaw43_CampaignAppends.j1, Bool.false_eq_true, if_false]
        refine ev_succ ?_
        simp only [examinerlaw43_CampaignAppends.j2, if_true]
        refine Ev.bind (ev_some 200 fun k hk => ref_err_eq k (by omega) l) ?_
        by_cases h4 : (checkB l).2 = 0
        · obtain ⟨h60, hok⟩ := check_ok h4
          simp only [h4, if_true]
          refine ev_succ ?_
          simp only [examinerlaw43_CampaignAppends.j3, if_true, size_div s (by omega : s.size ≤ 100000), show wrap64 (((s.size / 32 : Nat) : Int) + (l.length : Int)) = ((s.size / 32 + l.length : Nat) : Int) by unfold wrap64; omega]
          refine ev_succ ?_
          by_cases h5 : s.size / 32 + l.length > 48
          · rw [decide_eq_true (show ((s.size / 32 + l.length : Nat) : Int) > 48 by omega)]
            simp only [examinerlaw43_CampaignAppends.j4, if_true, if_pos h5]
            exact app_end s l [] 32 32 (by decide) rfl rfl
          · rw [decide_eq_false (show ¬ ((s.size / 32 + l.length : Nat) : Int) > 48 by omega)]
            simp only [examinerlaw43_CampaignAppends.j4, Bool.false_eq_true, if_false, if_neg h5]
            refine ev_succ ?_
            simp only [examinerlaw43_CampaignAppends.j5, if_true]
            refine Ev.bind (ev_some 200 fun k hk => ref_writes_eq s h2 l h60 hok k (by omega)) ?_
            exact Ev.bind (same_writes _ (by rw [wrFrom_length]; omega)) (Ev.now _)
        · simp only [if_neg h4]
          exact app_err3 s l _ h4
      · simp only [if_neg h3, decide_eq_false h3, Bool.not_false]
        refine ev_succ ?_
        simp only [examinerlaw43_CampaignAppends.j1, if_true]
        exact app_err2 s l 33 (by decide)
    · simp only [if_pos h, if_neg h2, if_neg (show ¬ (2 : Int) = 0 by decide)]
      exact app_err1 s l 2 (by decide)
  · simp only [if_neg h, if_neg (show ¬ (19 : Int) = 0 by decide)]
    exact app_err1 s l 19 (by decide)
theorem app_out (s : ByteArray) (l : List S57) : Ev (fun k => examinerlaw43_CampaignAppends.j0 k s true l) true := by
  refine ev_succ ?_
  simp only [examinerlaw43_CampaignAppends.j0, if_true]
  exact Ev.now _
theorem pure_campaignAppends : PureCampaignAppends := by
  rintro s l hs ⟨hl, _⟩
  refine Ev.rounds ?_
  unfold examinerlaw43_CampaignAppends.f
  refine Ev.bind (ev_some 0 fun _ _ => awake_eq) ?_
  simp only [if_true]
  by_cases h2000 : (s.size : Int) > 2000
  · simp only [if_pos h2000]
    exact app_out s l
  · simp only [if_neg h2000]
    obtain ⟨b, hb, hb70⟩ := few_eq l hl 200 (Nat.le_refl _)
    refine Ev.bind (Ev.of (fun k => examinerlaw43_few.mono l k) hb) ?_
    cases b
    · simp only [Bool.not_false]
      exact app_out s l
    · simp only [Bool.not_true]
      exact app_in s l (by omega) (hb70 rfl)
end Go.Proofs.YtgflelipamofoaaDoor.PA
