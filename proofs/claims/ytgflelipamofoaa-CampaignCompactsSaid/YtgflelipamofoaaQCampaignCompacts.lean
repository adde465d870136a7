/- CampaignCompacts: the plain law. -/
import Derived.Test.YtgflelipamofoaaSCampaignCompacts
import Derived.Test.YtgflelipamofoaaHP4
namespace Go.Proofs.Ytgflelipamofoaa.PA
open Go Go.RowKit Go.Proofs.YtgflelipamofoaaW.PrintWords Go.Proofs.YtgflelipamofoaaW.PrintLast Go.Proofs.YtgflelipamofoaaW.PrintMore
set_option linter.unusedVariables false
theorem comp_in (c : List S61) (m : List ByteArray × Int) (hm : m.2 = 0) (hc : c.length ≤ 60) (hap : c.Pairwise (fun a b => a.f0 ≠ b.f0)) (i : Nat) (hi : i < c.length)
    (ha : Ev (fun k => examinerlaw43_CampaignCompacts.l0 k c c 0 m.1 m.2 m.1 m.2 ((i + 1 : Nat) : Int)) true) :
    ∀ (d j : Nat), j + d = i → Ev (fun k => examinerlaw43_CampaignCompacts.l1 k c c 0 m.1 m.2 m.1 m.2 i j) true := by
  intro d
  induction d with
  | zero =>
    intro j hj
    refine ev_succ ?_
    simp only [examinerlaw43_CampaignCompacts.l1, if_neg (show ¬ (j : Int) < (i : Int) by omega), wrap_succ hi (show c.length ≤ 9223372036854775807 by omega)]
    exact ha
  | succ d ih =>
    intro j hj
    have hne : ¬ c[i].f0 = c[j].f0 := fun e => (List.pairwise_iff_getElem.1 hap j i (by omega) hi (by omega)) e.symm
    refine ev_succ ?_
    simp only [examinerlaw43_CampaignCompacts.l1, if_pos (show (j : Int) < (i : Int) by omega), if_pos (show 0 ≤ (i : Int) by omega), if_pos (show (i : Int) < (c.length : Int) by omega), if_pos (show 0 ≤ (j : Int) by omega), if_pos (show (j : Int) < (c.length : Int) by omega), rd61 c i hi, rd61 c j (by omega), toList_inj, if_neg hne, wrap_succ (show j < c.length by omega) (show c.length ≤ 9223372036854775807 by omega)]
    exact ih (j + 1) (by omega)
theorem comp_out (c : List S61) (m : List ByteArray × Int) (hm : m.2 = 0) (hml : m.1.length ≤ 9223372036854775807) (hc : c.length ≤ 60) (hap : c.Pairwise (fun a b => a.f0 ≠ b.f0)) :
    ∀ (d i : Nat), i + d = c.length → Ev (fun k => examinerlaw43_CampaignCompacts.l0 k c c 0 m.1 m.2 m.1 m.2 i) true := by
  intro d
  induction d with
  | zero =>
    intro i hi
    refine ev_succ ?_
    simp only [examinerlaw43_CampaignCompacts.l0, if_neg (show ¬ (i : Int) < (c.length : Int) by omega), if_true]
    refine Ev.bind (same_entries c (by omega)) ?_
    simp only [if_true, if_pos hm]
    refine Ev.bind (same_texts m.1 hml) ?_
    exact Ev.now _
  | succ d ih =>
    intro i hi
    refine ev_succ ?_
    simp only [examinerlaw43_CampaignCompacts.l0, if_pos (show (i : Int) < (c.length : Int) by omega)]
    exact comp_in c m hm hc hap i (by omega) (ih (i + 1) (by omega)) i 0 (by omega)
theorem pure_campaignCompacts : PureCampaignCompacts := by
  rintro l ts ⟨hl, _⟩ _
  refine Ev.rounds ?_
  unfold examinerlaw43_CampaignCompacts.f
  rw [awake_eq]
  simp only [Option.bind_some, if_true]
  have hjt : Ev (fun k => examinerlaw43_CampaignCompacts.j0 k true l ts) true := by
    refine ev_succ ?_
    simp only [examinerlaw43_CampaignCompacts.j0, if_true]
    exact Ev.now _
  obtain ⟨b, hb, hb70⟩ := few_eq l hl 200 (by omega)
  refine Ev.bind (a := b) (ev_some 200 (fun k hk => at_rounds (fun k => examinerlaw43_few.mono l k) hk hb)) ?_
  cases b with
  | false =>
    simp only [Bool.false_eq_true, if_false]
    exact hjt
  | true =>
    have h70 := hb70 rfl
    simp only [if_true]
    refine Ev.bind (ev_some 90 (fun k hk => ref_err_eq k hk l)) ?_
    by_cases hc : (checkB l).2 = 0
    · obtain ⟨h60, hok⟩ := check_ok hc
      simp only [if_pos hc]
      by_cases h : (ts.length : Int) > 70
      · simp only [if_pos h]
        exact hjt
      · simp only [if_neg h]
        refine Ev.bind (terr_eq ts) ?_
        by_cases ht : tErrB ts = 0
        · have hcl := compF_length l
          have hts : ts.length ≤ 60 := by
            unfold tErrB at ht
            by_cases c : (ts.length : Int) > 60
            · rw [if_pos c] at ht; simp at ht
            · omega
          have hte : tErr [] ts = 0 := by
            unfold tErrB at ht
            rwa [if_neg (by omega)] at ht
          have hbn : (tErrB ts != 0) = false := by simp [ht]
          simp only [hbn]
          refine ev_succ ?_
          simp only [examinerlaw43_CampaignCompacts.j0, campaign_Compacted.f, Bool.false_eq_true, if_false, own_eq l h70, Option.bind_some]
          have hcb : compB l = (compF l, 0) := by unfold compB; rw [if_pos hc]
          simp only [hcb, if_true]
          refine Ev.bind (ev_some 90 (fun k hk => ref_err_eq k hk (compF l))) ?_
          have hcc := check_comp hc
          have hbn2 : ((checkB (compF l)).2 != 0) = false := by rw [hcc]; rfl
          simp only [hbn2]
          refine ev_succ ?_
          have hcb2 : compB (compF l) = (compF l, 0) := by unfold compB; rw [hcc]; simp [compF_idem]
          simp only [examinerlaw43_CampaignCompacts.j1, campaign_Compacted.f, campaign_MustRun.f, Bool.false_eq_true, if_false, own_eq l h70, own_eq (compF l) (show (compF l).length ≤ 70 by omega), Option.bind_some, List.length_nil, List.nil_append, if_pos (show 0 + ts.length < 5864062014805 by omega), hcb2, mustRun_comp hc]
          have hm : mustRun l ts = (mustOf l ts, 0) := by unfold mustRun; rw [if_pos hc, if_pos hts, if_pos hte]
          have hml := mustOf_length l ts
          have := comp_out (compF l) (mustRun l ts) (by rw [hm]) (by rw [hm]; show (mustOf l ts).length ≤ _; omega) (by omega) (compF_apart l) (compF l).length 0 (by omega)
          exact this
        · have hbn : (tErrB ts != 0) = true := by simp [ht]
          simp only [hbn]
          exact hjt
    · simp only [if_neg hc]
      exact hjt
end Go.Proofs.Ytgflelipamofoaa.PA
