/- The law 'CampaignSurvives' of the given program: for every input it returns true, and its arguments read as they did. No condition; the two tables of unicode/utf8 are tied to the program's text. -/
import Derived.Test.YtgflelipamofoaaDoorRows
import Derived.Test.YtgflelipamofoaaDoorPAx13
import Derived.Test.YtgflelipamofoaaDoorSCampaignSurvives
import Derived.Test.YtgflelipamofoaaDoorQCampaignSurvives
import Derived.Test.YtgflelipamofoaaDoorHOp
import Derived.Test.YtgflelipamofoaaDoorCards
import Derived.Test.YtgflelipamofoaaDoorTie
import Derived.Test.YtgflelipamofoaaDoorHW
import Derived.Handed
import Derived.LaidLaws
import Derived.SevenTiedAt
import Derived.WalkKit
import Derived.ProofKit
import Derived.OpenShut
import Derived.ShutString
import Derived.ChangeOld
import Derived.Below
import Derived.SizedLaws
namespace Go.Proofs.YtgflelipamofoaaDoor.campaignSurvivesRow
open Go.ChangeShapes Go.WideShapes Go.ChangeAt Go.RowKit
open Go.ChangeMaps (open_string shut_string)
open Go.Proofs.YtgflelipamofoaaDoorW.PrintWords Go.Proofs.YtgflelipamofoaaDoor.PA Go.Proofs.YtgflelipamofoaaDoor.Own
set_option linter.unusedVariables false
theorem own : ownKnob Tryd.prog.godebug = none := by kernel_rfl
theorem laidOut : laidOutB Tryd.prog = true := by kernel_rfl
set_option maxRecDepth 100000 in
theorem op24 {H : Type} {enc : TypeId × Value → H} : Opn enc Tryd.prog 24 (Kd.slice 57 k57) (fun x => (x.length ≤ maxLen ∧ ∀ z1 ∈ x, (z1.f0.size ≤ maxLen ∧ ((Lit.int .i64 z1.f1).wf = true ∧ ((Lit.int .i64 z1.f2).wf = true ∧ (Lit.int .i64 z1.f3).wf = true))))) := (Opn.struct Tryd.underlying24 (by kernel_rfl) (OpnF.one rfl (by kernel_rfl) (Opn.slice Tryd.underlying22 (by kernel_rfl) (Opn.iso (fun x : S57 => (x.f0, x.f1, x.f2, x.f3)) (fun y => ⟨y.1, y.2.1, y.2.2.1, y.2.2.2⟩) (fun _ => rfl) (Opn.struct Tryd.underlying57 (by kernel_rfl) (OpnF.cons rfl (by kernel_rfl) (Opn.string Tryd.underlying9) rfl (OpnF.cons rfl (by kernel_rfl) (Opn.int Tryd.underlying3) rfl (OpnF.cons rfl (by kernel_rfl) (Opn.int Tryd.underlying3) rfl (OpnF.one rfl (by kernel_rfl) (Opn.int Tryd.underlying3))))))))))
set_option maxRecDepth 100000 in
theorem op47 {H : Type} {enc : TypeId × Value → H} : Opn enc Tryd.prog 47 (Kd.pair (Kd.slice 5 (Kd.int .u8)) (Kd.slice 5 (Kd.int .u8))) (fun x => ((x.1.length ≤ maxLen ∧ ∀ z2 ∈ x.1, (Lit.int .u8 z2).wf = true) ∧ (x.2.length ≤ maxLen ∧ ∀ z1 ∈ x.2, (Lit.int .u8 z1).wf = true))) := (Opn.struct Tryd.underlying47 (by kernel_rfl) (OpnF.cons rfl (by kernel_rfl) (Opn.slice Tryd.underlying45 (by kernel_rfl) (Opn.int Tryd.underlying5)) rfl (OpnF.one rfl (by kernel_rfl) (Opn.slice Tryd.underlying45 (by kernel_rfl) (Opn.int Tryd.underlying5)))))
set_option maxRecDepth 100000 in
set_option maxHeartbeats 1000000 in
theorem lifted (os : Os) (started : os.Started) (H : Type) (enc : TypeId × Value → H) :
    ReturnsInHanded {} Tryd.checked os 5 .any (fun w args => (Rows.campaignSurvivesSpec.pre enc Tryd.prog Tryd.f5 Rows.campaignSurvivesRow.domain false w args ∧ laidMet Tryd.prog Own.laidTabs w) ∧ sizedMet enc Tryd.prog Tryd.f5 (OpenSpec.ofChange Rows.campaignSurvivesSpec) false w args) (Rows.campaignSurvivesSpec.post enc Tryd.prog Tryd.f5 false true false false) := by
  refine returnsInHanded_of_change_and (C := Tryd.checked) (X := fun w _ => laidMet Tryd.prog Own.laidTabs w) (fun _ _ _ hh h => h.of_heap hh) own started (by kernel_rfl) Tryd.func5
    (ChangeSpec.witness_at (enc := enc) (C := Tryd.checked) (os := os) (X := fun w _ => laidMet Tryd.prog Own.laidTabs w) false (Own.laidWorld os) #[.agg #[.slice none 0 0], .agg #[.slice none 0 0], .agg #[.slice none 0 0, .slice none 0 0]] 8 rfl (by kernel_rfl) (by kernel_rfl) (by kernel_rfl) (by kernel_rfl) (by kernel_rfl) (Own.laidWorld_met os _)) ?_
  intro W base args ds gs before hval0 hW hcnd hsz0 hL _
  have hval : ∀ (j : Nat) t v, Tryd.f5.params[j]? = some t → args[j]? = some v → Value.okWide Tryd.prog W .any base t v := hval0
  have hW' := hW
  obtain ⟨p, q, hA0, hV, rfl, hfz, hnd⟩ := hW
  have hA : DataW.TrodAll enc Tryd.prog W 0 (fun _ => true) true Tryd.f5.params.toList args.toList ds p := hA0
  rw [Tryd.params5] at hA hval
  obtain ⟨v0, vs0, d0, ds0, p0, q0, hargs, rfl, rfl, h0, r0⟩ := trodAll_cons hA
  obtain ⟨v1, vs1, d1, ds1, p1, q1, rfl, rfl, rfl, h1, r1⟩ := trodAll_cons r0
  obtain ⟨v2, vs2, d2, ds2, p2, q2, rfl, rfl, rfl, h2, r2⟩ := trodAll_cons r1
  obtain ⟨rfl, rfl, rfl⟩ := trodAll_nil r2
  obtain rfl : args = #[v0, v1, v2] := by cases args; simp_all
  obtain ⟨rfl, rfl⟩ := trodVars_none hV
  have k0 := h0
  have lt0 : ∀ x ∈ p0, x.block < W.heap.size := by obtain ⟨m, hm⟩ := k0; exact DataW.trod_lt m _ _ _ hm
  obtain ⟨cs0, rfl⟩ := agg_of Tryd.underlying24 (hval 0 24 v0 rfl rfl)
  obtain ⟨x0, hk0, hw0⟩ := op24.trod h0
  obtain ⟨ls0, hls0, hk0⟩ : ∃ ls, cs0.toList = ls ∧ ((Kd.slice 57 k57)).K W x0 ls := ⟨_, rfl, hk0⟩
  obtain ⟨A0_0, c0_0, rfl, hc0_0, hr0_0⟩ := hk0
  obtain rfl : cs0 = #[.slice A0_0 ((x0)).length c0_0] := by cases cs0; simpa using hls0
  have k1 := h1
  have lt1 : ∀ x ∈ p1, x.block < W.heap.size := by obtain ⟨m, hm⟩ := k1; exact DataW.trod_lt m _ _ _ hm
  obtain ⟨cs1, rfl⟩ := agg_of Tryd.underlying24 (hval 1 24 v1 rfl rfl)
  obtain ⟨x1, hk1, hw1⟩ := op24.trod h1
  obtain ⟨ls1, hls1, hk1⟩ : ∃ ls, cs1.toList = ls ∧ ((Kd.slice 57 k57)).K W x1 ls := ⟨_, rfl, hk1⟩
  obtain ⟨A1_0, c1_0, rfl, hc1_0, hr1_0⟩ := hk1
  obtain rfl : cs1 = #[.slice A1_0 ((x1)).length c1_0] := by cases cs1; simpa using hls1
  have k2 := h2
  have lt2 : ∀ x ∈ p2, x.block < W.heap.size := by obtain ⟨m, hm⟩ := k2; exact DataW.trod_lt m _ _ _ hm
  obtain ⟨cs2, rfl⟩ := agg_of Tryd.underlying47 (hval 2 47 v2 rfl rfl)
  obtain ⟨x2, hk2, hw2⟩ := op47.trod h2
  obtain ⟨ls2, hls2, hk2⟩ : ∃ ls, cs2.toList = ls ∧ ((Kd.pair (Kd.slice 5 (Kd.int .u8)) (Kd.slice 5 (Kd.int .u8)))).K W x2 ls := ⟨_, rfl, hk2⟩
  obtain ⟨_, _, rfl, ⟨A2_0, c2_0, rfl, hc2_0, hr2_0⟩, ⟨A2_1, c2_1, rfl, hc2_1, hr2_1⟩⟩ := hk2
  obtain rfl : cs2 = #[.slice A2_0 ((x2).1).length c2_0, .slice A2_1 ((x2).2).length c2_1] := by cases cs2; simpa using hls2
  obtain ⟨k, hp⟩ := pure_campaignSurvives ((x0)) ((x1)) ((x2).1) ((x2).2) ((hw0)) ((hw1)) ((hw2).1) ((hw2).2)
  refine (examinerlaw43_CampaignSurvives.calls k A0_0 c0_0 ((x0)) A1_0 c1_0 ((x1)) A2_0 c2_0 ((x2).1) A2_1 c2_1 ((x2).2) true W hr0_0 hc0_0 hr1_0 hc1_0 hr2_0 hc2_0 hr2_1 hc2_1 hp).mono fun e W' he => ?_
  obtain ⟨rfl, bel0⟩ := he
  have bel : Below W.heap.size W W' := bel0
  exact ⟨_, rfl, _, _, _, [], _, [], hW', trodAll_mk1 (shut_bool Tryd.underlying4 _), (trodAll_cons_mk (Below.trod laidOut (by kernel_rfl) (of_decide_eq_true (by kernel_rfl)) k0 bel lt0) (trodAll_cons_mk (Below.trod laidOut (by kernel_rfl) (of_decide_eq_true (by kernel_rfl)) k1 bel lt1) (trodAll_cons_mk (Below.trod laidOut (by kernel_rfl) (of_decide_eq_true (by kernel_rfl)) k2 bel lt2) trodAll_mk0))), rfl, bel.frame _, fun h => by cases h⟩
theorem over : Rows.campaignSurvivesRow.holds Tryd.pinned (OpenSpec.ofChange Rows.campaignSurvivesSpec) :=
  OpenClaim.holds_of_wide 5 Tryd.f5 rfl rfl rfl rfl rfl rfl rfl ⟨rfl, rfl, rfl, rfl, rfl⟩ rfl rfl rfl rfl rfl (by kernel_rfl) Tryd.func5 (by kernel_rfl)
    (of_decide_eq_true (by kernel_rfl)) (by unfold Func.isWrapper; first | (rw [if_pos (by decide +kernel)]; kernel_rfl) | (rw [if_neg (by decide +kernel)]; exact ⟨rfl, rfl⟩))
    (fun os started H enc _ => lifted os started H enc)
theorem proved : Rows.CampaignSurvivesCardSaid :=
  Claim7.holds_tied_plain_at .later [] [.data, .pinned] true (true, "1835bccb81fb679fb0ca742ff78ca3c1a5f8850f1a6c2b87c02e62939d0d6779") false
    over (fun _ h => by cases h) (by kernel_rfl) (fun _ h => by cases h) campaignSurvives_row_tie rfl ⟨rfl, rfl⟩ (by kernel_rfl) rfl
    (fun f fn hf hfn => by
      obtain rfl : f = 5 := (Option.some.inj ((show Tryd.prog.funcNamed Rows.campaignSurvivesRow.func = some 5 by kernel_rfl).symm.trans hf)).symm
      obtain rfl : fn = Tryd.f5 := (Option.some.inj (Tryd.func5.symm.trans hfn)).symm
      refine ⟨by kernel_rfl, fun j t ht => ?_⟩
      have ha : Tryd.f5.params.all (fun t => !Tryd.prog.wantsStandIn t) = true := by kernel_rfl
      obtain ⟨hj, rfl⟩ := Array.getElem?_eq_some_iff.1 ht
      have := (Array.all_eq_true.1 ha) j hj
      rw [Bool.not_eq_true'] at this
      exact this)
    (by kernel_rfl)
#print axioms proved
end Go.Proofs.YtgflelipamofoaaDoor.campaignSurvivesRow
namespace Go.Proofs.YtgflelipamofoaaDoor
/-- The card, under a short name, for the claim. -/
theorem campaignSurvives_holds : Rows.CampaignSurvivesCardSaid := campaignSurvivesRow.proved
end Go.Proofs.YtgflelipamofoaaDoor
