/- The law 'CampaignCompacts' of the given program: for every input it returns true, and its arguments read as they did. No condition. (The row; the walk is the printed contract, the rest a plain statement.) -/
import Derived.Test.YtgflelipamofoaaRows
import Derived.Test.YtgflelipamofoaaPAx10
import Derived.Test.YtgflelipamofoaaSCampaignCompacts
import Derived.Test.YtgflelipamofoaaQCampaignCompacts
import Derived.Test.YtgflelipamofoaaHOp
import Derived.WalkKit
import Derived.ProofKit
import Derived.OpenShut
import Derived.ShutString
import Derived.ChangeOld
import Derived.Below
import Derived.SizedLaws
namespace Go.Proofs.Ytgflelipamofoaa.campaignCompactsRow
open Go.ChangeShapes Go.WideShapes Go.ChangeAt Go.RowKit
open Go.ChangeMaps (open_string shut_string)
open Go.Proofs.YtgflelipamofoaaW.PrintWords Go.Proofs.Ytgflelipamofoaa.PA Go.Proofs.Ytgflelipamofoaa.Own
set_option linter.unusedVariables false
theorem own : ownKnob Try.prog.godebug = none := by kernel_rfl
theorem laidOut : laidOutB Try.prog = true := by kernel_rfl
theorem op24 {H : Type} {enc : TypeId × Value → H} : Opn enc Try.prog 24 (Kd.slice 61 k61) (fun x => (x.length ≤ maxLen ∧ ∀ z1 ∈ x, (z1.f0.size ≤ maxLen ∧ ((Lit.int .i64 z1.f1).wf = true ∧ ((Lit.int .i64 z1.f2).wf = true ∧ (Lit.int .i64 z1.f3).wf = true))))) := (Opn.struct Try.underlying24 (by kernel_rfl) (OpnF.one rfl (by kernel_rfl) (Opn.slice Try.underlying22 (by kernel_rfl) (Opn.iso (fun x : S61 => (x.f0, x.f1, x.f2, x.f3)) (fun y => ⟨y.1, y.2.1, y.2.2.1, y.2.2.2⟩) (fun _ => rfl) (Opn.struct Try.underlying61 (by kernel_rfl) (OpnF.cons rfl (by kernel_rfl) (Opn.string Try.underlying9) rfl (OpnF.cons rfl (by kernel_rfl) (Opn.int Try.underlying3) rfl (OpnF.cons rfl (by kernel_rfl) (Opn.int Try.underlying3) rfl (OpnF.one rfl (by kernel_rfl) (Opn.int Try.underlying3))))))))))
theorem op36 {H : Type} {enc : TypeId × Value → H} : Opn enc Try.prog 36 (Kd.slice 38 k38) (fun x => (x.length ≤ maxLen ∧ ∀ z1 ∈ x, (z1.f0.size ≤ maxLen ∧ (Lit.int .i64 z1.f1).wf = true))) := (Opn.struct Try.underlying36 (by kernel_rfl) (OpnF.one rfl (by kernel_rfl) (Opn.slice Try.underlying34 (by kernel_rfl) (Opn.iso (fun x : S38 => (x.f0, x.f1)) (fun y => ⟨y.1, y.2⟩) (fun _ => rfl) (Opn.struct Try.underlying38 (by kernel_rfl) (OpnF.cons rfl (by kernel_rfl) (Opn.string Try.underlying9) rfl (OpnF.one rfl (by kernel_rfl) (Opn.int Try.underlying3))))))))
set_option maxRecDepth 100000 in
set_option maxHeartbeats 1000000 in
theorem lifted (os : Os) (started : os.Started) (H : Type) (enc : TypeId × Value → H) :
    ReturnsInHanded {} Try.checked os 6 .any (Rows.campaignCompactsSpec.pre6 enc Try.prog Try.f6 Rows.campaignCompactsRow.domain false) (Rows.campaignCompactsSpec.post enc Try.prog Try.f6 false true false false) := by
  refine returnsInHanded_of_change_sized (C := Try.checked) own started (by kernel_rfl) Try.func6
    (ChangeSpec.witness6 (enc := enc) (C := Try.checked) false ⟨#[], #[.agg #[.slice none 0 0], .agg #[.slice none 0 0]], []⟩ 8 (by kernel_rfl) (by kernel_rfl) (by kernel_rfl) (by kernel_rfl)) ?_
  intro W base args ds gs before hval0 hW hcnd hsz0 _
  have hval : ∀ (j : Nat) t v, Try.f6.params[j]? = some t → args[j]? = some v → Value.okWide Try.prog W .any base t v := hval0
  have hW' := hW
  obtain ⟨p, q, hA0, hV, rfl, hfz, hnd⟩ := hW
  have hA : DataW.TrodAll enc Try.prog W 0 (fun _ => true) true Try.f6.params.toList args.toList ds p := hA0
  rw [Try.params6] at hA hval
  obtain ⟨v0, vs0, d0, ds0, p0, q0, hargs, rfl, rfl, h0, r0⟩ := trodAll_cons hA
  obtain ⟨v1, vs1, d1, ds1, p1, q1, rfl, rfl, rfl, h1, r1⟩ := trodAll_cons r0
  obtain ⟨rfl, rfl, rfl⟩ := trodAll_nil r1
  obtain rfl : args = #[v0, v1] := by cases args; simp_all
  obtain ⟨rfl, rfl⟩ := trodVars_none hV
  have k0 := h0
  have lt0 : ∀ x ∈ p0, x.block < W.heap.size := by obtain ⟨m, hm⟩ := k0; exact DataW.trod_lt m _ _ _ hm
  obtain ⟨cs0, rfl⟩ := agg_of Try.underlying24 (hval 0 24 v0 rfl rfl)
  obtain ⟨x0, hk0, hw0⟩ := op24.trod h0
  obtain ⟨ls0, hls0, hk0⟩ : ∃ ls, cs0.toList = ls ∧ ((Kd.slice 61 k61)).K W x0 ls := ⟨_, rfl, hk0⟩
  obtain ⟨A0_0, c0_0, rfl, hc0_0, hr0_0⟩ := hk0
  obtain rfl : cs0 = #[.slice A0_0 ((x0)).length c0_0] := by cases cs0; simpa using hls0
  have k1 := h1
  have lt1 : ∀ x ∈ p1, x.block < W.heap.size := by obtain ⟨m, hm⟩ := k1; exact DataW.trod_lt m _ _ _ hm
  obtain ⟨cs1, rfl⟩ := agg_of Try.underlying36 (hval 1 36 v1 rfl rfl)
  obtain ⟨x1, hk1, hw1⟩ := op36.trod h1
  obtain ⟨ls1, hls1, hk1⟩ : ∃ ls, cs1.toList = ls ∧ ((Kd.slice 38 k38)).K W x1 ls := ⟨_, rfl, hk1⟩
  obtain ⟨A1_0, c1_0, rfl, hc1_0, hr1_0⟩ := hk1
  obtain rfl : cs1 = #[.slice A1_0 ((x1)).length c1_0] := by cases cs1; simpa using hls1
  obtain ⟨k, hp⟩ := pure_campaignCompacts ((x0)) ((x1)) ((hw0)) ((hw1))
  refine (examinerlaw43_CampaignCompacts.calls k A0_0 c0_0 ((x0)) A1_0 c1_0 ((x1)) true W hr0_0 hc0_0 hr1_0 hc1_0 hp).mono fun e W' he => ?_
  obtain ⟨rfl, bel0⟩ := he
  have bel : Below W.heap.size W W' := bel0
  exact ⟨_, rfl, _, _, _, [], _, [], hW', trodAll_mk1 (shut_bool Try.underlying4 _), (trodAll_cons_mk (Below.trod laidOut (by kernel_rfl) (of_decide_eq_true (by kernel_rfl)) k0 bel lt0) (trodAll_cons_mk (Below.trod laidOut (by kernel_rfl) (of_decide_eq_true (by kernel_rfl)) k1 bel lt1) trodAll_mk0)), rfl, bel.frame _, fun h => by cases h⟩
theorem over : Rows.campaignCompactsRow.holds Try.pinned (OpenSpec.ofChange Rows.campaignCompactsSpec) :=
  OpenClaim.holds_of_wide 6 Try.f6 rfl rfl rfl rfl rfl rfl rfl ⟨rfl, rfl, rfl, rfl, rfl⟩ rfl rfl rfl rfl rfl (by kernel_rfl) Try.func6 (by kernel_rfl)
    (of_decide_eq_true (by kernel_rfl)) (by unfold Func.isWrapper; first | (rw [if_pos (by decide +kernel)]; kernel_rfl) | (rw [if_neg (by decide +kernel)]; exact ⟨rfl, rfl⟩))
    (fun os started H enc _ => lifted os started H enc)
theorem proved : Rows.CampaignCompactsSaid := over
#print axioms proved
end Go.Proofs.Ytgflelipamofoaa.campaignCompactsRow
namespace Go.Proofs.Ytgflelipamofoaa
/-- The row, under a short name, for the claim. -/
theorem campaignCompacts_holds : Rows.CampaignCompactsSaid := campaignCompactsRow.proved
end Go.Proofs.Ytgflelipamofoaa
