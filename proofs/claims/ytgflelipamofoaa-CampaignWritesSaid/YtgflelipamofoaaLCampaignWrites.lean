/- The law 'CampaignWrites' of the given program: for every input it returns true, and its arguments read as they did. No condition. (The row; the walk is the printed contract, the rest a plain statement.) -/
import Derived.Test.YtgflelipamofoaaRows
import Derived.Test.YtgflelipamofoaaPAx12
import Derived.Test.YtgflelipamofoaaSCampaignWrites
import Derived.Test.YtgflelipamofoaaQCampaignWrites
import Derived.Test.YtgflelipamofoaaHOp
import Derived.WalkKit
import Derived.ProofKit
import Derived.OpenShut
import Derived.ShutString
import Derived.ChangeOld
import Derived.Below
import Derived.SizedLaws
namespace Go.Proofs.Ytgflelipamofoaa.campaignWritesRow
open Go.ChangeShapes Go.WideShapes Go.ChangeAt Go.RowKit
open Go.ChangeMaps (open_string shut_string)
open Go.Proofs.YtgflelipamofoaaW.PrintWords Go.Proofs.Ytgflelipamofoaa.PA Go.Proofs.Ytgflelipamofoaa.Own
set_option linter.unusedVariables false
theorem own : ownKnob Try.prog.godebug = none := by kernel_rfl
theorem laidOut : laidOutB Try.prog = true := by kernel_rfl
set_option maxRecDepth 100000 in
theorem op64 {H : Type} {enc : TypeId × Value → H} : Opn enc Try.prog 64 (Kd.pair (Kd.slice 97 k97) (Kd.slice 3 (Kd.int .i64))) (fun x => ((x.1.length ≤ maxLen ∧ ∀ z2 ∈ x.1, ((Lit.int .i64 z2.f0).wf = true ∧ z2.f1.size ≤ maxLen)) ∧ (x.2.length ≤ maxLen ∧ ∀ z1 ∈ x.2, (Lit.int .i64 z1).wf = true))) := (Opn.struct Try.underlying64 (by kernel_rfl) (OpnF.cons rfl (by kernel_rfl) (Opn.slice Try.underlying62 (by kernel_rfl) (Opn.iso (fun x : S97 => (x.f0, x.f1)) (fun y => ⟨y.1, y.2⟩) (fun _ => rfl) (Opn.struct Try.underlying97 (by kernel_rfl) (OpnF.cons rfl (by kernel_rfl) (Opn.int Try.underlying3) rfl (OpnF.one rfl (by kernel_rfl) (Opn.string Try.underlying9)))))) rfl (OpnF.one rfl (by kernel_rfl) (Opn.slice Try.underlying48 (by kernel_rfl) (Opn.int Try.underlying3)))))
set_option maxRecDepth 100000 in
set_option maxHeartbeats 1000000 in
theorem lifted (os : Os) (started : os.Started) (H : Type) (enc : TypeId × Value → H) :
    ReturnsInHanded {} Try.checked os 7 .any (Rows.campaignWritesSpec.pre6 enc Try.prog Try.f7 Rows.campaignWritesRow.domain false) (Rows.campaignWritesSpec.post enc Try.prog Try.f7 false true false false) := by
  refine returnsInHanded_of_change_sized (C := Try.checked) own started (by kernel_rfl) Try.func7
    (ChangeSpec.witness6 (enc := enc) (C := Try.checked) false ⟨#[], #[.string ByteArray.empty, .agg #[.slice none 0 0, .slice none 0 0]], []⟩ 8 (by kernel_rfl) (by kernel_rfl) (by kernel_rfl) (by kernel_rfl)) ?_
  intro W base args ds gs before hval0 hW hcnd hsz0 _
  have hval : ∀ (j : Nat) t v, Try.f7.params[j]? = some t → args[j]? = some v → Value.okWide Try.prog W .any base t v := hval0
  have hW' := hW
  obtain ⟨p, q, hA0, hV, rfl, hfz, hnd⟩ := hW
  have hA : DataW.TrodAll enc Try.prog W 0 (fun _ => true) true Try.f7.params.toList args.toList ds p := hA0
  rw [Try.params7] at hA hval
  obtain ⟨v0, vs0, d0, ds0, p0, q0, hargs, rfl, rfl, h0, r0⟩ := trodAll_cons hA
  obtain ⟨v1, vs1, d1, ds1, p1, q1, rfl, rfl, rfl, h1, r1⟩ := trodAll_cons r0
  obtain ⟨rfl, rfl, rfl⟩ := trodAll_nil r1
  obtain rfl : args = #[v0, v1] := by cases args; simp_all
  obtain ⟨rfl, rfl⟩ := trodVars_none hV
  have k0 := h0
  have lt0 : ∀ x ∈ p0, x.block < W.heap.size := by obtain ⟨m, hm⟩ := k0; exact DataW.trod_lt m _ _ _ hm
  obtain ⟨a0, rfl, rfl, rfl, hw0⟩ := open_string Try.underlying9 (hval 0 9 v0 rfl rfl) h0
  have k1 := h1
  have lt1 : ∀ x ∈ p1, x.block < W.heap.size := by obtain ⟨m, hm⟩ := k1; exact DataW.trod_lt m _ _ _ hm
  obtain ⟨cs1, rfl⟩ := agg_of Try.underlying64 (hval 1 64 v1 rfl rfl)
  obtain ⟨x1, hk1, hw1⟩ := op64.trod h1
  obtain ⟨ls1, hls1, hk1⟩ : ∃ ls, cs1.toList = ls ∧ ((Kd.pair (Kd.slice 97 k97) (Kd.slice 3 (Kd.int .i64)))).K W x1 ls := ⟨_, rfl, hk1⟩
  obtain ⟨_, _, rfl, ⟨A1_0, c1_0, rfl, hc1_0, hr1_0⟩, ⟨A1_1, c1_1, rfl, hc1_1, hr1_1⟩⟩ := hk1
  obtain rfl : cs1 = #[.slice A1_0 ((x1).1).length c1_0, .slice A1_1 ((x1).2).length c1_1] := by cases cs1; simpa using hls1
  obtain ⟨k, hp⟩ := pure_campaignWrites (a0) ((x1).1) ((x1).2) (hw0) ((hw1).1) ((hw1).2)
  refine (examinerlaw43_CampaignWrites.calls k (a0) A1_0 c1_0 ((x1).1) A1_1 c1_1 ((x1).2) true W hr1_0 hc1_0 hr1_1 hc1_1 hp).mono fun e W' he => ?_
  obtain ⟨rfl, bel0⟩ := he
  have bel : Below W.heap.size W W' := bel0
  exact ⟨_, rfl, _, _, _, [], _, [], hW', trodAll_mk1 (shut_bool Try.underlying4 _), (trodAll_cons_mk (Below.trod laidOut (by kernel_rfl) (of_decide_eq_true (by kernel_rfl)) k0 bel lt0) (trodAll_cons_mk (Below.trod laidOut (by kernel_rfl) (of_decide_eq_true (by kernel_rfl)) k1 bel lt1) trodAll_mk0)), rfl, bel.frame _, fun h => by cases h⟩
theorem over : Rows.campaignWritesRow.holds Try.pinned (OpenSpec.ofChange Rows.campaignWritesSpec) :=
  OpenClaim.holds_of_wide 7 Try.f7 rfl rfl rfl rfl rfl rfl rfl ⟨rfl, rfl, rfl, rfl, rfl⟩ rfl rfl rfl rfl rfl (by kernel_rfl) Try.func7 (by kernel_rfl)
    (of_decide_eq_true (by kernel_rfl)) (by unfold Func.isWrapper; first | (rw [if_pos (by decide +kernel)]; kernel_rfl) | (rw [if_neg (by decide +kernel)]; exact ⟨rfl, rfl⟩))
    (fun os started H enc _ => lifted os started H enc)
theorem proved : Rows.CampaignWritesSaid := over
#print axioms proved
end Go.Proofs.Ytgflelipamofoaa.campaignWritesRow
namespace Go.Proofs.Ytgflelipamofoaa
/-- The row, under a short name, for the claim. -/
theorem campaignWrites_holds : Rows.CampaignWritesSaid := campaignWritesRow.proved
end Go.Proofs.Ytgflelipamofoaa
