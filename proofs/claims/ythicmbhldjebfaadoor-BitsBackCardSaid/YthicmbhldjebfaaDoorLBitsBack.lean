/- The law 'BitsBack' of the given program: for every input it returns true, and its arguments read as they did. No condition; the two tables of unicode/utf8 are tied to the program's text. -/
import Derived.Test.YthicmbhldjebfaaDoorRows
import Derived.Test.YthicmbhldjebfaaDoorPAx28
import Derived.Test.YthicmbhldjebfaaDoorSBitsBack
import Derived.Test.YthicmbhldjebfaaDoorQBitsBack
import Derived.Test.YthicmbhldjebfaaDoorHOp
import Derived.Test.YthicmbhldjebfaaDoorCards
import Derived.Test.YthicmbhldjebfaaDoorTie
import Derived.Test.YthicmbhldjebfaaDoorHW
import Derived.Handed
import Derived.LaidLaws
import Derived.SevenTiedAt
import Derived.WalkKit
import Derived.ProofKit
import Derived.OpenShut
import Derived.ShutString
import Derived.ChangeOld
import Derived.Below
import Derived.SizedLaws
namespace Go.Proofs.YthicmbhldjebfaaDoor.bitsBackRow
open Go.ChangeShapes Go.WideShapes Go.ChangeAt Go.RowKit
open Go.ChangeMaps (open_string shut_string)
open Go.Proofs.YthicmbhldjebfaaDoorW.PrintWords Go.Proofs.YthicmbhldjebfaaDoor.PA Go.Proofs.YthicmbhldjebfaaDoor.Own
set_option linter.unusedVariables false
theorem own : ownKnob Tryd.prog.godebug = none := by kernel_rfl
theorem laidOut : laidOutB Tryd.prog = true := by kernel_rfl
set_option maxRecDepth 100000 in
theorem op22 {H : Type} {enc : TypeId × Value → H} : Opn enc Tryd.prog 22 (Kd.slice 66 k66) (fun x => (x.length ≤ maxLen ∧ ∀ z1 ∈ x, ((Lit.int .i64 z1.f0).wf = true ∧ ((Lit.int .i64 z1.f1).wf = true ∧ ((Lit.int .i64 z1.f2).wf = true ∧ z1.f3.size ≤ maxLen))))) := (Opn.slice Tryd.underlying22 (by kernel_rfl) (Opn.iso (fun x : S66 => (x.f0, x.f1, x.f2, x.f3)) (fun y => ⟨y.1, y.2.1, y.2.2.1, y.2.2.2⟩) (fun _ => rfl) (Opn.struct Tryd.underlying66 (by kernel_rfl) (OpnF.cons rfl (by kernel_rfl) (Opn.int Tryd.underlying3) rfl (OpnF.cons rfl (by kernel_rfl) (Opn.int Tryd.underlying3) rfl (OpnF.cons rfl (by kernel_rfl) (Opn.int Tryd.underlying3) rfl (OpnF.one rfl (by kernel_rfl) (Opn.string Tryd.underlying9))))))))
set_option maxRecDepth 100000 in
set_option maxHeartbeats 1000000 in
theorem lifted (os : Os) (started : os.Started) (H : Type) (enc : TypeId × Value → H) :
    ReturnsInHanded {} Tryd.checked os 10 .any (fun w args => (Rows.bitsBackSpec.pre enc Tryd.prog Tryd.f10 Rows.bitsBackRow.domain false w args ∧ laidMet Tryd.prog Own.laidTabs w) ∧ sizedMet enc Tryd.prog Tryd.f10 (OpenSpec.ofChange Rows.bitsBackSpec) false w args) (Rows.bitsBackSpec.post enc Tryd.prog Tryd.f10 false true false false) := by
  refine returnsInHanded_of_change_and (C := Tryd.checked) (X := fun w _ => laidMet Tryd.prog Own.laidTabs w) (fun _ _ _ hh h => h.of_heap hh) own started (by kernel_rfl) Tryd.func10
    (ChangeSpec.witness_at (enc := enc) (C := Tryd.checked) (os := os) (X := fun w _ => laidMet Tryd.prog Own.laidTabs w) false (Own.laidWorld os) #[.slice none 0 0, .int .i64 0, .string ByteArray.empty] 8 rfl (by kernel_rfl) (by kernel_rfl) (by kernel_rfl) (by kernel_rfl) (by kernel_rfl) (Own.laidWorld_met os _)) ?_
  intro W base args ds gs before hval0 hW hcnd hsz0 hL _
  have hval : ∀ (j : Nat) t v, Tryd.f10.params[j]? = some t → args[j]? = some v → Value.okWide Tryd.prog W .any base t v := hval0
  have hW' := hW
  obtain ⟨p, q, hA0, hV, rfl, hfz, hnd⟩ := hW
  have hA : DataW.TrodAll enc Tryd.prog W 0 (fun _ => true) true Tryd.f10.params.toList args.toList ds p := hA0
  rw [Tryd.params10] at hA hval
  obtain ⟨v0, vs0, d0, ds0, p0, q0, hargs, rfl, rfl, h0, r0⟩ := trodAll_cons hA
  obtain ⟨v1, vs1, d1, ds1, p1, q1, rfl, rfl, rfl, h1, r1⟩ := trodAll_cons r0
  obtain ⟨v2, vs2, d2, ds2, p2, q2, rfl, rfl, rfl, h2, r2⟩ := trodAll_cons r1
  obtain ⟨rfl, rfl, rfl⟩ := trodAll_nil r2
  obtain rfl : args = #[v0, v1, v2] := by cases args; simp_all
  obtain ⟨rfl, rfl⟩ := trodVars_none hV
  have k0 := h0
  have lt0 : ∀ x ∈ p0, x.block < W.heap.size := by obtain ⟨m, hm⟩ := k0; exact DataW.trod_lt m _ _ _ hm
  obtain ⟨A0, n0, c0, rfl⟩ := okWide_slice Tryd.underlying22 (hval 0 22 v0 rfl rfl)
  obtain ⟨l0, hk0, hw0⟩ := op22.trod h0
  obtain ⟨A0', c0', he0, hc0, hr0⟩ := hk0
  simp [Value.cells] at he0
  obtain ⟨rfl, rfl, rfl⟩ := he0
  have k1 := h1
  have lt1 : ∀ x ∈ p1, x.block < W.heap.size := by obtain ⟨m, hm⟩ := k1; exact DataW.trod_lt m _ _ _ hm
  obtain ⟨a1, rfl, rfl, rfl, hw1⟩ := open_int Tryd.underlying3 (hval 1 3 v1 rfl rfl) h1
  have k2 := h2
  have lt2 : ∀ x ∈ p2, x.block < W.heap.size := by obtain ⟨m, hm⟩ := k2; exact DataW.trod_lt m _ _ _ hm
  obtain ⟨a2, rfl, rfl, rfl, hw2⟩ := open_string Tryd.underlying9 (hval 2 9 v2 rfl rfl) h2
  obtain ⟨k, hp⟩ := pure_bitsBack (l0) (a1) (a2) (hw0) (hw1) (hw2)
  refine (examinerlaw08_BitsBack.calls k A0 c0 (l0) (a1) (a2) true W hr0 hc0 hp).mono fun e W' he => ?_
  obtain ⟨rfl, bel0⟩ := he
  have bel : Below W.heap.size W W' := bel0
  exact ⟨_, rfl, _, _, _, [], _, [], hW', trodAll_mk1 (shut_bool Tryd.underlying4 _), (trodAll_cons_mk (Below.trod laidOut (by kernel_rfl) (of_decide_eq_true (by kernel_rfl)) k0 bel lt0) (trodAll_cons_mk (Below.trod laidOut (by kernel_rfl) (of_decide_eq_true (by kernel_rfl)) k1 bel lt1) (trodAll_cons_mk (Below.trod laidOut (by kernel_rfl) (of_decide_eq_true (by kernel_rfl)) k2 bel lt2) trodAll_mk0))), rfl, bel.frame _, fun h => by cases h⟩
theorem over : Rows.bitsBackRow.holds Tryd.pinned (OpenSpec.ofChange Rows.bitsBackSpec) :=
  OpenClaim.holds_of_wide 10 Tryd.f10 rfl rfl rfl rfl rfl rfl rfl ⟨rfl, rfl, rfl, rfl, rfl⟩ rfl rfl rfl rfl rfl (by kernel_rfl) Tryd.func10 (by kernel_rfl)
    (of_decide_eq_true (by kernel_rfl)) (by unfold Func.isWrapper; first | (rw [if_pos (by decide +kernel)]; kernel_rfl) | (rw [if_neg (by decide +kernel)]; exact ⟨rfl, rfl⟩))
    (fun os started H enc _ => lifted os started H enc)
theorem proved : Rows.BitsBackCardSaid :=
  Claim7.holds_tied_plain_at .later [] [.data, .pinned] true (true, "45439e038e261c86cb198b44cfe887e073bdb142c048801a57b743eff58ae2c3") false
    over (fun _ h => by cases h) (by kernel_rfl) (fun _ h => by cases h) bitsBack_row_tie rfl ⟨rfl, rfl⟩ (by kernel_rfl) rfl
    (fun f fn hf hfn => by
      obtain rfl : f = 10 := (Option.some.inj ((show Tryd.prog.funcNamed Rows.bitsBackRow.func = some 10 by kernel_rfl).symm.trans hf)).symm
      obtain rfl : fn = Tryd.f10 := (Option.some.inj (Tryd.func10.symm.trans hfn)).symm
      refine ⟨by kernel_rfl, fun j t ht => ?_⟩
      have ha : Tryd.f10.params.all (fun t => !Tryd.prog.wantsStandIn t) = true := by kernel_rfl
      obtain ⟨hj, rfl⟩ := Array.getElem?_eq_some_iff.1 ht
      have := (Array.all_eq_true.1 ha) j hj
      rw [Bool.not_eq_true'] at this
      exact this)
    (by kernel_rfl)
#print axioms proved
end Go.Proofs.YthicmbhldjebfaaDoor.bitsBackRow
namespace Go.Proofs.YthicmbhldjebfaaDoor
/-- The card, under a short name, for the claim. -/
theorem bitsBack_holds : Rows.BitsBackCardSaid := bitsBackRow.proved
end Go.Proofs.YthicmbhldjebfaaDoor
