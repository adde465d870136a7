/- The law 'RawTables' of the given program: for every input it returns true, and its arguments read as they did. No condition. -/
import Derived.Test.YtgnnakibcjonbaaGreatDoorRows
import Derived.Test.YtgnnakibcjonbaaGreatDoorM12
import Derived.Test.YtgnnakibcjonbaaGreatDoorCards
import Derived.Test.YtgnnakibcjonbaaGreatDoorTie
import Derived.WalkKit
import Derived.ProofKit
import Derived.OpenShut
import Derived.ShutString
import Derived.ChangeOld
import Derived.Below
import Derived.SizedLaws
import Derived.Handed
import Derived.LaidLaws
import Derived.Lay
import Derived.SevenTiedAt
namespace Go.Proofs.YtgnnakibcjonbaaGreatDoor.rawTables
open Go Go.ChangeShapes Go.WideShapes Go.ChangeAt Go.RowKit Go.Proofs.YtgnnakibcjonbaaGreatDoor.VE
open Go.ChangeMaps (open_string shut_string)
set_option linter.unusedVariables false
theorem own : ownKnob Tryz.prog.godebug = none := by kernel_rfl
theorem laidOut : laidOutB Tryz.prog = true := by kernel_rfl
def laidTabs : List (String × DataW Unit) := [("unicode/utf8.acceptRanges", Rows.laid_unicode_utf8_acceptRanges), ("unicode/utf8.first", Rows.laid_unicode_utf8_first)]
/-- The package-level variable that may be read. -/
theorem gw {W : World} (h : W.ShapedOpen Tryz.prog) : GW W := GW.of_shaped (P := Tryz.prog) (of_decide_eq_true (by kernel_rfl)) (zero := #[.int .i64 0]) (t := 3) (by kernel_rfl) rfl (by kernel_rfl) (by kernel_rfl) Tryz.underlying3 h
set_option maxRecDepth 100000 in
theorem op128 : ∀ m, OpnV Tryz.prog m 128 (SApp (SInt .i64) (SApp (SInt .i64) SStr))
  | 0 => OpnV.zero
  | m + 1 => OpnV.struct (m := 3) Tryz.underlying128 (by kernel_rfl) (OpnFV.cons (m := 1) (m' := 2) rfl (by kernel_rfl) (OpnV.int Tryz.underlying3) (OpnFV.cons (m := 1) (m' := 1) rfl (by kernel_rfl) (OpnV.int Tryz.underlying3) (OpnFV.one (m := 1) rfl (by kernel_rfl) (OpnV.string Tryz.underlying9))))
set_option maxRecDepth 100000 in
theorem op47 : ∀ m, OpnV Tryz.prog m 47 (SSl 3 (SApp (SInt .i64) (SApp (SInt .i64) SStr)))
  | 0 => OpnV.zero
  | m + 1 => OpnV.slice (m := 3) Tryz.underlying47 (by kernel_rfl) (by decide) (SApp.len SInt.len (SApp.len SInt.len SStr.len)) (op128 m)
set_option maxRecDepth 100000 in
theorem op49 : ∀ m, OpnV Tryz.prog m 49 (SApp SStr (SApp (SInt .i64) (SApp (SInt .i64) (SApp SBool (SApp SBool (SApp (SInt .i64) (SApp SStr (SApp (SInt .i64) (SSl 3 (SApp (SInt .i64) (SApp (SInt .i64) SStr)))))))))))
  | 0 => OpnV.zero
  | m + 1 => OpnV.struct (m := 9) Tryz.underlying49 (by kernel_rfl) (OpnFV.cons (m := 1) (m' := 8) rfl (by kernel_rfl) (OpnV.string Tryz.underlying9) (OpnFV.cons (m := 1) (m' := 7) rfl (by kernel_rfl) (OpnV.int Tryz.underlying3) (OpnFV.cons (m := 1) (m' := 6) rfl (by kernel_rfl) (OpnV.int Tryz.underlying3) (OpnFV.cons (m := 1) (m' := 5) rfl (by kernel_rfl) (OpnV.bool Tryz.underlying4) (OpnFV.cons (m := 1) (m' := 4) rfl (by kernel_rfl) (OpnV.bool Tryz.underlying4) (OpnFV.cons (m := 1) (m' := 3) rfl (by kernel_rfl) (OpnV.int Tryz.underlying3) (OpnFV.cons (m := 1) (m' := 2) rfl (by kernel_rfl) (OpnV.string Tryz.underlying9) (OpnFV.cons (m := 1) (m' := 1) rfl (by kernel_rfl) (OpnV.int Tryz.underlying3) (OpnFV.one (m := 1) rfl (by kernel_rfl) (op47 m))))))))))
set_option maxRecDepth 100000 in
theorem op35 : ∀ m, OpnV Tryz.prog m 35 (SSl 9 (SApp SStr (SApp (SInt .i64) (SApp (SInt .i64) (SApp SBool (SApp SBool (SApp (SInt .i64) (SApp SStr (SApp (SInt .i64) (SSl 3 (SApp (SInt .i64) (SApp (SInt .i64) SStr))))))))))))
  | 0 => OpnV.zero
  | m + 1 => OpnV.slice (m := 9) Tryz.underlying35 (by kernel_rfl) (by decide) (SApp.len SStr.len (SApp.len SInt.len (SApp.len SInt.len (SApp.len SBool.len (SApp.len SBool.len (SApp.len SInt.len (SApp.len SStr.len (SApp.len SInt.len SSl.len)))))))) (op49 m)
set_option maxRecDepth 100000 in
theorem op37 : ∀ m, OpnV Tryz.prog m 37 (SApp SStr (SApp (SSl 9 (SApp SStr (SApp (SInt .i64) (SApp (SInt .i64) (SApp SBool (SApp SBool (SApp (SInt .i64) (SApp SStr (SApp (SInt .i64) (SSl 3 (SApp (SInt .i64) (SApp (SInt .i64) SStr)))))))))))) SBool))
  | 0 => OpnV.zero
  | m + 1 => OpnV.struct (m := 3) Tryz.underlying37 (by kernel_rfl) (OpnFV.cons (m := 1) (m' := 2) rfl (by kernel_rfl) (OpnV.string Tryz.underlying9) (OpnFV.cons (m := 1) (m' := 1) rfl (by kernel_rfl) (op35 m) (OpnFV.one (m := 1) rfl (by kernel_rfl) (OpnV.bool Tryz.underlying4))))
set_option maxRecDepth 100000 in
theorem op22 : ∀ m, OpnV Tryz.prog m 22 (SSl 3 (SApp SStr (SApp (SSl 9 (SApp SStr (SApp (SInt .i64) (SApp (SInt .i64) (SApp SBool (SApp SBool (SApp (SInt .i64) (SApp SStr (SApp (SInt .i64) (SSl 3 (SApp (SInt .i64) (SApp (SInt .i64) SStr)))))))))))) SBool)))
  | 0 => OpnV.zero
  | m + 1 => OpnV.slice (m := 3) Tryz.underlying22 (by kernel_rfl) (by decide) (SApp.len SStr.len (SApp.len SSl.len SBool.len)) (op37 m)
set_option maxRecDepth 100000 in
set_option maxHeartbeats 1000000 in
theorem lifted (os : Os) (started : os.Started) (H : Type) (enc : TypeId × Value → H) :
    ReturnsInHanded {} Tryz.checked os 4 .any (fun w args => (Rows.rawTablesSpec.pre enc Tryz.prog Tryz.f4 Rows.rawTablesRow.domain false w args ∧ laidMet Tryz.prog laidTabs w) ∧ sizedMet enc Tryz.prog Tryz.f4 (OpenSpec.ofChange Rows.rawTablesSpec) false w args) (Rows.rawTablesSpec.post enc Tryz.prog Tryz.f4 false true false false) := by
  refine returnsInHanded_of_change_shaped (C := Tryz.checked) (X := (fun w _ => laidMet Tryz.prog laidTabs w)) (fun _ _ _ hh h => h.of_heap hh) own started (by kernel_rfl) Tryz.func4
    (ChangeSpec.witness_shaped (enc := enc) (C := Tryz.checked) (os := os) (X := (fun w _ => laidMet Tryz.prog laidTabs w)) false (World.laidAll Tryz.prog os laidTabs) #[.slice none 0 0, .string ByteArray.empty] 8 (World.laidAll_os _ _ _) (World.shaped_of_ZipB (by kernel_rfl) (by kernel_rfl)) (by kernel_rfl) (by kernel_rfl) (by kernel_rfl) (laidMet_laidAll _ (by kernel_rfl) (by kernel_rfl))) ?_
  intro W base args ds gs before hsh hval0 hW hcnd hsz0 hL _
  have hval : ∀ (j : Nat) t v, Tryz.f4.params[j]? = some t → args[j]? = some v → Value.okWide Tryz.prog W .any base t v := hval0
  have hW' := hW
  obtain ⟨p, q, hA0, hV, rfl, hfz, hnd⟩ := hW
  have hA : DataW.TrodAll enc Tryz.prog W 0 (fun _ => true) true Tryz.f4.params.toList args.toList ds p := hA0
  rw [Tryz.params4] at hA hval
  obtain ⟨v0, vs0, d0, ds0, p0, q0, hargs, rfl, rfl, h0, r0⟩ := trodAll_cons hA
  obtain ⟨v1, vs1, d1, ds1, p1, q1, rfl, rfl, rfl, h1, r1⟩ := trodAll_cons r0
  obtain ⟨rfl, rfl, rfl⟩ := trodAll_nil r1
  obtain rfl : args = #[v0, v1] := by cases args; simp_all
  obtain ⟨rfl, rfl⟩ := trodVars_none hV
  have k0 := h0
  have lt0 : ∀ x ∈ p0, x.block < W.heap.size := by obtain ⟨m, hm⟩ := k0; exact DataW.trod_lt m _ _ _ hm
  obtain ⟨m0, hm0⟩ := h0
  obtain ⟨e0, hx0, cv0⟩ := op22 m0 enc W _ _ _ _ _ _ hm0
  obtain ⟨x0, rfl, hwx0, hsx0⟩ := hx0
  have c0 : v0.cells.toList = [v0] := by obtain ⟨a, l, c, rfl⟩ := okWide_slice Tryz.underlying22 (hval 0 22 v0 rfl rfl); rfl
  rw [c0] at cv0
  have k1 := h1
  have lt1 : ∀ x ∈ p1, x.block < W.heap.size := by obtain ⟨m, hm⟩ := k1; exact DataW.trod_lt m _ _ _ hm
  obtain ⟨a1, rfl, rfl, rfl, hw1⟩ := open_string Tryz.underlying9 (hval 1 9 v1 rfl rfl) h1
  obtain ⟨l, rfl⟩ := lys_of hsx0
  refine (PureOk.law (t4 l a1) trivial (gw hsh) (Gs.cons' cv0.d (Gs.cons' (by rw [G, Rd]) Gs.nil'))).mono fun e W' ⟨he, bel⟩ => ?_
  subst he
  exact ⟨_, rfl, _, _, _, [], _, [], hW', trodAll_mk1 (shut_bool Tryz.underlying4 _), (trodAll_cons_mk (Below.trod laidOut (by kernel_rfl) (of_decide_eq_true (by kernel_rfl)) k0 bel lt0) (trodAll_cons_mk (Below.trod laidOut (by kernel_rfl) (of_decide_eq_true (by kernel_rfl)) k1 bel lt1) trodAll_mk0)), rfl, bel.frame _, fun h => by cases h⟩
theorem over : Rows.rawTablesRow.holds Tryz.pinned (OpenSpec.ofChange Rows.rawTablesSpec) :=
  OpenClaim.holds_of_wide 4 Tryz.f4 rfl rfl rfl rfl rfl rfl rfl ⟨rfl, rfl, rfl, rfl, rfl⟩ rfl rfl rfl rfl rfl (by kernel_rfl) Tryz.func4 (by kernel_rfl)
    (of_decide_eq_true (by kernel_rfl)) (by unfold Func.isWrapper; first | (rw [if_pos (by decide +kernel)]; kernel_rfl) | (rw [if_neg (by decide +kernel)]; exact ⟨rfl, rfl⟩))
    (fun os started H enc _ => lifted os started H enc)
theorem proved : Rows.RawTablesCardSaid :=
  Claim7.holds_tied_plain_at .later [] [.data, .pinned] true (true, "c8ecf5cb714340c53db32c2777dadd9382c7c82c3d440d988e6e2587b61e35c8") false
    over (fun _ h => by cases h) (by kernel_rfl) (fun _ h => by cases h) rawTables_row_tie rfl ⟨rfl, rfl⟩ (by kernel_rfl) rfl
    (fun f fn hf hfn => by
      obtain rfl : f = 4 := (Option.some.inj ((show Tryz.prog.funcNamed Rows.rawTablesRow.func = some 4 by kernel_rfl).symm.trans hf)).symm
      obtain rfl : fn = Tryz.f4 := (Option.some.inj (Tryz.func4.symm.trans hfn)).symm
      refine ⟨by kernel_rfl, fun j t ht => ?_⟩
      have ha : Tryz.f4.params.all (fun t => !Tryz.prog.wantsStandIn t) = true := by kernel_rfl
      obtain ⟨hj, rfl⟩ := Array.getElem?_eq_some_iff.1 ht
      have := (Array.all_eq_true.1 ha) j hj
      rw [Bool.not_eq_true'] at this
      exact this)
    (by kernel_rfl)
#print axioms proved
end Go.Proofs.YtgnnakibcjonbaaGreatDoor.rawTables
namespace Go.Proofs.YtgnnakibcjonbaaGreatDoor
/-- The statement, under a short name, for the claim. -/
theorem rawTables_holds : Rows.RawTablesCardSaid := rawTables.proved
end Go.Proofs.YtgnnakibcjonbaaGreatDoor
