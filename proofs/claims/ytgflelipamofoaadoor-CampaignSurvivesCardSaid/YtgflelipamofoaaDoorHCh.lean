/- slices.Chunk over the call's own bytes, 32 at a time: the iterator's contract. -/
import Derived.RangeFuncNested
import Derived.RangeFuncBound
import Derived.RangeFuncCalls
import Derived.RangeFuncLeaves
import Derived.RangeFuncBox
import Derived.Shelf.Abstract
import Derived.Shelf.RegionOpen
import Derived.WalkKit
import Derived.OwnWalkIn
import Derived.TacticsInMore
import Derived.LoopNIn
import Derived.LoopIn
import Derived.BigRegionIn
import Derived.Maps.AppendAt
import Derived.Lib.Hide
import Derived.Lib.ConvBytes
import Derived.Test.YtgflelipamofoaaDoorWWords
import Derived.Test.YtgflelipamofoaaDoorPAx0
namespace Go.Proofs.YtgflelipamofoaaDoor.PA
open Go Go.RowKit Go.Shelf Go.Proofs.YtgflelipamofoaaDoorW.PrintWords Go.Proofs.YtgflelipamofoaaDoorW.PrintLast Go.Proofs.YtgflelipamofoaaDoorW.PrintMore
attribute [local go_sem] Oper.semAt_some
set_option linter.unusedVariables false
set_option linter.unusedSimpArgs false
/-- The three blocks that the iterator reads lie as they lay. -/
def KpC (b Bs Bn : Nat) (W W' : World) : Prop := W'.heap[b]? = W.heap[b]? ∧ W'.heap[Bs]? = W.heap[Bs]? ∧ W'.heap[Bn]? = W.heap[Bn]?
theorem KpC.trans {b Bs Bn : Nat} {A B C : World} (h : KpC b Bs Bn A B) (k : KpC b Bs Bn B C) : KpC b Bs Bn A C := ⟨k.1.trans h.1, k.2.1.trans h.2.1, k.2.2.trans h.2.2⟩
theorem KpC.refl (b Bs Bn : Nat) (W : World) : KpC b Bs Bn W W := ⟨rfl, rfl, rfl⟩
theorem cell_heap {W W' : World} {k o : Nat} (h : W'.heap[k]? = W.heap[k]?) : W'.cell? ⟨k, o, none⟩ = W.cell? ⟨k, o, none⟩ := by simp only [World.cell?, h]
set_option maxRecDepth 100000 in
set_option maxHeartbeats 2000000 in
theorem chunk1_in (F : Fence) (n : Nat) (h48 : F.fn 48) (hro : F.round = none) (hn : 1 ≤ n) (l b Bs Bn L cap N : Nat) (hL : L ≤ 100000) (hcap : L ≤ cap) (hcm : cap ≤ 9223372036854775807) (hN : N = (L + 31) / 32) (J Jx : List Nat → World → Prop)
    (hY : ∀ pre (x : Nat) W, J pre W → pre.length < N → x < N → YieldAt F (n - 1) Tryd.prog l #[.slice (some ⟨b, 32 * x, none⟩) (min 32 (L - 32 * x)) (min 32 (L - 32 * x))] W fun e W' =>
      (e = .returned (.bool true) ∧ J (pre ++ [x]) W' ∧ KpC b Bs Bn W W') ∨ (e = .returned (.bool false) ∧ Jx (pre ++ [x]) W'))
    (W : World) (hBs : W.cell? ⟨Bs, 0, none⟩ = some (.slice (some ⟨b, 0, none⟩) L cap)) (hBn : W.cell? ⟨Bn, 0, none⟩ = some (.int .i64 32)) (h0 : J [] W) (hJd : ∀ ys W, J ys W → J ys W.drew) :
    CallsIn F n Tryd.prog 48 #[.func (.yield l) #[] #[], .pointer (some ⟨Bs, 0, none⟩), .pointer (some ⟨Bn, 0, none⟩)] W fun e W' => (∃ v, e = .returned v) ∧
      ((∃ ys, ys = List.range N ∧ J ys W') ∨ (∃ pre, (∃ k, k ≤ N ∧ pre = List.range k) ∧ Jx pre W')) := by
  refine callsIn_of_wp Tryd.func48 rfl h48 ?_ hro
  simp only [Tryd.ntmps48, List.size_toArray, List.length_cons, List.length_nil, Nat.reduceAdd, Nat.reduceSub, Array.replicate_succ, Array.replicate_zero, List.push_toArray, List.append_toArray, List.nil_append, List.cons_append]
  gi_wp2
  gi_loopw [4] (fun i wr => ∃ k : Nat, k ≤ N ∧ i = .int .i64 (32 * (k : Int)) ∧ J (List.range k) wr ∧ KpC b Bs Bn W wr)
    (fun i _ => L + 32 - (intOf i).toNat)
  case atStart => exact ⟨0, Nat.zero_le _, rfl, h0, KpC.refl _ _ _ _⟩
  case round =>
    obtain ⟨k, hk, rfl, hJs, hK⟩ := hrel
    have hs := (cell_heap (o := 0) hK.2.1).trans hBs
    have hnn := (cell_heap (o := 0) hK.2.2).trans hBn
    by_cases hlt : 32 * k < L
    · obtain ⟨fn, tmps, assign, body, hy, hR⟩ := hY _ k wr.drew (hJd _ _ hJs) (by rw [List.length_range]; omega) (by omega)
      have q0 : (32 * (k : Int) < (L : Int)) = True := eq_true (by omega)
      have q1 : decide (32 * (k : Int) < (L : Int)) = true := decide_eq_true (by omega)
      by_cases c : ((L - 32 * k : Nat) : Int) < 32
      · rw [show min 32 (L - 32 * k) = L - 32 * k by omega] at hy
        have hlen : 32 * k + (L - 32 * k) - 32 * k = L - 32 * k := by omega
        gi_wp2
        gi_region
        all_goals gi_wp2
        all_goals
          refine hR.mono ?_
          rintro e W3 (⟨rfl, hJ3, hk3⟩ | ⟨rfl, hJx3⟩)
          · have hnn3 := (cell_heap (o := 0) hk3.2.2).trans hnn
            gi_wp2
            go_roundw
            case rel => exact ⟨k + 1, by omega, by first | (simp; omega) | (congr 1; omega), by rw [List.range_succ]; exact hJ3, hK.trans hk3⟩
            case measure => simp [intOf]; omega
          · gi_wp2
            refine bodyPost_ret (results_none rfl _ _ _) rfl ?_
            exact ⟨⟨_, rfl⟩, .inr ⟨_, ⟨k + 1, by omega, (List.range_succ).symm⟩, hJx3⟩⟩
      · rw [show min 32 (L - 32 * k) = 32 by omega] at hy
        have hlen : 32 * k + 32 - 32 * k = 32 := by omega
        gi_wp2
        gi_region
        all_goals gi_wp2
        all_goals
          refine hR.mono ?_
          rintro e W3 (⟨rfl, hJ3, hk3⟩ | ⟨rfl, hJx3⟩)
          · have hnn3 := (cell_heap (o := 0) hk3.2.2).trans hnn
            gi_wp2
            go_roundw
            case rel => exact ⟨k + 1, by omega, by first | (simp; omega) | (congr 1; omega), by rw [List.range_succ]; exact hJ3, hK.trans hk3⟩
            case measure => simp [intOf]; omega
          · gi_wp2
            refine bodyPost_ret (results_none rfl _ _ _) rfl ?_
            exact ⟨⟨_, rfl⟩, .inr ⟨_, ⟨k + 1, by omega, (List.range_succ).symm⟩, hJx3⟩⟩
    · have q1 : decide (32 * (k : Int) < (L : Int)) = false := decide_eq_false (by omega)
      gi_wp2
      go_end0
      exact ⟨⟨_, rfl⟩, .inl ⟨_, by rw [show k = N by omega], hJs⟩⟩
end Go.Proofs.YtgflelipamofoaaDoor.PA
