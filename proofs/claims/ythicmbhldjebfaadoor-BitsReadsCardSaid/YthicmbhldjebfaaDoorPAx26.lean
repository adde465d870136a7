-- Laid by pp.py (a program of this session, over the kit's printer) out of the translation. Not trusted: Lean checks it.
import Derived.Test.YthicmbhldjebfaaDoorPAx0
import Derived.Test.YthicmbhldjebfaaDoorPAx7
import Derived.Test.YthicmbhldjebfaaDoorPAx8
import Derived.Test.YthicmbhldjebfaaDoorPAx10
import Derived.Test.YthicmbhldjebfaaDoorPAx11
namespace Go.Proofs.YthicmbhldjebfaaDoor.PA
open Go.RowKit Go.Proofs.YthicmbhldjebfaaDoorW.PrintWords Go.Proofs.YthicmbhldjebfaaDoorW.PrintLast Go.Proofs.YthicmbhldjebfaaDoorW.PrintMore
attribute [local go_sem] max2_int min2_int max_two min_two max_three min_three max_four min_four   -- for this text's walks alone
set_option linter.unusedVariables false
set_option linter.unusedSimpArgs false

/-! ### examinerref08_Read: function 52 -/
mutual
def examinerref08_Read.l0 : Nat → ByteArray → List (S66) → Int → List (S66) → Int → Int → Option ((List (S66)) × Int × Int)
  | 0, _, _, _, _, _, _ => none
  | k + 1, x0, x1, x7, x440000, x440001, x440002 => if x7 < (x1.length : Int) then (if 0 ≤ x7 then ((examinerbase_Within.f ((rd_T66 x1 x7).f0) 0 3).bind fun t441 => (if t441 = true then ((examinerref08_widthErr.f ((rd_T66 x1 x7).f0) ((rd_T66 x1 x7).f1) ((rd_T66 x1 x7).f2) ((rd_T66 x1 x7).f3)).bind fun t443 => (if t443 = 0 then (if ((rd_T66 x1 x7).f0) = 2 then (examinerref08_Read.j1 k x0 x1 x7 (wrap64 (8 * ((rd_T66 x1 x7).f1))) x440000 x440001 x440002 ((rd_T66 x1 x7).f0) ((rd_T66 x1 x7).f1) 0 (⟨#[]⟩ : ByteArray)) else (examinerref08_Read.j1 k x0 x1 x7 ((rd_T66 x1 x7).f1) x440000 x440001 x440002 ((rd_T66 x1 x7).f0) ((rd_T66 x1 x7).f1) 0 (⟨#[]⟩ : ByteArray))) else (some (([] : List (S66)), x7, t443)))) else (some (([] : List (S66)), x7, 4)))) else (none)) else (some (x440000, x440001, x440002))
def examinerref08_Read.j1 : Nat → ByteArray → List (S66) → Int → Int → List (S66) → Int → Int → Int → Int → Int → ByteArray → Option ((List (S66)) × Int × Int)
  | 0, _, _, _, _, _, _, _, _, _, _, _ => none
  | k + 1, x0, x1, x7, x10, x440000, x440001, x440002, x447000, x447001, x447002, x447003 => if x447000 = 3 then ((examinerref08_Padding.f x440001).bind fun t447 => (examinerref08_Read.j2 k x0 x1 x7 t447 x440000 x440001 x440002 x447000 x447001 x447002 x447003)) else (examinerref08_Read.j2 k x0 x1 x7 x10 x440000 x440001 x440002 x447000 x447001 x447002 x447003)
def examinerref08_Read.j2 : Nat → ByteArray → List (S66) → Int → Int → List (S66) → Int → Int → Int → Int → Int → ByteArray → Option ((List (S66)) × Int × Int)
  | 0, _, _, _, _, _, _, _, _, _, _, _ => none
  | k + 1, x0, x1, x7, x10, x440000, x440001, x440002, x447000, x447001, x447002, x447003 => if (wrap64 (x440001 + x10)) > (x0.size : Int) then (some (([] : List (S66)), x7, 9)) else (if 0 ≤ x440001 then (if x440001 ≤ (wrap64 (x440001 + x10)) then (if (wrap64 (x440001 + x10)) ≤ (x0.size : Int) then (if x447000 = 0 then ((examinerref08_Number.f k (x0.extract (x440001 : Int).toNat ((wrap64 (x440001 + x10)) : Int).toNat)).bind fun t448 => (if t448 > 1152921504606846976 then (some (([] : List (S66)), x7, 25)) else (if x440000.length < 3518437208883 then (examinerref08_Read.l0 k x0 x1 (wrap64 (x7 + 1)) (x440000 ++ [(⟨x447000, x447001, t448, x447003⟩ : S66)]) (wrap64 (x440001 + x10)) x440002) else (none)))) else (if x447000 = 1 then (if x440000.length < 3518437208883 then (examinerref08_Read.l0 k x0 x1 (wrap64 (x7 + 1)) (x440000 ++ [(⟨x447000, x447001, x447002, x0.extract (x440001 : Int).toNat ((wrap64 (x440001 + x10)) : Int).toNat⟩ : S66)]) (wrap64 (x440001 + x10)) x440002) else (none)) else (if x447000 = 2 then ((examinerref08_Pack.f k (x0.extract (x440001 : Int).toNat ((wrap64 (x440001 + x10)) : Int).toNat)).bind fun t455 => (if x440000.length < 3518437208883 then (examinerref08_Read.l0 k x0 x1 (wrap64 (x7 + 1)) (x440000 ++ [(⟨x447000, x447001, x447002, t455⟩ : S66)]) (wrap64 (x440001 + x10)) x440002) else (none))) else (if x447000 = 3 then ((examinerref08_Zeros.f k x10).bind fun t459 => (if (x0.extract (x440001 : Int).toNat ((wrap64 (x440001 + x10)) : Int).toNat).toList = t459.toList then (if x440000.length < 3518437208883 then (examinerref08_Read.l0 k x0 x1 (wrap64 (x7 + 1)) (x440000 ++ [(⟨x447000, x447001, x447002, x447003⟩ : S66)]) (wrap64 (x440001 + x10)) x440002) else (none)) else (some (([] : List (S66)), x7, 5)))) else (if x440000.length < 3518437208883 then (examinerref08_Read.l0 k x0 x1 (wrap64 (x7 + 1)) (x440000 ++ [(⟨x447000, x447001, x447002, x447003⟩ : S66)]) (wrap64 (x440001 + x10)) x440002) else (none)))))) else (none)) else (none)) else (none))
end
def examinerref08_Read.f (k : Nat) (a0 : ByteArray) (l1 : List (S66)) : Option ((List (S66)) × Int × Int) := (examinerref08_BitsErr.f k a0).bind fun t438 => (if t438 = 0 then (if (l1.length : Int) > 1000 then (some (([] : List (S66)), 0, 2)) else (examinerref08_Read.l0 k a0 l1 0 ([] : List (S66)) 0 0)) else (some (([] : List (S66)), 0, t438)))
theorem examinerref08_Read.mono_l : ∀ k, (∀ y0 y1 y2 y3 y4 y5, LeO (examinerref08_Read.l0 k y0 y1 y2 y3 y4 y5) (examinerref08_Read.l0 (k + 1) y0 y1 y2 y3 y4 y5)) ∧ (∀ y0 y1 y2 y3 y4 y5 y6 y7 y8 y9 y10, LeO (examinerref08_Read.j1 k y0 y1 y2 y3 y4 y5 y6 y7 y8 y9 y10) (examinerref08_Read.j1 (k + 1) y0 y1 y2 y3 y4 y5 y6 y7 y8 y9 y10)) ∧ (∀ y0 y1 y2 y3 y4 y5 y6 y7 y8 y9 y10, LeO (examinerref08_Read.j2 k y0 y1 y2 y3 y4 y5 y6 y7 y8 y9 y10) (examinerref08_Read.j2 (k + 1) y0 y1 y2 y3 y4 y5 y6 y7 y8 y9 y10))
  | 0 => ⟨fun _ _ _ _ _ _ r h => by simp [examinerref08_Read.l0] at h, fun _ _ _ _ _ _ _ _ _ _ _ r h => by simp [examinerref08_Read.j1] at h, fun _ _ _ _ _ _ _ _ _ _ _ r h => by simp [examinerref08_Read.j2] at h⟩
  | k + 1 => by
    obtain ⟨ih0, ih1, ih2⟩ := examinerref08_Read.mono_l k
    refine ⟨?_, ?_, ?_⟩
    · intro y0 y1 y2 y3 y4 y5
      unfold examinerref08_Read.l0
      repeat' first
      | (with_reducible exact ih0 _ _ _ _ _ _)
      | (with_reducible exact ih1 _ _ _ _ _ _ _ _ _ _ _)
      | (with_reducible exact ih2 _ _ _ _ _ _ _ _ _ _ _)
      | (with_reducible exact examinerref08_BitsErr.mono _ _)
      | (with_reducible exact examinerref08_Number.mono _ _)
      | (with_reducible exact examinerref08_Pack.mono _ _)
      | (with_reducible exact examinerref08_Zeros.mono _ _)
      | (with_reducible exact LeO.refl _)
      | (with_reducible exact LeO.none _)
      | (with_reducible refine LeO.ite ?_ ?_)
      | (with_reducible refine LeO.bind ?_ (fun _ => ?_))
      | exact ih0 _ _ _ _ _ _
      | exact ih1 _ _ _ _ _ _ _ _ _ _ _
      | exact ih2 _ _ _ _ _ _ _ _ _ _ _
      | exact examinerref08_BitsErr.mono _ _
      | exact examinerref08_Number.mono _ _
      | exact examinerref08_Pack.mono _ _
      | exact examinerref08_Zeros.mono _ _
      | exact LeO.none _
      | refine LeO.ite ?_ ?_
      | refine LeO.bind ?_ (fun _ => ?_)
    · intro y0 y1 y2 y3 y4 y5 y6 y7 y8 y9 y10
      unfold examinerref08_Read.j1
      repeat' first
      | (with_reducible exact ih0 _ _ _ _ _ _)
      | (with_reducible exact ih1 _ _ _ _ _ _ _ _ _ _ _)
      | (with_reducible exact ih2 _ _ _ _ _ _ _ _ _ _ _)
      | (with_reducible exact examinerref08_BitsErr.mono _ _)
      | (with_reducible exact examinerref08_Number.mono _ _)
      | (with_reducible exact examinerref08_Pack.mono _ _)
      | (with_reducible exact examinerref08_Zeros.mono _ _)
      | (with_reducible exact LeO.refl _)
      | (with_reducible exact LeO.none _)
      | (with_reducible refine LeO.ite ?_ ?_)
      | (with_reducible refine LeO.bind ?_ (fun _ => ?_))
      | exact ih0 _ _ _ _ _ _
      | exact ih1 _ _ _ _ _ _ _ _ _ _ _
      | exact ih2 _ _ _ _ _ _ _ _ _ _ _
      | exact examinerref08_BitsErr.mono _ _
      | exact examinerref08_Number.mono _ _
      | exact examinerref08_Pack.mono _ _
      | exact examinerref08_Zeros.mono _ _
      | exact LeO.none _
      | refine LeO.ite ?_ ?_
      | refine LeO.bind ?_ (fun _ => ?_)
    · intro y0 y1 y2 y3 y4 y5 y6 y7 y8 y9 y10
      unfold examinerref08_Read.j2
      repeat' first
      | (with_reducible exact ih0 _ _ _ _ _ _)
      | (with_reducible exact ih1 _ _ _ _ _ _ _ _ _ _ _)
      | (with_reducible exact ih2 _ _ _ _ _ _ _ _ _ _ _)
      | (with_reducible exact examinerref08_BitsErr.mono _ _)
      | (with_reducible exact examinerref08_Number.mono _ _)
      | (with_reducible exact examinerref08_Pack.mono _ _)
      | (with_reducible exact examinerref08_Zeros.mono _ _)
      | (with_reducible exact LeO.refl _)
      | (with_reducible exact LeO.none _)
      | (with_reducible refine LeO.ite ?_ ?_)
      | (with_reducible refine LeO.bind ?_ (fun _ => ?_))
      | exact ih0 _ _ _ _ _ _
      | exact ih1 _ _ _ _ _ _ _ _ _ _ _
      | exact ih2 _ _ _ _ _ _ _ _ _ _ _
      | exact examinerref08_BitsErr.mono _ _
      | exact examinerref08_Number.mono _ _
      | exact examinerref08_Pack.mono _ _
      | exact examinerref08_Zeros.mono _ _
      | exact LeO.none _
      | refine LeO.ite ?_ ?_
      | refine LeO.bind ?_ (fun _ => ?_)
theorem examinerref08_Read.mono : ∀ a0 a1 k, LeO (examinerref08_Read.f k a0 a1) (examinerref08_Read.f (k + 1) a0 a1) := by
  intro a0 a1 k
  obtain ⟨ih0, ih1, ih2⟩ := examinerref08_Read.mono_l k
  unfold examinerref08_Read.f
  repeat' first
      | (with_reducible exact ih0 _ _ _ _ _ _)
      | (with_reducible exact ih1 _ _ _ _ _ _ _ _ _ _ _)
      | (with_reducible exact ih2 _ _ _ _ _ _ _ _ _ _ _)
      | (with_reducible exact examinerref08_BitsErr.mono _ _)
      | (with_reducible exact examinerref08_Number.mono _ _)
      | (with_reducible exact examinerref08_Pack.mono _ _)
      | (with_reducible exact examinerref08_Zeros.mono _ _)
      | (with_reducible exact LeO.refl _)
      | (with_reducible exact LeO.none _)
      | (with_reducible refine LeO.ite ?_ ?_)
      | (with_reducible refine LeO.bind ?_ (fun _ => ?_))
      | exact ih0 _ _ _ _ _ _
      | exact ih1 _ _ _ _ _ _ _ _ _ _ _
      | exact ih2 _ _ _ _ _ _ _ _ _ _ _
      | exact examinerref08_BitsErr.mono _ _
      | exact examinerref08_Number.mono _ _
      | exact examinerref08_Pack.mono _ _
      | exact examinerref08_Zeros.mono _ _
      | exact LeO.none _
      | refine LeO.ite ?_ ?_
      | refine LeO.bind ?_ (fun _ => ?_)
def examinerref08_Read.T15 : Bool × List (List Nat × List Nat) := (true, [([], []), ([], []), ([0, 1], [0, 1]), ([2], [2]), ([3], [3]), ([], []), ([], []), ([5, 6], [5, 6]), ([7], [7]), ([8], [8]), ([4, 9], [4, 9]), ([], []), ([11, 10, 0, 1, 2, 3, 4, 5, 6, 7, 8, 9, 10, 11], [10, 11])])
def examinerref08_Read.B15 : List Nat := [0, 0, 3, 7, 15, 0, 0, 96, 224, 480, 1023, 0, 4095]
theorem examinerref08_Read.tab15 : rtab .any (opsOf Tryd.f52 15) = examinerref08_Read.T15 := by kernel_rfl
theorem examinerref08_Read.bits15 : waitsOk examinerref08_Read.T15.2 examinerref08_Read.B15 = true := by kernel_rfl
set_option maxHeartbeats 8000000 in
set_option maxRecDepth 100000 in
theorem examinerref08_Read.calls (k : Nat) (a0 : ByteArray) (A1 : Option Addr) (c1 : Nat) (l1 : List (S66)) (r1 : List (S66)) (r2 : Int) (r3 : Int) (w : World) (hr1 : Kd.C k66 w A1 l1.length l1) (hc1 : l1.length ≤ c1) (h : examinerref08_Read.f k a0 l1 = some (r1, r2, r3)) :
    Calls Tryd.prog 52 #[.string a0, .slice A1 l1.length c1] w fun e w' => ∃ v0_ : Value, e = .returned (.agg #[v0_, .int .i64 r2, .int .i64 r3]) ∧ Kd.R k66 66 w' w.heap.size (fun _ => True) v0_ r1 ∧ Below w.heap.size w w' := by
  have hu60 := Tryd.underlying60
  have hu66 := Tryd.underlying66
  have HR1 := Aside0.mk hr1
  have HC1 := Aside0.mk hc1
  clear hr1 hc1
  have HB := Aside0.mk (Below.refl w.heap.size w)
  have H : ((examinerref08_BitsErr.f k a0).bind fun t438 => (if t438 = 0 then (if (l1.length : Int) > 1000 then (some (([] : List (S66)), 0, 2)) else (examinerref08_Read.l0 k a0 l1 0 ([] : List (S66)) 0 0)) else (some (([] : List (S66)), 0, t438)))) = some (r1, r2, r3) := h
  clear h
  replace H := Option.bind_eq_some_iff.mp H
  obtain ⟨t438, A30, H⟩ := H
  replace H : (if t438 = 0 then (if (l1.length : Int) > 1000 then (some (([] : List (S66)), 0, 2)) else (examinerref08_Read.l0 k a0 l1 0 ([] : List (S66)) 0 0)) else (some (([] : List (S66)), 0, t438))) = some (r1, r2, r3) := H
  have A3 := Aside0.mk A30
  clear A30
  by_cases c4 : t438 = 0
  · rw [if_pos c4] at H
    have c4b0 : (t438 == 0) = true := beq_iff_eq.mpr c4
    have c4b1 : (t438 != 0) = false := bne_eq_false_iff_eq.mpr c4
    clear c4
    by_cases c5 : (l1.length : Int) > 1000
    · rw [if_pos c5] at H
      have c5b0 : decide (1000 < (l1.length : Int)) = true := decide_eq_true c5
      have c5b1 : decide (1000 < l1.length) = true := decide_eq_true (by omega)
      clear c5
      simp only [Option.some.injEq, Prod.mk.injEq] at H
      obtain ⟨rfl, rfl, rfl⟩ := H
      go_enter Tryd.func52, Tryd.ntmps52
      go_wp2_with (first | ((with_reducible refine gate_dst (N := 4) rfl ?_); refine box_event ?hg (N := 4) ?hd (cs := #[.slice none 0 0, .int .i64 0, .int .i64 0]) (t := 60) ?hr ?_; (case hd => rfl); (case hg => rfl); (case hr => first | (go_simp; done) | (go_simp; rfl)); intro gb437 hg w6 hbox hb; have n0_ := Aside0.mk (below_step (by repeat (first | (with_reducible first | exact HB.out | apply below_alloc | apply pw_below_drewN | apply below_drew1) | exact HB.out)) hb); have n1_ := Aside0.mk (hbox); have n2_ := Aside0.mk ((by rw [hg]; exact (below_size (by repeat (first | (with_reducible first | exact HB.out | apply below_alloc | apply pw_below_drewN | apply below_drew1) | exact HB.out))) : w.heap.size ≤ gb437)); have n3_ := Aside0.mk ((by rw [hg]; exact (below_size (by repeat (first | (with_reducible first | exact HB.out | apply below_alloc | apply pw_below_drewN | apply below_drew1) | exact HB.out))) : w.heap.size ≤ gb437)); clear HB; have HB := n0_; have BK437 := n1_; have GW437 := n2_; have GE437 := n3_; clear n0_ n1_ n2_ n3_; clear hb hbox hg) | ((with_reducible refine gate_callee (f := 20) rfl ?_); refine goesL_ (some 13) rfl rfl Tryd.func20 (by kernel_rfl) rfl #[.string a0] rfl (by (try simp only [List.map_toArray, List.map_cons, List.map_nil]); first | done | rfl | (simp only [List.length_drop, List.length_take]; rfl)) ?_; (with_reducible refine (examinerref08_BitsErr.calls k a0 t438 _ A3.out).mono ?_); rintro e w' ⟨rfl, ⟨nd, rfl⟩⟩; refine ⟨_, rfl, ?_⟩; (try (rw [drewN_self w6]; generalize hq_ : World.drewN w6 _ = w6; have n0_ : Aside0 (w6.heap[gb437]? = some (.cells #[.slice none 0 0, .int .i64 0, .int .i64 0] 60 (0, 0))) := ⟨by rw [← hq_]; exact (by (with_reducible repeat (first | refine blk_drewN ?_ _ | refine blk_drew ?_ | refine blk_alloc ?_ _)); exact BK437.out)⟩; have n1_ : Aside0 (Below w.heap.size w w6) := ⟨by rw [← hq_]; exact (by repeat (first | (with_reducible first | exact HB.out | apply below_alloc | apply pw_below_drewN | apply below_drew1 | refine below_set ?_ GE437.out) | exact HB.out))⟩; clear BK437 HB hq_; have BK437 := n0_; have HB := n1_; clear n0_ n1_)); have hcz7_0 : w6.cell? ⟨gb437, 0, none⟩ = some (.slice none 0 0) := (blk_cell BK437.out 0).trans rfl; have hcz7_1 : w6.cell? ⟨gb437, 1, none⟩ = some (.int .i64 0) := (blk_cell BK437.out 1).trans rfl; have hcz7_2 : w6.cell? ⟨gb437, 2, none⟩ = some (.int .i64 0) := (blk_cell BK437.out 2).trans rfl; have hfz7_0 := blk_frozen BK437.out 0; have hfz7_1 := blk_frozen BK437.out 1; have hfz7_2 := blk_frozen BK437.out 2))
      refine bodyPost_ret (results_cell_row rfl _ _ gb437 60 #[.slice none 0 0, .int .i64 0, .int .i64 2] (0, 0) _ rfl (by (with_reducible repeat (first | refine blk_drewN ?_ _ | refine blk_drew ?_ | refine blk_alloc ?_ _)); refine blk_put (cs := #[.slice none 0 0, .int .i64 0, .int .i64 0]) ?_ 2 _ rfl; (with_reducible repeat (first | refine blk_drewN ?_ _ | refine blk_drew ?_ | refine blk_alloc ?_ _)); refine blk_put (cs := #[.slice none 0 0, .int .i64 0, .int .i64 0]) ?_ 1 _ rfl; (with_reducible repeat (first | refine blk_drewN ?_ _ | refine blk_drew ?_ | refine blk_alloc ?_ _)); refine blk_put (cs := #[.slice none 0 0, .int .i64 0, .int .i64 0]) ?_ 0 _ rfl; (with_reducible repeat (first | refine blk_drewN ?_ _ | refine blk_drew ?_ | refine blk_alloc ?_ _)); exact BK437.out) Tryd.underlying60 rfl (by kernel_rfl)) rfl ?_
      exact ⟨_, by first | rfl | (simp [errW_none, errW_some] <;> rfl) | (simp [*, errW_none, errW_some] <;> rfl), by first | exact Kd.R_nil _ _ _ _ _ | exact Kd.N_nil _ _ _ _ _ | exact Kd.V_nil _ _ _ _ _ | exact Kd.Q_nil _ _ _ _ _ | exact Kd.S_nil _ _ _ _ _, by repeat (first | (with_reducible first | exact HB.out | apply below_alloc | apply pw_below_drewN | apply below_drew1 | refine below_set ?_ GE437.out) | exact HB.out)⟩
    · rw [if_neg c5] at H
      have c5b0 : decide (1000 < (l1.length : Int)) = false := decide_eq_false c5
      have c5b1 : decide (1000 < l1.length) = false := decide_eq_false (by omega)
      clear c5
      have H' := Aside0.mk H
      clear H
      go_enter Tryd.func52, Tryd.ntmps52
      go_wp2_with (first | ((with_reducible refine gate_dst (N := 4) rfl ?_); refine box_event ?hg (N := 4) ?hd (cs := #[.slice none 0 0, .int .i64 0, .int .i64 0]) (t := 60) ?hr ?_; (case hd => rfl); (case hg => rfl); (case hr => first | (go_simp; done) | (go_simp; rfl)); intro gb437 hg w8 hbox hb; have n0_ := Aside0.mk (below_step (by repeat (first | (with_reducible first | exact HB.out | apply below_alloc | apply pw_below_drewN | apply below_drew1) | exact HB.out)) hb); have n1_ := Aside0.mk (hbox); have n2_ := Aside0.mk ((by rw [hg]; exact (below_size (by repeat (first | (with_reducible first | exact HB.out | apply below_alloc | apply pw_below_drewN | apply below_drew1) | exact HB.out))) : w.heap.size ≤ gb437)); have n3_ := Aside0.mk ((by rw [hg]; exact (below_size (by repeat (first | (with_reducible first | exact HB.out | apply below_alloc | apply pw_below_drewN | apply below_drew1) | exact HB.out))) : w.heap.size ≤ gb437)); clear HB; have HB := n0_; have BK437 := n1_; have GW437 := n2_; have GE437 := n3_; clear n0_ n1_ n2_ n3_; clear hb hbox hg) | ((with_reducible refine gate_callee (f := 20) rfl ?_); refine goesL_ (some 13) rfl rfl Tryd.func20 (by kernel_rfl) rfl #[.string a0] rfl (by (try simp only [List.map_toArray, List.map_cons, List.map_nil]); first | done | rfl | (simp only [List.length_drop, List.length_take]; rfl)) ?_; (with_reducible refine (examinerref08_BitsErr.calls k a0 t438 _ A3.out).mono ?_); rintro e w' ⟨rfl, ⟨nd, rfl⟩⟩; refine ⟨_, rfl, ?_⟩) | ((with_reducible refine gate_dst (N := 6) rfl ?_); refine box_event ?hg (N := 6) ?hd (cs := #[.slice none 0 0, .int .i64 0, .int .i64 0]) (t := 60) ?hr ?_; (case hd => rfl); (case hg => rfl); (case hr => first | (go_simp; done) | (go_simp; rfl)); intro gb439 hg w9 hbox hb; have n0_ := Aside0.mk (blk_below (g := gb437) (o := .cells #[.slice none 0 0, .int .i64 0, .int .i64 0] 60 (0, 0)) (by (with_reducible repeat (first | refine blk_drewN ?_ _ | refine blk_drew ?_ | refine blk_alloc ?_ _)); exact BK437.out) hb); have n1_ := Aside0.mk (below_step (by repeat (first | (with_reducible first | exact HB.out | apply below_alloc | apply pw_below_drewN | apply below_drew1 | refine below_set ?_ GE437.out) | exact HB.out)) hb); have n2_ := Aside0.mk (hbox); have n3_ := Aside0.mk ((by rw [hg]; exact (below_size (by repeat (first | (with_reducible first | exact HB.out | apply below_alloc | apply pw_below_drewN | apply below_drew1 | refine below_set ?_ GE437.out) | exact HB.out))) : w.heap.size ≤ gb439)); have n4_ := Aside0.mk ((by rw [hg]; exact (below_size (by repeat (first | (with_reducible first | exact HB.out | apply below_alloc | apply pw_below_drewN | apply below_drew1 | refine below_set ?_ GE437.out) | exact HB.out))) : w.heap.size ≤ gb439)); have n5_ := Aside0.mk ((by rw [hg]; exact Nat.ne_of_lt (blk_lt (g := gb437) (o := .cells #[.slice none 0 0, .int .i64 0, .int .i64 0] 60 (0, 0)) (by (with_reducible repeat (first | refine blk_drewN ?_ _ | refine blk_drew ?_ | refine blk_alloc ?_ _)); exact BK437.out)) : gb437 ≠ gb439)); have n6_ := Aside0.mk ((by rw [hg]; exact Nat.ne_of_gt (blk_lt (g := gb437) (o := .cells #[.slice none 0 0, .int .i64 0, .int .i64 0] 60 (0, 0)) (by (with_reducible repeat (first | refine blk_drewN ?_ _ | refine blk_drew ?_ | refine blk_alloc ?_ _)); exact BK437.out)) : gb439 ≠ gb437)); clear BK437; clear HB; have BK437 := n0_; have HB := n1_; have BK439 := n2_; have GW439 := n3_; have GE439 := n4_; have NB437_439 := n5_; have NB439_437 := n6_; clear n0_ n1_ n2_ n3_ n4_ n5_ n6_; clear hb hbox hg))
      go_loopg [7] k (fun kq v7 w' => ∃ (x7_1 : Int) (x438001_1 : Int) (x438002_1 : Int) (x440000_1 : List (S66)) (x440001_1 : Int) (u440000 : Value), v7 = .int .i64 x7_1 ∧ Aside0 (examinerref08_Read.l0 kq a0 l1 x7_1 x440000_1 x440001_1 0 = some (r1, r2, r3)) ∧ Aside0 (kq ≤ k) ∧ Aside0 (Kd.R k66 66 w' w.heap.size (fun _ => True) u440000 x440000_1) ∧ Aside0 (w'.heap[gb437]? = some (.cells #[(.slice none 0 0), .int .i64 x438001_1, .int .i64 x438002_1] 60 (0, 0))) ∧ Aside0 (w'.heap[gb439]? = some (.cells #[u440000, .int .i64 x440001_1, .int .i64 0] 60 (0, 0))) ∧ Aside0 (Below w.heap.size w w'))
      case atStart => exact ⟨(0), (0), (0), (([] : List (S66))), (0), (.slice none 0 0), (by first | rfl | (simp; done) | (simp [*]; done)), H', ⟨Nat.le_refl _⟩, ⟨by first | exact Kd.R_nil _ _ _ _ _ | exact Kd.N_nil _ _ _ _ _ | exact Kd.V_nil _ _ _ _ _ | exact Kd.Q_nil _ _ _ _ _ | exact Kd.S_nil _ _ _ _ _⟩, ⟨by (with_reducible repeat (first | refine blk_drewN ?_ _ | refine blk_drew ?_ | refine blk_alloc ?_ _)); exact BK437.out⟩, ⟨by (with_reducible repeat (first | refine blk_drewN ?_ _ | refine blk_drew ?_ | refine blk_alloc ?_ _)); exact BK439.out⟩, ⟨by repeat (first | (with_reducible first | exact HB.out | apply below_alloc | apply pw_below_drewN | apply below_drew1 | refine below_set ?_ GE437.out | refine below_set ?_ GE439.out) | exact HB.out)⟩⟩
      case round =>
        clear H'
        try clear c1
        try clear c2
        try clear p2
        try clear c4
        try clear c4b0
        try clear c4b1
        try clear c5
        try clear c5b0
        try clear c5b1
        try clear hcz7_0
        try clear hcz7_1
        try clear hcz7_2
        try clear hfz7_0
        try clear hfz7_1
        try clear hfz7_2
        obtain ⟨x7_1, x438001_1, x438002_1, x440000_1, x440001_1, u440000, rfl, HA, HK1, HO_440000, BK437, BK439, HB⟩ := hrel
        cases gk with
        | zero => exact absurd HA.out (by simp [examinerref08_Read.l0])
        | succ k1 =>
          have H := HA.out
          clear HA
          simp only [examinerref08_Read.l0] at H
          by_cases c10 : x7_1 < (l1.length : Int)
          · rw [if_pos c10] at H
            have c10b0 : decide (x7_1 < (l1.length : Int)) = true := decide_eq_true c10
            clear c10
            by_cases c11 : 0 ≤ x7_1
            · rw [if_pos c11] at H
              have c11b0 : decide (0 ≤ x7_1) = true := decide_eq_true c11
              clear c11
              replace H := Option.bind_eq_some_iff.mp H
              obtain ⟨t441, A120, H⟩ := H
              replace H : (if t441 = true then ((examinerref08_widthErr.f ((rd_T66 l1 x7_1).f0) ((rd_T66 l1 x7_1).f1) ((rd_T66 l1 x7_1).f2) ((rd_T66 l1 x7_1).f3)).bind fun t443 => (if t443 = 0 then (if ((rd_T66 l1 x7_1).f0) = 2 then (examinerref08_Read.j1 k1 a0 l1 x7_1 (wrap64 (8 * ((rd_T66 l1 x7_1).f1))) x440000_1 x440001_1 0 ((rd_T66 l1 x7_1).f0) ((rd_T66 l1 x7_1).f1) 0 (⟨#[]⟩ : ByteArray)) else (examinerref08_Read.j1 k1 a0 l1 x7_1 ((rd_T66 l1 x7_1).f1) x440000_1 x440001_1 0 ((rd_T66 l1 x7_1).f0) ((rd_T66 l1 x7_1).f1) 0 (⟨#[]⟩ : ByteArray))) else (some (([] : List (S66)), x7_1, t443)))) else (some (([] : List (S66)), x7_1, 4))) = some (r1, r2, r3) := H
              have A12 := Aside0.mk A120
              clear A120
              by_cases c13 : t441 = true
              · subst c13
                have H1 : ((examinerref08_widthErr.f ((rd_T66 l1 x7_1).f0) ((rd_T66 l1 x7_1).f1) ((rd_T66 l1 x7_1).f2) ((rd_T66 l1 x7_1).f3)).bind fun t443 => (if t443 = 0 then (if ((rd_T66 l1 x7_1).f0) = 2 then (examinerref08_Read.j1 k1 a0 l1 x7_1 (wrap64 (8 * ((rd_T66 l1 x7_1).f1))) x440000_1 x440001_1 0 ((rd_T66 l1 x7_1).f0) ((rd_T66 l1 x7_1).f1) 0 (⟨#[]⟩ : ByteArray)) else (examinerref08_Read.j1 k1 a0 l1 x7_1 ((rd_T66 l1 x7_1).f1) x440000_1 x440001_1 0 ((rd_T66 l1 x7_1).f0) ((rd_T66 l1 x7_1).f1) 0 (⟨#[]⟩ : ByteArray))) else (some (([] : List (S66)), x7_1, t443)))) = some (r1, r2, r3) := by rw [if_pos rfl] at H; exact H
                clear H
                have H := H1
                clear H1
                replace H := Option.bind_eq_some_iff.mp H
                obtain ⟨t443, A140, H⟩ := H
                replace H : (if t443 = 0 then (if ((rd_T66 l1 x7_1).f0) = 2 then (examinerref08_Read.j1 k1 a0 l1 x7_1 (wrap64 (8 * ((rd_T66 l1 x7_1).f1))) x440000_1 x440001_1 0 ((rd_T66 l1 x7_1).f0) ((rd_T66 l1 x7_1).f1) 0 (⟨#[]⟩ : ByteArray)) else (examinerref08_Read.j1 k1 a0 l1 x7_1 ((rd_T66 l1 x7_1).f1) x440000_1 x440001_1 0 ((rd_T66 l1 x7_1).f0) ((rd_T66 l1 x7_1).f1) 0 (⟨#[]⟩ : ByteArray))) else (some (([] : List (S66)), x7_1, t443))) = some (r1, r2, r3) := H
                have A14 := Aside0.mk A140
                clear A140
                by_cases c15 : t443 = 0
                · rw [if_pos c15] at H
                  have c15b0 : (t443 == 0) = true := beq_iff_eq.mpr c15
                  have c15b1 : (t443 != 0) = false := bne_eq_false_iff_eq.mpr c15
                  clear c15
                  have HC16 := Aside0.mk H
                  clear H
                  have p440 : 0 ≤ (x7_1 : Int) := of_decide_eq_true (by first | (with_reducible assumption) | assumption)
                  have q440 : x7_1 < (l1.length : Int) := of_decide_eq_true (by first | (with_reducible assumption) | assumption)
                  obtain ⟨ad440, e440, hx440_0, hx440_1, hx440_2, hx440_3⟩ := at_T66 HR1.out x7_1 p440 q440
                  cases e440
                  replace hx440_0 := (HB.out.cell (World.block_lt_of_cell? w _ hx440_0)).trans hx440_0
                  replace hx440_1 := (HB.out.cell (World.block_lt_of_cell? w _ hx440_1)).trans hx440_1
                  replace hx440_2 := (HB.out.cell (World.block_lt_of_cell? w _ hx440_2)).trans hx440_2
                  replace hx440_3 := (HB.out.cell (World.block_lt_of_cell? w _ hx440_3)).trans hx440_3
                  replace p440 := eq_true p440
                  replace q440 := eq_true q440
                  try go_wp2_with (first | ((with_reducible refine gate_callee (f := 28) rfl ?_); refine goesL_ (some 33) rfl rfl Tryd.func28 (by kernel_rfl) rfl #[.int .i64 ((rd_T66 l1 x7_1).f0), .int .i64 0, .int .i64 3] rfl (by (try simp only [List.map_toArray, List.map_cons, List.map_nil]); first | done | rfl | (simp only [List.length_drop, List.length_take]; rfl)) ?_; (with_reducible refine (examinerbase_Within.calls ((rd_T66 l1 x7_1).f0) 0 3 true _ A12.out).mono ?_); rintro e w' ⟨rfl, ⟨nd, rfl⟩⟩; refine ⟨_, rfl, ?_⟩; (try (rw [drewN_self wr]; generalize hq_ : World.drewN wr _ = wr; have n0_ : Aside0 (Kd.R k66 66 wr w.heap.size (fun _ => True) u440000 x440000_1) := ⟨by rw [← hq_]; exact (by (with_reducible repeat (first | apply Kd.R_alloc | apply Kd.R_drewN | apply Kd.R_drew)); exact HO_440000.out)⟩; have n1_ : Aside0 (wr.heap[gb437]? = some (.cells #[.slice none 0 0, .int .i64 x438001_1, .int .i64 x438002_1] 60 (0, 0))) := ⟨by rw [← hq_]; exact (by (with_reducible repeat (first | refine blk_drewN ?_ _ | refine blk_drew ?_ | refine blk_alloc ?_ _)); exact BK437.out)⟩; have n2_ : Aside0 (wr.heap[gb439]? = some (.cells #[u440000, .int .i64 x440001_1, .int .i64 0] 60 (0, 0))) := ⟨by rw [← hq_]; exact (by (with_reducible repeat (first | refine blk_drewN ?_ _ | refine blk_drew ?_ | refine blk_alloc ?_ _)); exact BK439.out)⟩; have n3_ : Aside0 (Below w.heap.size w wr) := ⟨by rw [← hq_]; exact (by repeat (first | (with_reducible first | exact HB.out | apply below_alloc | apply pw_below_drewN | apply below_drew1 | refine below_set ?_ GE437.out | refine below_set ?_ GE439.out) | exact HB.out))⟩; clear HO_440000 BK437 BK439 HB hq_; have HO_440000 := n0_; have BK437 := n1_; have BK439 := n2_; have HB := n3_; clear n0_ n1_ n2_ n3_)); have p442 : 0 ≤ (x7_1 : Int) := of_decide_eq_true (by first | (with_reducible assumption) | assumption); have q442 : x7_1 < (l1.length : Int) := of_decide_eq_true (by first | (with_reducible assumption) | assumption); obtain ⟨ad442, e442, hx442_0, hx442_1, hx442_2, hx442_3⟩ := at_T66 HR1.out x7_1 p442 q442; obtain rfl : ad440 = ad442 := (by injection e442); replace hx442_0 := (HB.out.cell (World.block_lt_of_cell? w _ hx442_0)).trans hx442_0; replace hx442_1 := (HB.out.cell (World.block_lt_of_cell? w _ hx442_1)).trans hx442_1; replace hx442_2 := (HB.out.cell (World.block_lt_of_cell? w _ hx442_2)).trans hx442_2; replace hx442_3 := (HB.out.cell (World.block_lt_of_cell? w _ hx442_3)).trans hx442_3; replace p442 := eq_true p442; replace q442 := eq_true q442) | ((with_reducible refine gate_callee (f := 77) rfl ?_); refine goesL_ (some 41) rfl rfl Tryd.func77 (by kernel_rfl) rfl #[.agg #[.int .i64 ((rd_T66 l1 x7_1).f0), .int .i64 ((rd_T66 l1 x7_1).f1), .int .i64 ((rd_T66 l1 x7_1).f2), .string ((rd_T66 l1 x7_1).f3)]] rfl (by (try simp only [List.map_toArray, List.map_cons, List.map_nil]); first | done | rfl | (simp only [List.length_drop, List.length_take]; rfl)) ?_; (with_reducible refine (examinerref08_widthErr.calls ((rd_T66 l1 x7_1).f0) ((rd_T66 l1 x7_1).f1) ((rd_T66 l1 x7_1).f2) ((rd_T66 l1 x7_1).f3) t443 _ A14.out).mono ?_); rintro e w17 ⟨rfl, hb⟩; refine ⟨_, rfl, ?_⟩; have n0_ := Aside0.mk (Kd.R_below (by (with_reducible repeat (first | apply Kd.R_alloc | apply Kd.R_drewN | apply Kd.R_drew)); exact HO_440000.out) hb); have n1_ := Aside0.mk (blk_below (g := gb437) (o := .cells #[.slice none 0 0, .int .i64 x438001_1, .int .i64 x438002_1] 60 (0, 0)) (by (with_reducible repeat (first | refine blk_drewN ?_ _ | refine blk_drew ?_ | refine blk_alloc ?_ _)); exact BK437.out) hb); have n2_ := Aside0.mk (blk_below (g := gb439) (o := .cells #[u440000, .int .i64 x440001_1, .int .i64 0] 60 (0, 0)) (by (with_reducible repeat (first | refine blk_drewN ?_ _ | refine blk_drew ?_ | refine blk_alloc ?_ _)); exact BK439.out) hb); have n3_ := Aside0.mk (below_step (by repeat (first | (with_reducible first | exact HB.out | apply below_alloc | apply pw_below_drewN | apply below_drew1 | refine below_set ?_ GE437.out | refine below_set ?_ GE439.out) | exact HB.out)) hb); clear HO_440000; clear BK437; clear BK439; clear HB; have HO_440000 := n0_; have BK437 := n1_; have BK439 := n2_; have HB := n3_; clear n0_ n1_ n2_ n3_; (try clear hb); (try clear hb2); (try clear hk); (try clear hi)))
                  have n0_ := Aside0.mk (Kd.R_drew HO_440000.out)
                  have n1_ := Aside0.mk (blk_drew BK437.out)
                  have n2_ := Aside0.mk (blk_drew BK439.out)
                  have n3_ := Aside0.mk (below_drew1 HB.out)
                  clear HO_440000
                  clear BK437
                  clear BK439
                  clear HB
                  have HO_440000 := n0_
                  have BK437 := n1_
                  have BK439 := n2_
                  have HB := n3_
                  clear n0_ n1_ n2_ n3_
                  have p444 : 0 ≤ (x7_1 : Int) := of_decide_eq_true (by first | (with_reducible assumption) | assumption)
                  have q444 : x7_1 < (l1.length : Int) := of_decide_eq_true (by first | (with_reducible assumption) | assumption)
                  obtain ⟨ad444, e444, hx444_0, hx444_1, hx444_2, hx444_3⟩ := at_T66 HR1.out x7_1 p444 q444
                  have hw444_3 := hx444_3
                  have hw444_2 := hx444_2
                  have hw444_1 := hx444_1
                  have hw444_0 := hx444_0
                  obtain rfl : ad440 = ad444 := (by injection e444)
                  replace hx444_0 := (HB.out.cell (World.block_lt_of_cell? w _ hx444_0)).trans hx444_0
                  replace hx444_1 := (HB.out.cell (World.block_lt_of_cell? w _ hx444_1)).trans hx444_1
                  replace hx444_2 := (HB.out.cell (World.block_lt_of_cell? w _ hx444_2)).trans hx444_2
                  replace hx444_3 := (HB.out.cell (World.block_lt_of_cell? w _ hx444_3)).trans hx444_3
                  replace p444 := eq_true p444
                  replace q444 := eq_true q444
                  have p445 : 0 ≤ (x7_1 : Int) := of_decide_eq_true (by first | (with_reducible assumption) | assumption)
                  have q445 : x7_1 < (l1.length : Int) := of_decide_eq_true (by first | (with_reducible assumption) | assumption)
                  obtain ⟨ad445, e445, hx445_0, hx445_1, hx445_2, hx445_3⟩ := at_T66 HR1.out x7_1 p445 q445
                  have hw445_3 := hx445_3
                  have hw445_2 := hx445_2
                  have hw445_1 := hx445_1
                  have hw445_0 := hx445_0
                  obtain rfl : ad440 = ad445 := (by injection e445)
                  replace hx445_0 := (HB.out.cell (World.block_lt_of_cell? w _ hx445_0)).trans hx445_0
                  replace hx445_1 := (HB.out.cell (World.block_lt_of_cell? w _ hx445_1)).trans hx445_1
                  replace hx445_2 := (HB.out.cell (World.block_lt_of_cell? w _ hx445_2)).trans hx445_2
                  replace hx445_3 := (HB.out.cell (World.block_lt_of_cell? w _ hx445_3)).trans hx445_3
                  replace p445 := eq_true p445
                  replace q445 := eq_true q445
                  refine start_ (n := 13) (S := fun w' => w'.cell? (ad440.add ((x7_1).toNat * 4)) = some (.int .i64 ((rd_T66 l1 x7_1).f0)) ∧ w'.cell? ⟨(ad440.add ((x7_1).toNat * 4)).block, (ad440.add ((x7_1).toNat * 4)).off + 1, none⟩ = some (.int .i64 ((rd_T66 l1 x7_1).f1)) ∧ w'.cell? ⟨(ad440.add ((x7_1).toNat * 4)).block, (ad440.add ((x7_1).toNat * 4)).off + 2, none⟩ = some (.int .i64 ((rd_T66 l1 x7_1).f2)) ∧ w'.cell? ⟨(ad440.add ((x7_1).toNat * 4)).block, (ad440.add ((x7_1).toNat * 4)).off + 3, none⟩ = some (.string ((rd_T66 l1 x7_1).f3)) ∧ w'.cell? (ad440.add ((x7_1).toNat * 4)) = some (.int .i64 ((rd_T66 l1 x7_1).f0)) ∧ w'.cell? ⟨(ad440.add ((x7_1).toNat * 4)).block, (ad440.add ((x7_1).toNat * 4)).off + 1, none⟩ = some (.int .i64 ((rd_T66 l1 x7_1).f1)) ∧ w'.cell? ⟨(ad440.add ((x7_1).toNat * 4)).block, (ad440.add ((x7_1).toNat * 4)).off + 2, none⟩ = some (.int .i64 ((rd_T66 l1 x7_1).f2)) ∧ w'.cell? ⟨(ad440.add ((x7_1).toNat * 4)).block, (ad440.add ((x7_1).toNat * 4)).off + 3, none⟩ = some (.string ((rd_T66 l1 x7_1).f3))) (ds := []) #[false, false, false, false, false, false, false, false, false, false, false, false, false] (by kernel_rfl) rfl rfl ⟨((HB.out.cell (World.block_lt_of_cell? w _ hw444_0)).trans hw444_0), ((HB.out.cell (World.block_lt_of_cell? w _ hw444_1)).trans hw444_1), ((HB.out.cell (World.block_lt_of_cell? w _ hw444_2)).trans hw444_2), ((HB.out.cell (World.block_lt_of_cell? w _ hw444_3)).trans hw444_3), ((HB.out.cell (World.block_lt_of_cell? w _ hw445_0)).trans hw445_0), ((HB.out.cell (World.block_lt_of_cell? w _ hw445_1)).trans hw445_1), ((HB.out.cell (World.block_lt_of_cell? w _ hw445_2)).trans hw445_2), ((HB.out.cell (World.block_lt_of_cell? w _ hw445_3)).trans hw445_3)⟩ (fun hHeld => ?_); refine with_tabW examinerref08_Read.tab15 examinerref08_Read.bits15 (fun HT_ HW_ => ?_)
                  generalize w17.drew = w18 at HO_440000 BK437 BK439 HB hx444_0 hx444_1 hx444_2 hx444_3 hx445_0 hx445_1 hx445_2 hx445_3 hHeld ⊢
                  refine pure_ (i := 0) (N := some 47) (v := ?_) (a' := ?_) #[true, false, false, false, false, false, false, false, false, false, false, false, false] rfl rfl (any_of HT_.out (by kernel_rfl)) (fun _ _ _ h => h) (Or.inl ⟨by rfl, ?_⟩) ?_ ?_
                  rotate_left
                  · intro w'
                    go_simp
                    with_reducible rfl
                  rotate_left
                  · simp only [Act.put, List.setIfInBounds_toArray, List.set_cons_zero, List.set_cons_succ, i64_w, i32_w]
                    rfl
                  refine pure_ (i := 1) (N := some 48) (v := ?_) (a' := ?_) #[true, true, false, false, false, false, false, false, false, false, false, false, false] rfl rfl (any_of HT_.out (by kernel_rfl)) (fun _ _ _ h => h) (Or.inl ⟨by rfl, ?_⟩) ?_ ?_
                  rotate_left
                  · intro w'
                    go_simp
                    with_reducible rfl
                  rotate_left
                  · simp only [Act.put, List.setIfInBounds_toArray, List.set_cons_zero, List.set_cons_succ, i64_w, i32_w]
                    rfl
                  refine pure_ (i := 2) (N := some 49) (v := ?_) (a' := ?_) #[true, true, true, false, false, false, false, false, false, false, false, false, false] rfl rfl (any_of HT_.out (by kernel_rfl)) (fun _ _ _ h => h) (Or.inl ⟨by rfl, ?_⟩) ?_ ?_
                  rotate_left
                  · intro w'
                    go_simp
                    with_reducible rfl
                  rotate_left
                  · simp only [Act.put, List.setIfInBounds_toArray, List.set_cons_zero, List.set_cons_succ, i64_w, i32_w]
                    rfl
                  refine pure_ (i := 3) (N := some 50) (v := ?_) (a' := ?_) #[true, true, true, true, false, false, false, false, false, false, false, false, false] rfl rfl (any_of HT_.out (by kernel_rfl)) (fun _ _ _ h => h) (Or.inl ⟨by rfl, ?_⟩) ?_ ?_
                  rotate_left
                  · intro w'
                    go_simp
                    with_reducible rfl
                  rotate_left
                  · simp only [Act.put, List.setIfInBounds_toArray, List.set_cons_zero, List.set_cons_succ, i64_w, i32_w]
                    rfl
                  refine pure_ (i := 5) (N := some 52) (v := ?_) (a' := ?_) #[true, true, true, true, false, true, false, false, false, false, false, false, false] rfl rfl (any_of HT_.out (by kernel_rfl)) (fun _ _ _ h => h) (Or.inl ⟨by rfl, ?_⟩) ?_ ?_
                  rotate_left
                  · intro w'
                    go_simp
                    with_reducible rfl
                  rotate_left
                  · simp only [Act.put, List.setIfInBounds_toArray, List.set_cons_zero, List.set_cons_succ, i64_w, i32_w]
                    rfl
                  refine pure_ (i := 6) (N := some 53) (v := ?_) (a' := ?_) #[true, true, true, true, false, true, true, false, false, false, false, false, false] rfl rfl (any_of HT_.out (by kernel_rfl)) (fun _ _ _ h => h) (Or.inl ⟨by rfl, ?_⟩) ?_ ?_
                  rotate_left
                  · intro w'
                    go_simp
                    with_reducible rfl
                  rotate_left
                  · simp only [Act.put, List.setIfInBounds_toArray, List.set_cons_zero, List.set_cons_succ, i64_w, i32_w]
                    rfl
                  refine pure_ (i := 7) (N := some 54) (v := ?_) (a' := ?_) #[true, true, true, true, false, true, true, true, false, false, false, false, false] rfl rfl (any_of HT_.out (by kernel_rfl)) (fun _ _ _ h => h) (Or.inl ⟨by rfl, ?_⟩) ?_ ?_
                  rotate_left
                  · intro w'
                    go_simp
                    with_reducible rfl
                  rotate_left
                  · simp only [Act.put, List.setIfInBounds_toArray, List.set_cons_zero, List.set_cons_succ, i64_w, i32_w]
                    rfl
                  refine pure_ (i := 8) (N := some 55) (v := ?_) (a' := ?_) #[true, true, true, true, false, true, true, true, true, false, false, false, false] rfl rfl (any_of HT_.out (by kernel_rfl)) (fun _ _ _ h => h) (Or.inl ⟨by rfl, ?_⟩) ?_ ?_
                  rotate_left
                  · intro w'
                    go_simp
                    with_reducible rfl
                  rotate_left
                  · simp only [Act.put, List.setIfInBounds_toArray, List.set_cons_zero, List.set_cons_succ, i64_w, i32_w]
                    rfl
                  refine take_ (i := 4) (N := some 51) (v := ?_) (a' := ?_) #[true, true, true, true, true, true, true, true, true, false, false, false, false] rfl rfl (take_ofW HT_.out HW_.out (by kernel_rfl)) (fun _ _ _ h => h) (Or.inl ⟨by rfl, ?_⟩) hHeld ?_ ?_
                  rotate_left
                  · rintro w' ⟨s0, s1, s2, s3, s4, s5, s6, s7⟩
                    go_simp
                    with_reducible rfl
                  rotate_left
                  · simp only [Act.put, List.setIfInBounds_toArray, List.set_cons_zero, List.set_cons_succ, i64_w, i32_w]
                    rfl
                  refine take_ (i := 9) (N := some 56) (v := ?_) (a' := ?_) #[true, true, true, true, true, true, true, true, true, true, false, false, false] rfl rfl (take_ofW HT_.out HW_.out (by kernel_rfl)) (fun _ _ _ h => h) (Or.inl ⟨by rfl, ?_⟩) hHeld ?_ ?_
                  rotate_left
                  · rintro w' ⟨s0, s1, s2, s3, s4, s5, s6, s7⟩
                    go_simp
                    with_reducible rfl
                  rotate_left
                  · simp only [Act.put, List.setIfInBounds_toArray, List.set_cons_zero, List.set_cons_succ, i64_w, i32_w]
                    rfl
                  refine pure_ (i := 10) (N := some 57) (v := ?_) (a' := ?_) #[true, true, true, true, true, true, true, true, true, true, true, false, false] rfl rfl (any_of HT_.out (by kernel_rfl)) (fun _ _ _ h => h) (Or.inl ⟨by rfl, ?_⟩) ?_ ?_
                  rotate_left
                  · intro w'
                    go_simp
                    with_reducible rfl
                  rotate_left
                  · simp only [Act.put, List.setIfInBounds_toArray, List.set_cons_zero, List.set_cons_succ, i64_w, i32_w]
                    rfl
                  refine one_ (i := 11) (N := some 9) #[true, true, true, true, true, true, true, true, true, true, true, true, false] rfl rfl (one_of HT_.out (by kernel_rfl)) (by decide) (fun K hK => ?_)
                  refine box_step ?hg (N := 9) ?hd (cs := #[.int .i64 0, .int .i64 0, .int .i64 0, .string (⟨#[]⟩ : ByteArray)]) (t := 66) ?hr ?_; (case hd => rfl); (case hg => rfl); (case hr => first | (go_simp; done) | (go_simp; rfl))
                  intro gb446 hg w19 hbox hb
                  have n0_ := Aside0.mk (Kd.R_below (Kd.R_elderB (by (with_reducible repeat (first | apply Kd.R_alloc | apply Kd.R_drewN | apply Kd.R_drew)); exact HO_440000.out) gb446 (Nat.le_of_eq hg.symm)) hb)
                  have n1_ := Aside0.mk (blk_below (g := gb437) (o := .cells #[.slice none 0 0, .int .i64 x438001_1, .int .i64 x438002_1] 60 (0, 0)) (by (with_reducible repeat (first | refine blk_drewN ?_ _ | refine blk_drew ?_ | refine blk_alloc ?_ _)); exact BK437.out) hb)
                  have n2_ := Aside0.mk (blk_below (g := gb439) (o := .cells #[u440000, .int .i64 x440001_1, .int .i64 0] 60 (0, 0)) (by (with_reducible repeat (first | refine blk_drewN ?_ _ | refine blk_drew ?_ | refine blk_alloc ?_ _)); exact BK439.out) hb)
                  have n3_ := Aside0.mk (below_step (by repeat (first | (with_reducible first | exact HB.out | apply below_alloc | apply pw_below_drewN | apply below_drew1 | refine below_set ?_ GE437.out | refine below_set ?_ GE439.out) | exact HB.out)) hb)
                  have n4_ := Aside0.mk (hbox)
                  have n5_ := Aside0.mk ((by rw [hg]; exact (below_size (by repeat (first | (with_reducible first | exact HB.out | apply below_alloc | apply pw_below_drewN | apply below_drew1 | refine below_set ?_ GE437.out | refine below_set ?_ GE439.out) | exact HB.out))) : w.heap.size ≤ gb446))
                  have n6_ := Aside0.mk ((by rw [hg]; exact (below_size (by repeat (first | (with_reducible first | exact HB.out | apply below_alloc | apply pw_below_drewN | apply below_drew1 | refine below_set ?_ GE437.out | refine below_set ?_ GE439.out) | exact HB.out))) : w.heap.size ≤ gb446))
                  have n7_ := Aside0.mk ((by rw [hg]; exact Nat.ne_of_lt (blk_lt (g := gb437) (o := .cells #[.slice none 0 0, .int .i64 x438001_1, .int .i64 x438002_1] 60 (0, 0)) (by (with_reducible repeat (first | refine blk_drewN ?_ _ | refine blk_drew ?_ | refine blk_alloc ?_ _)); exact BK437.out)) : gb437 ≠ gb446))
                  have n8_ := Aside0.mk ((by rw [hg]; exact Nat.ne_of_gt (blk_lt (g := gb437) (o := .cells #[.slice none 0 0, .int .i64 x438001_1, .int .i64 x438002_1] 60 (0, 0)) (by (with_reducible repeat (first | refine blk_drewN ?_ _ | refine blk_drew ?_ | refine blk_alloc ?_ _)); exact BK437.out)) : gb446 ≠ gb437))
                  have n9_ := Aside0.mk ((by rw [hg]; exact Nat.ne_of_lt (blk_lt (g := gb439) (o := .cells #[u440000, .int .i64 x440001_1, .int .i64 0] 60 (0, 0)) (by (with_reducible repeat (first | refine blk_drewN ?_ _ | refine blk_drew ?_ | refine blk_alloc ?_ _)); exact BK439.out)) : gb439 ≠ gb446))
                  have n10_ := Aside0.mk ((by rw [hg]; exact Nat.ne_of_gt (blk_lt (g := gb439) (o := .cells #[u440000, .int .i64 x440001_1, .int .i64 0] 60 (0, 0)) (by (with_reducible repeat (first | refine blk_drewN ?_ _ | refine blk_drew ?_ | refine blk_alloc ?_ _)); exact BK439.out)) : gb446 ≠ gb439))
                  clear HO_440000
                  clear BK437
                  clear BK439
                  clear HB
                  have HO_440000 := n0_
                  have BK437 := n1_
                  have BK439 := n2_
                  have HB := n3_
                  have BK446 := n4_
                  have GW446 := n5_
                  have GE446 := n6_
                  have NB437_446 := n7_
                  have NB446_437 := n8_
                  have NB439_446 := n9_
                  have NB446_439 := n10_
                  clear n0_ n1_ n2_ n3_ n4_ n5_ n6_ n7_ n8_ n9_ n10_
                  clear hb hbox hg
                  refine hK.out _ _ ⟨((HB.out.cell (World.block_lt_of_cell? w _ hw444_0)).trans hw444_0), ((HB.out.cell (World.block_lt_of_cell? w _ hw444_1)).trans hw444_1), ((HB.out.cell (World.block_lt_of_cell? w _ hw444_2)).trans hw444_2), ((HB.out.cell (World.block_lt_of_cell? w _ hw444_3)).trans hw444_3), ((HB.out.cell (World.block_lt_of_cell? w _ hw445_0)).trans hw445_0), ((HB.out.cell (World.block_lt_of_cell? w _ hw445_1)).trans hw445_1), ((HB.out.cell (World.block_lt_of_cell? w _ hw445_2)).trans hw445_2), ((HB.out.cell (World.block_lt_of_cell? w _ hw445_3)).trans hw445_3)⟩ (fun hHeld => ?_)
                  clear hK K
                  refine norm_ (a' := ?_) ?_ ?_
                  rotate_left
                  · show Act.put _ (some 9) _ = _
                    simp only [Act.put, List.setIfInBounds_toArray, List.set_cons_zero, List.set_cons_succ, i64_w, i32_w]
                    rfl
                  refine one_ (i := 12) (N := none) #[true, true, true, true, true, true, true, true, true, true, true, true, true] rfl rfl (one_of HT_.out (by kernel_rfl)) (by decide) (fun K hK => ?_)
                  have hs20 : w19.cell? ⟨gb446, 0, none⟩ = some (.int .i64 0) := (blk_cell BK446.out 0).trans rfl
                  have hfs20 := blk_frozen BK446.out 0
                  have hns20_0 := NB437_446.out
                  have hns20_1 := NB439_446.out
                  have hms20_0 := NB446_437.out
                  have hms20_1 := NB446_439.out
                  have hs21 : w19.cell? ⟨gb446, 1, none⟩ = some (.int .i64 0) := (blk_cell BK446.out 1).trans rfl
                  have hfs21 := blk_frozen BK446.out 1
                  have hns21_0 := NB437_446.out
                  have hns21_1 := NB439_446.out
                  have hms21_0 := NB446_437.out
                  have hms21_1 := NB446_439.out
                  have hs22 : w19.cell? ⟨gb446, 2, none⟩ = some (.int .i64 0) := (blk_cell BK446.out 2).trans rfl
                  have hfs22 := blk_frozen BK446.out 2
                  have hns22_0 := NB437_446.out
                  have hns22_1 := NB439_446.out
                  have hms22_0 := NB446_437.out
                  have hms22_1 := NB446_439.out
                  have hs23 : w19.cell? ⟨gb446, 3, none⟩ = some (.string (⟨#[]⟩ : ByteArray)) := (blk_cell BK446.out 3).trans rfl
                  have hfs23 := blk_frozen BK446.out 3
                  have hns23_0 := NB437_446.out
                  have hns23_1 := NB439_446.out
                  have hms23_0 := NB446_437.out
                  have hms23_1 := NB446_439.out
                  refine skip_ (w1 := ?_) (by rfl) rfl ?_ ?_
                  rotate_left
                  · go_simp
                    rfl
                  refine hK.out _ _ ⟨((cell_far (p := ⟨gb446, _, none⟩) (by first | exact Nat.ne_of_lt (Nat.lt_of_lt_of_le (by have := World.block_lt_of_cell? _ _ hw444_0; first | rwa [add_block] at this | exact this) GW446.out) | (rw [add_block]; exact Nat.ne_of_lt (Nat.lt_of_lt_of_le (by have := World.block_lt_of_cell? _ _ hw444_0; first | rwa [add_block] at this | exact this) GW446.out)) | (show (Addr.add _ _).block ≠ _; rw [add_block]; exact Nat.ne_of_lt (Nat.lt_of_lt_of_le (by have := World.block_lt_of_cell? _ _ hw444_0; first | rwa [add_block] at this | exact this) GW446.out)) | (dsimp only; exact Nat.ne_of_lt (Nat.lt_of_lt_of_le (by have := World.block_lt_of_cell? _ _ hw444_0; first | rwa [add_block] at this | exact this) GW446.out))) _).trans (((cell_far (p := ⟨gb446, _, none⟩) (by first | exact Nat.ne_of_lt (Nat.lt_of_lt_of_le (by have := World.block_lt_of_cell? _ _ hw444_0; first | rwa [add_block] at this | exact this) GW446.out) | (rw [add_block]; exact Nat.ne_of_lt (Nat.lt_of_lt_of_le (by have := World.block_lt_of_cell? _ _ hw444_0; first | rwa [add_block] at this | exact this) GW446.out)) | (show (Addr.add _ _).block ≠ _; rw [add_block]; exact Nat.ne_of_lt (Nat.lt_of_lt_of_le (by have := World.block_lt_of_cell? _ _ hw444_0; first | rwa [add_block] at this | exact this) GW446.out)) | (dsimp only; exact Nat.ne_of_lt (Nat.lt_of_lt_of_le (by have := World.block_lt_of_cell? _ _ hw444_0; first | rwa [add_block] at this | exact this) GW446.out))) _).trans (((cell_far (p := ⟨gb446, _, none⟩) (by first | exact Nat.ne_of_lt (Nat.lt_of_lt_of_le (by have := World.block_lt_of_cell? _ _ hw444_0; first | rwa [add_block] at this | exact this) GW446.out) | (rw [add_block]; exact Nat.ne_of_lt (Nat.lt_of_lt_of_le (by have := World.block_lt_of_cell? _ _ hw444_0; first | rwa [add_block] at this | exact this) GW446.out)) | (show (Addr.add _ _).block ≠ _; rw [add_block]; exact Nat.ne_of_lt (Nat.lt_of_lt_of_le (by have := World.block_lt_of_cell? _ _ hw444_0; first | rwa [add_block] at this | exact this) GW446.out)) | (dsimp only; exact Nat.ne_of_lt (Nat.lt_of_lt_of_le (by have := World.block_lt_of_cell? _ _ hw444_0; first | rwa [add_block] at this | exact this) GW446.out))) _).trans (((cell_far (p := ⟨gb446, _, none⟩) (by first | exact Nat.ne_of_lt (Nat.lt_of_lt_of_le (by have := World.block_lt_of_cell? _ _ hw444_0; first | rwa [add_block] at this | exact this) GW446.out) | (rw [add_block]; exact Nat.ne_of_lt (Nat.lt_of_lt_of_le (by have := World.block_lt_of_cell? _ _ hw444_0; first | rwa [add_block] at this | exact this) GW446.out)) | (show (Addr.add _ _).block ≠ _; rw [add_block]; exact Nat.ne_of_lt (Nat.lt_of_lt_of_le (by have := World.block_lt_of_cell? _ _ hw444_0; first | rwa [add_block] at this | exact this) GW446.out)) | (dsimp only; exact Nat.ne_of_lt (Nat.lt_of_lt_of_le (by have := World.block_lt_of_cell? _ _ hw444_0; first | rwa [add_block] at this | exact this) GW446.out))) _).trans (hHeld.1)))))))), ((cell_far (p := ⟨gb446, _, none⟩) (by first | exact Nat.ne_of_lt (Nat.lt_of_lt_of_le (by have := World.block_lt_of_cell? _ _ hw444_1; first | rwa [add_block] at this | exact this) GW446.out) | (rw [add_block]; exact Nat.ne_of_lt (Nat.lt_of_lt_of_le (by have := World.block_lt_of_cell? _ _ hw444_1; first | rwa [add_block] at this | exact this) GW446.out)) | (show (Addr.add _ _).block ≠ _; rw [add_block]; exact Nat.ne_of_lt (Nat.lt_of_lt_of_le (by have := World.block_lt_of_cell? _ _ hw444_1; first | rwa [add_block] at this | exact this) GW446.out)) | (dsimp only; exact Nat.ne_of_lt (Nat.lt_of_lt_of_le (by have := World.block_lt_of_cell? _ _ hw444_1; first | rwa [add_block] at this | exact this) GW446.out))) _).trans (((cell_far (p := ⟨gb446, _, none⟩) (by first | exact Nat.ne_of_lt (Nat.lt_of_lt_of_le (by have := World.block_lt_of_cell? _ _ hw444_1; first | rwa [add_block] at this | exact this) GW446.out) | (rw [add_block]; exact Nat.ne_of_lt (Nat.lt_of_lt_of_le (by have := World.block_lt_of_cell? _ _ hw444_1; first | rwa [add_block] at this | exact this) GW446.out)) | (show (Addr.add _ _).block ≠ _; rw [add_block]; exact Nat.ne_of_lt (Nat.lt_of_lt_of_le (by have := World.block_lt_of_cell? _ _ hw444_1; first | rwa [add_block] at this | exact this) GW446.out)) | (dsimp only; exact Nat.ne_of_lt (Nat.lt_of_lt_of_le (by have := World.block_lt_of_cell? _ _ hw444_1; first | rwa [add_block] at this | exact this) GW446.out))) _).trans (((cell_far (p := ⟨gb446, _, none⟩) (by first | exact Nat.ne_of_lt (Nat.lt_of_lt_of_le (by have := World.block_lt_of_cell? _ _ hw444_1; first | rwa [add_block] at this | exact this) GW446.out) | (rw [add_block]; exact Nat.ne_of_lt (Nat.lt_of_lt_of_le (by have := World.block_lt_of_cell? _ _ hw444_1; first | rwa [add_block] at this | exact this) GW446.out)) | (show (Addr.add _ _).block ≠ _; rw [add_block]; exact Nat.ne_of_lt (Nat.lt_of_lt_of_le (by have := World.block_lt_of_cell? _ _ hw444_1; first | rwa [add_block] at this | exact this) GW446.out)) | (dsimp only; exact Nat.ne_of_lt (Nat.lt_of_lt_of_le (by have := World.block_lt_of_cell? _ _ hw444_1; first | rwa [add_block] at this | exact this) GW446.out))) _).trans (((cell_far (p := ⟨gb446, _, none⟩) (by first | exact Nat.ne_of_lt (Nat.lt_of_lt_of_le (by have := World.block_lt_of_cell? _ _ hw444_1; first | rwa [add_block] at this | exact this) GW446.out) | (rw [add_block]; exact Nat.ne_of_lt (Nat.lt_of_lt_of_le (by have := World.block_lt_of_cell? _ _ hw444_1; first | rwa [add_block] at this | exact this) GW446.out)) | (show (Addr.add _ _).block ≠ _; rw [add_block]; exact Nat.ne_of_lt (Nat.lt_of_lt_of_le (by have := World.block_lt_of_cell? _ _ hw444_1; first | rwa [add_block] at this | exact this) GW446.out)) | (dsimp only; exact Nat.ne_of_lt (Nat.lt_of_lt_of_le (by have := World.block_lt_of_cell? _ _ hw444_1; first | rwa [add_block] at this | exact this) GW446.out))) _).trans (hHeld.2.1)))))))), ((cell_far (p := ⟨gb446, _, none⟩) (by first | exact Nat.ne_of_lt (Nat.lt_of_lt_of_le (by have := World.block_lt_of_cell? _ _ hw444_2; first | rwa [add_block] at this | exact this) GW446.out) | (rw [add_block]; exact Nat.ne_of_lt (Nat.lt_of_lt_of_le (by have := World.block_lt_of_cell? _ _ hw444_2; first | rwa [add_block] at this | exact this) GW446.out)) | (show (Addr.add _ _).block ≠ _; rw [add_block]; exact Nat.ne_of_lt (Nat.lt_of_lt_of_le (by have := World.block_lt_of_cell? _ _ hw444_2; first | rwa [add_block] at this | exact this) GW446.out)) | (dsimp only; exact Nat.ne_of_lt (Nat.lt_of_lt_of_le (by have := World.block_lt_of_cell? _ _ hw444_2; first | rwa [add_block] at this | exact this) GW446.out))) _).trans (((cell_far (p := ⟨gb446, _, none⟩) (by first | exact Nat.ne_of_lt (Nat.lt_of_lt_of_le (by have := World.block_lt_of_cell? _ _ hw444_2; first | rwa [add_block] at this | exact this) GW446.out) | (rw [add_block]; exact Nat.ne_of_lt (Nat.lt_of_lt_of_le (by have := World.block_lt_of_cell? _ _ hw444_2; first | rwa [add_block] at this | exact this) GW446.out)) | (show (Addr.add _ _).block ≠ _; rw [add_block]; exact Nat.ne_of_lt (Nat.lt_of_lt_of_le (by have := World.block_lt_of_cell? _ _ hw444_2; first | rwa [add_block] at this | exact this) GW446.out)) | (dsimp only; exact Nat.ne_of_lt (Nat.lt_of_lt_of_le (by have := World.block_lt_of_cell? _ _ hw444_2; first | rwa [add_block] at this | exact this) GW446.out))) _).trans (((cell_far (p := ⟨gb446, _, none⟩) (by first | exact Nat.ne_of_lt (Nat.lt_of_lt_of_le (by have := World.block_lt_of_cell? _ _ hw444_2; first | rwa [add_block] at this | exact this) GW446.out) | (rw [add_block]; exact Nat.ne_of_lt (Nat.lt_of_lt_of_le (by have := World.block_lt_of_cell? _ _ hw444_2; first | rwa [add_block] at this | exact this) GW446.out)) | (show (Addr.add _ _).block ≠ _; rw [add_block]; exact Nat.ne_of_lt (Nat.lt_of_lt_of_le (by have := World.block_lt_of_cell? _ _ hw444_2; first | rwa [add_block] at this | exact this) GW446.out)) | (dsimp only; exact Nat.ne_of_lt (Nat.lt_of_lt_of_le (by have := World.block_lt_of_cell? _ _ hw444_2; first | rwa [add_block] at this | exact this) GW446.out))) _).trans (((cell_far (p := ⟨gb446, _, none⟩) (by first | exact Nat.ne_of_lt (Nat.lt_of_lt_of_le (by have := World.block_lt_of_cell? _ _ hw444_2; first | rwa [add_block] at this | exact this) GW446.out) | (rw [add_block]; exact Nat.ne_of_lt (Nat.lt_of_lt_of_le (by have := World.block_lt_of_cell? _ _ hw444_2; first | rwa [add_block] at this | exact this) GW446.out)) | (show (Addr.add _ _).block ≠ _; rw [add_block]; exact Nat.ne_of_lt (Nat.lt_of_lt_of_le (by have := World.block_lt_of_cell? _ _ hw444_2; first | rwa [add_block] at this | exact this) GW446.out)) | (dsimp only; exact Nat.ne_of_lt (Nat.lt_of_lt_of_le (by have := World.block_lt_of_cell? _ _ hw444_2; first | rwa [add_block] at this | exact this) GW446.out))) _).trans (hHeld.2.2.1)))))))), ((cell_far (p := ⟨gb446, _, none⟩) (by first | exact Nat.ne_of_lt (Nat.lt_of_lt_of_le (by have := World.block_lt_of_cell? _ _ hw444_3; first | rwa [add_block] at this | exact this) GW446.out) | (rw [add_block]; exact Nat.ne_of_lt (Nat.lt_of_lt_of_le (by have := World.block_lt_of_cell? _ _ hw444_3; first | rwa [add_block] at this | exact this) GW446.out)) | (show (Addr.add _ _).block ≠ _; rw [add_block]; exact Nat.ne_of_lt (Nat.lt_of_lt_of_le (by have := World.block_lt_of_cell? _ _ hw444_3; first | rwa [add_block] at this | exact this) GW446.out)) | (dsimp only; exact Nat.ne_of_lt (Nat.lt_of_lt_of_le (by have := World.block_lt_of_cell? _ _ hw444_3; first | rwa [add_block] at this | exact this) GW446.out))) _).trans (((cell_far (p := ⟨gb446, _, none⟩) (by first | exact Nat.ne_of_lt (Nat.lt_of_lt_of_le (by have := World.block_lt_of_cell? _ _ hw444_3; first | rwa [add_block] at this | exact this) GW446.out) | (rw [add_block]; exact Nat.ne_of_lt (Nat.lt_of_lt_of_le (by have := World.block_lt_of_cell? _ _ hw444_3; first | rwa [add_block] at this | exact this) GW446.out)) | (show (Addr.add _ _).block ≠ _; rw [add_block]; exact Nat.ne_of_lt (Nat.lt_of_lt_of_le (by have := World.block_lt_of_cell? _ _ hw444_3; first | rwa [add_block] at this | exact this) GW446.out)) | (dsimp only; exact Nat.ne_of_lt (Nat.lt_of_lt_of_le (by have := World.block_lt_of_cell? _ _ hw444_3; first | rwa [add_block] at this | exact this) GW446.out))) _).trans (((cell_far (p := ⟨gb446, _, none⟩) (by first | exact Nat.ne_of_lt (Nat.lt_of_lt_of_le (by have := World.block_lt_of_cell? _ _ hw444_3; first | rwa [add_block] at this | exact this) GW446.out) | (rw [add_block]; exact Nat.ne_of_lt (Nat.lt_of_lt_of_le (by have := World.block_lt_of_cell? _ _ hw444_3; first | rwa [add_block] at this | exact this) GW446.out)) | (show (Addr.add _ _).block ≠ _; rw [add_block]; exact Nat.ne_of_lt (Nat.lt_of_lt_of_le (by have := World.block_lt_of_cell? _ _ hw444_3; first | rwa [add_block] at this | exact this) GW446.out)) | (dsimp only; exact Nat.ne_of_lt (Nat.lt_of_lt_of_le (by have := World.block_lt_of_cell? _ _ hw444_3; first | rwa [add_block] at this | exact this) GW446.out))) _).trans (((cell_far (p := ⟨gb446, _, none⟩) (by first | exact Nat.ne_of_lt (Nat.lt_of_lt_of_le (by have := World.block_lt_of_cell? _ _ hw444_3; first | rwa [add_block] at this | exact this) GW446.out) | (rw [add_block]; exact Nat.ne_of_lt (Nat.lt_of_lt_of_le (by have := World.block_lt_of_cell? _ _ hw444_3; first | rwa [add_block] at this | exact this) GW446.out)) | (show (Addr.add _ _).block ≠ _; rw [add_block]; exact Nat.ne_of_lt (Nat.lt_of_lt_of_le (by have := World.block_lt_of_cell? _ _ hw444_3; first | rwa [add_block] at this | exact this) GW446.out)) | (dsimp only; exact Nat.ne_of_lt (Nat.lt_of_lt_of_le (by have := World.block_lt_of_cell? _ _ hw444_3; first | rwa [add_block] at this | exact this) GW446.out))) _).trans (hHeld.2.2.2.1)))))))), ((cell_far (p := ⟨gb446, _, none⟩) (by first | exact Nat.ne_of_lt (Nat.lt_of_lt_of_le (by have := World.block_lt_of_cell? _ _ hw445_0; first | rwa [add_block] at this | exact this) GW446.out) | (rw [add_block]; exact Nat.ne_of_lt (Nat.lt_of_lt_of_le (by have := World.block_lt_of_cell? _ _ hw445_0; first | rwa [add_block] at this | exact this) GW446.out)) | (show (Addr.add _ _).block ≠ _; rw [add_block]; exact Nat.ne_of_lt (Nat.lt_of_lt_of_le (by have := World.block_lt_of_cell? _ _ hw445_0; first | rwa [add_block] at this | exact this) GW446.out)) | (dsimp only; exact Nat.ne_of_lt (Nat.lt_of_lt_of_le (by have := World.block_lt_of_cell? _ _ hw445_0; first | rwa [add_block] at this | exact this) GW446.out))) _).trans (((cell_far (p := ⟨gb446, _, none⟩) (by first | exact Nat.ne_of_lt (Nat.lt_of_lt_of_le (by have := World.block_lt_of_cell? _ _ hw445_0; first | rwa [add_block] at this | exact this) GW446.out) | (rw [add_block]; exact Nat.ne_of_lt (Nat.lt_of_lt_of_le (by have := World.block_lt_of_cell? _ _ hw445_0; first | rwa [add_block] at this | exact this) GW446.out)) | (show (Addr.add _ _).block ≠ _; rw [add_block]; exact Nat.ne_of_lt (Nat.lt_of_lt_of_le (by have := World.block_lt_of_cell? _ _ hw445_0; first | rwa [add_block] at this | exact this) GW446.out)) | (dsimp only; exact Nat.ne_of_lt (Nat.lt_of_lt_of_le (by have := World.block_lt_of_cell? _ _ hw445_0; first | rwa [add_block] at this | exact this) GW446.out))) _).trans (((cell_far (p := ⟨gb446, _, none⟩) (by first | exact Nat.ne_of_lt (Nat.lt_of_lt_of_le (by have := World.block_lt_of_cell? _ _ hw445_0; first | rwa [add_block] at this | exact this) GW446.out) | (rw [add_block]; exact Nat.ne_of_lt (Nat.lt_of_lt_of_le (by have := World.block_lt_of_cell? _ _ hw445_0; first | rwa [add_block] at this | exact this) GW446.out)) | (show (Addr.add _ _).block ≠ _; rw [add_block]; exact Nat.ne_of_lt (Nat.lt_of_lt_of_le (by have := World.block_lt_of_cell? _ _ hw445_0; first | rwa [add_block] at this | exact this) GW446.out)) | (dsimp only; exact Nat.ne_of_lt (Nat.lt_of_lt_of_le (by have := World.block_lt_of_cell? _ _ hw445_0; first | rwa [add_block] at this | exact this) GW446.out))) _).trans (((cell_far (p := ⟨gb446, _, none⟩) (by first | exact Nat.ne_of_lt (Nat.lt_of_lt_of_le (by have := World.block_lt_of_cell? _ _ hw445_0; first | rwa [add_block] at this | exact this) GW446.out) | (rw [add_block]; exact Nat.ne_of_lt (Nat.lt_of_lt_of_le (by have := World.block_lt_of_cell? _ _ hw445_0; first | rwa [add_block] at this | exact this) GW446.out)) | (show (Addr.add _ _).block ≠ _; rw [add_block]; exact Nat.ne_of_lt (Nat.lt_of_lt_of_le (by have := World.block_lt_of_cell? _ _ hw445_0; first | rwa [add_block] at this | exact this) GW446.out)) | (dsimp only; exact Nat.ne_of_lt (Nat.lt_of_lt_of_le (by have := World.block_lt_of_cell? _ _ hw445_0; first | rwa [add_block] at this | exact this) GW446.out))) _).trans (hHeld.2.2.2.2.1)))))))), ((cell_far (p := ⟨gb446, _, none⟩) (by first | exact Nat.ne_of_lt (Nat.lt_of_lt_of_le (by have := World.block_lt_of_cell? _ _ hw445_1; first | rwa [add_block] at this | exact this) GW446.out) | (rw [add_block]; exact Nat.ne_of_lt (Nat.lt_of_lt_of_le (by have := World.block_lt_of_cell? _ _ hw445_1; first | rwa [add_block] at this | exact this) GW446.out)) | (show (Addr.add _ _).block ≠ _; rw [add_block]; exact Nat.ne_of_lt (Nat.lt_of_lt_of_le (by have := World.block_lt_of_cell? _ _ hw445_1; first | rwa [add_block] at this | exact this) GW446.out)) | (dsimp only; exact Nat.ne_of_lt (Nat.lt_of_lt_of_le (by have := World.block_lt_of_cell? _ _ hw445_1; first | rwa [add_block] at this | exact this) GW446.out))) _).trans (((cell_far (p := ⟨gb446, _, none⟩) (by first | exact Nat.ne_of_lt (Nat.lt_of_lt_of_le (by have := World.block_lt_of_cell? _ _ hw445_1; first | rwa [add_block] at this | exact this) GW446.out) | (rw [add_block]; exact Nat.ne_of_lt (Nat.lt_of_lt_of_le (by have := World.block_lt_of_cell? _ _ hw445_1; first | rwa [add_block] at this | exact this) GW446.out)) | (show (Addr.add _ _).block ≠ _; rw [add_block]; exact Nat.ne_of_lt (Nat.lt_of_lt_of_le (by have := World.block_lt_of_cell? _ _ hw445_1; first | rwa [add_block] at this | exact this) GW446.out)) | (dsimp only; exact Nat.ne_of_lt (Nat.lt_of_lt_of_le (by have := World.block_lt_of_cell? _ _ hw445_1; first | rwa [add_block] at this | exact this) GW446.out))) _).trans (((cell_far (p := ⟨gb446, _, none⟩) (by first | exact Nat.ne_of_lt (Nat.lt_of_lt_of_le (by have := World.block_lt_of_cell? _ _ hw445_1; first | rwa [add_block] at this | exact this) GW446.out) | (rw [add_block]; exact Nat.ne_of_lt (Nat.lt_of_lt_of_le (by have := World.block_lt_of_cell? _ _ hw445_1; first | rwa [add_block] at this | exact this) GW446.out)) | (show (Addr.add _ _).block ≠ _; rw [add_block]; exact Nat.ne_of_lt (Nat.lt_of_lt_of_le (by have := World.block_lt_of_cell? _ _ hw445_1; first | rwa [add_block] at this | exact this) GW446.out)) | (dsimp only; exact Nat.ne_of_lt (Nat.lt_of_lt_of_le (by have := World.block_lt_of_cell? _ _ hw445_1; first | rwa [add_block] at this | exact this) GW446.out))) _).trans (((cell_far (p := ⟨gb446, _, none⟩) (by first | exact Nat.ne_of_lt (Nat.lt_of_lt_of_le (by have := World.block_lt_of_cell? _ _ hw445_1; first | rwa [add_block] at this | exact this) GW446.out) | (rw [add_block]; exact Nat.ne_of_lt (Nat.lt_of_lt_of_le (by have := World.block_lt_of_cell? _ _ hw445_1; first | rwa [add_block] at this | exact this) GW446.out)) | (show (Addr.add _ _).block ≠ _; rw [add_block]; exact Nat.ne_of_lt (Nat.lt_of_lt_of_le (by have := World.block_lt_of_cell? _ _ hw445_1; first | rwa [add_block] at this | exact this) GW446.out)) | (dsimp only; exact Nat.ne_of_lt (Nat.lt_of_lt_of_le (by have := World.block_lt_of_cell? _ _ hw445_1; first | rwa [add_block] at this | exact this) GW446.out))) _).trans (hHeld.2.2.2.2.2.1)))))))), ((cell_far (p := ⟨gb446, _, none⟩) (by first | exact Nat.ne_of_lt (Nat.lt_of_lt_of_le (by have := World.block_lt_of_cell? _ _ hw445_2; first | rwa [add_block] at this | exact this) GW446.out) | (rw [add_block]; exact Nat.ne_of_lt (Nat.lt_of_lt_of_le (by have := World.block_lt_of_cell? _ _ hw445_2; first | rwa [add_block] at this | exact this) GW446.out)) | (show (Addr.add _ _).block ≠ _; rw [add_block]; exact Nat.ne_of_lt (Nat.lt_of_lt_of_le (by have := World.block_lt_of_cell? _ _ hw445_2; first | rwa [add_block] at this | exact this) GW446.out)) | (dsimp only; exact Nat.ne_of_lt (Nat.lt_of_lt_of_le (by have := World.block_lt_of_cell? _ _ hw445_2; first | rwa [add_block] at this | exact this) GW446.out))) _).trans (((cell_far (p := ⟨gb446, _, none⟩) (by first | exact Nat.ne_of_lt (Nat.lt_of_lt_of_le (by have := World.block_lt_of_cell? _ _ hw445_2; first | rwa [add_block] at this | exact this) GW446.out) | (rw [add_block]; exact Nat.ne_of_lt (Nat.lt_of_lt_of_le (by have := World.block_lt_of_cell? _ _ hw445_2; first | rwa [add_block] at this | exact this) GW446.out)) | (show (Addr.add _ _).block ≠ _; rw [add_block]; exact Nat.ne_of_lt (Nat.lt_of_lt_of_le (by have := World.block_lt_of_cell? _ _ hw445_2; first | rwa [add_block] at this | exact this) GW446.out)) | (dsimp only; exact Nat.ne_of_lt (Nat.lt_of_lt_of_le (by have := World.block_lt_of_cell? _ _ hw445_2; first | rwa [add_block] at this | exact this) GW446.out))) _).trans (((cell_far (p := ⟨gb446, _, none⟩) (by first | exact Nat.ne_of_lt (Nat.lt_of_lt_of_le (by have := World.block_lt_of_cell? _ _ hw445_2; first | rwa [add_block] at this | exact this) GW446.out) | (rw [add_block]; exact Nat.ne_of_lt (Nat.lt_of_lt_of_le (by have := World.block_lt_of_cell? _ _ hw445_2; first | rwa [add_block] at this | exact this) GW446.out)) | (show (Addr.add _ _).block ≠ _; rw [add_block]; exact Nat.ne_of_lt (Nat.lt_of_lt_of_le (by have := World.block_lt_of_cell? _ _ hw445_2; first | rwa [add_block] at this | exact this) GW446.out)) | (dsimp only; exact Nat.ne_of_lt (Nat.lt_of_lt_of_le (by have := World.block_lt_of_cell? _ _ hw445_2; first | rwa [add_block] at this | exact this) GW446.out))) _).trans (((cell_far (p := ⟨gb446, _, none⟩) (by first | exact Nat.ne_of_lt (Nat.lt_of_lt_of_le (by have := World.block_lt_of_cell? _ _ hw445_2; first | rwa [add_block] at this | exact this) GW446.out) | (rw [add_block]; exact Nat.ne_of_lt (Nat.lt_of_lt_of_le (by have := World.block_lt_of_cell? _ _ hw445_2; first | rwa [add_block] at this | exact this) GW446.out)) | (show (Addr.add _ _).block ≠ _; rw [add_block]; exact Nat.ne_of_lt (Nat.lt_of_lt_of_le (by have := World.block_lt_of_cell? _ _ hw445_2; first | rwa [add_block] at this | exact this) GW446.out)) | (dsimp only; exact Nat.ne_of_lt (Nat.lt_of_lt_of_le (by have := World.block_lt_of_cell? _ _ hw445_2; first | rwa [add_block] at this | exact this) GW446.out))) _).trans (hHeld.2.2.2.2.2.2.1)))))))), ((cell_far (p := ⟨gb446, _, none⟩) (by first | exact Nat.ne_of_lt (Nat.lt_of_lt_of_le (by have := World.block_lt_of_cell? _ _ hw445_3; first | rwa [add_block] at this | exact this) GW446.out) | (rw [add_block]; exact Nat.ne_of_lt (Nat.lt_of_lt_of_le (by have := World.block_lt_of_cell? _ _ hw445_3; first | rwa [add_block] at this | exact this) GW446.out)) | (show (Addr.add _ _).block ≠ _; rw [add_block]; exact Nat.ne_of_lt (Nat.lt_of_lt_of_le (by have := World.block_lt_of_cell? _ _ hw445_3; first | rwa [add_block] at this | exact this) GW446.out)) | (dsimp only; exact Nat.ne_of_lt (Nat.lt_of_lt_of_le (by have := World.block_lt_of_cell? _ _ hw445_3; first | rwa [add_block] at this | exact this) GW446.out))) _).trans (((cell_far (p := ⟨gb446, _, none⟩) (by first | exact Nat.ne_of_lt (Nat.lt_of_lt_of_le (by have := World.block_lt_of_cell? _ _ hw445_3; first | rwa [add_block] at this | exact this) GW446.out) | (rw [add_block]; exact Nat.ne_of_lt (Nat.lt_of_lt_of_le (by have := World.block_lt_of_cell? _ _ hw445_3; first | rwa [add_block] at this | exact this) GW446.out)) | (show (Addr.add _ _).block ≠ _; rw [add_block]; exact Nat.ne_of_lt (Nat.lt_of_lt_of_le (by have := World.block_lt_of_cell? _ _ hw445_3; first | rwa [add_block] at this | exact this) GW446.out)) | (dsimp only; exact Nat.ne_of_lt (Nat.lt_of_lt_of_le (by have := World.block_lt_of_cell? _ _ hw445_3; first | rwa [add_block] at this | exact this) GW446.out))) _).trans (((cell_far (p := ⟨gb446, _, none⟩) (by first | exact Nat.ne_of_lt (Nat.lt_of_lt_of_le (by have := World.block_lt_of_cell? _ _ hw445_3; first | rwa [add_block] at this | exact this) GW446.out) | (rw [add_block]; exact Nat.ne_of_lt (Nat.lt_of_lt_of_le (by have := World.block_lt_of_cell? _ _ hw445_3; first | rwa [add_block] at this | exact this) GW446.out)) | (show (Addr.add _ _).block ≠ _; rw [add_block]; exact Nat.ne_of_lt (Nat.lt_of_lt_of_le (by have := World.block_lt_of_cell? _ _ hw445_3; first | rwa [add_block] at this | exact this) GW446.out)) | (dsimp only; exact Nat.ne_of_lt (Nat.lt_of_lt_of_le (by have := World.block_lt_of_cell? _ _ hw445_3; first | rwa [add_block] at this | exact this) GW446.out))) _).trans (((cell_far (p := ⟨gb446, _, none⟩) (by first | exact Nat.ne_of_lt (Nat.lt_of_lt_of_le (by have := World.block_lt_of_cell? _ _ hw445_3; first | rwa [add_block] at this | exact this) GW446.out) | (rw [add_block]; exact Nat.ne_of_lt (Nat.lt_of_lt_of_le (by have := World.block_lt_of_cell? _ _ hw445_3; first | rwa [add_block] at this | exact this) GW446.out)) | (show (Addr.add _ _).block ≠ _; rw [add_block]; exact Nat.ne_of_lt (Nat.lt_of_lt_of_le (by have := World.block_lt_of_cell? _ _ hw445_3; first | rwa [add_block] at this | exact this) GW446.out)) | (dsimp only; exact Nat.ne_of_lt (Nat.lt_of_lt_of_le (by have := World.block_lt_of_cell? _ _ hw445_3; first | rwa [add_block] at this | exact this) GW446.out))) _).trans (hHeld.2.2.2.2.2.2.2))))))))⟩ (fun hHeld => ?_)
                  clear hK K
                  refine done_ (done_of HT_.out (by kernel_rfl)) ?_
                  have hnb24 := NB446_437.out
                  have hnc24 := NB437_446.out
                  have hnb25 := NB446_439.out
                  have hnc25 := NB439_446.out
                  have hcz26_0 : w19.cell? ⟨gb446, 0, none⟩ = some (.int .i64 0) := (blk_cell BK446.out 0).trans rfl
                  have hcz26_1 : w19.cell? ⟨gb446, 1, none⟩ = some (.int .i64 0) := (blk_cell BK446.out 1).trans rfl
                  have hcz26_2 : w19.cell? ⟨gb446, 2, none⟩ = some (.int .i64 0) := (blk_cell BK446.out 2).trans rfl
                  have hcz26_3 : w19.cell? ⟨gb446, 3, none⟩ = some (.string (⟨#[]⟩ : ByteArray)) := (blk_cell BK446.out 3).trans rfl
                  have hfz26_0 := blk_frozen BK446.out 0
                  have hfz26_1 := blk_frozen BK446.out 1
                  have hfz26_2 := blk_frozen BK446.out 2
                  have hfz26_3 := blk_frozen BK446.out 3
                  go_upto_if 62 with (fail)
                  go_cut [10] (fun v10 wc => ∃ (kq : Nat) (x10_15 : Int), v10 = .int .i64 x10_15 ∧ Aside0 (examinerref08_Read.j1 kq a0 l1 x7_1 x10_15 x440000_1 x440001_1 0 ((rd_T66 l1 x7_1).f0) ((rd_T66 l1 x7_1).f1) 0 (⟨#[]⟩ : ByteArray) = some (r1, r2, r3)) ∧ Aside0 (kq ≤ k1) ∧ Aside0 (Kd.R k66 66 wc w.heap.size (fun k_ => k_ ≠ gb446) u440000 x440000_1) ∧ Aside0 (wc.heap[gb437]? = some (.cells #[(.slice none 0 0), .int .i64 x438001_1, .int .i64 x438002_1] 60 (0, 0))) ∧ Aside0 (wc.heap[gb439]? = some (.cells #[u440000, .int .i64 x440001_1, .int .i64 0] 60 (0, 0))) ∧ Aside0 (wc.heap[gb446]? = some (.cells #[.int .i64 ((rd_T66 l1 x7_1).f0), .int .i64 ((rd_T66 l1 x7_1).f1), .int .i64 0, .string (⟨#[]⟩ : ByteArray)] 66 (0, 0))) ∧ Aside0 (Below w.heap.size w wc))
                  case first =>
                    have H := HC16.out
                    clear HC16
                    by_cases c27 : ((rd_T66 l1 x7_1).f0) = 2
                    · rw [if_pos c27] at H
                      have c27b0 : (((rd_T66 l1 x7_1).f0) == 2) = true := beq_iff_eq.mpr c27
                      have c27b1 : (((rd_T66 l1 x7_1).f0) != 2) = false := bne_eq_false_iff_eq.mpr c27
                      clear c27
                      (first | rw [c27b0] | (simp only [i64_w, i32_w]; rw [c27b0]) | skip)
                      have H' := Aside0.mk H
                      clear H
                      have hnb28 := NB446_437.out
                      have hnc28 := NB437_446.out
                      have hnb29 := NB446_439.out
                      have hnc29 := NB439_446.out
                      have hcz30_0 : w19.cell? ⟨gb446, 0, none⟩ = some (.int .i64 0) := (blk_cell BK446.out 0).trans rfl
                      have hcz30_1 : w19.cell? ⟨gb446, 1, none⟩ = some (.int .i64 0) := (blk_cell BK446.out 1).trans rfl
                      have hcz30_2 : w19.cell? ⟨gb446, 2, none⟩ = some (.int .i64 0) := (blk_cell BK446.out 2).trans rfl
                      have hcz30_3 : w19.cell? ⟨gb446, 3, none⟩ = some (.string (⟨#[]⟩ : ByteArray)) := (blk_cell BK446.out 3).trans rfl
                      have hfz30_0 := blk_frozen BK446.out 0
                      have hfz30_1 := blk_frozen BK446.out 1
                      have hfz30_2 := blk_frozen BK446.out 2
                      have hfz30_3 := blk_frozen BK446.out 3
                      go_wp2
                      go_meet
                      case rel => exact ⟨_, (wrap64 (8 * ((rd_T66 l1 x7_1).f1))), (by first | rfl | (simp; done) | (simp [*]; done)), H', ⟨by have := HK1.out; first | omega | exact Nat.le_refl _⟩, ⟨by (with_reducible repeat (first | apply Kd.R_alloc | apply Kd.R_drewN | apply Kd.R_drew)); exact Kd.R_mono (Kd.R_far (p := ⟨gb446, 3, none⟩) (Kd.R_far (p := ⟨gb446, 2, none⟩) (Kd.R_far (p := ⟨gb446, 1, none⟩) (Kd.R_far (p := ⟨gb446, 0, none⟩) (Kd.R_mono HO_440000.out (fun k_ hk => (⟨hk, hk.2⟩ : _ ∧ k_ ≠ gb446))) (fun _ hk => hk.2) (.int .i64 ((rd_T66 l1 x7_1).f0))) (fun _ hk => hk.2) (.int .i64 ((rd_T66 l1 x7_1).f1))) (fun _ hk => hk.2) (.int .i64 0)) (fun _ hk => hk.2) (.string (⟨#[]⟩ : ByteArray))) (fun _ hk => hk.1.2)⟩, ⟨by (with_reducible repeat (first | refine blk_drewN ?_ _ | refine blk_drew ?_ | refine blk_alloc ?_ _)); refine blk_far ?_ NB437_446.out _; (with_reducible repeat (first | refine blk_drewN ?_ _ | refine blk_drew ?_ | refine blk_alloc ?_ _)); refine blk_far ?_ NB437_446.out _; (with_reducible repeat (first | refine blk_drewN ?_ _ | refine blk_drew ?_ | refine blk_alloc ?_ _)); refine blk_far ?_ NB437_446.out _; (with_reducible repeat (first | refine blk_drewN ?_ _ | refine blk_drew ?_ | refine blk_alloc ?_ _)); refine blk_far ?_ NB437_446.out _; (with_reducible repeat (first | refine blk_drewN ?_ _ | refine blk_drew ?_ | refine blk_alloc ?_ _)); exact BK437.out⟩, ⟨by (with_reducible repeat (first | refine blk_drewN ?_ _ | refine blk_drew ?_ | refine blk_alloc ?_ _)); refine blk_far ?_ NB439_446.out _; (with_reducible repeat (first | refine blk_drewN ?_ _ | refine blk_drew ?_ | refine blk_alloc ?_ _)); refine blk_far ?_ NB439_446.out _; (with_reducible repeat (first | refine blk_drewN ?_ _ | refine blk_drew ?_ | refine blk_alloc ?_ _)); refine blk_far ?_ NB439_446.out _; (with_reducible repeat (first | refine blk_drewN ?_ _ | refine blk_drew ?_ | refine blk_alloc ?_ _)); refine blk_far ?_ NB439_446.out _; (with_reducible repeat (first | refine blk_drewN ?_ _ | refine blk_drew ?_ | refine blk_alloc ?_ _)); exact BK439.out⟩, ⟨by (with_reducible repeat (first | refine blk_drewN ?_ _ | refine blk_drew ?_ | refine blk_alloc ?_ _)); refine blk_put (cs := #[.int .i64 ((rd_T66 l1 x7_1).f0), .int .i64 ((rd_T66 l1 x7_1).f1), .int .i64 0, .string (⟨#[]⟩ : ByteArray)]) ?_ 3 _ rfl; (with_reducible repeat (first | refine blk_drewN ?_ _ | refine blk_drew ?_ | refine blk_alloc ?_ _)); refine blk_put (cs := #[.int .i64 ((rd_T66 l1 x7_1).f0), .int .i64 ((rd_T66 l1 x7_1).f1), .int .i64 0, .string (⟨#[]⟩ : ByteArray)]) ?_ 2 _ rfl; (with_reducible repeat (first | refine blk_drewN ?_ _ | refine blk_drew ?_ | refine blk_alloc ?_ _)); refine blk_put (cs := #[.int .i64 ((rd_T66 l1 x7_1).f0), .int .i64 0, .int .i64 0, .string (⟨#[]⟩ : ByteArray)]) ?_ 1 _ rfl; (with_reducible repeat (first | refine blk_drewN ?_ _ | refine blk_drew ?_ | refine blk_alloc ?_ _)); refine blk_put (cs := #[.int .i64 0, .int .i64 0, .int .i64 0, .string (⟨#[]⟩ : ByteArray)]) ?_ 0 _ rfl; (with_reducible repeat (first | refine blk_drewN ?_ _ | refine blk_drew ?_ | refine blk_alloc ?_ _)); exact BK446.out⟩, ⟨by repeat (first | (with_reducible first | exact HB.out | apply below_alloc | apply pw_below_drewN | apply below_drew1 | refine below_set ?_ GE437.out | refine below_set ?_ GE439.out | refine below_set ?_ GE446.out) | exact HB.out)⟩⟩
                    · rw [if_neg c27] at H
                      have c27b0 : (((rd_T66 l1 x7_1).f0) == 2) = false := beq_eq_false_iff_ne.mpr c27
                      have c27b1 : (((rd_T66 l1 x7_1).f0) != 2) = true := bne_iff_ne.mpr c27
                      (first | rw [c27b0] | (simp only [i64_w, i32_w]; rw [c27b0]) | skip)
                      have H' := Aside0.mk H
                      clear H
                      go_wp2
                      go_meet
                      case rel => exact ⟨_, ((rd_T66 l1 x7_1).f1), (by first | rfl | (simp; done) | (simp [*]; done)), H', ⟨by have := HK1.out; first | omega | exact Nat.le_refl _⟩, ⟨by (with_reducible repeat (first | apply Kd.R_alloc | apply Kd.R_drewN | apply Kd.R_drew)); exact Kd.R_mono (Kd.R_far (p := ⟨gb446, 3, none⟩) (Kd.R_far (p := ⟨gb446, 2, none⟩) (Kd.R_far (p := ⟨gb446, 1, none⟩) (Kd.R_far (p := ⟨gb446, 0, none⟩) (Kd.R_mono HO_440000.out (fun k_ hk => (⟨hk, hk.2⟩ : _ ∧ k_ ≠ gb446))) (fun _ hk => hk.2) (.int .i64 ((rd_T66 l1 x7_1).f0))) (fun _ hk => hk.2) (.int .i64 ((rd_T66 l1 x7_1).f1))) (fun _ hk => hk.2) (.int .i64 0)) (fun _ hk => hk.2) (.string (⟨#[]⟩ : ByteArray))) (fun _ hk => hk.1.2)⟩, ⟨by (with_reducible repeat (first | refine blk_drewN ?_ _ | refine blk_drew ?_ | refine blk_alloc ?_ _)); refine blk_far ?_ NB437_446.out _; (with_reducible repeat (first | refine blk_drewN ?_ _ | refine blk_drew ?_ | refine blk_alloc ?_ _)); refine blk_far ?_ NB437_446.out _; (with_reducible repeat (first | refine blk_drewN ?_ _ | refine blk_drew ?_ | refine blk_alloc ?_ _)); refine blk_far ?_ NB437_446.out _; (with_reducible repeat (first | refine blk_drewN ?_ _ | refine blk_drew ?_ | refine blk_alloc ?_ _)); refine blk_far ?_ NB437_446.out _; (with_reducible repeat (first | refine blk_drewN ?_ _ | refine blk_drew ?_ | refine blk_alloc ?_ _)); exact BK437.out⟩, ⟨by (with_reducible repeat (first | refine blk_drewN ?_ _ | refine blk_drew ?_ | refine blk_alloc ?_ _)); refine blk_far ?_ NB439_446.out _; (with_reducible repeat (first | refine blk_drewN ?_ _ | refine blk_drew ?_ | refine blk_alloc ?_ _)); refine blk_far ?_ NB439_446.out _; (with_reducible repeat (first | refine blk_drewN ?_ _ | refine blk_drew ?_ | refine blk_alloc ?_ _)); refine blk_far ?_ NB439_446.out _; (with_reducible repeat (first | refine blk_drewN ?_ _ | refine blk_drew ?_ | refine blk_alloc ?_ _)); refine blk_far ?_ NB439_446.out _; (with_reducible repeat (first | refine blk_drewN ?_ _ | refine blk_drew ?_ | refine blk_alloc ?_ _)); exact BK439.out⟩, ⟨by (with_reducible repeat (first | refine blk_drewN ?_ _ | refine blk_drew ?_ | refine blk_alloc ?_ _)); refine blk_put (cs := #[.int .i64 ((rd_T66 l1 x7_1).f0), .int .i64 ((rd_T66 l1 x7_1).f1), .int .i64 0, .string (⟨#[]⟩ : ByteArray)]) ?_ 3 _ rfl; (with_reducible repeat (first | refine blk_drewN ?_ _ | refine blk_drew ?_ | refine blk_alloc ?_ _)); refine blk_put (cs := #[.int .i64 ((rd_T66 l1 x7_1).f0), .int .i64 ((rd_T66 l1 x7_1).f1), .int .i64 0, .string (⟨#[]⟩ : ByteArray)]) ?_ 2 _ rfl; (with_reducible repeat (first | refine blk_drewN ?_ _ | refine blk_drew ?_ | refine blk_alloc ?_ _)); refine blk_put (cs := #[.int .i64 ((rd_T66 l1 x7_1).f0), .int .i64 0, .int .i64 0, .string (⟨#[]⟩ : ByteArray)]) ?_ 1 _ rfl; (with_reducible repeat (first | refine blk_drewN ?_ _ | refine blk_drew ?_ | refine blk_alloc ?_ _)); refine blk_put (cs := #[.int .i64 0, .int .i64 0, .int .i64 0, .string (⟨#[]⟩ : ByteArray)]) ?_ 0 _ rfl; (with_reducible repeat (first | refine blk_drewN ?_ _ | refine blk_drew ?_ | refine blk_alloc ?_ _)); exact BK446.out⟩, ⟨by repeat (first | (with_reducible first | exact HB.out | apply below_alloc | apply pw_below_drewN | apply below_drew1 | refine below_set ?_ GE437.out | refine below_set ?_ GE439.out | refine below_set ?_ GE446.out) | exact HB.out)⟩⟩
                  case rest =>
                    clear HC16
                    try clear c1
                    try clear c2
                    try clear p2
                    try clear c4
                    try clear c4b0
                    try clear c4b1
                    try clear p4
                    try clear q4
                    try clear hx4
                    try clear c5
                    try clear c5b0
                    try clear c5b1
                    try clear p6
                    try clear c7
                    try clear c10
                    try clear c10b0
                    try clear c11
                    try clear c11b0
                    try clear c13
                    try clear c15
                    try clear c15b0
                    try clear c15b1
                    try clear c20
                    try clear c24
                    try clear c25
                    try clear c27
                    try clear c27b0
                    try clear c27b1
                    try clear c28
                    try clear c29
                    try clear hcz26_0
                    try clear hcz26_1
                    try clear hcz26_2
                    try clear hcz26_3
                    try clear hcz30_0
                    try clear hcz30_1
                    try clear hcz30_2
                    try clear hcz30_3
                    try clear hcz7_0
                    try clear hcz7_1
                    try clear hcz7_2
                    try clear hfz26_0
                    try clear hfz26_1
                    try clear hfz26_2
                    try clear hfz26_3
                    try clear hfz30_0
                    try clear hfz30_1
                    try clear hfz30_2
                    try clear hfz30_3
                    try clear hfz7_0
                    try clear hfz7_1
                    try clear hfz7_2
                    try clear hx440_0
                    try clear hx440_1
                    try clear hx440_2
                    try clear hx440_3
                    try clear hx442_0
                    try clear hx442_1
                    try clear hx442_2
                    try clear hx442_3
                    try clear hx444_0
                    try clear hx444_1
                    try clear hx444_2
                    try clear hx444_3
                    try clear hx445_0
                    try clear hx445_1
                    try clear hx445_2
                    try clear hx445_3
                    try clear p2
                    try clear p440
                    try clear p442
                    try clear p444
                    try clear p445
                    try clear q440
                    try clear q442
                    try clear q444
                    try clear q445
                    obtain ⟨kq, x10_15, rfl, HA, HJ15, HO_440000, BK437, BK439, BK446, HB⟩ := hcut
                    cases kq with
                    | zero => exact absurd HA.out (by simp [examinerref08_Read.j1])
                    | succ kj15 =>
                      have H := HA.out
                      clear HA
                      simp only [examinerref08_Read.j1] at H
                      have HC31 := Aside0.mk H
                      clear H
                      have hnb32 := NB446_437.out
                      have hnc32 := NB437_446.out
                      have hnb33 := NB446_439.out
                      have hnc33 := NB439_446.out
                      have hcz34_0 : wc.cell? ⟨gb446, 0, none⟩ = some (.int .i64 ((rd_T66 l1 x7_1).f0)) := (blk_cell BK446.out 0).trans rfl
                      have hcz34_1 : wc.cell? ⟨gb446, 1, none⟩ = some (.int .i64 ((rd_T66 l1 x7_1).f1)) := (blk_cell BK446.out 1).trans rfl
                      have hcz34_2 : wc.cell? ⟨gb446, 2, none⟩ = some (.int .i64 0) := (blk_cell BK446.out 2).trans rfl
                      have hcz34_3 : wc.cell? ⟨gb446, 3, none⟩ = some (.string (⟨#[]⟩ : ByteArray)) := (blk_cell BK446.out 3).trans rfl
                      have hfz34_0 := blk_frozen BK446.out 0
                      have hfz34_1 := blk_frozen BK446.out 1
                      have hfz34_2 := blk_frozen BK446.out 2
                      have hfz34_3 := blk_frozen BK446.out 3
                      go_upto_if 68 with (fail)
                      go_cut [10] (fun v10 wc => ∃ (kq : Nat) (x10_30 : Int), v10 = .int .i64 x10_30 ∧ Aside0 (examinerref08_Read.j2 kq a0 l1 x7_1 x10_30 x440000_1 x440001_1 0 ((rd_T66 l1 x7_1).f0) ((rd_T66 l1 x7_1).f1) 0 (⟨#[]⟩ : ByteArray) = some (r1, r2, r3)) ∧ Aside0 (kq ≤ kj15) ∧ Aside0 (Kd.R k66 66 wc w.heap.size (fun k_ => k_ ≠ gb446) u440000 x440000_1) ∧ Aside0 (wc.heap[gb437]? = some (.cells #[(.slice none 0 0), .int .i64 x438001_1, .int .i64 x438002_1] 60 (0, 0))) ∧ Aside0 (wc.heap[gb439]? = some (.cells #[u440000, .int .i64 x440001_1, .int .i64 0] 60 (0, 0))) ∧ Aside0 (wc.heap[gb446]? = some (.cells #[.int .i64 ((rd_T66 l1 x7_1).f0), .int .i64 ((rd_T66 l1 x7_1).f1), .int .i64 0, .string (⟨#[]⟩ : ByteArray)] 66 (0, 0))) ∧ Aside0 (Below w.heap.size w wc))
                      case first =>
                        have H := HC31.out
                        clear HC31
                        by_cases c35 : ((rd_T66 l1 x7_1).f0) = 3
                        · rw [if_pos c35] at H
                          have c35b0 : (((rd_T66 l1 x7_1).f0) == 3) = true := beq_iff_eq.mpr c35
                          have c35b1 : (((rd_T66 l1 x7_1).f0) != 3) = false := bne_eq_false_iff_eq.mpr c35
                          clear c35
                          (first | rw [c35b0] | (simp only [i64_w, i32_w]; rw [c35b0]) | skip)
                          replace H := Option.bind_eq_some_iff.mp H
                          obtain ⟨t447, A360, H⟩ := H
                          replace H : (examinerref08_Read.j2 kj15 a0 l1 x7_1 t447 x440000_1 x440001_1 0 ((rd_T66 l1 x7_1).f0) ((rd_T66 l1 x7_1).f1) 0 (⟨#[]⟩ : ByteArray)) = some (r1, r2, r3) := H
                          have A36 := Aside0.mk A360
                          clear A360
                          have H' := Aside0.mk H
                          clear H
                          have hnb37 := NB439_437.out
                          have hnc37 := NB437_439.out
                          have hnb38 := NB439_446.out
                          have hnc38 := NB446_439.out
                          have hcz39_0 : wc.cell? ⟨gb439, 0, none⟩ = some (u440000) := (blk_cell BK439.out 0).trans rfl
                          have hcz39_1 : wc.cell? ⟨gb439, 1, none⟩ = some (.int .i64 x440001_1) := (blk_cell BK439.out 1).trans rfl
                          have hcz39_2 : wc.cell? ⟨gb439, 2, none⟩ = some (.int .i64 0) := (blk_cell BK439.out 2).trans rfl
                          have hfz39_0 := blk_frozen BK439.out 0
                          have hfz39_1 := blk_frozen BK439.out 1
                          have hfz39_2 := blk_frozen BK439.out 2
                          go_wp2_with (first | ((with_reducible refine gate_callee (f := 60) rfl ?_); refine goesL_ (some 71) rfl rfl Tryd.func60 (by kernel_rfl) rfl #[.int .i64 x440001_1] rfl (by (try simp only [List.map_toArray, List.map_cons, List.map_nil]); first | done | rfl | (simp only [List.length_drop, List.length_take]; rfl)) ?_; (with_reducible refine (examinerref08_Padding.calls x440001_1 t447 _ A36.out).mono ?_); rintro e w' ⟨rfl, ⟨nd, rfl⟩⟩; refine ⟨_, rfl, ?_⟩))
                          go_meet
                          case rel => exact ⟨_, (t447), (by first | rfl | (simp; done) | (simp [*]; done)), H', ⟨by have := HK1.out; have := HJ15.out; first | omega | exact Nat.le_refl _⟩, ⟨by (with_reducible repeat (first | apply Kd.R_alloc | apply Kd.R_drewN | apply Kd.R_drew)); exact HO_440000.out⟩, ⟨by (with_reducible repeat (first | refine blk_drewN ?_ _ | refine blk_drew ?_ | refine blk_alloc ?_ _)); exact BK437.out⟩, ⟨by (with_reducible repeat (first | refine blk_drewN ?_ _ | refine blk_drew ?_ | refine blk_alloc ?_ _)); exact BK439.out⟩, ⟨by (with_reducible repeat (first | refine blk_drewN ?_ _ | refine blk_drew ?_ | refine blk_alloc ?_ _)); exact BK446.out⟩, ⟨by repeat (first | (with_reducible first | exact HB.out | apply below_alloc | apply pw_below_drewN | apply below_drew1 | refine below_set ?_ GE437.out | refine below_set ?_ GE439.out | refine below_set ?_ GE446.out) | exact HB.out)⟩⟩
                        · rw [if_neg c35] at H
                          have c35b0 : (((rd_T66 l1 x7_1).f0) == 3) = false := beq_eq_false_iff_ne.mpr c35
                          have c35b1 : (((rd_T66 l1 x7_1).f0) != 3) = true := bne_iff_ne.mpr c35
                          (first | rw [c35b0] | (simp only [i64_w, i32_w]; rw [c35b0]) | skip)
                          have H' := Aside0.mk H
                          clear H
                          go_wp2
                          go_meet
                          case rel => exact ⟨_, (x10_15), (by first | rfl | (simp; done) | (simp [*]; done)), H', ⟨by have := HK1.out; have := HJ15.out; first | omega | exact Nat.le_refl _⟩, ⟨by (with_reducible repeat (first | apply Kd.R_alloc | apply Kd.R_drewN | apply Kd.R_drew)); exact HO_440000.out⟩, ⟨by (with_reducible repeat (first | refine blk_drewN ?_ _ | refine blk_drew ?_ | refine blk_alloc ?_ _)); exact BK437.out⟩, ⟨by (with_reducible repeat (first | refine blk_drewN ?_ _ | refine blk_drew ?_ | refine blk_alloc ?_ _)); exact BK439.out⟩, ⟨by (with_reducible repeat (first | refine blk_drewN ?_ _ | refine blk_drew ?_ | refine blk_alloc ?_ _)); exact BK446.out⟩, ⟨by repeat (first | (with_reducible first | exact HB.out | apply below_alloc | apply pw_below_drewN | apply below_drew1 | refine below_set ?_ GE437.out | refine below_set ?_ GE439.out | refine below_set ?_ GE446.out) | exact HB.out)⟩⟩
                      case rest =>
                        clear HC31
                        try clear c1
                        try clear c2
                        try clear p2
                        try clear c3
                        try clear c4
                        try clear c4b0
                        try clear c4b1
                        try clear p4
                        try clear q4
                        try clear hx4
                        try clear c5
                        try clear c5b0
                        try clear c5b1
                        try clear c6
                        try clear p6
                        try clear c7
                        try clear c10
                        try clear c10b0
                        try clear c11
                        try clear c11b0
                        try clear c13
                        try clear c15
                        try clear c15b0
                        try clear c15b1
                        try clear c20
                        try clear c24
                        try clear c25
                        try clear c27
                        try clear c27b0
                        try clear c27b1
                        try clear c28
                        try clear c29
                        try clear c32
                        try clear c33
                        try clear c35
                        try clear c35b0
                        try clear c35b1
                        try clear c37
                        try clear c38
                        try clear hcz26_0
                        try clear hcz26_1
                        try clear hcz26_2
                        try clear hcz26_3
                        try clear hcz30_0
                        try clear hcz30_1
                        try clear hcz30_2
                        try clear hcz30_3
                        try clear hcz34_0
                        try clear hcz34_1
                        try clear hcz34_2
                        try clear hcz34_3
                        try clear hcz39_0
                        try clear hcz39_1
                        try clear hcz39_2
                        try clear hcz7_0
                        try clear hcz7_1
                        try clear hcz7_2
                        try clear hfz26_0
                        try clear hfz26_1
                        try clear hfz26_2
                        try clear hfz26_3
                        try clear hfz30_0
                        try clear hfz30_1
                        try clear hfz30_2
                        try clear hfz30_3
                        try clear hfz34_0
                        try clear hfz34_1
                        try clear hfz34_2
                        try clear hfz34_3
                        try clear hfz39_0
                        try clear hfz39_1
                        try clear hfz39_2
                        try clear hfz7_0
                        try clear hfz7_1
                        try clear hfz7_2
                        try clear hx440_0
                        try clear hx440_1
                        try clear hx440_2
                        try clear hx440_3
                        try clear hx442_0
                        try clear hx442_1
                        try clear hx442_2
                        try clear hx442_3
                        try clear hx444_0
                        try clear hx444_1
                        try clear hx444_2
                        try clear hx444_3
                        try clear hx445_0
                        try clear hx445_1
                        try clear hx445_2
                        try clear hx445_3
                        try clear p2
                        try clear p4
                        try clear p440
                        try clear p442
                        try clear p444
                        try clear p445
                        try clear p6
                        try clear q4
                        try clear q440
                        try clear q442
                        try clear q444
                        try clear q445
                        obtain ⟨kq, x10_30, rfl, HA, HJ30, HO_440000, BK437, BK439, BK446, HB⟩ := hcut
                        cases kq with
                        | zero => exact absurd HA.out (by simp [examinerref08_Read.j2])
                        | succ kj30 =>
                          have H := HA.out
                          clear HA
                          simp only [examinerref08_Read.j2] at H
                          by_cases c40 : (wrap64 (x440001_1 + x10_30)) > (a0.size : Int)
                          · rw [if_pos c40] at H
                            have c40b0 : decide ((a0.size : Int) < (wrap64 (x440001_1 + x10_30))) = true := decide_eq_true c40
                            clear c40
                            simp only [Option.some.injEq, Prod.mk.injEq] at H
                            obtain ⟨rfl, rfl, rfl⟩ := H
                            have hnb41 := NB439_437.out
                            have hnc41 := NB437_439.out
                            have hnb42 := NB439_446.out
                            have hnc42 := NB446_439.out
                            have hcz43_0 : wc.cell? ⟨gb439, 0, none⟩ = some (u440000) := (blk_cell BK439.out 0).trans rfl
                            have hcz43_1 : wc.cell? ⟨gb439, 1, none⟩ = some (.int .i64 x440001_1) := (blk_cell BK439.out 1).trans rfl
                            have hcz43_2 : wc.cell? ⟨gb439, 2, none⟩ = some (.int .i64 0) := (blk_cell BK439.out 2).trans rfl
                            have hfz43_0 := blk_frozen BK439.out 0
                            have hfz43_1 := blk_frozen BK439.out 1
                            have hfz43_2 := blk_frozen BK439.out 2
                            have hnb44 := NB437_446.out
                            have hnc44 := NB446_437.out
                            have hcz45_0 : wc.cell? ⟨gb437, 0, none⟩ = some (.slice none 0 0) := (blk_cell BK437.out 0).trans rfl
                            have hcz45_1 : wc.cell? ⟨gb437, 1, none⟩ = some (.int .i64 x438001_1) := (blk_cell BK437.out 1).trans rfl
                            have hcz45_2 : wc.cell? ⟨gb437, 2, none⟩ = some (.int .i64 x438002_1) := (blk_cell BK437.out 2).trans rfl
                            have hfz45_0 := blk_frozen BK437.out 0
                            have hfz45_1 := blk_frozen BK437.out 1
                            have hfz45_2 := blk_frozen BK437.out 2
                            go_wp2
                            refine bodyPost_ret (results_cell_row rfl _ _ gb437 60 #[.slice none 0 0, .int .i64 x7_1, .int .i64 9] (0, 0) _ rfl (by (with_reducible repeat (first | refine blk_drewN ?_ _ | refine blk_drew ?_ | refine blk_alloc ?_ _)); refine blk_put (cs := #[.slice none 0 0, .int .i64 x7_1, .int .i64 x438002_1]) ?_ 2 _ rfl; (with_reducible repeat (first | refine blk_drewN ?_ _ | refine blk_drew ?_ | refine blk_alloc ?_ _)); refine blk_put (cs := #[.slice none 0 0, .int .i64 x438001_1, .int .i64 x438002_1]) ?_ 1 _ rfl; (with_reducible repeat (first | refine blk_drewN ?_ _ | refine blk_drew ?_ | refine blk_alloc ?_ _)); refine blk_put (cs := #[.slice none 0 0, .int .i64 x438001_1, .int .i64 x438002_1]) ?_ 0 _ rfl; (with_reducible repeat (first | refine blk_drewN ?_ _ | refine blk_drew ?_ | refine blk_alloc ?_ _)); exact BK437.out) Tryd.underlying60 rfl (by kernel_rfl)) rfl ?_
                            exact ⟨_, by first | rfl | (simp [errW_none, errW_some] <;> rfl) | (simp [*, errW_none, errW_some] <;> rfl), by first | exact Kd.R_nil _ _ _ _ _ | exact Kd.N_nil _ _ _ _ _ | exact Kd.V_nil _ _ _ _ _ | exact Kd.Q_nil _ _ _ _ _ | exact Kd.S_nil _ _ _ _ _, by repeat (first | (with_reducible first | exact HB.out | apply below_alloc | apply pw_below_drewN | apply below_drew1 | refine below_set ?_ GE437.out | refine below_set ?_ GE439.out | refine below_set ?_ GE446.out) | exact HB.out)⟩
                          · rw [if_neg c40] at H
                            have c40b0 : decide ((a0.size : Int) < (wrap64 (x440001_1 + x10_30))) = false := decide_eq_false c40
                            clear c40
                            by_cases c46 : 0 ≤ x440001_1
                            · rw [if_pos c46] at H
                              have c46b0 := eq_true c46
                              have c46b1 : decide (0 ≤ x440001_1) = true := decide_eq_true c46
                              clear c46
                              by_cases c47 : x440001_1 ≤ (wrap64 (x440001_1 + x10_30))
                              · rw [if_pos c47] at H
                                have c47b0 := eq_true c47
                                have c47b1 : decide (x440001_1 ≤ (wrap64 (x440001_1 + x10_30))) = true := decide_eq_true c47
                                by_cases c48 : (wrap64 (x440001_1 + x10_30)) ≤ (a0.size : Int)
                                · rw [if_pos c48] at H
                                  have c48b0 := eq_true c48
                                  have c48b1 : decide ((wrap64 (x440001_1 + x10_30)) ≤ (a0.size : Int)) = true := decide_eq_true c48
                                  by_cases c49 : ((rd_T66 l1 x7_1).f0) = 0
                                  · rw [if_pos c49] at H
                                    have c49b0 : (((rd_T66 l1 x7_1).f0) == 0) = true := beq_iff_eq.mpr c49
                                    have c49b1 : (((rd_T66 l1 x7_1).f0) != 0) = false := bne_eq_false_iff_eq.mpr c49
                                    clear c49
                                    replace H := Option.bind_eq_some_iff.mp H
                                    obtain ⟨t448, A500, H⟩ := H
                                    replace H : (if t448 > 1152921504606846976 then (some (([] : List (S66)), x7_1, 25)) else (if x440000_1.length < 3518437208883 then (examinerref08_Read.l0 kj30 a0 l1 (wrap64 (x7_1 + 1)) (x440000_1 ++ [(⟨((rd_T66 l1 x7_1).f0), ((rd_T66 l1 x7_1).f1), t448, (⟨#[]⟩ : ByteArray)⟩ : S66)]) (wrap64 (x440001_1 + x10_30)) 0) else (none))) = some (r1, r2, r3) := H
                                    have A50 := Aside0.mk A500
                                    clear A500
                                    by_cases c51 : t448 > 1152921504606846976
                                    · rw [if_pos c51] at H
                                      have c51b0 : decide (1152921504606846976 < t448) = true := decide_eq_true c51
                                      clear c51
                                      simp only [Option.some.injEq, Prod.mk.injEq] at H
                                      obtain ⟨rfl, rfl, rfl⟩ := H
                                      have hnb52 := NB439_437.out
                                      have hnc52 := NB437_439.out
                                      have hnb53 := NB439_446.out
                                      have hnc53 := NB446_439.out
                                      have hcz54_0 : wc.cell? ⟨gb439, 0, none⟩ = some (u440000) := (blk_cell BK439.out 0).trans rfl
                                      have hcz54_1 : wc.cell? ⟨gb439, 1, none⟩ = some (.int .i64 x440001_1) := (blk_cell BK439.out 1).trans rfl
                                      have hcz54_2 : wc.cell? ⟨gb439, 2, none⟩ = some (.int .i64 0) := (blk_cell BK439.out 2).trans rfl
                                      have hfz54_0 := blk_frozen BK439.out 0
                                      have hfz54_1 := blk_frozen BK439.out 1
                                      have hfz54_2 := blk_frozen BK439.out 2
                                      have hnb55 := NB446_437.out
                                      have hnc55 := NB437_446.out
                                      have hcz56_0 : wc.cell? ⟨gb446, 0, none⟩ = some (.int .i64 ((rd_T66 l1 x7_1).f0)) := (blk_cell BK446.out 0).trans rfl
                                      have hcz56_1 : wc.cell? ⟨gb446, 1, none⟩ = some (.int .i64 ((rd_T66 l1 x7_1).f1)) := (blk_cell BK446.out 1).trans rfl
                                      have hcz56_2 : wc.cell? ⟨gb446, 2, none⟩ = some (.int .i64 0) := (blk_cell BK446.out 2).trans rfl
                                      have hcz56_3 : wc.cell? ⟨gb446, 3, none⟩ = some (.string (⟨#[]⟩ : ByteArray)) := (blk_cell BK446.out 3).trans rfl
                                      have hfz56_0 := blk_frozen BK446.out 0
                                      have hfz56_1 := blk_frozen BK446.out 1
                                      have hfz56_2 := blk_frozen BK446.out 2
                                      have hfz56_3 := blk_frozen BK446.out 3
                                      go_wp2_with (first | ((with_reducible refine gate_callee (f := 64) rfl ?_); refine goesL_ (some 99) rfl rfl Tryd.func64 (by kernel_rfl) rfl #[.string (a0.extract (x440001_1 : Int).toNat ((wrap64 (x440001_1 + x10_30)) : Int).toNat)] rfl (by (try simp only [List.map_toArray, List.map_cons, List.map_nil]); first | done | rfl | (simp only [List.length_drop, List.length_take]; rfl)) ?_; (with_reducible refine (examinerref08_Number.calls kj30 (a0.extract (x440001_1 : Int).toNat ((wrap64 (x440001_1 + x10_30)) : Int).toNat) t448 _ A50.out).mono ?_); rintro e w' ⟨rfl, ⟨nd, rfl⟩⟩; refine ⟨_, rfl, ?_⟩; have hcz57_0 : wc.cell? ⟨gb437, 0, none⟩ = some (.slice none 0 0) := (blk_cell BK437.out 0).trans rfl; have hcz57_1 : wc.cell? ⟨gb437, 1, none⟩ = some (.int .i64 x438001_1) := (blk_cell BK437.out 1).trans rfl; have hcz57_2 : wc.cell? ⟨gb437, 2, none⟩ = some (.int .i64 x438002_1) := (blk_cell BK437.out 2).trans rfl; have hfz57_0 := blk_frozen BK437.out 0; have hfz57_1 := blk_frozen BK437.out 1; have hfz57_2 := blk_frozen BK437.out 2))
                                      refine bodyPost_ret (results_cell_row rfl _ _ gb437 60 #[.slice none 0 0, .int .i64 x7_1, .int .i64 25] (0, 0) _ rfl (by (with_reducible repeat (first | refine blk_drewN ?_ _ | refine blk_drew ?_ | refine blk_alloc ?_ _)); refine blk_put (cs := #[.slice none 0 0, .int .i64 x7_1, .int .i64 x438002_1]) ?_ 2 _ rfl; (with_reducible repeat (first | refine blk_drewN ?_ _ | refine blk_drew ?_ | refine blk_alloc ?_ _)); refine blk_put (cs := #[.slice none 0 0, .int .i64 x438001_1, .int .i64 x438002_1]) ?_ 1 _ rfl; (with_reducible repeat (first | refine blk_drewN ?_ _ | refine blk_drew ?_ | refine blk_alloc ?_ _)); refine blk_put (cs := #[.slice none 0 0, .int .i64 x438001_1, .int .i64 x438002_1]) ?_ 0 _ rfl; (with_reducible repeat (first | refine blk_drewN ?_ _ | refine blk_drew ?_ | refine blk_alloc ?_ _)); refine blk_far ?_ NB437_446.out _; (with_reducible repeat (first | refine blk_drewN ?_ _ | refine blk_drew ?_ | refine blk_alloc ?_ _)); refine blk_far ?_ NB437_439.out _; (with_reducible repeat (first | refine blk_drewN ?_ _ | refine blk_drew ?_ | refine blk_alloc ?_ _)); exact BK437.out) Tryd.underlying60 rfl (by kernel_rfl)) rfl ?_
                                      exact ⟨_, by first | rfl | (simp [errW_none, errW_some] <;> rfl) | (simp [*, errW_none, errW_some] <;> rfl), by first | exact Kd.R_nil _ _ _ _ _ | exact Kd.N_nil _ _ _ _ _ | exact Kd.V_nil _ _ _ _ _ | exact Kd.Q_nil _ _ _ _ _ | exact Kd.S_nil _ _ _ _ _, by repeat (first | (with_reducible first | exact HB.out | apply below_alloc | apply pw_below_drewN | apply below_drew1 | refine below_set ?_ GE437.out | refine below_set ?_ GE439.out | refine below_set ?_ GE446.out) | exact HB.out)⟩
                                    · rw [if_neg c51] at H
                                      have c51b0 : decide (1152921504606846976 < t448) = false := decide_eq_false c51
                                      clear c51
                                      by_cases c58 : x440000_1.length < 3518437208883
                                      · rw [if_pos c58] at H
                                        have LMc58 := Aside0.mk c58
                                        clear c58
                                        obtain ⟨y449, hy449⟩ : ∃ y_ : List (S66), y_ = (x440000_1 ++ [(⟨((rd_T66 l1 x7_1).f0), ((rd_T66 l1 x7_1).f1), t448, (⟨#[]⟩ : ByteArray)⟩ : S66)]) := ⟨_, rfl⟩
                                        replace H : (examinerref08_Read.l0 kj30 a0 l1 (wrap64 (x7_1 + 1)) y449 (wrap64 (x440001_1 + x10_30)) 0) = some (r1, r2, r3) := by first | (rw [hy449]; with_reducible exact H) | (have H2_ := (Option.bind_some _ _).symm.trans H; rw [hy449]; with_reducible exact H2_) | (have H2_ := (Option.bind_some _ _).symm.trans H; with_reducible exact H2_) | with_reducible exact H | (rw [hy449]; exact H) | exact H
                                        have Ny449 := Aside0.mk hy449
                                        clear hy449
                                        have H' := Aside0.mk H
                                        clear H
                                        have hnb59 := NB439_437.out
                                        have hnc59 := NB437_439.out
                                        have hnb60 := NB439_446.out
                                        have hnc60 := NB446_439.out
                                        have hcz61_0 : wc.cell? ⟨gb439, 0, none⟩ = some (u440000) := (blk_cell BK439.out 0).trans rfl
                                        have hcz61_1 : wc.cell? ⟨gb439, 1, none⟩ = some (.int .i64 x440001_1) := (blk_cell BK439.out 1).trans rfl
                                        have hcz61_2 : wc.cell? ⟨gb439, 2, none⟩ = some (.int .i64 0) := (blk_cell BK439.out 2).trans rfl
                                        have hfz61_0 := blk_frozen BK439.out 0
                                        have hfz61_1 := blk_frozen BK439.out 1
                                        have hfz61_2 := blk_frozen BK439.out 2
                                        have hnb62 := NB446_437.out
                                        have hnc62 := NB437_446.out
                                        have hcz63_0 : wc.cell? ⟨gb446, 0, none⟩ = some (.int .i64 ((rd_T66 l1 x7_1).f0)) := (blk_cell BK446.out 0).trans rfl
                                        have hcz63_1 : wc.cell? ⟨gb446, 1, none⟩ = some (.int .i64 ((rd_T66 l1 x7_1).f1)) := (blk_cell BK446.out 1).trans rfl
                                        have hcz63_2 : wc.cell? ⟨gb446, 2, none⟩ = some (.int .i64 0) := (blk_cell BK446.out 2).trans rfl
                                        have hcz63_3 : wc.cell? ⟨gb446, 3, none⟩ = some (.string (⟨#[]⟩ : ByteArray)) := (blk_cell BK446.out 3).trans rfl
                                        have hfz63_0 := blk_frozen BK446.out 0
                                        have hfz63_1 := blk_frozen BK446.out 1
                                        have hfz63_2 := blk_frozen BK446.out 2
                                        have hfz63_3 := blk_frozen BK446.out 3
                                        go_wp2_with (first | ((with_reducible refine gate_callee (f := 64) rfl ?_); refine goesL_ (some 99) rfl rfl Tryd.func64 (by kernel_rfl) rfl #[.string (a0.extract (x440001_1 : Int).toNat ((wrap64 (x440001_1 + x10_30)) : Int).toNat)] rfl (by (try simp only [List.map_toArray, List.map_cons, List.map_nil]); first | done | rfl | (simp only [List.length_drop, List.length_take]; rfl)) ?_; (with_reducible refine (examinerref08_Number.calls kj30 (a0.extract (x440001_1 : Int).toNat ((wrap64 (x440001_1 + x10_30)) : Int).toNat) t448 _ A50.out).mono ?_); rintro e w' ⟨rfl, ⟨nd, rfl⟩⟩; refine ⟨_, rfl, ?_⟩) | ((with_reducible refine gate_builtin (b := .append) (xs := #[.tmp 124, .tmp 126]) rfl ?_); at_builtin; refine Kd.R_append k66 (w0 := w) w.heap.size rfl (.tmp 124) (.tmp 126) 22 66 (.agg #[(.int .i64 0), (.int .i64 0), (.int .i64 0), (.string ⟨#[]⟩)]) 40 rfl Tryd.underlying22 info66 rfl (by decide) (by omega) u440000 x440000_1 (⟨((rd_T66 l1 x7_1).f0), ((rd_T66 l1 x7_1).f1), t448, (⟨#[]⟩ : ByteArray)⟩ : S66) [.int .i64 ((rd_T66 l1 x7_1).f0), .int .i64 ((rd_T66 l1 x7_1).f1), .int .i64 t448, .string (⟨#[]⟩ : ByteArray)] (fun k_ => k_ ≠ gb446) (fun _ => False) rfl (by first | (go_simp; done) | (go_simp; rfl)) ?aP (fun _ hk => hk.elim) ?aF ?aO ?aB ?aS ?aL ?_; (case aP => exact k66_mkM _ _ _ (⟨((rd_T66 l1 x7_1).f0), ((rd_T66 l1 x7_1).f1), t448, (⟨#[]⟩ : ByteArray)⟩ : S66)); (case aB => exact (by repeat (first | (with_reducible first | exact HB.out | apply below_alloc | apply pw_below_drewN | apply below_drew1 | refine below_set ?_ GE437.out | refine below_set ?_ GE439.out | refine below_set ?_ GE446.out) | exact HB.out))); (case aF => exact (fun k_ hk => Kd.freshB (g := gb446) (o := .cells #[.int .i64 ((rd_T66 l1 x7_1).f0), .int .i64 ((rd_T66 l1 x7_1).f1), .int .i64 t448, .string (⟨#[]⟩ : ByteArray)] 66 (0, 0)) (by (with_reducible repeat (first | refine blk_drewN ?_ _ | refine blk_drew ?_ | refine blk_alloc ?_ _)); refine blk_put (cs := #[.int .i64 ((rd_T66 l1 x7_1).f0), .int .i64 ((rd_T66 l1 x7_1).f1), .int .i64 0, .string (⟨#[]⟩ : ByteArray)]) ?_ 2 _ rfl; (with_reducible repeat (first | refine blk_drewN ?_ _ | refine blk_drew ?_ | refine blk_alloc ?_ _)); refine blk_far ?_ NB446_439.out _; (with_reducible repeat (first | refine blk_drewN ?_ _ | refine blk_drew ?_ | refine blk_alloc ?_ _)); exact BK446.out) k_ hk)); (case aO => exact (by (with_reducible repeat (first | apply Kd.R_alloc | apply Kd.R_drewN | apply Kd.R_drew)); exact Kd.R_mono (Kd.R_far (p := ⟨gb446, 2, none⟩) (Kd.R_far (p := ⟨gb439, 1, none⟩) (Kd.R_mono (Kd.R_types HO_440000.out BK439.out (by decide)) (fun k_ hk => (⟨hk, hk.1⟩ : _ ∧ k_ ≠ gb446))) (fun _ hk => hk.1.2) (.int .i64 (wrap64 (x440001_1 + x10_30)))) (fun _ hk => hk.2) (.int .i64 t448)) (fun _ hk => hk.1.1))); (case aS => exact (below_size (by repeat (first | (with_reducible first | exact HB.out | apply below_alloc | apply pw_below_drewN | apply below_drew1 | refine below_set ?_ GE437.out | refine below_set ?_ GE439.out | refine below_set ?_ GE446.out) | exact HB.out)))); (case aL => have := LMc58.out; omega); intro v450 w64 ho hb hg hat; rw [← Ny449.out] at ho; have n0_ := Aside0.mk (blk_grown (g := gb437) (o := .cells #[.slice none 0 0, .int .i64 x438001_1, .int .i64 x438002_1] 60 (0, 0)) (by (with_reducible repeat (first | refine blk_drewN ?_ _ | refine blk_drew ?_ | refine blk_alloc ?_ _)); refine blk_far ?_ NB437_446.out _; (with_reducible repeat (first | refine blk_drewN ?_ _ | refine blk_drew ?_ | refine blk_alloc ?_ _)); refine blk_far ?_ NB437_439.out _; (with_reducible repeat (first | refine blk_drewN ?_ _ | refine blk_drew ?_ | refine blk_alloc ?_ _)); exact BK437.out) hg (Kd.R_ne HO_440000.out BK437.out (by decide))); have n1_ := Aside0.mk (blk_grown (g := gb439) (o := .cells #[u440000, .int .i64 (wrap64 (x440001_1 + x10_30)), .int .i64 0] 60 (0, 0)) (by (with_reducible repeat (first | refine blk_drewN ?_ _ | refine blk_drew ?_ | refine blk_alloc ?_ _)); refine blk_far ?_ NB439_446.out _; (with_reducible repeat (first | refine blk_drewN ?_ _ | refine blk_drew ?_ | refine blk_alloc ?_ _)); refine blk_put (cs := #[u440000, .int .i64 x440001_1, .int .i64 0]) ?_ 1 _ rfl; (with_reducible repeat (first | refine blk_drewN ?_ _ | refine blk_drew ?_ | refine blk_alloc ?_ _)); exact BK439.out) hg (Kd.R_ne HO_440000.out BK439.out (by decide))); have n2_ := Aside0.mk (blk_grown (g := gb446) (o := .cells #[.int .i64 ((rd_T66 l1 x7_1).f0), .int .i64 ((rd_T66 l1 x7_1).f1), .int .i64 t448, .string (⟨#[]⟩ : ByteArray)] 66 (0, 0)) (by (with_reducible repeat (first | refine blk_drewN ?_ _ | refine blk_drew ?_ | refine blk_alloc ?_ _)); refine blk_put (cs := #[.int .i64 ((rd_T66 l1 x7_1).f0), .int .i64 ((rd_T66 l1 x7_1).f1), .int .i64 0, .string (⟨#[]⟩ : ByteArray)]) ?_ 2 _ rfl; (with_reducible repeat (first | refine blk_drewN ?_ _ | refine blk_drew ?_ | refine blk_alloc ?_ _)); refine blk_far ?_ NB446_439.out _; (with_reducible repeat (first | refine blk_drewN ?_ _ | refine blk_drew ?_ | refine blk_alloc ?_ _)); exact BK446.out) hg (Kd.R_away HO_440000.out (fun _ hk => hk))); have n3_ := Aside0.mk (hb); have n4_ := Aside0.mk (ho); clear BK437; clear BK439; clear BK446; clear HB; clear HO_440000; have BK437 := n0_; have BK439 := n1_; have BK446 := n2_; have HB := n3_; have HO451 := n4_; clear n0_ n1_ n2_ n3_ n4_; clear ho hb hg hat; obtain ⟨Ao65, co65, eo65⟩ := Kd.R_slice HO451.out; subst eo65; have hcz66_0 : w64.cell? ⟨gb439, 0, none⟩ = some (u440000) := (blk_cell BK439.out 0).trans rfl; have hcz66_1 : w64.cell? ⟨gb439, 1, none⟩ = some (.int .i64 (wrap64 (x440001_1 + x10_30))) := (blk_cell BK439.out 1).trans rfl; have hcz66_2 : w64.cell? ⟨gb439, 2, none⟩ = some (.int .i64 0) := (blk_cell BK439.out 2).trans rfl; have hfz66_0 := blk_frozen BK439.out 0; have hfz66_1 := blk_frozen BK439.out 1; have hfz66_2 := blk_frozen BK439.out 2))
                                        go_roundg kj30
                                        case measure => have := HK1.out; have := HJ15.out; have := HJ30.out; omega
                                        case rel => exact ⟨(wrap64 (x7_1 + 1)), (x438001_1), (x438002_1), (y449), (wrap64 (x440001_1 + x10_30)), (.slice Ao65 y449.length co65), (by first | rfl | (simp; done) | (simp [*]; done)), H', ⟨by have := HK1.out; have := HJ15.out; have := HJ30.out; omega⟩, ⟨by (with_reducible repeat (first | apply Kd.R_alloc | apply Kd.R_drewN | apply Kd.R_drew)); exact Kd.R_mono (Kd.R_far (p := ⟨gb439, 0, none⟩) (Kd.R_types HO451.out BK439.out (by decide)) (fun _ hk => hk.2) (.slice Ao65 y449.length co65)) (fun _ hk => trivial)⟩, ⟨by (with_reducible repeat (first | refine blk_drewN ?_ _ | refine blk_drew ?_ | refine blk_alloc ?_ _)); refine blk_far ?_ NB437_439.out _; (with_reducible repeat (first | refine blk_drewN ?_ _ | refine blk_drew ?_ | refine blk_alloc ?_ _)); exact BK437.out⟩, ⟨by (with_reducible repeat (first | refine blk_drewN ?_ _ | refine blk_drew ?_ | refine blk_alloc ?_ _)); refine blk_put (cs := #[u440000, .int .i64 (wrap64 (x440001_1 + x10_30)), .int .i64 0]) ?_ 0 _ rfl; (with_reducible repeat (first | refine blk_drewN ?_ _ | refine blk_drew ?_ | refine blk_alloc ?_ _)); exact BK439.out⟩, ⟨by repeat (first | (with_reducible first | exact HB.out | apply below_alloc | apply pw_below_drewN | apply below_drew1 | refine below_set ?_ GE437.out | refine below_set ?_ GE439.out | refine below_set ?_ GE446.out) | exact HB.out)⟩⟩
                                      · rw [if_neg c58] at H
                                        exact absurd H (by simp)
                                  · rw [if_neg c49] at H
                                    have c49b0 : (((rd_T66 l1 x7_1).f0) == 0) = false := beq_eq_false_iff_ne.mpr c49
                                    have c49b1 : (((rd_T66 l1 x7_1).f0) != 0) = true := bne_iff_ne.mpr c49
                                    by_cases c67 : ((rd_T66 l1 x7_1).f0) = 1
                                    · rw [if_pos c67] at H
                                      have c67b0 : (((rd_T66 l1 x7_1).f0) == 1) = true := beq_iff_eq.mpr c67
                                      have c67b1 : (((rd_T66 l1 x7_1).f0) != 1) = false := bne_eq_false_iff_eq.mpr c67
                                      clear c67
                                      by_cases c68 : x440000_1.length < 3518437208883
                                      · rw [if_pos c68] at H
                                        have LMc68 := Aside0.mk c68
                                        clear c68
                                        obtain ⟨y452, hy452⟩ : ∃ y_ : List (S66), y_ = (x440000_1 ++ [(⟨((rd_T66 l1 x7_1).f0), ((rd_T66 l1 x7_1).f1), 0, a0.extract (x440001_1 : Int).toNat ((wrap64 (x440001_1 + x10_30)) : Int).toNat⟩ : S66)]) := ⟨_, rfl⟩
                                        replace H : (examinerref08_Read.l0 kj30 a0 l1 (wrap64 (x7_1 + 1)) y452 (wrap64 (x440001_1 + x10_30)) 0) = some (r1, r2, r3) := by first | (rw [hy452]; with_reducible exact H) | (have H2_ := (Option.bind_some _ _).symm.trans H; rw [hy452]; with_reducible exact H2_) | (have H2_ := (Option.bind_some _ _).symm.trans H; with_reducible exact H2_) | with_reducible exact H | (rw [hy452]; exact H) | exact H
                                        have Ny452 := Aside0.mk hy452
                                        clear hy452
                                        have H' := Aside0.mk H
                                        clear H
                                        have hnb69 := NB439_437.out
                                        have hnc69 := NB437_439.out
                                        have hnb70 := NB439_446.out
                                        have hnc70 := NB446_439.out
                                        have hcz71_0 : wc.cell? ⟨gb439, 0, none⟩ = some (u440000) := (blk_cell BK439.out 0).trans rfl
                                        have hcz71_1 : wc.cell? ⟨gb439, 1, none⟩ = some (.int .i64 x440001_1) := (blk_cell BK439.out 1).trans rfl
                                        have hcz71_2 : wc.cell? ⟨gb439, 2, none⟩ = some (.int .i64 0) := (blk_cell BK439.out 2).trans rfl
                                        have hfz71_0 := blk_frozen BK439.out 0
                                        have hfz71_1 := blk_frozen BK439.out 1
                                        have hfz71_2 := blk_frozen BK439.out 2
                                        have hnb72 := NB446_437.out
                                        have hnc72 := NB437_446.out
                                        have hcz73_0 : wc.cell? ⟨gb446, 0, none⟩ = some (.int .i64 ((rd_T66 l1 x7_1).f0)) := (blk_cell BK446.out 0).trans rfl
                                        have hcz73_1 : wc.cell? ⟨gb446, 1, none⟩ = some (.int .i64 ((rd_T66 l1 x7_1).f1)) := (blk_cell BK446.out 1).trans rfl
                                        have hcz73_2 : wc.cell? ⟨gb446, 2, none⟩ = some (.int .i64 0) := (blk_cell BK446.out 2).trans rfl
                                        have hcz73_3 : wc.cell? ⟨gb446, 3, none⟩ = some (.string (⟨#[]⟩ : ByteArray)) := (blk_cell BK446.out 3).trans rfl
                                        have hfz73_0 := blk_frozen BK446.out 0
                                        have hfz73_1 := blk_frozen BK446.out 1
                                        have hfz73_2 := blk_frozen BK446.out 2
                                        have hfz73_3 := blk_frozen BK446.out 3
                                        go_wp2_with (first | ((with_reducible refine gate_builtin (b := .append) (xs := #[.tmp 124, .tmp 126]) rfl ?_); at_builtin; refine Kd.R_append k66 (w0 := w) w.heap.size rfl (.tmp 124) (.tmp 126) 22 66 (.agg #[(.int .i64 0), (.int .i64 0), (.int .i64 0), (.string ⟨#[]⟩)]) 40 rfl Tryd.underlying22 info66 rfl (by decide) (by omega) u440000 x440000_1 (⟨((rd_T66 l1 x7_1).f0), ((rd_T66 l1 x7_1).f1), 0, a0.extract (x440001_1 : Int).toNat ((wrap64 (x440001_1 + x10_30)) : Int).toNat⟩ : S66) [.int .i64 ((rd_T66 l1 x7_1).f0), .int .i64 ((rd_T66 l1 x7_1).f1), .int .i64 0, .string (a0.extract (x440001_1 : Int).toNat ((wrap64 (x440001_1 + x10_30)) : Int).toNat)] (fun k_ => k_ ≠ gb446) (fun _ => False) rfl (by first | (go_simp; done) | (go_simp; rfl)) ?aP (fun _ hk => hk.elim) ?aF ?aO ?aB ?aS ?aL ?_; (case aP => exact k66_mkM _ _ _ (⟨((rd_T66 l1 x7_1).f0), ((rd_T66 l1 x7_1).f1), 0, a0.extract (x440001_1 : Int).toNat ((wrap64 (x440001_1 + x10_30)) : Int).toNat⟩ : S66)); (case aB => exact (by repeat (first | (with_reducible first | exact HB.out | apply below_alloc | apply pw_below_drewN | apply below_drew1 | refine below_set ?_ GE437.out | refine below_set ?_ GE439.out | refine below_set ?_ GE446.out) | exact HB.out))); (case aF => exact (fun k_ hk => Kd.freshB (g := gb446) (o := .cells #[.int .i64 ((rd_T66 l1 x7_1).f0), .int .i64 ((rd_T66 l1 x7_1).f1), .int .i64 0, .string (a0.extract (x440001_1 : Int).toNat ((wrap64 (x440001_1 + x10_30)) : Int).toNat)] 66 (0, 0)) (by (with_reducible repeat (first | refine blk_drewN ?_ _ | refine blk_drew ?_ | refine blk_alloc ?_ _)); refine blk_put (cs := #[.int .i64 ((rd_T66 l1 x7_1).f0), .int .i64 ((rd_T66 l1 x7_1).f1), .int .i64 0, .string (⟨#[]⟩ : ByteArray)]) ?_ 3 _ rfl; (with_reducible repeat (first | refine blk_drewN ?_ _ | refine blk_drew ?_ | refine blk_alloc ?_ _)); refine blk_far ?_ NB446_439.out _; (with_reducible repeat (first | refine blk_drewN ?_ _ | refine blk_drew ?_ | refine blk_alloc ?_ _)); exact BK446.out) k_ hk)); (case aO => exact (by (with_reducible repeat (first | apply Kd.R_alloc | apply Kd.R_drewN | apply Kd.R_drew)); exact Kd.R_mono (Kd.R_far (p := ⟨gb446, 3, none⟩) (Kd.R_far (p := ⟨gb439, 1, none⟩) (Kd.R_mono (Kd.R_types HO_440000.out BK439.out (by decide)) (fun k_ hk => (⟨hk, hk.1⟩ : _ ∧ k_ ≠ gb446))) (fun _ hk => hk.1.2) (.int .i64 (wrap64 (x440001_1 + x10_30)))) (fun _ hk => hk.2) (.string (a0.extract (x440001_1 : Int).toNat ((wrap64 (x440001_1 + x10_30)) : Int).toNat))) (fun _ hk => hk.1.1))); (case aS => exact (below_size (by repeat (first | (with_reducible first | exact HB.out | apply below_alloc | apply pw_below_drewN | apply below_drew1 | refine below_set ?_ GE437.out | refine below_set ?_ GE439.out | refine below_set ?_ GE446.out) | exact HB.out)))); (case aL => have := LMc68.out; omega); intro v453 w74 ho hb hg hat; rw [← Ny452.out] at ho; have n0_ := Aside0.mk (blk_grown (g := gb437) (o := .cells #[.slice none 0 0, .int .i64 x438001_1, .int .i64 x438002_1] 60 (0, 0)) (by (with_reducible repeat (first | refine blk_drewN ?_ _ | refine blk_drew ?_ | refine blk_alloc ?_ _)); refine blk_far ?_ NB437_446.out _; (with_reducible repeat (first | refine blk_drewN ?_ _ | refine blk_drew ?_ | refine blk_alloc ?_ _)); refine blk_far ?_ NB437_439.out _; (with_reducible repeat (first | refine blk_drewN ?_ _ | refine blk_drew ?_ | refine blk_alloc ?_ _)); exact BK437.out) hg (Kd.R_ne HO_440000.out BK437.out (by decide))); have n1_ := Aside0.mk (blk_grown (g := gb439) (o := .cells #[u440000, .int .i64 (wrap64 (x440001_1 + x10_30)), .int .i64 0] 60 (0, 0)) (by (with_reducible repeat (first | refine blk_drewN ?_ _ | refine blk_drew ?_ | refine blk_alloc ?_ _)); refine blk_far ?_ NB439_446.out _; (with_reducible repeat (first | refine blk_drewN ?_ _ | refine blk_drew ?_ | refine blk_alloc ?_ _)); refine blk_put (cs := #[u440000, .int .i64 x440001_1, .int .i64 0]) ?_ 1 _ rfl; (with_reducible repeat (first | refine blk_drewN ?_ _ | refine blk_drew ?_ | refine blk_alloc ?_ _)); exact BK439.out) hg (Kd.R_ne HO_440000.out BK439.out (by decide))); have n2_ := Aside0.mk (blk_grown (g := gb446) (o := .cells #[.int .i64 ((rd_T66 l1 x7_1).f0), .int .i64 ((rd_T66 l1 x7_1).f1), .int .i64 0, .string (a0.extract (x440001_1 : Int).toNat ((wrap64 (x440001_1 + x10_30)) : Int).toNat)] 66 (0, 0)) (by (with_reducible repeat (first | refine blk_drewN ?_ _ | refine blk_drew ?_ | refine blk_alloc ?_ _)); refine blk_put (cs := #[.int .i64 ((rd_T66 l1 x7_1).f0), .int .i64 ((rd_T66 l1 x7_1).f1), .int .i64 0, .string (⟨#[]⟩ : ByteArray)]) ?_ 3 _ rfl; (with_reducible repeat (first | refine blk_drewN ?_ _ | refine blk_drew ?_ | refine blk_alloc ?_ _)); refine blk_far ?_ NB446_439.out _; (with_reducible repeat (first | refine blk_drewN ?_ _ | refine blk_drew ?_ | refine blk_alloc ?_ _)); exact BK446.out) hg (Kd.R_away HO_440000.out (fun _ hk => hk))); have n3_ := Aside0.mk (hb); have n4_ := Aside0.mk (ho); clear BK437; clear BK439; clear BK446; clear HB; clear HO_440000; have BK437 := n0_; have BK439 := n1_; have BK446 := n2_; have HB := n3_; have HO454 := n4_; clear n0_ n1_ n2_ n3_ n4_; clear ho hb hg hat; obtain ⟨Ao75, co75, eo75⟩ := Kd.R_slice HO454.out; subst eo75; have hcz76_0 : w74.cell? ⟨gb439, 0, none⟩ = some (u440000) := (blk_cell BK439.out 0).trans rfl; have hcz76_1 : w74.cell? ⟨gb439, 1, none⟩ = some (.int .i64 (wrap64 (x440001_1 + x10_30))) := (blk_cell BK439.out 1).trans rfl; have hcz76_2 : w74.cell? ⟨gb439, 2, none⟩ = some (.int .i64 0) := (blk_cell BK439.out 2).trans rfl; have hfz76_0 := blk_frozen BK439.out 0; have hfz76_1 := blk_frozen BK439.out 1; have hfz76_2 := blk_frozen BK439.out 2))
                                        go_roundg kj30
                                        case measure => have := HK1.out; have := HJ15.out; have := HJ30.out; omega
                                        case rel => exact ⟨(wrap64 (x7_1 + 1)), (x438001_1), (x438002_1), (y452), (wrap64 (x440001_1 + x10_30)), (.slice Ao75 y452.length co75), (by first | rfl | (simp; done) | (simp [*]; done)), H', ⟨by have := HK1.out; have := HJ15.out; have := HJ30.out; omega⟩, ⟨by (with_reducible repeat (first | apply Kd.R_alloc | apply Kd.R_drewN | apply Kd.R_drew)); exact Kd.R_mono (Kd.R_far (p := ⟨gb439, 0, none⟩) (Kd.R_types HO454.out BK439.out (by decide)) (fun _ hk => hk.2) (.slice Ao75 y452.length co75)) (fun _ hk => trivial)⟩, ⟨by (with_reducible repeat (first | refine blk_drewN ?_ _ | refine blk_drew ?_ | refine blk_alloc ?_ _)); refine blk_far ?_ NB437_439.out _; (with_reducible repeat (first | refine blk_drewN ?_ _ | refine blk_drew ?_ | refine blk_alloc ?_ _)); exact BK437.out⟩, ⟨by (with_reducible repeat (first | refine blk_drewN ?_ _ | refine blk_drew ?_ | refine blk_alloc ?_ _)); refine blk_put (cs := #[u440000, .int .i64 (wrap64 (x440001_1 + x10_30)), .int .i64 0]) ?_ 0 _ rfl; (with_reducible repeat (first | refine blk_drewN ?_ _ | refine blk_drew ?_ | refine blk_alloc ?_ _)); exact BK439.out⟩, ⟨by repeat (first | (with_reducible first | exact HB.out | apply below_alloc | apply pw_below_drewN | apply below_drew1 | refine below_set ?_ GE437.out | refine below_set ?_ GE439.out | refine below_set ?_ GE446.out) | exact HB.out)⟩⟩
                                      · rw [if_neg c68] at H
                                        exact absurd H (by simp)
                                    · rw [if_neg c67] at H
                                      have c67b0 : (((rd_T66 l1 x7_1).f0) == 1) = false := beq_eq_false_iff_ne.mpr c67
                                      have c67b1 : (((rd_T66 l1 x7_1).f0) != 1) = true := bne_iff_ne.mpr c67
                                      by_cases c77 : ((rd_T66 l1 x7_1).f0) = 2
                                      · rw [if_pos c77] at H
                                        have c77b0 : (((rd_T66 l1 x7_1).f0) == 2) = true := beq_iff_eq.mpr c77
                                        have c77b1 : (((rd_T66 l1 x7_1).f0) != 2) = false := bne_eq_false_iff_eq.mpr c77
                                        clear c77
                                        replace H := Option.bind_eq_some_iff.mp H
                                        obtain ⟨t455, A780, H⟩ := H
                                        replace H : (if x440000_1.length < 3518437208883 then (examinerref08_Read.l0 kj30 a0 l1 (wrap64 (x7_1 + 1)) (x440000_1 ++ [(⟨((rd_T66 l1 x7_1).f0), ((rd_T66 l1 x7_1).f1), 0, t455⟩ : S66)]) (wrap64 (x440001_1 + x10_30)) 0) else (none)) = some (r1, r2, r3) := H
                                        have A78 := Aside0.mk A780
                                        clear A780
                                        by_cases c79 : x440000_1.length < 3518437208883
                                        · rw [if_pos c79] at H
                                          have LMc79 := Aside0.mk c79
                                          clear c79
                                          obtain ⟨y456, hy456⟩ : ∃ y_ : List (S66), y_ = (x440000_1 ++ [(⟨((rd_T66 l1 x7_1).f0), ((rd_T66 l1 x7_1).f1), 0, t455⟩ : S66)]) := ⟨_, rfl⟩
                                          replace H : (examinerref08_Read.l0 kj30 a0 l1 (wrap64 (x7_1 + 1)) y456 (wrap64 (x440001_1 + x10_30)) 0) = some (r1, r2, r3) := by first | (rw [hy456]; with_reducible exact H) | (have H2_ := (Option.bind_some _ _).symm.trans H; rw [hy456]; with_reducible exact H2_) | (have H2_ := (Option.bind_some _ _).symm.trans H; with_reducible exact H2_) | with_reducible exact H | (rw [hy456]; exact H) | exact H
                                          have Ny456 := Aside0.mk hy456
                                          clear hy456
                                          have H' := Aside0.mk H
                                          clear H
                                          have hnb80 := NB439_437.out
                                          have hnc80 := NB437_439.out
                                          have hnb81 := NB439_446.out
                                          have hnc81 := NB446_439.out
                                          have hcz82_0 : wc.cell? ⟨gb439, 0, none⟩ = some (u440000) := (blk_cell BK439.out 0).trans rfl
                                          have hcz82_1 : wc.cell? ⟨gb439, 1, none⟩ = some (.int .i64 x440001_1) := (blk_cell BK439.out 1).trans rfl
                                          have hcz82_2 : wc.cell? ⟨gb439, 2, none⟩ = some (.int .i64 0) := (blk_cell BK439.out 2).trans rfl
                                          have hfz82_0 := blk_frozen BK439.out 0
                                          have hfz82_1 := blk_frozen BK439.out 1
                                          have hfz82_2 := blk_frozen BK439.out 2
                                          have hnb83 := NB446_437.out
                                          have hnc83 := NB437_446.out
                                          have hcz84_0 : wc.cell? ⟨gb446, 0, none⟩ = some (.int .i64 ((rd_T66 l1 x7_1).f0)) := (blk_cell BK446.out 0).trans rfl
                                          have hcz84_1 : wc.cell? ⟨gb446, 1, none⟩ = some (.int .i64 ((rd_T66 l1 x7_1).f1)) := (blk_cell BK446.out 1).trans rfl
                                          have hcz84_2 : wc.cell? ⟨gb446, 2, none⟩ = some (.int .i64 0) := (blk_cell BK446.out 2).trans rfl
                                          have hcz84_3 : wc.cell? ⟨gb446, 3, none⟩ = some (.string (⟨#[]⟩ : ByteArray)) := (blk_cell BK446.out 3).trans rfl
                                          have hfz84_0 := blk_frozen BK446.out 0
                                          have hfz84_1 := blk_frozen BK446.out 1
                                          have hfz84_2 := blk_frozen BK446.out 2
                                          have hfz84_3 := blk_frozen BK446.out 3
                                          go_wp2_with (first | ((with_reducible refine gate_callee (f := 21) rfl ?_); refine goesL_ (some 113) rfl rfl Tryd.func21 (by kernel_rfl) rfl #[.string (a0.extract (x440001_1 : Int).toNat ((wrap64 (x440001_1 + x10_30)) : Int).toNat)] rfl (by (try simp only [List.map_toArray, List.map_cons, List.map_nil]); first | done | rfl | (simp only [List.length_drop, List.length_take]; rfl)) ?_; (with_reducible refine (examinerref08_Pack.calls kj30 (a0.extract (x440001_1 : Int).toNat ((wrap64 (x440001_1 + x10_30)) : Int).toNat) t455 _ A78.out).mono ?_); rintro e w85 ⟨rfl, hb⟩; refine ⟨_, rfl, ?_⟩; have n0_ := Aside0.mk (Kd.R_below (by (with_reducible repeat (first | apply Kd.R_alloc | apply Kd.R_drewN | apply Kd.R_drew)); exact (Kd.R_mono (Kd.R_far (p := ⟨gb439, 1, none⟩) (Kd.R_types HO_440000.out BK439.out (by decide)) (fun _ hk => hk.2) (.int .i64 (wrap64 (x440001_1 + x10_30)))) (fun _ h_ => h_.1))) hb); have n1_ := Aside0.mk (blk_below (g := gb437) (o := .cells #[.slice none 0 0, .int .i64 x438001_1, .int .i64 x438002_1] 60 (0, 0)) (by (with_reducible repeat (first | refine blk_drewN ?_ _ | refine blk_drew ?_ | refine blk_alloc ?_ _)); refine blk_far ?_ NB437_439.out _; (with_reducible repeat (first | refine blk_drewN ?_ _ | refine blk_drew ?_ | refine blk_alloc ?_ _)); exact BK437.out) hb); have n2_ := Aside0.mk (blk_below (g := gb439) (o := .cells #[u440000, .int .i64 (wrap64 (x440001_1 + x10_30)), .int .i64 0] 60 (0, 0)) (by (with_reducible repeat (first | refine blk_drewN ?_ _ | refine blk_drew ?_ | refine blk_alloc ?_ _)); refine blk_put (cs := #[u440000, .int .i64 x440001_1, .int .i64 0]) ?_ 1 _ rfl; (with_reducible repeat (first | refine blk_drewN ?_ _ | refine blk_drew ?_ | refine blk_alloc ?_ _)); exact BK439.out) hb); have n3_ := Aside0.mk (blk_below (g := gb446) (o := .cells #[.int .i64 ((rd_T66 l1 x7_1).f0), .int .i64 ((rd_T66 l1 x7_1).f1), .int .i64 0, .string (⟨#[]⟩ : ByteArray)] 66 (0, 0)) (by (with_reducible repeat (first | refine blk_drewN ?_ _ | refine blk_drew ?_ | refine blk_alloc ?_ _)); refine blk_far ?_ NB446_439.out _; (with_reducible repeat (first | refine blk_drewN ?_ _ | refine blk_drew ?_ | refine blk_alloc ?_ _)); exact BK446.out) hb); have n4_ := Aside0.mk (below_step (by repeat (first | (with_reducible first | exact HB.out | apply below_alloc | apply pw_below_drewN | apply below_drew1 | refine below_set ?_ GE437.out | refine below_set ?_ GE439.out | refine below_set ?_ GE446.out) | exact HB.out)) hb); clear HO_440000; clear BK437; clear BK439; clear BK446; clear HB; have HO_440000 := n0_; have BK437 := n1_; have BK439 := n2_; have BK446 := n3_; have HB := n4_; clear n0_ n1_ n2_ n3_ n4_; (try clear hb); (try clear hb2); (try clear hk); (try clear hi); have hcz86_0 : w85.cell? ⟨gb446, 0, none⟩ = some (.int .i64 ((rd_T66 l1 x7_1).f0)) := (blk_cell BK446.out 0).trans rfl; have hcz86_1 : w85.cell? ⟨gb446, 1, none⟩ = some (.int .i64 ((rd_T66 l1 x7_1).f1)) := (blk_cell BK446.out 1).trans rfl; have hcz86_2 : w85.cell? ⟨gb446, 2, none⟩ = some (.int .i64 0) := (blk_cell BK446.out 2).trans rfl; have hcz86_3 : w85.cell? ⟨gb446, 3, none⟩ = some (.string (⟨#[]⟩ : ByteArray)) := (blk_cell BK446.out 3).trans rfl; have hfz86_0 := blk_frozen BK446.out 0; have hfz86_1 := blk_frozen BK446.out 1; have hfz86_2 := blk_frozen BK446.out 2; have hfz86_3 := blk_frozen BK446.out 3; have hcz87_0 : w85.cell? ⟨gb439, 0, none⟩ = some (u440000) := (blk_cell BK439.out 0).trans rfl; have hcz87_1 : w85.cell? ⟨gb439, 1, none⟩ = some (.int .i64 (wrap64 (x440001_1 + x10_30))) := (blk_cell BK439.out 1).trans rfl; have hcz87_2 : w85.cell? ⟨gb439, 2, none⟩ = some (.int .i64 0) := (blk_cell BK439.out 2).trans rfl; have hfz87_0 := blk_frozen BK439.out 0; have hfz87_1 := blk_frozen BK439.out 1; have hfz87_2 := blk_frozen BK439.out 2) | ((with_reducible refine gate_builtin (b := .append) (xs := #[.tmp 124, .tmp 126]) rfl ?_); at_builtin; refine Kd.R_append k66 (w0 := w) w.heap.size rfl (.tmp 124) (.tmp 126) 22 66 (.agg #[(.int .i64 0), (.int .i64 0), (.int .i64 0), (.string ⟨#[]⟩)]) 40 rfl Tryd.underlying22 info66 rfl (by decide) (by omega) u440000 x440000_1 (⟨((rd_T66 l1 x7_1).f0), ((rd_T66 l1 x7_1).f1), 0, t455⟩ : S66) [.int .i64 ((rd_T66 l1 x7_1).f0), .int .i64 ((rd_T66 l1 x7_1).f1), .int .i64 0, .string t455] (fun k_ => k_ ≠ gb446) (fun _ => False) rfl (by first | (go_simp; done) | (go_simp; rfl)) ?aP (fun _ hk => hk.elim) ?aF ?aO ?aB ?aS ?aL ?_; (case aP => exact k66_mkM _ _ _ (⟨((rd_T66 l1 x7_1).f0), ((rd_T66 l1 x7_1).f1), 0, t455⟩ : S66)); (case aB => exact (by repeat (first | (with_reducible first | exact HB.out | apply below_alloc | apply pw_below_drewN | apply below_drew1 | refine below_set ?_ GE437.out | refine below_set ?_ GE439.out | refine below_set ?_ GE446.out) | exact HB.out))); (case aF => exact (fun k_ hk => Kd.freshB (g := gb446) (o := .cells #[.int .i64 ((rd_T66 l1 x7_1).f0), .int .i64 ((rd_T66 l1 x7_1).f1), .int .i64 0, .string t455] 66 (0, 0)) (by (with_reducible repeat (first | refine blk_drewN ?_ _ | refine blk_drew ?_ | refine blk_alloc ?_ _)); refine blk_put (cs := #[.int .i64 ((rd_T66 l1 x7_1).f0), .int .i64 ((rd_T66 l1 x7_1).f1), .int .i64 0, .string (⟨#[]⟩ : ByteArray)]) ?_ 3 _ rfl; (with_reducible repeat (first | refine blk_drewN ?_ _ | refine blk_drew ?_ | refine blk_alloc ?_ _)); exact BK446.out) k_ hk)); (case aO => exact (by (with_reducible repeat (first | apply Kd.R_alloc | apply Kd.R_drewN | apply Kd.R_drew)); exact Kd.R_mono (Kd.R_far (p := ⟨gb446, 3, none⟩) (Kd.R_mono HO_440000.out (fun k_ hk => (⟨hk, hk⟩ : _ ∧ k_ ≠ gb446))) (fun _ hk => hk.2) (.string t455)) (fun _ hk => hk.1))); (case aS => exact (below_size (by repeat (first | (with_reducible first | exact HB.out | apply below_alloc | apply pw_below_drewN | apply below_drew1 | refine below_set ?_ GE437.out | refine below_set ?_ GE439.out | refine below_set ?_ GE446.out) | exact HB.out)))); (case aL => have := LMc79.out; omega); intro v457 w88 ho hb hg hat; rw [← Ny456.out] at ho; have n0_ := Aside0.mk (blk_grown (g := gb437) (o := .cells #[.slice none 0 0, .int .i64 x438001_1, .int .i64 x438002_1] 60 (0, 0)) (by (with_reducible repeat (first | refine blk_drewN ?_ _ | refine blk_drew ?_ | refine blk_alloc ?_ _)); refine blk_far ?_ NB437_446.out _; (with_reducible repeat (first | refine blk_drewN ?_ _ | refine blk_drew ?_ | refine blk_alloc ?_ _)); exact BK437.out) hg (Kd.R_ne HO_440000.out BK437.out (by decide))); have n1_ := Aside0.mk (blk_grown (g := gb439) (o := .cells #[u440000, .int .i64 (wrap64 (x440001_1 + x10_30)), .int .i64 0] 60 (0, 0)) (by (with_reducible repeat (first | refine blk_drewN ?_ _ | refine blk_drew ?_ | refine blk_alloc ?_ _)); refine blk_far ?_ NB439_446.out _; (with_reducible repeat (first | refine blk_drewN ?_ _ | refine blk_drew ?_ | refine blk_alloc ?_ _)); exact BK439.out) hg (Kd.R_ne HO_440000.out BK439.out (by decide))); have n2_ := Aside0.mk (blk_grown (g := gb446) (o := .cells #[.int .i64 ((rd_T66 l1 x7_1).f0), .int .i64 ((rd_T66 l1 x7_1).f1), .int .i64 0, .string t455] 66 (0, 0)) (by (with_reducible repeat (first | refine blk_drewN ?_ _ | refine blk_drew ?_ | refine blk_alloc ?_ _)); refine blk_put (cs := #[.int .i64 ((rd_T66 l1 x7_1).f0), .int .i64 ((rd_T66 l1 x7_1).f1), .int .i64 0, .string (⟨#[]⟩ : ByteArray)]) ?_ 3 _ rfl; (with_reducible repeat (first | refine blk_drewN ?_ _ | refine blk_drew ?_ | refine blk_alloc ?_ _)); exact BK446.out) hg (Kd.R_away HO_440000.out (fun _ hk => hk))); have n3_ := Aside0.mk (hb); have n4_ := Aside0.mk (ho); clear BK437; clear BK439; clear BK446; clear HB; clear HO_440000; have BK437 := n0_; have BK439 := n1_; have BK446 := n2_; have HB := n3_; have HO458 := n4_; clear n0_ n1_ n2_ n3_ n4_; clear ho hb hg hat; obtain ⟨Ao89, co89, eo89⟩ := Kd.R_slice HO458.out; subst eo89; have hcz90_0 : w88.cell? ⟨gb439, 0, none⟩ = some (u440000) := (blk_cell BK439.out 0).trans rfl; have hcz90_1 : w88.cell? ⟨gb439, 1, none⟩ = some (.int .i64 (wrap64 (x440001_1 + x10_30))) := (blk_cell BK439.out 1).trans rfl; have hcz90_2 : w88.cell? ⟨gb439, 2, none⟩ = some (.int .i64 0) := (blk_cell BK439.out 2).trans rfl; have hfz90_0 := blk_frozen BK439.out 0; have hfz90_1 := blk_frozen BK439.out 1; have hfz90_2 := blk_frozen BK439.out 2))
                                          go_roundg kj30
                                          case measure => have := HK1.out; have := HJ15.out; have := HJ30.out; omega
                                          case rel => exact ⟨(wrap64 (x7_1 + 1)), (x438001_1), (x438002_1), (y456), (wrap64 (x440001_1 + x10_30)), (.slice Ao89 y456.length co89), (by first | rfl | (simp; done) | (simp [*]; done)), H', ⟨by have := HK1.out; have := HJ15.out; have := HJ30.out; omega⟩, ⟨by (with_reducible repeat (first | apply Kd.R_alloc | apply Kd.R_drewN | apply Kd.R_drew)); exact Kd.R_mono (Kd.R_far (p := ⟨gb439, 0, none⟩) (Kd.R_types HO458.out BK439.out (by decide)) (fun _ hk => hk.2) (.slice Ao89 y456.length co89)) (fun _ hk => trivial)⟩, ⟨by (with_reducible repeat (first | refine blk_drewN ?_ _ | refine blk_drew ?_ | refine blk_alloc ?_ _)); refine blk_far ?_ NB437_439.out _; (with_reducible repeat (first | refine blk_drewN ?_ _ | refine blk_drew ?_ | refine blk_alloc ?_ _)); exact BK437.out⟩, ⟨by (with_reducible repeat (first | refine blk_drewN ?_ _ | refine blk_drew ?_ | refine blk_alloc ?_ _)); refine blk_put (cs := #[u440000, .int .i64 (wrap64 (x440001_1 + x10_30)), .int .i64 0]) ?_ 0 _ rfl; (with_reducible repeat (first | refine blk_drewN ?_ _ | refine blk_drew ?_ | refine blk_alloc ?_ _)); exact BK439.out⟩, ⟨by repeat (first | (with_reducible first | exact HB.out | apply below_alloc | apply pw_below_drewN | apply below_drew1 | refine below_set ?_ GE437.out | refine below_set ?_ GE439.out | refine below_set ?_ GE446.out) | exact HB.out)⟩⟩
                                        · rw [if_neg c79] at H
                                          exact absurd H (by simp)
                                      · rw [if_neg c77] at H
                                        have c77b0 : (((rd_T66 l1 x7_1).f0) == 2) = false := beq_eq_false_iff_ne.mpr c77
                                        have c77b1 : (((rd_T66 l1 x7_1).f0) != 2) = true := bne_iff_ne.mpr c77
                                        by_cases c91 : ((rd_T66 l1 x7_1).f0) = 3
                                        · rw [if_pos c91] at H
                                          have c91b0 : (((rd_T66 l1 x7_1).f0) == 3) = true := beq_iff_eq.mpr c91
                                          have c91b1 : (((rd_T66 l1 x7_1).f0) != 3) = false := bne_eq_false_iff_eq.mpr c91
                                          clear c91
                                          replace H := Option.bind_eq_some_iff.mp H
                                          obtain ⟨t459, A920, H⟩ := H
                                          replace H : (if (a0.extract (x440001_1 : Int).toNat ((wrap64 (x440001_1 + x10_30)) : Int).toNat).toList = t459.toList then (if x440000_1.length < 3518437208883 then (examinerref08_Read.l0 kj30 a0 l1 (wrap64 (x7_1 + 1)) (x440000_1 ++ [(⟨((rd_T66 l1 x7_1).f0), ((rd_T66 l1 x7_1).f1), 0, (⟨#[]⟩ : ByteArray)⟩ : S66)]) (wrap64 (x440001_1 + x10_30)) 0) else (none)) else (some (([] : List (S66)), x7_1, 5))) = some (r1, r2, r3) := H
                                          have A92 := Aside0.mk A920
                                          clear A920
                                          by_cases c93 : (a0.extract (x440001_1 : Int).toNat ((wrap64 (x440001_1 + x10_30)) : Int).toNat).toList = t459.toList
                                          · rw [if_pos c93] at H
                                            have c93b0 : ((a0.extract (x440001_1 : Int).toNat ((wrap64 (x440001_1 + x10_30)) : Int).toNat).toList == t459.toList) = true := beq_iff_eq.mpr c93
                                            have c93b1 : ((a0.extract (x440001_1 : Int).toNat ((wrap64 (x440001_1 + x10_30)) : Int).toNat).toList != t459.toList) = false := bne_eq_false_iff_eq.mpr c93
                                            clear c93
                                            by_cases c94 : x440000_1.length < 3518437208883
                                            · rw [if_pos c94] at H
                                              have LMc94 := Aside0.mk c94
                                              clear c94
                                              obtain ⟨y460, hy460⟩ : ∃ y_ : List (S66), y_ = (x440000_1 ++ [(⟨((rd_T66 l1 x7_1).f0), ((rd_T66 l1 x7_1).f1), 0, (⟨#[]⟩ : ByteArray)⟩ : S66)]) := ⟨_, rfl⟩
                                              replace H : (examinerref08_Read.l0 kj30 a0 l1 (wrap64 (x7_1 + 1)) y460 (wrap64 (x440001_1 + x10_30)) 0) = some (r1, r2, r3) := by first | (rw [hy460]; with_reducible exact H) | (have H2_ := (Option.bind_some _ _).symm.trans H; rw [hy460]; with_reducible exact H2_) | (have H2_ := (Option.bind_some _ _).symm.trans H; with_reducible exact H2_) | with_reducible exact H | (rw [hy460]; exact H) | exact H
                                              have Ny460 := Aside0.mk hy460
                                              clear hy460
                                              have H' := Aside0.mk H
                                              clear H
                                              have hnb95 := NB439_437.out
                                              have hnc95 := NB437_439.out
                                              have hnb96 := NB439_446.out
                                              have hnc96 := NB446_439.out
                                              have hcz97_0 : wc.cell? ⟨gb439, 0, none⟩ = some (u440000) := (blk_cell BK439.out 0).trans rfl
                                              have hcz97_1 : wc.cell? ⟨gb439, 1, none⟩ = some (.int .i64 x440001_1) := (blk_cell BK439.out 1).trans rfl
                                              have hcz97_2 : wc.cell? ⟨gb439, 2, none⟩ = some (.int .i64 0) := (blk_cell BK439.out 2).trans rfl
                                              have hfz97_0 := blk_frozen BK439.out 0
                                              have hfz97_1 := blk_frozen BK439.out 1
                                              have hfz97_2 := blk_frozen BK439.out 2
                                              have hnb98 := NB446_437.out
                                              have hnc98 := NB437_446.out
                                              have hcz99_0 : wc.cell? ⟨gb446, 0, none⟩ = some (.int .i64 ((rd_T66 l1 x7_1).f0)) := (blk_cell BK446.out 0).trans rfl
                                              have hcz99_1 : wc.cell? ⟨gb446, 1, none⟩ = some (.int .i64 ((rd_T66 l1 x7_1).f1)) := (blk_cell BK446.out 1).trans rfl
                                              have hcz99_2 : wc.cell? ⟨gb446, 2, none⟩ = some (.int .i64 0) := (blk_cell BK446.out 2).trans rfl
                                              have hcz99_3 : wc.cell? ⟨gb446, 3, none⟩ = some (.string (⟨#[]⟩ : ByteArray)) := (blk_cell BK446.out 3).trans rfl
                                              have hfz99_0 := blk_frozen BK446.out 0
                                              have hfz99_1 := blk_frozen BK446.out 1
                                              have hfz99_2 := blk_frozen BK446.out 2
                                              have hfz99_3 := blk_frozen BK446.out 3
                                              go_wp2_with (first | ((with_reducible refine gate_callee (f := 59) rfl ?_); refine goesL_ (some 119) rfl rfl Tryd.func59 (by kernel_rfl) rfl #[.int .i64 x10_30] rfl (by (try simp only [List.map_toArray, List.map_cons, List.map_nil]); first | done | rfl | (simp only [List.length_drop, List.length_take]; rfl)) ?_; (with_reducible refine (examinerref08_Zeros.calls kj30 x10_30 t459 _ A92.out).mono ?_); rintro e w100 ⟨rfl, hb⟩; refine ⟨_, rfl, ?_⟩; have n0_ := Aside0.mk (Kd.R_below (by (with_reducible repeat (first | apply Kd.R_alloc | apply Kd.R_drewN | apply Kd.R_drew)); exact (Kd.R_mono (Kd.R_far (p := ⟨gb439, 1, none⟩) (Kd.R_types HO_440000.out BK439.out (by decide)) (fun _ hk => hk.2) (.int .i64 (wrap64 (x440001_1 + x10_30)))) (fun _ h_ => h_.1))) hb); have n1_ := Aside0.mk (blk_below (g := gb437) (o := .cells #[.slice none 0 0, .int .i64 x438001_1, .int .i64 x438002_1] 60 (0, 0)) (by (with_reducible repeat (first | refine blk_drewN ?_ _ | refine blk_drew ?_ | refine blk_alloc ?_ _)); refine blk_far ?_ NB437_439.out _; (with_reducible repeat (first | refine blk_drewN ?_ _ | refine blk_drew ?_ | refine blk_alloc ?_ _)); exact BK437.out) hb); have n2_ := Aside0.mk (blk_below (g := gb439) (o := .cells #[u440000, .int .i64 (wrap64 (x440001_1 + x10_30)), .int .i64 0] 60 (0, 0)) (by (with_reducible repeat (first | refine blk_drewN ?_ _ | refine blk_drew ?_ | refine blk_alloc ?_ _)); refine blk_put (cs := #[u440000, .int .i64 x440001_1, .int .i64 0]) ?_ 1 _ rfl; (with_reducible repeat (first | refine blk_drewN ?_ _ | refine blk_drew ?_ | refine blk_alloc ?_ _)); exact BK439.out) hb); have n3_ := Aside0.mk (blk_below (g := gb446) (o := .cells #[.int .i64 ((rd_T66 l1 x7_1).f0), .int .i64 ((rd_T66 l1 x7_1).f1), .int .i64 0, .string (⟨#[]⟩ : ByteArray)] 66 (0, 0)) (by (with_reducible repeat (first | refine blk_drewN ?_ _ | refine blk_drew ?_ | refine blk_alloc ?_ _)); refine blk_far ?_ NB446_439.out _; (with_reducible repeat (first | refine blk_drewN ?_ _ | refine blk_drew ?_ | refine blk_alloc ?_ _)); exact BK446.out) hb); have n4_ := Aside0.mk (below_step (by repeat (first | (with_reducible first | exact HB.out | apply below_alloc | apply pw_below_drewN | apply below_drew1 | refine below_set ?_ GE437.out | refine below_set ?_ GE439.out | refine below_set ?_ GE446.out) | exact HB.out)) hb); clear HO_440000; clear BK437; clear BK439; clear BK446; clear HB; have HO_440000 := n0_; have BK437 := n1_; have BK439 := n2_; have BK446 := n3_; have HB := n4_; clear n0_ n1_ n2_ n3_ n4_; (try clear hb); (try clear hb2); (try clear hk); (try clear hi); have hcz101_0 : w100.cell? ⟨gb439, 0, none⟩ = some (u440000) := (blk_cell BK439.out 0).trans rfl; have hcz101_1 : w100.cell? ⟨gb439, 1, none⟩ = some (.int .i64 (wrap64 (x440001_1 + x10_30))) := (blk_cell BK439.out 1).trans rfl; have hcz101_2 : w100.cell? ⟨gb439, 2, none⟩ = some (.int .i64 0) := (blk_cell BK439.out 2).trans rfl; have hfz101_0 := blk_frozen BK439.out 0; have hfz101_1 := blk_frozen BK439.out 1; have hfz101_2 := blk_frozen BK439.out 2; have hcz102_0 : w100.cell? ⟨gb446, 0, none⟩ = some (.int .i64 ((rd_T66 l1 x7_1).f0)) := (blk_cell BK446.out 0).trans rfl; have hcz102_1 : w100.cell? ⟨gb446, 1, none⟩ = some (.int .i64 ((rd_T66 l1 x7_1).f1)) := (blk_cell BK446.out 1).trans rfl; have hcz102_2 : w100.cell? ⟨gb446, 2, none⟩ = some (.int .i64 0) := (blk_cell BK446.out 2).trans rfl; have hcz102_3 : w100.cell? ⟨gb446, 3, none⟩ = some (.string (⟨#[]⟩ : ByteArray)) := (blk_cell BK446.out 3).trans rfl; have hfz102_0 := blk_frozen BK446.out 0; have hfz102_1 := blk_frozen BK446.out 1; have hfz102_2 := blk_frozen BK446.out 2; have hfz102_3 := blk_frozen BK446.out 3) | ((with_reducible refine gate_builtin (b := .append) (xs := #[.tmp 124, .tmp 126]) rfl ?_); at_builtin; refine Kd.R_append k66 (w0 := w) w.heap.size rfl (.tmp 124) (.tmp 126) 22 66 (.agg #[(.int .i64 0), (.int .i64 0), (.int .i64 0), (.string ⟨#[]⟩)]) 40 rfl Tryd.underlying22 info66 rfl (by decide) (by omega) u440000 x440000_1 (⟨((rd_T66 l1 x7_1).f0), ((rd_T66 l1 x7_1).f1), 0, (⟨#[]⟩ : ByteArray)⟩ : S66) [.int .i64 ((rd_T66 l1 x7_1).f0), .int .i64 ((rd_T66 l1 x7_1).f1), .int .i64 0, .string (⟨#[]⟩ : ByteArray)] (fun k_ => k_ ≠ gb446) (fun _ => False) rfl rfl ?aP (fun _ hk => hk.elim) ?aF ?aO ?aB ?aS ?aL ?_; (case aP => exact k66_mkM _ _ _ (⟨((rd_T66 l1 x7_1).f0), ((rd_T66 l1 x7_1).f1), 0, (⟨#[]⟩ : ByteArray)⟩ : S66)); (case aB => exact (by repeat (first | (with_reducible first | exact HB.out | apply below_alloc | apply pw_below_drewN | apply below_drew1 | refine below_set ?_ GE437.out | refine below_set ?_ GE439.out | refine below_set ?_ GE446.out) | exact HB.out))); (case aF => exact (fun k_ hk => Kd.freshB (g := gb446) (o := .cells #[.int .i64 ((rd_T66 l1 x7_1).f0), .int .i64 ((rd_T66 l1 x7_1).f1), .int .i64 0, .string (⟨#[]⟩ : ByteArray)] 66 (0, 0)) (by (with_reducible repeat (first | refine blk_drewN ?_ _ | refine blk_drew ?_ | refine blk_alloc ?_ _)); exact BK446.out) k_ hk)); (case aO => exact (by (with_reducible repeat (first | apply Kd.R_alloc | apply Kd.R_drewN | apply Kd.R_drew)); exact HO_440000.out)); (case aS => exact (below_size (by repeat (first | (with_reducible first | exact HB.out | apply below_alloc | apply pw_below_drewN | apply below_drew1 | refine below_set ?_ GE437.out | refine below_set ?_ GE439.out | refine below_set ?_ GE446.out) | exact HB.out)))); (case aL => have := LMc94.out; omega); intro v461 w103 ho hb hg hat; rw [← Ny460.out] at ho; have n0_ := Aside0.mk (blk_grown (g := gb437) (o := .cells #[.slice none 0 0, .int .i64 x438001_1, .int .i64 x438002_1] 60 (0, 0)) (by (with_reducible repeat (first | refine blk_drewN ?_ _ | refine blk_drew ?_ | refine blk_alloc ?_ _)); exact BK437.out) hg (Kd.R_ne HO_440000.out BK437.out (by decide))); have n1_ := Aside0.mk (blk_grown (g := gb439) (o := .cells #[u440000, .int .i64 (wrap64 (x440001_1 + x10_30)), .int .i64 0] 60 (0, 0)) (by (with_reducible repeat (first | refine blk_drewN ?_ _ | refine blk_drew ?_ | refine blk_alloc ?_ _)); exact BK439.out) hg (Kd.R_ne HO_440000.out BK439.out (by decide))); have n2_ := Aside0.mk (blk_grown (g := gb446) (o := .cells #[.int .i64 ((rd_T66 l1 x7_1).f0), .int .i64 ((rd_T66 l1 x7_1).f1), .int .i64 0, .string (⟨#[]⟩ : ByteArray)] 66 (0, 0)) (by (with_reducible repeat (first | refine blk_drewN ?_ _ | refine blk_drew ?_ | refine blk_alloc ?_ _)); exact BK446.out) hg (Kd.R_away HO_440000.out (fun _ hk => hk))); have n3_ := Aside0.mk (hb); have n4_ := Aside0.mk (ho); clear BK437; clear BK439; clear BK446; clear HB; clear HO_440000; have BK437 := n0_; have BK439 := n1_; have BK446 := n2_; have HB := n3_; have HO462 := n4_; clear n0_ n1_ n2_ n3_ n4_; clear ho hb hg hat; obtain ⟨Ao104, co104, eo104⟩ := Kd.R_slice HO462.out; subst eo104; have hcz105_0 : w103.cell? ⟨gb439, 0, none⟩ = some (u440000) := (blk_cell BK439.out 0).trans rfl; have hcz105_1 : w103.cell? ⟨gb439, 1, none⟩ = some (.int .i64 (wrap64 (x440001_1 + x10_30))) := (blk_cell BK439.out 1).trans rfl; have hcz105_2 : w103.cell? ⟨gb439, 2, none⟩ = some (.int .i64 0) := (blk_cell BK439.out 2).trans rfl; have hfz105_0 := blk_frozen BK439.out 0; have hfz105_1 := blk_frozen BK439.out 1; have hfz105_2 := blk_frozen BK439.out 2))
                                              go_roundg kj30
                                              case measure => have := HK1.out; have := HJ15.out; have := HJ30.out; omega
                                              case rel => exact ⟨(wrap64 (x7_1 + 1)), (x438001_1), (x438002_1), (y460), (wrap64 (x440001_1 + x10_30)), (.slice Ao104 y460.length co104), (by first | rfl | (simp; done) | (simp [*]; done)), H', ⟨by have := HK1.out; have := HJ15.out; have := HJ30.out; omega⟩, ⟨by (with_reducible repeat (first | apply Kd.R_alloc | apply Kd.R_drewN | apply Kd.R_drew)); exact Kd.R_mono (Kd.R_far (p := ⟨gb439, 0, none⟩) (Kd.R_types HO462.out BK439.out (by decide)) (fun _ hk => hk.2) (.slice Ao104 y460.length co104)) (fun _ hk => trivial)⟩, ⟨by (with_reducible repeat (first | refine blk_drewN ?_ _ | refine blk_drew ?_ | refine blk_alloc ?_ _)); refine blk_far ?_ NB437_439.out _; (with_reducible repeat (first | refine blk_drewN ?_ _ | refine blk_drew ?_ | refine blk_alloc ?_ _)); exact BK437.out⟩, ⟨by (with_reducible repeat (first | refine blk_drewN ?_ _ | refine blk_drew ?_ | refine blk_alloc ?_ _)); refine blk_put (cs := #[u440000, .int .i64 (wrap64 (x440001_1 + x10_30)), .int .i64 0]) ?_ 0 _ rfl; (with_reducible repeat (first | refine blk_drewN ?_ _ | refine blk_drew ?_ | refine blk_alloc ?_ _)); exact BK439.out⟩, ⟨by repeat (first | (with_reducible first | exact HB.out | apply below_alloc | apply pw_below_drewN | apply below_drew1 | refine below_set ?_ GE437.out | refine below_set ?_ GE439.out | refine below_set ?_ GE446.out) | exact HB.out)⟩⟩
                                            · rw [if_neg c94] at H
                                              exact absurd H (by simp)
                                          · rw [if_neg c93] at H
                                            have c93b0 : ((a0.extract (x440001_1 : Int).toNat ((wrap64 (x440001_1 + x10_30)) : Int).toNat).toList == t459.toList) = false := beq_eq_false_iff_ne.mpr c93
                                            have c93b1 : ((a0.extract (x440001_1 : Int).toNat ((wrap64 (x440001_1 + x10_30)) : Int).toNat).toList != t459.toList) = true := bne_iff_ne.mpr c93
                                            simp only [Option.some.injEq, Prod.mk.injEq] at H
                                            obtain ⟨rfl, rfl, rfl⟩ := H
                                            have hnb106 := NB439_437.out
                                            have hnc106 := NB437_439.out
                                            have hnb107 := NB439_446.out
                                            have hnc107 := NB446_439.out
                                            have hcz108_0 : wc.cell? ⟨gb439, 0, none⟩ = some (u440000) := (blk_cell BK439.out 0).trans rfl
                                            have hcz108_1 : wc.cell? ⟨gb439, 1, none⟩ = some (.int .i64 x440001_1) := (blk_cell BK439.out 1).trans rfl
                                            have hcz108_2 : wc.cell? ⟨gb439, 2, none⟩ = some (.int .i64 0) := (blk_cell BK439.out 2).trans rfl
                                            have hfz108_0 := blk_frozen BK439.out 0
                                            have hfz108_1 := blk_frozen BK439.out 1
                                            have hfz108_2 := blk_frozen BK439.out 2
                                            have hnb109 := NB446_437.out
                                            have hnc109 := NB437_446.out
                                            have hcz110_0 : wc.cell? ⟨gb446, 0, none⟩ = some (.int .i64 ((rd_T66 l1 x7_1).f0)) := (blk_cell BK446.out 0).trans rfl
                                            have hcz110_1 : wc.cell? ⟨gb446, 1, none⟩ = some (.int .i64 ((rd_T66 l1 x7_1).f1)) := (blk_cell BK446.out 1).trans rfl
                                            have hcz110_2 : wc.cell? ⟨gb446, 2, none⟩ = some (.int .i64 0) := (blk_cell BK446.out 2).trans rfl
                                            have hcz110_3 : wc.cell? ⟨gb446, 3, none⟩ = some (.string (⟨#[]⟩ : ByteArray)) := (blk_cell BK446.out 3).trans rfl
                                            have hfz110_0 := blk_frozen BK446.out 0
                                            have hfz110_1 := blk_frozen BK446.out 1
                                            have hfz110_2 := blk_frozen BK446.out 2
                                            have hfz110_3 := blk_frozen BK446.out 3
                                            go_wp2_with (first | ((with_reducible refine gate_callee (f := 59) rfl ?_); refine goesL_ (some 119) rfl rfl Tryd.func59 (by kernel_rfl) rfl #[.int .i64 x10_30] rfl (by (try simp only [List.map_toArray, List.map_cons, List.map_nil]); first | done | rfl | (simp only [List.length_drop, List.length_take]; rfl)) ?_; (with_reducible refine (examinerref08_Zeros.calls kj30 x10_30 t459 _ A92.out).mono ?_); rintro e w111 ⟨rfl, hb⟩; refine ⟨_, rfl, ?_⟩; have n0_ := Aside0.mk (Kd.R_below (by (with_reducible repeat (first | apply Kd.R_alloc | apply Kd.R_drewN | apply Kd.R_drew)); exact (Kd.R_mono (Kd.R_far (p := ⟨gb439, 1, none⟩) (Kd.R_types HO_440000.out BK439.out (by decide)) (fun _ hk => hk.2) (.int .i64 (wrap64 (x440001_1 + x10_30)))) (fun _ h_ => h_.1))) hb); have n1_ := Aside0.mk (blk_below (g := gb437) (o := .cells #[.slice none 0 0, .int .i64 x438001_1, .int .i64 x438002_1] 60 (0, 0)) (by (with_reducible repeat (first | refine blk_drewN ?_ _ | refine blk_drew ?_ | refine blk_alloc ?_ _)); refine blk_far ?_ NB437_439.out _; (with_reducible repeat (first | refine blk_drewN ?_ _ | refine blk_drew ?_ | refine blk_alloc ?_ _)); exact BK437.out) hb); have n2_ := Aside0.mk (blk_below (g := gb439) (o := .cells #[u440000, .int .i64 (wrap64 (x440001_1 + x10_30)), .int .i64 0] 60 (0, 0)) (by (with_reducible repeat (first | refine blk_drewN ?_ _ | refine blk_drew ?_ | refine blk_alloc ?_ _)); refine blk_put (cs := #[u440000, .int .i64 x440001_1, .int .i64 0]) ?_ 1 _ rfl; (with_reducible repeat (first | refine blk_drewN ?_ _ | refine blk_drew ?_ | refine blk_alloc ?_ _)); exact BK439.out) hb); have n3_ := Aside0.mk (blk_below (g := gb446) (o := .cells #[.int .i64 ((rd_T66 l1 x7_1).f0), .int .i64 ((rd_T66 l1 x7_1).f1), .int .i64 0, .string (⟨#[]⟩ : ByteArray)] 66 (0, 0)) (by (with_reducible repeat (first | refine blk_drewN ?_ _ | refine blk_drew ?_ | refine blk_alloc ?_ _)); refine blk_far ?_ NB446_439.out _; (with_reducible repeat (first | refine blk_drewN ?_ _ | refine blk_drew ?_ | refine blk_alloc ?_ _)); exact BK446.out) hb); have n4_ := Aside0.mk (below_step (by repeat (first | (with_reducible first | exact HB.out | apply below_alloc | apply pw_below_drewN | apply below_drew1 | refine below_set ?_ GE437.out | refine below_set ?_ GE439.out | refine below_set ?_ GE446.out) | exact HB.out)) hb); clear HO_440000; clear BK437; clear BK439; clear BK446; clear HB; have HO_440000 := n0_; have BK437 := n1_; have BK439 := n2_; have BK446 := n3_; have HB := n4_; clear n0_ n1_ n2_ n3_ n4_; (try clear hb); (try clear hb2); (try clear hk); (try clear hi); have hcz112_0 : w111.cell? ⟨gb437, 0, none⟩ = some (.slice none 0 0) := (blk_cell BK437.out 0).trans rfl; have hcz112_1 : w111.cell? ⟨gb437, 1, none⟩ = some (.int .i64 x438001_1) := (blk_cell BK437.out 1).trans rfl; have hcz112_2 : w111.cell? ⟨gb437, 2, none⟩ = some (.int .i64 x438002_1) := (blk_cell BK437.out 2).trans rfl; have hfz112_0 := blk_frozen BK437.out 0; have hfz112_1 := blk_frozen BK437.out 1; have hfz112_2 := blk_frozen BK437.out 2))
                                            refine bodyPost_ret (results_cell_row rfl _ _ gb437 60 #[.slice none 0 0, .int .i64 x7_1, .int .i64 5] (0, 0) _ rfl (by (with_reducible repeat (first | refine blk_drewN ?_ _ | refine blk_drew ?_ | refine blk_alloc ?_ _)); refine blk_put (cs := #[.slice none 0 0, .int .i64 x7_1, .int .i64 x438002_1]) ?_ 2 _ rfl; (with_reducible repeat (first | refine blk_drewN ?_ _ | refine blk_drew ?_ | refine blk_alloc ?_ _)); refine blk_put (cs := #[.slice none 0 0, .int .i64 x438001_1, .int .i64 x438002_1]) ?_ 1 _ rfl; (with_reducible repeat (first | refine blk_drewN ?_ _ | refine blk_drew ?_ | refine blk_alloc ?_ _)); refine blk_put (cs := #[.slice none 0 0, .int .i64 x438001_1, .int .i64 x438002_1]) ?_ 0 _ rfl; (with_reducible repeat (first | refine blk_drewN ?_ _ | refine blk_drew ?_ | refine blk_alloc ?_ _)); exact BK437.out) Tryd.underlying60 rfl (by kernel_rfl)) rfl ?_
                                            exact ⟨_, by first | rfl | (simp [errW_none, errW_some] <;> rfl) | (simp [*, errW_none, errW_some] <;> rfl), by first | exact Kd.R_nil _ _ _ _ _ | exact Kd.N_nil _ _ _ _ _ | exact Kd.V_nil _ _ _ _ _ | exact Kd.Q_nil _ _ _ _ _ | exact Kd.S_nil _ _ _ _ _, by repeat (first | (with_reducible first | exact HB.out | apply below_alloc | apply pw_below_drewN | apply below_drew1 | refine below_set ?_ GE437.out | refine below_set ?_ GE439.out | refine below_set ?_ GE446.out) | exact HB.out)⟩
                                        · rw [if_neg c91] at H
                                          have c91b0 : (((rd_T66 l1 x7_1).f0) == 3) = false := beq_eq_false_iff_ne.mpr c91
                                          have c91b1 : (((rd_T66 l1 x7_1).f0) != 3) = true := bne_iff_ne.mpr c91
                                          by_cases c113 : x440000_1.length < 3518437208883
                                          · rw [if_pos c113] at H
                                            have LMc113 := Aside0.mk c113
                                            clear c113
                                            obtain ⟨y463, hy463⟩ : ∃ y_ : List (S66), y_ = (x440000_1 ++ [(⟨((rd_T66 l1 x7_1).f0), ((rd_T66 l1 x7_1).f1), 0, (⟨#[]⟩ : ByteArray)⟩ : S66)]) := ⟨_, rfl⟩
                                            replace H : (examinerref08_Read.l0 kj30 a0 l1 (wrap64 (x7_1 + 1)) y463 (wrap64 (x440001_1 + x10_30)) 0) = some (r1, r2, r3) := by first | (rw [hy463]; with_reducible exact H) | (have H2_ := (Option.bind_some _ _).symm.trans H; rw [hy463]; with_reducible exact H2_) | (have H2_ := (Option.bind_some _ _).symm.trans H; with_reducible exact H2_) | with_reducible exact H | (rw [hy463]; exact H) | exact H
                                            have Ny463 := Aside0.mk hy463
                                            clear hy463
                                            have H' := Aside0.mk H
                                            clear H
                                            have hnb114 := NB439_437.out
                                            have hnc114 := NB437_439.out
                                            have hnb115 := NB439_446.out
                                            have hnc115 := NB446_439.out
                                            have hcz116_0 : wc.cell? ⟨gb439, 0, none⟩ = some (u440000) := (blk_cell BK439.out 0).trans rfl
                                            have hcz116_1 : wc.cell? ⟨gb439, 1, none⟩ = some (.int .i64 x440001_1) := (blk_cell BK439.out 1).trans rfl
                                            have hcz116_2 : wc.cell? ⟨gb439, 2, none⟩ = some (.int .i64 0) := (blk_cell BK439.out 2).trans rfl
                                            have hfz116_0 := blk_frozen BK439.out 0
                                            have hfz116_1 := blk_frozen BK439.out 1
                                            have hfz116_2 := blk_frozen BK439.out 2
                                            have hnb117 := NB446_437.out
                                            have hnc117 := NB437_446.out
                                            have hcz118_0 : wc.cell? ⟨gb446, 0, none⟩ = some (.int .i64 ((rd_T66 l1 x7_1).f0)) := (blk_cell BK446.out 0).trans rfl
                                            have hcz118_1 : wc.cell? ⟨gb446, 1, none⟩ = some (.int .i64 ((rd_T66 l1 x7_1).f1)) := (blk_cell BK446.out 1).trans rfl
                                            have hcz118_2 : wc.cell? ⟨gb446, 2, none⟩ = some (.int .i64 0) := (blk_cell BK446.out 2).trans rfl
                                            have hcz118_3 : wc.cell? ⟨gb446, 3, none⟩ = some (.string (⟨#[]⟩ : ByteArray)) := (blk_cell BK446.out 3).trans rfl
                                            have hfz118_0 := blk_frozen BK446.out 0
                                            have hfz118_1 := blk_frozen BK446.out 1
                                            have hfz118_2 := blk_frozen BK446.out 2
                                            have hfz118_3 := blk_frozen BK446.out 3
                                            go_wp2_with (first | ((with_reducible refine gate_builtin (b := .append) (xs := #[.tmp 124, .tmp 126]) rfl ?_); at_builtin; refine Kd.R_append k66 (w0 := w) w.heap.size rfl (.tmp 124) (.tmp 126) 22 66 (.agg #[(.int .i64 0), (.int .i64 0), (.int .i64 0), (.string ⟨#[]⟩)]) 40 rfl Tryd.underlying22 info66 rfl (by decide) (by omega) u440000 x440000_1 (⟨((rd_T66 l1 x7_1).f0), ((rd_T66 l1 x7_1).f1), 0, (⟨#[]⟩ : ByteArray)⟩ : S66) [.int .i64 ((rd_T66 l1 x7_1).f0), .int .i64 ((rd_T66 l1 x7_1).f1), .int .i64 0, .string (⟨#[]⟩ : ByteArray)] (fun k_ => k_ ≠ gb446) (fun _ => False) rfl (by first | (go_simp; done) | (go_simp; rfl)) ?aP (fun _ hk => hk.elim) ?aF ?aO ?aB ?aS ?aL ?_; (case aP => exact k66_mkM _ _ _ (⟨((rd_T66 l1 x7_1).f0), ((rd_T66 l1 x7_1).f1), 0, (⟨#[]⟩ : ByteArray)⟩ : S66)); (case aB => exact (by repeat (first | (with_reducible first | exact HB.out | apply below_alloc | apply pw_below_drewN | apply below_drew1 | refine below_set ?_ GE437.out | refine below_set ?_ GE439.out | refine below_set ?_ GE446.out) | exact HB.out))); (case aF => exact (fun k_ hk => Kd.freshB (g := gb446) (o := .cells #[.int .i64 ((rd_T66 l1 x7_1).f0), .int .i64 ((rd_T66 l1 x7_1).f1), .int .i64 0, .string (⟨#[]⟩ : ByteArray)] 66 (0, 0)) (by (with_reducible repeat (first | refine blk_drewN ?_ _ | refine blk_drew ?_ | refine blk_alloc ?_ _)); refine blk_far ?_ NB446_439.out _; (with_reducible repeat (first | refine blk_drewN ?_ _ | refine blk_drew ?_ | refine blk_alloc ?_ _)); exact BK446.out) k_ hk)); (case aO => exact (by (with_reducible repeat (first | apply Kd.R_alloc | apply Kd.R_drewN | apply Kd.R_drew)); exact Kd.R_mono (Kd.R_far (p := ⟨gb439, 1, none⟩) (Kd.R_types HO_440000.out BK439.out (by decide)) (fun _ hk => hk.2) (.int .i64 (wrap64 (x440001_1 + x10_30)))) (fun _ hk => hk.1))); (case aS => exact (below_size (by repeat (first | (with_reducible first | exact HB.out | apply below_alloc | apply pw_below_drewN | apply below_drew1 | refine below_set ?_ GE437.out | refine below_set ?_ GE439.out | refine below_set ?_ GE446.out) | exact HB.out)))); (case aL => have := LMc113.out; omega); intro v464 w119 ho hb hg hat; rw [← Ny463.out] at ho; have n0_ := Aside0.mk (blk_grown (g := gb437) (o := .cells #[.slice none 0 0, .int .i64 x438001_1, .int .i64 x438002_1] 60 (0, 0)) (by (with_reducible repeat (first | refine blk_drewN ?_ _ | refine blk_drew ?_ | refine blk_alloc ?_ _)); refine blk_far ?_ NB437_439.out _; (with_reducible repeat (first | refine blk_drewN ?_ _ | refine blk_drew ?_ | refine blk_alloc ?_ _)); exact BK437.out) hg (Kd.R_ne HO_440000.out BK437.out (by decide))); have n1_ := Aside0.mk (blk_grown (g := gb439) (o := .cells #[u440000, .int .i64 (wrap64 (x440001_1 + x10_30)), .int .i64 0] 60 (0, 0)) (by (with_reducible repeat (first | refine blk_drewN ?_ _ | refine blk_drew ?_ | refine blk_alloc ?_ _)); refine blk_put (cs := #[u440000, .int .i64 x440001_1, .int .i64 0]) ?_ 1 _ rfl; (with_reducible repeat (first | refine blk_drewN ?_ _ | refine blk_drew ?_ | refine blk_alloc ?_ _)); exact BK439.out) hg (Kd.R_ne HO_440000.out BK439.out (by decide))); have n2_ := Aside0.mk (blk_grown (g := gb446) (o := .cells #[.int .i64 ((rd_T66 l1 x7_1).f0), .int .i64 ((rd_T66 l1 x7_1).f1), .int .i64 0, .string (⟨#[]⟩ : ByteArray)] 66 (0, 0)) (by (with_reducible repeat (first | refine blk_drewN ?_ _ | refine blk_drew ?_ | refine blk_alloc ?_ _)); refine blk_far ?_ NB446_439.out _; (with_reducible repeat (first | refine blk_drewN ?_ _ | refine blk_drew ?_ | refine blk_alloc ?_ _)); exact BK446.out) hg (Kd.R_away HO_440000.out (fun _ hk => hk))); have n3_ := Aside0.mk (hb); have n4_ := Aside0.mk (ho); clear BK437; clear BK439; clear BK446; clear HB; clear HO_440000; have BK437 := n0_; have BK439 := n1_; have BK446 := n2_; have HB := n3_; have HO465 := n4_; clear n0_ n1_ n2_ n3_ n4_; clear ho hb hg hat; obtain ⟨Ao120, co120, eo120⟩ := Kd.R_slice HO465.out; subst eo120; have hcz121_0 : w119.cell? ⟨gb439, 0, none⟩ = some (u440000) := (blk_cell BK439.out 0).trans rfl; have hcz121_1 : w119.cell? ⟨gb439, 1, none⟩ = some (.int .i64 (wrap64 (x440001_1 + x10_30))) := (blk_cell BK439.out 1).trans rfl; have hcz121_2 : w119.cell? ⟨gb439, 2, none⟩ = some (.int .i64 0) := (blk_cell BK439.out 2).trans rfl; have hfz121_0 := blk_frozen BK439.out 0; have hfz121_1 := blk_frozen BK439.out 1; have hfz121_2 := blk_frozen BK439.out 2))
                                            go_roundg kj30
                                            case measure => have := HK1.out; have := HJ15.out; have := HJ30.out; omega
                                            case rel => exact ⟨(wrap64 (x7_1 + 1)), (x438001_1), (x438002_1), (y463), (wrap64 (x440001_1 + x10_30)), (.slice Ao120 y463.length co120), (by first | rfl | (simp; done) | (simp [*]; done)), H', ⟨by have := HK1.out; have := HJ15.out; have := HJ30.out; omega⟩, ⟨by (with_reducible repeat (first | apply Kd.R_alloc | apply Kd.R_drewN | apply Kd.R_drew)); exact Kd.R_mono (Kd.R_far (p := ⟨gb439, 0, none⟩) (Kd.R_types HO465.out BK439.out (by decide)) (fun _ hk => hk.2) (.slice Ao120 y463.length co120)) (fun _ hk => trivial)⟩, ⟨by (with_reducible repeat (first | refine blk_drewN ?_ _ | refine blk_drew ?_ | refine blk_alloc ?_ _)); refine blk_far ?_ NB437_439.out _; (with_reducible repeat (first | refine blk_drewN ?_ _ | refine blk_drew ?_ | refine blk_alloc ?_ _)); exact BK437.out⟩, ⟨by (with_reducible repeat (first | refine blk_drewN ?_ _ | refine blk_drew ?_ | refine blk_alloc ?_ _)); refine blk_put (cs := #[u440000, .int .i64 (wrap64 (x440001_1 + x10_30)), .int .i64 0]) ?_ 0 _ rfl; (with_reducible repeat (first | refine blk_drewN ?_ _ | refine blk_drew ?_ | refine blk_alloc ?_ _)); exact BK439.out⟩, ⟨by repeat (first | (with_reducible first | exact HB.out | apply below_alloc | apply pw_below_drewN | apply below_drew1 | refine below_set ?_ GE437.out | refine below_set ?_ GE439.out | refine below_set ?_ GE446.out) | exact HB.out)⟩⟩
                                          · rw [if_neg c113] at H
                                            exact absurd H (by simp)
                                · rw [if_neg c48] at H
                                  exact absurd H (by simp)
                              · rw [if_neg c47] at H
                                exact absurd H (by simp)
                            · rw [if_neg c46] at H
                              exact absurd H (by simp)
                · rw [if_neg c15] at H
                  have c15b0 : (t443 == 0) = false := beq_eq_false_iff_ne.mpr c15
                  have c15b1 : (t443 != 0) = true := bne_iff_ne.mpr c15
                  simp only [Option.some.injEq, Prod.mk.injEq] at H
                  obtain ⟨rfl, rfl, rfl⟩ := H
                  have p440 : 0 ≤ (x7_1 : Int) := of_decide_eq_true (by first | (with_reducible assumption) | assumption)
                  have q440 : x7_1 < (l1.length : Int) := of_decide_eq_true (by first | (with_reducible assumption) | assumption)
                  obtain ⟨ad440, e440, hx440_0, hx440_1, hx440_2, hx440_3⟩ := at_T66 HR1.out x7_1 p440 q440
                  cases e440
                  replace hx440_0 := (HB.out.cell (World.block_lt_of_cell? w _ hx440_0)).trans hx440_0
                  replace hx440_1 := (HB.out.cell (World.block_lt_of_cell? w _ hx440_1)).trans hx440_1
                  replace hx440_2 := (HB.out.cell (World.block_lt_of_cell? w _ hx440_2)).trans hx440_2
                  replace hx440_3 := (HB.out.cell (World.block_lt_of_cell? w _ hx440_3)).trans hx440_3
                  replace p440 := eq_true p440
                  replace q440 := eq_true q440
                  go_wp2_with (first | ((with_reducible refine gate_callee (f := 28) rfl ?_); refine goesL_ (some 33) rfl rfl Tryd.func28 (by kernel_rfl) rfl #[.int .i64 ((rd_T66 l1 x7_1).f0), .int .i64 0, .int .i64 3] rfl (by (try simp only [List.map_toArray, List.map_cons, List.map_nil]); first | done | rfl | (simp only [List.length_drop, List.length_take]; rfl)) ?_; (with_reducible refine (examinerbase_Within.calls ((rd_T66 l1 x7_1).f0) 0 3 true _ A12.out).mono ?_); rintro e w' ⟨rfl, ⟨nd, rfl⟩⟩; refine ⟨_, rfl, ?_⟩; (try (rw [drewN_self wr]; generalize hq_ : World.drewN wr _ = wr; have n0_ : Aside0 (Kd.R k66 66 wr w.heap.size (fun _ => True) u440000 x440000_1) := ⟨by rw [← hq_]; exact (by (with_reducible repeat (first | apply Kd.R_alloc | apply Kd.R_drewN | apply Kd.R_drew)); exact HO_440000.out)⟩; have n1_ : Aside0 (wr.heap[gb437]? = some (.cells #[.slice none 0 0, .int .i64 x438001_1, .int .i64 x438002_1] 60 (0, 0))) := ⟨by rw [← hq_]; exact (by (with_reducible repeat (first | refine blk_drewN ?_ _ | refine blk_drew ?_ | refine blk_alloc ?_ _)); exact BK437.out)⟩; have n2_ : Aside0 (wr.heap[gb439]? = some (.cells #[u440000, .int .i64 x440001_1, .int .i64 0] 60 (0, 0))) := ⟨by rw [← hq_]; exact (by (with_reducible repeat (first | refine blk_drewN ?_ _ | refine blk_drew ?_ | refine blk_alloc ?_ _)); exact BK439.out)⟩; have n3_ : Aside0 (Below w.heap.size w wr) := ⟨by rw [← hq_]; exact (by repeat (first | (with_reducible first | exact HB.out | apply below_alloc | apply pw_below_drewN | apply below_drew1 | refine below_set ?_ GE437.out | refine below_set ?_ GE439.out) | exact HB.out))⟩; clear HO_440000 BK437 BK439 HB hq_; have HO_440000 := n0_; have BK437 := n1_; have BK439 := n2_; have HB := n3_; clear n0_ n1_ n2_ n3_)); have p442 : 0 ≤ (x7_1 : Int) := of_decide_eq_true (by first | (with_reducible assumption) | assumption); have q442 : x7_1 < (l1.length : Int) := of_decide_eq_true (by first | (with_reducible assumption) | assumption); obtain ⟨ad442, e442, hx442_0, hx442_1, hx442_2, hx442_3⟩ := at_T66 HR1.out x7_1 p442 q442; obtain rfl : ad440 = ad442 := (by injection e442); replace hx442_0 := (HB.out.cell (World.block_lt_of_cell? w _ hx442_0)).trans hx442_0; replace hx442_1 := (HB.out.cell (World.block_lt_of_cell? w _ hx442_1)).trans hx442_1; replace hx442_2 := (HB.out.cell (World.block_lt_of_cell? w _ hx442_2)).trans hx442_2; replace hx442_3 := (HB.out.cell (World.block_lt_of_cell? w _ hx442_3)).trans hx442_3; replace p442 := eq_true p442; replace q442 := eq_true q442) | ((with_reducible refine gate_callee (f := 77) rfl ?_); refine goesL_ (some 41) rfl rfl Tryd.func77 (by kernel_rfl) rfl #[.agg #[.int .i64 ((rd_T66 l1 x7_1).f0), .int .i64 ((rd_T66 l1 x7_1).f1), .int .i64 ((rd_T66 l1 x7_1).f2), .string ((rd_T66 l1 x7_1).f3)]] rfl (by (try simp only [List.map_toArray, List.map_cons, List.map_nil]); first | done | rfl | (simp only [List.length_drop, List.length_take]; rfl)) ?_; (with_reducible refine (examinerref08_widthErr.calls ((rd_T66 l1 x7_1).f0) ((rd_T66 l1 x7_1).f1) ((rd_T66 l1 x7_1).f2) ((rd_T66 l1 x7_1).f3) t443 _ A14.out).mono ?_); rintro e w122 ⟨rfl, hb⟩; refine ⟨_, rfl, ?_⟩; have n0_ := Aside0.mk (Kd.R_below (by (with_reducible repeat (first | apply Kd.R_alloc | apply Kd.R_drewN | apply Kd.R_drew)); exact HO_440000.out) hb); have n1_ := Aside0.mk (blk_below (g := gb437) (o := .cells #[.slice none 0 0, .int .i64 x438001_1, .int .i64 x438002_1] 60 (0, 0)) (by (with_reducible repeat (first | refine blk_drewN ?_ _ | refine blk_drew ?_ | refine blk_alloc ?_ _)); exact BK437.out) hb); have n2_ := Aside0.mk (blk_below (g := gb439) (o := .cells #[u440000, .int .i64 x440001_1, .int .i64 0] 60 (0, 0)) (by (with_reducible repeat (first | refine blk_drewN ?_ _ | refine blk_drew ?_ | refine blk_alloc ?_ _)); exact BK439.out) hb); have n3_ := Aside0.mk (below_step (by repeat (first | (with_reducible first | exact HB.out | apply below_alloc | apply pw_below_drewN | apply below_drew1 | refine below_set ?_ GE437.out | refine below_set ?_ GE439.out) | exact HB.out)) hb); clear HO_440000; clear BK437; clear BK439; clear HB; have HO_440000 := n0_; have BK437 := n1_; have BK439 := n2_; have HB := n3_; clear n0_ n1_ n2_ n3_; (try clear hb); (try clear hb2); (try clear hk); (try clear hi); have hnb123 := NB437_439.out; have hnc123 := NB439_437.out; have hcz124_0 : w122.cell? ⟨gb437, 0, none⟩ = some (.slice none 0 0) := (blk_cell BK437.out 0).trans rfl; have hcz124_1 : w122.cell? ⟨gb437, 1, none⟩ = some (.int .i64 x438001_1) := (blk_cell BK437.out 1).trans rfl; have hcz124_2 : w122.cell? ⟨gb437, 2, none⟩ = some (.int .i64 x438002_1) := (blk_cell BK437.out 2).trans rfl; have hfz124_0 := blk_frozen BK437.out 0; have hfz124_1 := blk_frozen BK437.out 1; have hfz124_2 := blk_frozen BK437.out 2))
                  refine bodyPost_ret (results_cell_row rfl _ _ gb437 60 #[.slice none 0 0, .int .i64 x7_1, .int .i64 t443] (0, 0) _ rfl (by (with_reducible repeat (first | refine blk_drewN ?_ _ | refine blk_drew ?_ | refine blk_alloc ?_ _)); refine blk_put (cs := #[.slice none 0 0, .int .i64 x7_1, .int .i64 x438002_1]) ?_ 2 _ rfl; (with_reducible repeat (first | refine blk_drewN ?_ _ | refine blk_drew ?_ | refine blk_alloc ?_ _)); refine blk_put (cs := #[.slice none 0 0, .int .i64 x438001_1, .int .i64 x438002_1]) ?_ 1 _ rfl; (with_reducible repeat (first | refine blk_drewN ?_ _ | refine blk_drew ?_ | refine blk_alloc ?_ _)); refine blk_put (cs := #[.slice none 0 0, .int .i64 x438001_1, .int .i64 x438002_1]) ?_ 0 _ rfl; (with_reducible repeat (first | refine blk_drewN ?_ _ | refine blk_drew ?_ | refine blk_alloc ?_ _)); exact BK437.out) Tryd.underlying60 rfl (by kernel_rfl)) rfl ?_
                  exact ⟨_, by first | rfl | (simp [errW_none, errW_some] <;> rfl) | (simp [*, errW_none, errW_some] <;> rfl), by first | exact Kd.R_nil _ _ _ _ _ | exact Kd.N_nil _ _ _ _ _ | exact Kd.V_nil _ _ _ _ _ | exact Kd.Q_nil _ _ _ _ _ | exact Kd.S_nil _ _ _ _ _, by repeat (first | (with_reducible first | exact HB.out | apply below_alloc | apply pw_below_drewN | apply below_drew1 | refine below_set ?_ GE437.out | refine below_set ?_ GE439.out) | exact HB.out)⟩
              · replace c13 := Bool.eq_false_iff.mpr c13
                subst c13
                have H1 : (some (([] : List (S66)), x7_1, 4)) = some (r1, r2, r3) := by rw [if_neg (show ¬ (false = true) by decide)] at H; exact H
                clear H
                have H := H1
                clear H1
                simp only [Option.some.injEq, Prod.mk.injEq] at H
                obtain ⟨rfl, rfl, rfl⟩ := H
                have p440 : 0 ≤ (x7_1 : Int) := of_decide_eq_true (by first | (with_reducible assumption) | assumption)
                have q440 : x7_1 < (l1.length : Int) := of_decide_eq_true (by first | (with_reducible assumption) | assumption)
                obtain ⟨ad440, e440, hx440_0, hx440_1, hx440_2, hx440_3⟩ := at_T66 HR1.out x7_1 p440 q440
                cases e440
                replace hx440_0 := (HB.out.cell (World.block_lt_of_cell? w _ hx440_0)).trans hx440_0
                replace hx440_1 := (HB.out.cell (World.block_lt_of_cell? w _ hx440_1)).trans hx440_1
                replace hx440_2 := (HB.out.cell (World.block_lt_of_cell? w _ hx440_2)).trans hx440_2
                replace hx440_3 := (HB.out.cell (World.block_lt_of_cell? w _ hx440_3)).trans hx440_3
                replace p440 := eq_true p440
                replace q440 := eq_true q440
                go_wp2_with (first | ((with_reducible refine gate_callee (f := 28) rfl ?_); refine goesL_ (some 33) rfl rfl Tryd.func28 (by kernel_rfl) rfl #[.int .i64 ((rd_T66 l1 x7_1).f0), .int .i64 0, .int .i64 3] rfl (by (try simp only [List.map_toArray, List.map_cons, List.map_nil]); first | done | rfl | (simp only [List.length_drop, List.length_take]; rfl)) ?_; (with_reducible refine (examinerbase_Within.calls ((rd_T66 l1 x7_1).f0) 0 3 false _ A12.out).mono ?_); rintro e w' ⟨rfl, ⟨nd, rfl⟩⟩; refine ⟨_, rfl, ?_⟩; (try (rw [drewN_self wr]; generalize hq_ : World.drewN wr _ = wr; have n0_ : Aside0 (Kd.R k66 66 wr w.heap.size (fun _ => True) u440000 x440000_1) := ⟨by rw [← hq_]; exact (by (with_reducible repeat (first | apply Kd.R_alloc | apply Kd.R_drewN | apply Kd.R_drew)); exact HO_440000.out)⟩; have n1_ : Aside0 (wr.heap[gb437]? = some (.cells #[.slice none 0 0, .int .i64 x438001_1, .int .i64 x438002_1] 60 (0, 0))) := ⟨by rw [← hq_]; exact (by (with_reducible repeat (first | refine blk_drewN ?_ _ | refine blk_drew ?_ | refine blk_alloc ?_ _)); exact BK437.out)⟩; have n2_ : Aside0 (wr.heap[gb439]? = some (.cells #[u440000, .int .i64 x440001_1, .int .i64 0] 60 (0, 0))) := ⟨by rw [← hq_]; exact (by (with_reducible repeat (first | refine blk_drewN ?_ _ | refine blk_drew ?_ | refine blk_alloc ?_ _)); exact BK439.out)⟩; have n3_ : Aside0 (Below w.heap.size w wr) := ⟨by rw [← hq_]; exact (by repeat (first | (with_reducible first | exact HB.out | apply below_alloc | apply pw_below_drewN | apply below_drew1 | refine below_set ?_ GE437.out | refine below_set ?_ GE439.out) | exact HB.out))⟩; clear HO_440000 BK437 BK439 HB hq_; have HO_440000 := n0_; have BK437 := n1_; have BK439 := n2_; have HB := n3_; clear n0_ n1_ n2_ n3_)); have hnb125 := NB437_439.out; have hnc125 := NB439_437.out; have hcz126_0 : wr.cell? ⟨gb437, 0, none⟩ = some (.slice none 0 0) := (blk_cell BK437.out 0).trans rfl; have hcz126_1 : wr.cell? ⟨gb437, 1, none⟩ = some (.int .i64 x438001_1) := (blk_cell BK437.out 1).trans rfl; have hcz126_2 : wr.cell? ⟨gb437, 2, none⟩ = some (.int .i64 x438002_1) := (blk_cell BK437.out 2).trans rfl; have hfz126_0 := blk_frozen BK437.out 0; have hfz126_1 := blk_frozen BK437.out 1; have hfz126_2 := blk_frozen BK437.out 2))
                refine bodyPost_ret (results_cell_row rfl _ _ gb437 60 #[.slice none 0 0, .int .i64 x7_1, .int .i64 4] (0, 0) _ rfl (by (with_reducible repeat (first | refine blk_drewN ?_ _ | refine blk_drew ?_ | refine blk_alloc ?_ _)); refine blk_put (cs := #[.slice none 0 0, .int .i64 x7_1, .int .i64 x438002_1]) ?_ 2 _ rfl; (with_reducible repeat (first | refine blk_drewN ?_ _ | refine blk_drew ?_ | refine blk_alloc ?_ _)); refine blk_put (cs := #[.slice none 0 0, .int .i64 x438001_1, .int .i64 x438002_1]) ?_ 1 _ rfl; (with_reducible repeat (first | refine blk_drewN ?_ _ | refine blk_drew ?_ | refine blk_alloc ?_ _)); refine blk_put (cs := #[.slice none 0 0, .int .i64 x438001_1, .int .i64 x438002_1]) ?_ 0 _ rfl; (with_reducible repeat (first | refine blk_drewN ?_ _ | refine blk_drew ?_ | refine blk_alloc ?_ _)); exact BK437.out) Tryd.underlying60 rfl (by kernel_rfl)) rfl ?_
                exact ⟨_, by first | rfl | (simp [errW_none, errW_some] <;> rfl) | (simp [*, errW_none, errW_some] <;> rfl), by first | exact Kd.R_nil _ _ _ _ _ | exact Kd.N_nil _ _ _ _ _ | exact Kd.V_nil _ _ _ _ _ | exact Kd.Q_nil _ _ _ _ _ | exact Kd.S_nil _ _ _ _ _, by repeat (first | (with_reducible first | exact HB.out | apply below_alloc | apply pw_below_drewN | apply below_drew1 | refine below_set ?_ GE437.out | refine below_set ?_ GE439.out) | exact HB.out)⟩
            · rw [if_neg c11] at H
              exact absurd H (by simp)
          · rw [if_neg c10] at H
            have c10b0 : decide (x7_1 < (l1.length : Int)) = false := decide_eq_false c10
            clear c10
            simp only [Option.some.injEq, Prod.mk.injEq] at H
            obtain ⟨rfl, rfl, rfl⟩ := H
            have hnb127 := NB439_437.out
            have hnc127 := NB437_439.out
            have hcz128_0 : wr.cell? ⟨gb439, 0, none⟩ = some (u440000) := (blk_cell BK439.out 0).trans rfl
            have hcz128_1 : wr.cell? ⟨gb439, 1, none⟩ = some (.int .i64 x440001_1) := (blk_cell BK439.out 1).trans rfl
            have hcz128_2 : wr.cell? ⟨gb439, 2, none⟩ = some (.int .i64 0) := (blk_cell BK439.out 2).trans rfl
            have hfz128_0 := blk_frozen BK439.out 0
            have hfz128_1 := blk_frozen BK439.out 1
            have hfz128_2 := blk_frozen BK439.out 2
            obtain ⟨Ao129, co129, eo129⟩ := Kd.R_slice HO_440000.out
            subst eo129
            have hcz130_0 : wr.cell? ⟨gb437, 0, none⟩ = some (.slice none 0 0) := (blk_cell BK437.out 0).trans rfl
            have hcz130_1 : wr.cell? ⟨gb437, 1, none⟩ = some (.int .i64 x438001_1) := (blk_cell BK437.out 1).trans rfl
            have hcz130_2 : wr.cell? ⟨gb437, 2, none⟩ = some (.int .i64 x438002_1) := (blk_cell BK437.out 2).trans rfl
            have hfz130_0 := blk_frozen BK437.out 0
            have hfz130_1 := blk_frozen BK437.out 1
            have hfz130_2 := blk_frozen BK437.out 2
            go_wp2
            refine bodyPost_ret (results_cell_row rfl _ _ gb437 60 #[.slice Ao129 x440000_1.length co129, .int .i64 x440001_1, .int .i64 0] (0, 0) _ rfl (by (with_reducible repeat (first | refine blk_drewN ?_ _ | refine blk_drew ?_ | refine blk_alloc ?_ _)); refine blk_put (cs := #[.slice Ao129 x440000_1.length co129, .int .i64 x440001_1, .int .i64 x438002_1]) ?_ 2 _ rfl; (with_reducible repeat (first | refine blk_drewN ?_ _ | refine blk_drew ?_ | refine blk_alloc ?_ _)); refine blk_put (cs := #[.slice Ao129 x440000_1.length co129, .int .i64 x438001_1, .int .i64 x438002_1]) ?_ 1 _ rfl; (with_reducible repeat (first | refine blk_drewN ?_ _ | refine blk_drew ?_ | refine blk_alloc ?_ _)); refine blk_put (cs := #[.slice none 0 0, .int .i64 x438001_1, .int .i64 x438002_1]) ?_ 0 _ rfl; (with_reducible repeat (first | refine blk_drewN ?_ _ | refine blk_drew ?_ | refine blk_alloc ?_ _)); exact BK437.out) Tryd.underlying60 rfl (by kernel_rfl)) rfl ?_
            exact ⟨_, by first | rfl | (simp [errW_none, errW_some] <;> rfl) | (simp [*, errW_none, errW_some] <;> rfl), by (with_reducible repeat (first | apply Kd.R_alloc | apply Kd.R_drewN | apply Kd.R_drew)); exact Kd.R_mono (Kd.R_far (p := ⟨gb437, 2, none⟩) (Kd.R_far (p := ⟨gb437, 1, none⟩) (Kd.R_far (p := ⟨gb437, 0, none⟩) (Kd.R_types HO_440000.out BK437.out (by decide)) (fun _ hk => hk.2) (.slice Ao129 x440000_1.length co129)) (fun _ hk => hk.2) (.int .i64 x440001_1)) (fun _ hk => hk.2) (.int .i64 0)) (fun _ hk => trivial), by repeat (first | (with_reducible first | exact HB.out | apply below_alloc | apply pw_below_drewN | apply below_drew1 | refine below_set ?_ GE437.out | refine below_set ?_ GE439.out) | exact HB.out)⟩
  · rw [if_neg c4] at H
    have c4b0 : (t438 == 0) = false := beq_eq_false_iff_ne.mpr c4
    have c4b1 : (t438 != 0) = true := bne_iff_ne.mpr c4
    simp only [Option.some.injEq, Prod.mk.injEq] at H
    obtain ⟨rfl, rfl, rfl⟩ := H
    go_enter Tryd.func52, Tryd.ntmps52
    go_wp2_with (first | ((with_reducible refine gate_dst (N := 4) rfl ?_); refine box_event ?hg (N := 4) ?hd (cs := #[.slice none 0 0, .int .i64 0, .int .i64 0]) (t := 60) ?hr ?_; (case hd => rfl); (case hg => rfl); (case hr => first | (go_simp; done) | (go_simp; rfl)); intro gb437 hg w131 hbox hb; have n0_ := Aside0.mk (below_step (by repeat (first | (with_reducible first | exact HB.out | apply below_alloc | apply pw_below_drewN | apply below_drew1) | exact HB.out)) hb); have n1_ := Aside0.mk (hbox); have n2_ := Aside0.mk ((by rw [hg]; exact (below_size (by repeat (first | (with_reducible first | exact HB.out | apply below_alloc | apply pw_below_drewN | apply below_drew1) | exact HB.out))) : w.heap.size ≤ gb437)); have n3_ := Aside0.mk ((by rw [hg]; exact (below_size (by repeat (first | (with_reducible first | exact HB.out | apply below_alloc | apply pw_below_drewN | apply below_drew1) | exact HB.out))) : w.heap.size ≤ gb437)); clear HB; have HB := n0_; have BK437 := n1_; have GW437 := n2_; have GE437 := n3_; clear n0_ n1_ n2_ n3_; clear hb hbox hg) | ((with_reducible refine gate_callee (f := 20) rfl ?_); refine goesL_ (some 13) rfl rfl Tryd.func20 (by kernel_rfl) rfl #[.string a0] rfl (by (try simp only [List.map_toArray, List.map_cons, List.map_nil]); first | done | rfl | (simp only [List.length_drop, List.length_take]; rfl)) ?_; (with_reducible refine (examinerref08_BitsErr.calls k a0 t438 _ A3.out).mono ?_); rintro e w' ⟨rfl, ⟨nd, rfl⟩⟩; refine ⟨_, rfl, ?_⟩; (try (rw [drewN_self w131]; generalize hq_ : World.drewN w131 _ = w131; have n0_ : Aside0 (w131.heap[gb437]? = some (.cells #[.slice none 0 0, .int .i64 0, .int .i64 0] 60 (0, 0))) := ⟨by rw [← hq_]; exact (by (with_reducible repeat (first | refine blk_drewN ?_ _ | refine blk_drew ?_ | refine blk_alloc ?_ _)); exact BK437.out)⟩; have n1_ : Aside0 (Below w.heap.size w w131) := ⟨by rw [← hq_]; exact (by repeat (first | (with_reducible first | exact HB.out | apply below_alloc | apply pw_below_drewN | apply below_drew1 | refine below_set ?_ GE437.out) | exact HB.out))⟩; clear BK437 HB hq_; have BK437 := n0_; have HB := n1_; clear n0_ n1_)); have hcz132_0 : w131.cell? ⟨gb437, 0, none⟩ = some (.slice none 0 0) := (blk_cell BK437.out 0).trans rfl; have hcz132_1 : w131.cell? ⟨gb437, 1, none⟩ = some (.int .i64 0) := (blk_cell BK437.out 1).trans rfl; have hcz132_2 : w131.cell? ⟨gb437, 2, none⟩ = some (.int .i64 0) := (blk_cell BK437.out 2).trans rfl; have hfz132_0 := blk_frozen BK437.out 0; have hfz132_1 := blk_frozen BK437.out 1; have hfz132_2 := blk_frozen BK437.out 2))
    refine bodyPost_ret (results_cell_row rfl _ _ gb437 60 #[.slice none 0 0, .int .i64 0, .int .i64 t438] (0, 0) _ rfl (by (with_reducible repeat (first | refine blk_drewN ?_ _ | refine blk_drew ?_ | refine blk_alloc ?_ _)); refine blk_put (cs := #[.slice none 0 0, .int .i64 0, .int .i64 0]) ?_ 2 _ rfl; (with_reducible repeat (first | refine blk_drewN ?_ _ | refine blk_drew ?_ | refine blk_alloc ?_ _)); refine blk_put (cs := #[.slice none 0 0, .int .i64 0, .int .i64 0]) ?_ 1 _ rfl; (with_reducible repeat (first | refine blk_drewN ?_ _ | refine blk_drew ?_ | refine blk_alloc ?_ _)); refine blk_put (cs := #[.slice none 0 0, .int .i64 0, .int .i64 0]) ?_ 0 _ rfl; (with_reducible repeat (first | refine blk_drewN ?_ _ | refine blk_drew ?_ | refine blk_alloc ?_ _)); exact BK437.out) Tryd.underlying60 rfl (by kernel_rfl)) rfl ?_
    exact ⟨_, by first | rfl | (simp [errW_none, errW_some] <;> rfl) | (simp [*, errW_none, errW_some] <;> rfl), by first | exact Kd.R_nil _ _ _ _ _ | exact Kd.N_nil _ _ _ _ _ | exact Kd.V_nil _ _ _ _ _ | exact Kd.Q_nil _ _ _ _ _ | exact Kd.S_nil _ _ _ _ _, by repeat (first | (with_reducible first | exact HB.out | apply below_alloc | apply pw_below_drewN | apply below_drew1 | refine below_set ?_ GE437.out) | exact HB.out)⟩

end Go.Proofs.YthicmbhldjebfaaDoor.PA
